/- A voter that was asked: all ways. -/
import Derived.Test.YtcleaamjfjnkkaaCo13a
import Derived.Test.YtcleaamjfjnkkaaCo13b
import Derived.Test.YtcleaamjfjnkkaaCo14a
import Derived.Test.YtcleaamjfjnkkaaCo14b
namespace Go.Proofs.Ytcleaamjfjnkkaa
open Go.RowKit Go.Joins

theorem ask_any {w : World} {base p : Nat} {lv ov tv : Value} {os : List RM} {c : Co} (m : Mg) (ea : Option Addr) (en ec : Nat) (r : Nat → Value) (f draw : Int) (h : CAt w base p lv ov tv os c) (ok : Ok c) (hdr : I64 draw) (ht0 : 0 ≤ m.term) (ht1 : m.term ≤ 18446744073709551615) (hl : c.out.length ≤ 80) (hd : c.dest.length ≤ 80) :
    Calls Try.prog 45 #[.pointer (some ⟨p, 0, none⟩), .int .i64 f, .agg #[.int .i64 m.kind, .int .u64 m.term, .int .i64 m.prev, .int .u64 m.pterm, .slice ea en ec, .int .i64 m.commit, .bool m.yes, .int .i64 m.mat, .int .i64 m.stamp, r 0, r 1, r 2, r 3, r 4, r 5, r 6, r 7, r 8, r 9, r 10, r 11, r 12, r 13, r 14, r 15, r 16], .int .i64 draw] w (Tup0 (CUpd base p lv ov tv (c.ask f m draw) w)) := by
  cases hw : waitsS c.heard c.now with
  | true => exact ask_waits m ea en ec r f draw h ok hdr ht0 ht1 hl hd hw
  | false =>
    cases hh : decide (c.now < c.until_) with
    | true =>
      by_cases hr : c.role = 2
      · exact ask_holds m ea en ec r f draw h ok hdr ht0 ht1 hl hd hw hh hr
      · by_cases he : m.term = (c.follow m.term).term
        · by_cases h1 : (c.follow m.term).voted = -1
          · cases hn : newerB m.pterm m.prev (c.follow m.term).log with
            | true => exact ask_role_111 m ea en ec r f draw h ok hdr ht0 ht1 hl hd hw hh hr he h1 hn
            | false => exact ask_role_110 m ea en ec r f draw h ok hdr ht0 ht1 hl hd hw hh hr he h1 hn
          · by_cases h2 : (c.follow m.term).voted = f
            · cases hn : newerB m.pterm m.prev (c.follow m.term).log with
              | true => exact ask_role_211 m ea en ec r f draw h ok hdr ht0 ht1 hl hd hw hh hr he h1 h2 hn
              | false => exact ask_role_210 m ea en ec r f draw h ok hdr ht0 ht1 hl hd hw hh hr he h1 h2 hn
            · exact ask_role_31None m ea en ec r f draw h ok hdr ht0 ht1 hl hd hw hh hr he h1 h2
        · by_cases h1 : (c.follow m.term).voted = -1
          · exact ask_role_10None m ea en ec r f draw h ok hdr ht0 ht1 hl hd hw hh hr he h1
          · by_cases h2 : (c.follow m.term).voted = f
            · exact ask_role_20None m ea en ec r f draw h ok hdr ht0 ht1 hl hd hw hh hr he h1 h2
            · exact ask_role_30None m ea en ec r f draw h ok hdr ht0 ht1 hl hd hw hh hr he h1 h2
    | false =>
      by_cases he : m.term = (c.follow m.term).term
      · by_cases h1 : (c.follow m.term).voted = -1
        · cases hn : newerB m.pterm m.prev (c.follow m.term).log with
          | true => exact ask_free_111 m ea en ec r f draw h ok hdr ht0 ht1 hl hd hw hh he h1 hn
          | false => exact ask_free_110 m ea en ec r f draw h ok hdr ht0 ht1 hl hd hw hh he h1 hn
        · by_cases h2 : (c.follow m.term).voted = f
          · cases hn : newerB m.pterm m.prev (c.follow m.term).log with
            | true => exact ask_free_211 m ea en ec r f draw h ok hdr ht0 ht1 hl hd hw hh he h1 h2 hn
            | false => exact ask_free_210 m ea en ec r f draw h ok hdr ht0 ht1 hl hd hw hh he h1 h2 hn
          · exact ask_free_31None m ea en ec r f draw h ok hdr ht0 ht1 hl hd hw hh he h1 h2
      · by_cases h1 : (c.follow m.term).voted = -1
        · exact ask_free_10None m ea en ec r f draw h ok hdr ht0 ht1 hl hd hw hh he h1
        · by_cases h2 : (c.follow m.term).voted = f
          · exact ask_free_20None m ea en ec r f draw h ok hdr ht0 ht1 hl hd hw hh he h1 h2
          · exact ask_free_30None m ea en ec r f draw h ok hdr ht0 ht1 hl hd hw hh he h1 h2
end Go.Proofs.Ytcleaamjfjnkkaa
