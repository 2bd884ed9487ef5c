/- What another voter answered: all ways. -/
import Derived.Test.YtcleaamjfjnkkaaCo21a
import Derived.Test.YtcleaamjfjnkkaaCo21b
import Derived.Test.YtcleaamjfjnkkaaCo21c
namespace Go.Proofs.Ytcleaamjfjnkkaa
open Go.RowKit Go.Joins

theorem answered_any {w : World} {base p : Nat} {lv ov tv : Value} {os : List RM} {c : Co} (m : Mg) (ea : Option Addr) (en ec : Nat) (r : Nat → Value) (v : Nat) (hv : v < 3) (h : CAt w base p lv ov tv os c) (ok : Ok c) (ht0 : 0 ≤ m.term) (ht1 : m.term ≤ 18446744073709551615) (hst : I64 m.stamp) (hma : I64 m.mat) (hl : c.out.length ≤ 80) (hd : c.dest.length ≤ 80) :
    Calls Try.prog 48 #[.pointer (some ⟨p, 0, none⟩), .int .i64 (v : Int), .agg #[.int .i64 m.kind, .int .u64 m.term, .int .i64 m.prev, .int .u64 m.pterm, .slice ea en ec, .int .i64 m.commit, .bool m.yes, .int .i64 m.mat, .int .i64 m.stamp, r 0, r 1, r 2, r 3, r 4, r 5, r 6, r 7, r 8, r 9, r 10, r 11, r 12, r 13, r 14, r 15, r 16]] w (Tup0 (CUpd base p lv ov tv (c.answered v m) w)) := by
  by_cases hr : (c.follow m.term).role = 2
  · by_cases ht : m.term = (c.follow m.term).term
    · obtain rfl | rfl | rfl : v = 0 ∨ v = 1 ∨ v = 2 := by omega
      · exact ans0 m ea en ec r h ok ht0 ht1 hst hma hl hd hr ht
      · exact ans1 m ea en ec r h ok ht0 ht1 hst hma hl hd hr ht
      · exact ans2 m ea en ec r h ok ht0 ht1 hst hma hl hd hr ht
    · rw [show c.answered v m = c.follow m.term by unfold Co.answered; simp only; rw [if_pos (Or.inr ht)]]
      exact ans_b m ea en ec r _ h ok ht0 ht1 hst hma hl hd hr ht
  · rw [show c.answered v m = c.follow m.term by unfold Co.answered; simp only; rw [if_pos (Or.inl hr)]]
    exact ans_a m ea en ec r _ h ok ht0 ht1 hst hma hl hd hr
end Go.Proofs.Ytcleaamjfjnkkaa
