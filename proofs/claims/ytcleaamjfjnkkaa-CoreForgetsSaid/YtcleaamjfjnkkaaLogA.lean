/- LogA: small texts laid together. -/
import Derived.Test.YtcleaamjfjnkkaaLibA
import Derived.Test.YtcleaamjfjnkkaaProg
import Derived.Laws.StructEq
import Derived.Laws.AppendOwnNone
import Derived.Lib.AppendZerosOnto
import Derived.Lib.SliceRun
import Derived.RangeFuncBox
/- Entries, and lists of them in memory. -/
namespace Go.Proofs.Ytcleaamjfjnkkaa
open Go.RowKit Go.Joins

/-- an entry: its term, its kind, its guid's two numbers. -/
abbrev Ent := Int × Int × Int × Int
abbrev Gid := Int × Int
/-- an entry lies at a place. -/
def EC (w : World) (b o : Nat) (x : Ent) : Prop :=
  w.cell? ⟨b, o, none⟩ = some (.int .u64 x.1) ∧ w.cell? ⟨b, o + 1, none⟩ = some (.int .i64 x.2.1) ∧ w.cell? ⟨b, o + 1 + 1, none⟩ = some (.int .u64 x.2.2.1) ∧ w.cell? ⟨b, o + 1 + 1 + 1, none⟩ = some (.int .u64 x.2.2.2)
def Ents (w : World) (a : Option Addr) (es : List Ent) : Prop :=
  ∀ i, i < es.length → ∃ b off, a = some ⟨b, off, none⟩ ∧ EC w b (off + i * 4) (es.getD i default)
def GC (w : World) (b o : Nat) (x : Gid) : Prop :=
  w.cell? ⟨b, o, none⟩ = some (.int .u64 x.1) ∧ w.cell? ⟨b, o + 1, none⟩ = some (.int .u64 x.2)
def Gids (w : World) (a : Option Addr) (gs : List Gid) : Prop :=
  ∀ i, i < gs.length → ∃ b off, a = some ⟨b, off, none⟩ ∧ GC w b (off + i * 2) (gs.getD i default)

theorem ec_below {w w' : World} {b o : Nat} {x : Ent} (h : EC w b o x) (hb : Below w.heap.size w w') : EC w' b o x := by
  obtain ⟨h1, h2, h3, h4⟩ := h
  have hl := World.block_lt_of_cell? _ _ h1
  exact ⟨(hb.cell (p := ⟨b, o, none⟩) hl).trans h1, (hb.cell (p := ⟨b, o + 1, none⟩) hl).trans h2, (hb.cell (p := ⟨b, o + 1 + 1, none⟩) hl).trans h3, (hb.cell (p := ⟨b, o + 1 + 1 + 1, none⟩) hl).trans h4⟩
theorem gc_below {w w' : World} {b o : Nat} {x : Gid} (h : GC w b o x) (hb : Below w.heap.size w w') : GC w' b o x := by
  obtain ⟨h1, h2⟩ := h
  have hl := World.block_lt_of_cell? _ _ h1
  exact ⟨(hb.cell (p := ⟨b, o, none⟩) hl).trans h1, (hb.cell (p := ⟨b, o + 1, none⟩) hl).trans h2⟩
theorem ents_below {w w' : World} {a : Option Addr} {es : List Ent} (h : Ents w a es) (hb : Below w.heap.size w w') : Ents w' a es := by
  intro i hi
  obtain ⟨b, off, e, hc⟩ := h i hi
  exact ⟨b, off, e, ec_below hc hb⟩
theorem gids_below {w w' : World} {a : Option Addr} {gs : List Gid} (h : Gids w a gs) (hb : Below w.heap.size w w') : Gids w' a gs := by
  intro i hi
  obtain ⟨b, off, e, hc⟩ := h i hi
  exact ⟨b, off, e, gc_below hc hb⟩
theorem below_drewN' (w : World) (q : Nat) : Below w.heap.size w (w.drewN q) := ⟨rfl, rfl, rfl, Nat.le_refl _, fun _ _ => rfl⟩

/-! ### Two entries compared -/
def eqE (x y : Ent) : Bool := decide (x = y)
def eqG (x y : Gid) : Bool := decide (x = y)
theorem eqE_form (x1 x2 x3 x4 y1 y2 y3 y4 : Int) : eqE (x1, x2, x3, x4) (y1, y2, y3, y4) = ((x1 == y1) && (x2 == y2) && ((x3 == y3) && (x4 == y4))) := by
  unfold eqE
  rw [Bool.eq_iff_iff]; simp [and_assoc]
theorem eqG_form (x3 x4 y3 y4 : Int) : eqG (x3, x4) (y3, y4) = ((x3 == y3) && (x4 == y4)) := by
  unfold eqG
  rw [Bool.eq_iff_iff]; simp
theorem und33 : Try.prog.underlying 30 = some (.struct (Try.prog.fieldsOf 30)) := by kernel_rfl
theorem und31 : Try.prog.underlying 28 = some (.struct (Try.prog.fieldsOf 28)) := by kernel_rfl
theorem held33 : Try.prog.stoodInHeld 30 = false := by kernel_rfl
theorem held31 : Try.prog.stoodInHeld 28 = false := by kernel_rfl
theorem grd33 : Try.prog.eqGuardType Try.prog.depth 30 = false := by kernel_rfl
theorem grd31 : Try.prog.eqGuardType Try.prog.depth 28 = false := by kernel_rfl
theorem eq31 (d : Nat) (w : World) (x3 x4 y3 y4 : Int) : (Op.equalIn (d + 1 + 1) 28 (.agg #[.int .u64 x3, .int .u64 x4]) (.agg #[.int .u64 y3, .int .u64 y4])).run Try.prog w = .ok (eqG (x3, x4) (y3, y4)) w := by
  rw [run_equalIn_struct w (d + 1) 28 _ _ und31 held31, eqG_form]
  unfold Program.fieldsOf
  rw [Try.underlying28]
  simp [Op.eqFields, part, go_sem]
  by_cases h1 : x3 = y3 <;> by_cases h2 : x4 = y4 <;> simp [h1, h2]
theorem eq33 (d : Nat) (w : World) (x1 x2 x3 x4 y1 y2 y3 y4 : Int) : (Op.equalIn (d + 1 + 1 + 1) 30 (.agg #[.int .u64 x1, .int .i64 x2, .int .u64 x3, .int .u64 x4]) (.agg #[.int .u64 y1, .int .i64 y2, .int .u64 y3, .int .u64 y4])).run Try.prog w = .ok (eqE (x1, x2, x3, x4) (y1, y2, y3, y4)) w := by
  rw [run_equalIn_struct w (d + 1 + 1) 30 _ _ und33 held33, eqE_form, ← eqG_form x3 x4 y3 y4]
  unfold Program.fieldsOf
  rw [Try.underlying30]
  simp [Op.eqFields, part, go_sem, eq31]
  by_cases h1 : x1 = y1 <;> by_cases h2 : x2 = y2 <;> cases eqG (x3, x4) (y3, y4) <;> simp [h1, h2]
theorem neq33 (w : World) (x1 x2 x3 x4 y1 y2 y3 y4 : Int) : (binOp .neq 30 (.agg #[.int .u64 x1, .int .i64 x2, .int .u64 x3, .int .u64 x4]) (.agg #[.int .u64 y1, .int .i64 y2, .int .u64 y3, .int .u64 y4])).run Try.prog w = .ok (.bool (!eqE (x1, x2, x3, x4) (y1, y2, y3, y4))) w := by
  rw [run_neq_struct, eq33 9997]; rfl
theorem neq31 (w : World) (x3 x4 y3 y4 : Int) : (binOp .neq 28 (.agg #[.int .u64 x3, .int .u64 x4]) (.agg #[.int .u64 y3, .int .u64 y4])).run Try.prog w = .ok (.bool (!eqG (x3, x4) (y3, y4))) w := by
  rw [run_neq_struct, eq31 9998]; rfl
theorem eql31 (w : World) (x3 x4 y3 y4 : Int) : (binOp .eql 28 (.agg #[.int .u64 x3, .int .u64 x4]) (.agg #[.int .u64 y3, .int .u64 y4])).run Try.prog w = .ok (.bool (eqG (x3, x4) (y3, y4))) w := by
  rw [run_eql_struct, eq31 9998]; rfl

set_option maxRecDepth 100000 in
theorem same_any (xs ys : List Ent) (ax ay : Option Addr) (cx cy : Nat) (w : World) (hx : Ents w ax xs) (hy : Ents w ay ys) (hlx : xs.length ≤ maxLen) :
    Calls Try.prog 52 #[.slice ax xs.length cx, .slice ay ys.length cy] w (QuietB (decide (xs = ys)) w) := by
  unfold maxLen at hlx
  by_cases hl : xs.length = ys.length
  · have hb : ((xs.length : Int) == (ys.length : Int)) = true := by simp [hl]
    have hb2 : ((xs.length : Int) != (ys.length : Int)) = false := by simp [hl]
    rw [← hl]
    rw [← hl] at hb hb2
    have HL := Lib.hid hl
    clear hl
    go_enter Try.func52, Try.ntmps52
    go_wp2
    go_loopg [5, 13] xs.length (fun k v5 v13 wr => ∃ i : Nat, i + k = xs.length ∧ v13 = .int .i64 (i : Int) ∧ xs.take i = ys.take i ∧ ∃ q, wr = w.drewN q)
    case atStart => exact ⟨0, by omega, rfl, rfl, 0, rfl⟩
    case round =>
      obtain ⟨i, hik, rfl, heq, q, hq⟩ := hrel
      have HQ := Lib.hid hq
      clear hq
      have HE := Lib.hid heq
      clear heq
      by_cases hlt : i < xs.length
      · obtain ⟨b, off, rfl, hc⟩ := hx i hlt
        obtain ⟨b', off', rfl, hc'⟩ := hy i (by have := HL.out; omega)
        have g : EC wr b (off + i * 4) (xs.getD i default) := by rw [HQ.out]; exact hc
        have g' : EC wr b' (off' + i * 4) (ys.getD i default) := by rw [HQ.out]; exact hc'
        have hs : Hid (xs.getD i default = ys.getD i default → xs.take (i + 1) = ys.take (i + 1)) := fun hz => by
          have h2 : i < ys.length := by have := HL.out; omega
          rw [take_snoc xs i default hlt, take_snoc ys i default h2, HE.out, hz]
        have hn : Hid (xs.getD i default ≠ ys.getD i default → false = decide (xs = ys)) := fun hz => by
          have : xs ≠ ys := fun e => hz (by rw [e])
          simp [this]
        clear hc hc'
        generalize xs.getD i default = x at *
        generalize ys.getD i default = y at *
        obtain ⟨x1, x2, x3, x4⟩ := x
        obtain ⟨y1, y2, y3, y4⟩ := y
        obtain ⟨g1, g2, g3, g4⟩ := g
        obtain ⟨g1', g2', g3', g4'⟩ := g'
        simp only at g1 g2 g3 g4 g1' g2' g3' g4'
        have hq := fun w => neq33 w x1 x2 x3 x4 y1 y2 y3 y4
        have hgd := grd33
        by_cases hz : ((x1, x2, x3, x4) : Ent) = (y1, y2, y3, y4)
        · have he : eqE (x1, x2, x3, x4) (y1, y2, y3, y4) = true := by unfold eqE; simpa using hz
          have HS := Lib.hid (hs.out hz)
          clear hz hn hs
          go_wp2
          go_quiet (fail)
          go_wp2
          go_roundg (gk - 1)
          case measure => omega
          case rel => exact ⟨i + 1, by omega, by simp, HS.out, q + nq, by rw [HQ.out]; simp [World.drewN, Nat.add_assoc]⟩
        · have he : eqE (x1, x2, x3, x4) (y1, y2, y3, y4) = false := by unfold eqE; simpa using hz
          have HS := Lib.hid (hn.out hz)
          clear hz hn hs
          go_wp2
          go_quiet (fail)
          go_wp2
          go_ret
          exact quietB HS.out ⟨q + nq, by rw [HQ.out]; simp [World.drewN, Nat.add_assoc]⟩
      · have hs : Hid (true = decide (xs = ys)) := by
          have e := HE.out
          rw [List.take_of_length_le (by omega), List.take_of_length_le (by have := HL.out; omega)] at e
          simp [Hid, e]
        go_wp2
        go_ret
        exact quietB hs.out ⟨q, HQ.out⟩
  · have hs : Hid (false = decide (xs = ys)) := by
      have : xs ≠ ys := fun e => hl (by rw [e])
      simp [Hid, this]
    have hb : ((xs.length : Int) == (ys.length : Int)) = false := by simp; omega
    have hb2 : ((xs.length : Int) != (ys.length : Int)) = true := by simp; omega
    go_enter Try.func52, Try.ntmps52
    go_wp2
    go_ret
    exact quietB hs.out ⟨0, rfl⟩
end Go.Proofs.Ytcleaamjfjnkkaa
/- The small functions: last terms, what fits, what is newer, which guid is above. -/
namespace Go.Proofs.Ytcleaamjfjnkkaa
open Go.RowKit Go.Joins

/-! ### Plain -/
def lastT (es : List Ent) : Int := if es.length = 0 then 0 else (es.getD (es.length - 1) default).1
def aboveB (x y : Gid) : Bool := decide (y.1 < x.1) || (decide (x.1 = y.1) && decide (y.2 < x.2))
def fitsB (es : List Ent) (prev term : Int) : Bool := decide (0 ≤ prev) && decide (prev ≤ es.length) && decide (lastT (es.take prev.toNat) = term) && (decide (0 < prev) || decide (term = 0))
def newerB (term n : Int) (es : List Ent) : Bool := decide (lastT es < term) || (decide (term = lastT es) && decide ((es.length : Int) ≤ n))
theorem ents_take {w : World} {a : Option Addr} {es : List Ent} (h : Ents w a es) (n : Nat) : Ents w a (es.take n) := by
  intro i hi
  simp only [List.length_take] at hi
  obtain ⟨b, off, e, hc⟩ := h i (by omega)
  refine ⟨b, off, e, ?_⟩
  rw [show (es.take n).getD i default = es.getD i default by simp [List.getD, show i < n by omega]]
  exact hc
def SameU (n : Int) (w : World) (e : Ending) (w' : World) : Prop := e = .returned (.int .u64 n) ∧ w = w'
theorem sameU {a b : Int} {w : World} (h : a = b) : SameU b w (.returned (.int .u64 a)) w := ⟨by rw [h], rfl⟩

set_option maxRecDepth 100000 in
theorem last_any (a : Option Addr) (cap : Nat) (es : List Ent) (w : World) (hE : Ents w a es) (hlen : es.length ≤ maxLen) :
    Calls Try.prog 73 #[.slice a es.length cap] w (SameU (lastT es) w) := by
  unfold maxLen at hlen
  by_cases h0 : es.length = 0
  · have hL : Hid (0 = lastT es) := by rw [Hid, lastT, if_pos h0]
    rw [h0]
    clear h0 hE
    go_enter Try.func73, Try.ntmps73
    go_wp2
    go_ret
    exact sameU hL.out
  · have hL : Hid ((es.getD (es.length - 1) default).1 = lastT es) := by rw [Hid, lastT, if_neg h0]
    obtain ⟨b, off, rfl, h1, -⟩ := hE (es.length - 1) (by omega)
    generalize (es.getD (es.length - 1) default).1 = t at h1 hL
    have hb : ((es.length : Int) == 0) = false := by simp; intro h; simp [h] at h0
    have hp : 0 < es.length := by omega
    clear h0 hE
    go_enter Try.func73, Try.ntmps73
    go_wp2
    go_ret
    exact sameU hL.out
theorem last_len (a : Option Addr) (cap n : Nat) (es : List Ent) (hn : es.length = n) (w : World) (hE : Ents w a es) (hlen : es.length ≤ maxLen) : Calls Try.prog 73 #[.slice a n cap] w (SameU (lastT es) w) := by subst hn; exact last_any a cap es w hE hlen

set_option maxRecDepth 100000 in
theorem fits_any (a : Option Addr) (cap : Nat) (es : List Ent) (prev term : Int) (w : World) (hE : Ents w a es) (hlen : es.length ≤ cap) (hcap : cap ≤ maxLen) :
    Calls Try.prog 65 #[.slice a es.length cap, .int .i64 prev, .int .u64 term] w (SameB (fitsB es prev term) w) := by
  have hl0 : es.length ≤ maxLen := by omega
  unfold maxLen at hcap
  by_cases h1 : 0 ≤ prev ∧ prev ≤ es.length
  · obtain ⟨p, rfl⟩ := Int.eq_ofNat_of_zero_le h1.1
    have hp : p ≤ es.length := by omega
    have hlast := Lib.hid (last_len a cap p (es.take p) (by simp; omega) w (ents_take hE p) (by simp; unfold maxLen at hl0 ⊢; omega))
    have hF : Hid (fitsB es (p : Int) term = (decide (lastT (es.take p) = term) && (decide (0 < p) || decide (term = 0)))) := by
      rw [Hid, fitsB, Int.toNat_natCast]
      simp [hp]
    generalize lastT (es.take p) = t at hlast hF
    have hb0 : ((p : Int) ≤ (es.length : Int)) := by omega
    clear h1 hE hl0
    by_cases ht : t = term
    · subst ht
      by_cases hp0 : 0 < p
      · have hpi : 0 < (p : Int) := by omega
        go_enter Try.func65, Try.ntmps65
        go_wp2_with (go_at_call 73; refine hlast.out.mono ?_; rintro e w1 ⟨rfl, rfl⟩)
        go_ret
        exact sameB (by rw [hF.out]; simp [hp0])
      · obtain rfl : p = 0 := by omega
        go_enter Try.func65, Try.ntmps65
        go_wp2_with (go_at_call 73; refine hlast.out.mono ?_; rintro e w1 ⟨rfl, rfl⟩)
        go_ret
        exact sameB (by rw [hF.out]; simp; try rfl)
    · have hq : (t == term) = false := by simpa using ht
      have HT := Lib.hid ht
      clear ht
      go_enter Try.func65, Try.ntmps65
      go_wp2_with (go_at_call 73; refine hlast.out.mono ?_; rintro e w1 ⟨rfl, rfl⟩)
      go_ret
      exact sameB (by rw [hF.out]; simp [HT.out])
  · have hF : Hid (false = fitsB es prev term) := by
      rw [Hid, fitsB]
      by_cases h2 : 0 ≤ prev
      · have h3 : ¬ prev ≤ es.length := by omega
        simp [h2, h3]
      · simp [h2]
    by_cases h2 : 0 ≤ prev
    · have h3 : (es.length : Int) < prev := by omega
      clear h1
      go_enter Try.func65, Try.ntmps65
      go_wp2
      go_ret
      exact sameB hF.out
    · have h3 : prev < 0 := by omega
      clear h1 h2
      go_enter Try.func65, Try.ntmps65
      go_wp2
      go_ret
      exact sameB hF.out
end Go.Proofs.Ytcleaamjfjnkkaa
/- The small functions, further: the references', guids, entries that may be. -/
namespace Go.Proofs.Ytcleaamjfjnkkaa
open Go.RowKit Go.Joins

theorem lastT_take {es : List Ent} {p : Nat} (h0 : 0 < p) (hp : p ≤ es.length) : lastT (es.take p) = (es.getD (p - 1) default).1 := by
  rw [lastT, if_neg (by rw [List.length_take]; omega)]
  congr 1
  simp only [List.length_take, Nat.min_eq_left hp, List.getD_eq_getElem?_getD]
  rw [List.getElem?_take_of_lt (by omega)]
theorem lastT_nil : lastT [] = 0 := rfl

set_option maxRecDepth 100000 in
theorem newer_any (a : Option Addr) (cap : Nat) (es : List Ent) (n term : Int) (w : World) (hE : Ents w a es) (hlen : es.length ≤ maxLen) :
    Calls Try.prog 62 #[.int .u64 term, .int .i64 n, .slice a es.length cap] w (SameB (newerB term n es) w) := by
  have hlast := Lib.hid (last_any a cap es w hE hlen)
  have hF : Hid (newerB term n es = (decide (lastT es < term) || (decide (term = lastT es) && decide ((es.length : Int) ≤ n)))) := rfl
  generalize lastT es = t at hlast hF
  unfold maxLen at hlen
  clear hE
  by_cases ht : term = t
  · subst ht
    go_enter Try.func62, Try.ntmps62
    go_wp2_with (go_at_call 73; refine hlast.out.mono ?_; rintro e w1 ⟨rfl, rfl⟩)
    go_ret
    exact sameB (by rw [hF.out]; simp)
  · have hb : (term == t) = false := by simpa using ht
    have hb2 : (term != t) = true := by simpa using ht
    have HT := Lib.hid ht
    clear ht
    go_enter Try.func62, Try.ntmps62
    go_wp2_with (go_at_call 73; refine hlast.out.mono ?_; rintro e w1 ⟨rfl, rfl⟩)
    go_ret
    exact sameB (by rw [hF.out]; simp [HT.out])
set_option maxRecDepth 100000 in
theorem above_any (x1 x2 y1 y2 : Int) (w : World) : Calls Try.prog 71 #[.agg #[.int .u64 x1, .int .u64 x2], .agg #[.int .u64 y1, .int .u64 y2]] w (RetB (aboveB (x1, x2) (y1, y2)) w) := by
  have hF : Hid (aboveB (x1, x2) (y1, y2) = (decide (y1 < x1) || (decide (x1 = y1) && decide (y2 < x2)))) := rfl
  have hb : ∀ (o1 o2 : Obj), Below w.heap.size w ((w.alloc o1).alloc o2) := fun o1 o2 => ((Below.refl _ w).alloc (Nat.le_refl _) o1).alloc (by simp) o2
  have HB := Lib.hid hb
  clear hb
  by_cases h1 : y1 < x1
  · go_enter Try.func71, Try.ntmps71
    go_wp2
    go_ret
    exact retB (by rw [hF.out]; simp [h1]) (HB.out _ _)
  · by_cases h2 : x1 = y1
    · subst h2
      clear h1
      go_enter Try.func71, Try.ntmps71
      go_wp2
      go_ret
      exact retB (by rw [hF.out]; simp) (HB.out _ _)
    · have hb : (x1 == y1) = false := by simpa using h2
      have hle : x1 ≤ y1 := by omega
      have HT := Lib.hid h2
      clear h1 h2
      go_enter Try.func71, Try.ntmps71
      go_wp2
      go_ret
      exact retB (by rw [hF.out]; simp [HT.out]) (HB.out _ _)
end Go.Proofs.Ytcleaamjfjnkkaa
/- Whether a log may be. -/
namespace Go.Proofs.Ytcleaamjfjnkkaa
open Go.RowKit Go.Joins

/-- may an entry be? -/
def okE (e : Ent) : Bool := decide (1 ≤ e.1) && ((decide (e.2.1 = 1) || decide (e.2.1 = 2)) && (decide (e.2.2.1 = 0) && decide (e.2.2.2 = 0)) || decide (e.2.1 = 3) && (decide (1 ≤ e.2.2.1) && decide (1 ≤ e.2.2.2)))
/-- an entry's numbers are such as Go's are. -/
def wfE (e : Ent) : Prop := 0 ≤ e.1 ∧ 0 ≤ e.2.2.1 ∧ 0 ≤ e.2.2.2

set_option maxRecDepth 100000 in
set_option maxHeartbeats 1000000 in
theorem wrong_any (x1 x2 x3 x4 : Int) (w : World) (hw : wfE (x1, x2, x3, x4)) : Calls Try.prog 34 #[.agg #[.int .u64 x1, .int .i64 x2, .int .u64 x3, .int .u64 x4]] w (RetB (!okE (x1, x2, x3, x4)) w) := by
  obtain ⟨hw1, hw3, hw4⟩ := hw
  simp only at hw1 hw3 hw4
  have HB : Hid (∀ (o1 : Obj), Below w.heap.size w (w.alloc o1)) := fun o1 => ((Below.refl _ w).alloc (Nat.le_refl _) o1)
  have hO : Hid (okE (x1, x2, x3, x4) = (decide (1 ≤ x1) && ((decide (x2 = 1) || decide (x2 = 2)) && (decide (x3 = 0) && decide (x4 = 0)) || decide (x2 = 3) && (decide (1 ≤ x3) && decide (1 ≤ x4))))) := rfl
  have hq := fun w y3 y4 => neq31 w x3 x4 y3 y4
  have hgd := grd31
  by_cases k1 : x2 = 1
  · subst k1
    by_cases hz : x3 = 0 ∧ x4 = 0
    · obtain ⟨rfl, rfl⟩ := hz
      have hE : eqG (0, 0) (0, 0) = true := rfl
      by_cases ht : x1 < 1
      · go_enter Try.func34, Try.ntmps34
        go_wp2
        all_goals
          go_ret
          exact retB (by rw [hO.out]; first | (simp; done) | (simp; omega) | (rw [Bool.eq_iff_iff]; simp; omega) | (rw [Bool.eq_iff_iff]; simp; done)) (HB.out _)
      · have ht2 : 1 ≤ x1 := by omega
        clear ht
        go_enter Try.func34, Try.ntmps34
        go_wp2
        all_goals
          go_ret
          exact retB (by rw [hO.out]; first | (simp; done) | (simp; omega) | (rw [Bool.eq_iff_iff]; simp; omega) | (rw [Bool.eq_iff_iff]; simp; done)) (HB.out _)
    · have hE : eqG (x3, x4) (0, 0) = false := by unfold eqG; simp; omega
      have HZ := Lib.hid hz
      clear hz
      go_enter Try.func34, Try.ntmps34
      go_wp2
      all_goals
        go_ret
        exact retB (by have := HZ.out; rw [hO.out]; first | (simp; done) | (simp; omega) | (rw [Bool.eq_iff_iff]; simp; omega) | (rw [Bool.eq_iff_iff]; simp; done)) (HB.out _)
  by_cases k2 : x2 = 2
  · subst k2
    by_cases hz : x3 = 0 ∧ x4 = 0
    · obtain ⟨rfl, rfl⟩ := hz
      have hE : eqG (0, 0) (0, 0) = true := rfl
      by_cases ht : x1 < 1
      · go_enter Try.func34, Try.ntmps34
        go_wp2
        all_goals
          go_ret
          exact retB (by rw [hO.out]; first | (simp; done) | (simp; omega) | (rw [Bool.eq_iff_iff]; simp; omega) | (rw [Bool.eq_iff_iff]; simp; done)) (HB.out _)
      · have ht2 : 1 ≤ x1 := by omega
        clear ht
        go_enter Try.func34, Try.ntmps34
        go_wp2
        all_goals
          go_ret
          exact retB (by rw [hO.out]; first | (simp; done) | (simp; omega) | (rw [Bool.eq_iff_iff]; simp; omega) | (rw [Bool.eq_iff_iff]; simp; done)) (HB.out _)
    · have hE : eqG (x3, x4) (0, 0) = false := by unfold eqG; simp; omega
      have HZ := Lib.hid hz
      clear hz
      go_enter Try.func34, Try.ntmps34
      go_wp2
      all_goals
        go_ret
        exact retB (by have := HZ.out; rw [hO.out]; first | (simp; done) | (simp; omega) | (rw [Bool.eq_iff_iff]; simp; omega) | (rw [Bool.eq_iff_iff]; simp; done)) (HB.out _)
  by_cases k3 : x2 = 3
  · subst k3
    clear k1 k2
    by_cases ht : x1 < 1
    · go_enter Try.func34, Try.ntmps34
      go_wp2
      all_goals
        go_ret
        exact retB (by rw [hO.out]; first | (simp; done) | (simp; omega) | (rw [Bool.eq_iff_iff]; simp; omega) | (rw [Bool.eq_iff_iff]; simp; done)) (HB.out _)
    · have ht2 : 1 ≤ x1 := by omega
      clear ht
      by_cases h3 : x3 = 0
      · subst h3
        go_enter Try.func34, Try.ntmps34
        go_wp2
        all_goals
          go_ret
          exact retB (by rw [hO.out]; first | (simp; done) | (simp; omega) | (rw [Bool.eq_iff_iff]; simp; omega) | (rw [Bool.eq_iff_iff]; simp; done)) (HB.out _)
      · have h3p : 0 < x3 := by omega
        clear h3
        by_cases h4 : x4 = 0
        · subst h4
          go_enter Try.func34, Try.ntmps34
          go_wp2
          all_goals
            go_ret
            exact retB (by rw [hO.out]; first | (simp; done) | (simp; omega) | (rw [Bool.eq_iff_iff]; simp; omega) | (rw [Bool.eq_iff_iff]; simp; done)) (HB.out _)
        · have h4p : 0 < x4 := by omega
          clear h4
          go_enter Try.func34, Try.ntmps34
          go_wp2
          all_goals
            go_ret
            exact retB (by rw [hO.out]; first | (simp; done) | (simp; omega) | (rw [Bool.eq_iff_iff]; simp; omega) | (rw [Bool.eq_iff_iff]; simp; done)) (HB.out _)
  · have b1 : (x2 == 1) = false := by simpa using k1
    have b2 : (x2 == 2) = false := by simpa using k2
    have b3 : (x2 == 3) = false := by simpa using k3
    have K := Lib.hid (And.intro k1 (And.intro k2 k3))
    clear k1 k2 k3
    go_enter Try.func34, Try.ntmps34
    go_wp2
    all_goals
      go_ret
      exact retB (by rw [hO.out]; first | (simp [K.out.1, K.out.2.1, K.out.2.2]; done) | (simp [K.out.1, K.out.2.1, K.out.2.2]; omega) | (rw [Bool.eq_iff_iff]; simp [K.out.1, K.out.2.1, K.out.2.2]; omega) | (rw [Bool.eq_iff_iff]; simp [K.out.1, K.out.2.1, K.out.2.2]; done)) (HB.out _)
end Go.Proofs.Ytcleaamjfjnkkaa
/- Whether a log may be: the callers. -/
namespace Go.Proofs.Ytcleaamjfjnkkaa
open Go.RowKit Go.Joins

def sortedB (es : List Ent) : Bool := decide (∀ k, k < es.length - 1 → (es.getD k default).1 ≤ (es.getD (k + 1) default).1)
theorem sorted_no {es : List Ent} {k : Nat} (hk : k + 1 < es.length) (h : (es.getD (k + 1) default).1 < (es.getD k default).1) : sortedB es = false := by
  unfold sortedB
  rw [decide_eq_false_iff_not]
  intro hc
  have := hc k (by omega)
  omega
theorem sorted_yes {es : List Ent} (h : ∀ k, k + 1 < es.length → (es.getD k default).1 ≤ (es.getD (k + 1) default).1) : sortedB es = true := by
  unfold sortedB
  rw [decide_eq_true_eq]
  intro k hk
  exact h k (by omega)

def cmpT (x y : Int) : Int := if x < y then -1 else if y < x then 1 else 0
set_option maxRecDepth 100000 in
theorem cmp_any (x1 x2 x3 x4 y1 y2 y3 y4 : Int) (w : World) : Calls Try.prog 32 #[.agg #[.int .u64 x1, .int .i64 x2, .int .u64 x3, .int .u64 x4], .agg #[.int .u64 y1, .int .i64 y2, .int .u64 y3, .int .u64 y4]] w (RetI (cmpT x1 y1) w) := by
  have HB : Hid (∀ (o1 o2 : Obj), Below w.heap.size w ((w.alloc o1).alloc o2)) := fun o1 o2 => ((Below.refl _ w).alloc (Nat.le_refl _) o1).alloc (by simp) o2
  have hC : Hid (cmpT x1 y1 = if x1 < y1 then -1 else if y1 < x1 then 1 else 0) := rfl
  by_cases h1 : x1 < y1
  · go_enter Try.func32, Try.ntmps32
    go_wp2
    go_ret
    exact retI (by rw [hC.out, if_pos h1]) (HB.out _ _)
  · have hle : y1 ≤ x1 := by omega
    by_cases h2 : y1 < x1
    · clear h1
      go_enter Try.func32, Try.ntmps32
      go_wp2
      go_ret
      exact retI (by rw [hC.out, if_neg (by omega), if_pos h2]) (HB.out _ _)
    · have hle2 : x1 ≤ y1 := by omega
      clear h1 h2
      go_enter Try.func32, Try.ntmps32
      go_wp2
      go_ret
      exact retI (by rw [hC.out, if_neg (by omega), if_neg (by omega)]) (HB.out _ _)

set_option maxRecDepth 100000 in
set_option maxHeartbeats 1000000 in
theorem sorted_any (a : Option Addr) (cap : Nat) (es : List Ent) (w : World) (hE : Ents w a es) (hlen : es.length ≤ maxLen) :
    Calls Try.prog 31 #[.slice a es.length cap, .func (.func 32) #[] #[]] w (RetB (sortedB es) w) := by
  unfold maxLen at hlen
  have HE := Lib.hid hE
  clear hE
  go_enter Try.func31, Try.ntmps31
  go_wp2
  go_loopg [5] (es.length - 1) (fun k v5 wr => ∃ i : Int, v5 = .int .i64 i ∧ -1 ≤ i ∧ i ≤ es.length - 1 ∧ i.toNat ≤ k ∧ (∀ j : Nat, i ≤ (j : Int) → j + 1 < es.length → (es.getD j default).1 ≤ (es.getD (j + 1) default).1) ∧ Below w.heap.size w wr)
  case atStart => exact ⟨(es.length : Int) - 1, rfl, by omega, by omega, by omega, fun j h1 h2 => by omega, Below.refl _ _⟩
  case round =>
    obtain ⟨i, rfl, hi0, hi1, hik, hall, hB⟩ := hrel
    have HALL := Lib.hid hall
    clear hall
    by_cases hpos : 0 < i
    · obtain ⟨m, rfl⟩ : ∃ m : Nat, i = ((m + 1 : Nat) : Int) := ⟨i.toNat - 1, by omega⟩
      have hm : m + 1 < es.length := by omega
      obtain ⟨b, off, rfl, g⟩ := HE.out (m + 1) hm
      obtain ⟨b', off', e', g'⟩ := HE.out m (by omega)
      simp at e'
      obtain ⟨rfl, rfl⟩ := e'
      replace g := ec_below g hB
      replace g' := ec_below g' hB
      have HG : Hid (((es.getD (m + 1) default).1 < (es.getD m default).1 → sortedB es = false)) := fun h => sorted_no hm h
      have HP : Hid ((es.getD m default).1 ≤ (es.getD (m + 1) default).1 → ∀ j : Nat, (m : Int) ≤ (j : Int) → j + 1 < es.length → (es.getD j default).1 ≤ (es.getD (j + 1) default).1) := fun h j h1 h2 => by
        by_cases e : j = m
        · subst e; exact h
        · exact HALL.out j (by omega) h2
      generalize es.getD (m + 1) default = x at *
      generalize es.getD m default = y at *
      obtain ⟨x1, x2, x3, x4⟩ := x
      obtain ⟨y1, y2, y3, y4⟩ := y
      obtain ⟨g1, g2, g3, g4⟩ := g
      obtain ⟨g1', g2', g3', g4'⟩ := g'
      simp only at g1 g2 g3 g4 g1' g2' g3' g4' HG HP
      go_wp2
      have j1 : (m : Int) + 1 < (es.length : Int) := by omega
      have j2 : (0 : Int) ≤ (m : Int) + 1 := by omega
      have j3 : ((m : Int) + 1).toNat = m + 1 := by omega
      have j4 : IntKind.i64.wrap (m : Int) = (m : Int) := IntWalk.i64_in _ (by omega)
      have j5 : (m : Int) < (es.length : Int) := by omega
      go_still_tail 10, (by kernel_rfl)
      clear j3 j4
      change wpList _ _ _ _ _ wr.drew
      by_cases hlt : x1 < y1
      · have HS := Lib.hid (HG.out hlt)
        have hc : decide (cmpT x1 y1 < 0) = true := by unfold cmpT; rw [if_pos hlt]; decide
        clear hlt
        go_wp2_with (go_at_call 32; refine (cmp_any _ _ _ _ _ _ _ _ _).mono ?_; rintro e w3 ⟨rfl, hb3⟩)
        go_ret
        exact retB HS.out.symm (hB.trans (((Below.refl _ wr).drew.trans hb3).mono hB.size))
      · have HS := Lib.hid (HP.out (by omega))
        have hc : decide (cmpT x1 y1 < 0) = false := by unfold cmpT; rw [if_neg hlt]; split <;> decide
        clear hlt
        go_wp2_with (go_at_call 32; refine (cmp_any _ _ _ _ _ _ _ _ _).mono ?_; rintro e w3 ⟨rfl, hb3⟩)
        go_roundg (gk - 1)
        case measure => omega
        case rel => exact ⟨(m : Int), rfl, by omega, by omega, by omega, HS.out, hB.trans (((Below.refl _ wr).drew.trans hb3).mono hB.size)⟩
    · have HS : Hid (sortedB es = true) := sorted_yes (fun k hk => HALL.out k (by omega) hk)
      have hle : i ≤ 0 := by omega
      clear hpos
      go_wp2
      go_ret
      exact retB HS.out.symm hB

/-- where the first one lies that may not be: not below 0, if there is one. -/
def BadPost (es : List Ent) (w : World) (e : Ending) (w' : World) : Prop := ∃ n : Int, e = .returned (.int .i64 n) ∧ decide (0 ≤ n) = (!es.all okE) ∧ Below w.heap.size w w'
theorem all_take {es : List Ent} {i : Nat} (hi : i < es.length) (h : (es.take i).all okE = true) (hx : okE (es.getD i default) = true) : (es.take (i + 1)).all okE = true := by
  rw [take_snoc es i default hi, List.all_append, h]; simp only [List.all_cons, List.all_nil, hx]; rfl
theorem all_not {es : List Ent} {i : Nat} (hi : i < es.length) (hx : okE (es.getD i default) = false) : es.all okE = false := by
  rw [List.all_eq_false]
  exact ⟨es.getD i default, by simp [hi], by rw [hx]; simp⟩
set_option maxRecDepth 100000 in
set_option maxHeartbeats 1000000 in
theorem index_any (a : Option Addr) (cap : Nat) (es : List Ent) (w : World) (hE : Ents w a es) (hlen : es.length ≤ maxLen) (hwf : ∀ i, i < es.length → wfE (es.getD i default)) :
    Calls Try.prog 56 #[.slice a es.length cap, .func (.func 34) #[] #[]] w (BadPost es w) := by
  unfold maxLen at hlen
  have HE := Lib.hid hE
  have HW := Lib.hid hwf
  clear hE hwf
  go_enter Try.func56, Try.ntmps56
  go_wp2
  go_loopg [5, 8] es.length (fun k v5 v8 wr => ∃ i : Nat, i + k = es.length ∧ v8 = .int .i64 (i : Int) ∧ (es.take i).all okE = true ∧ Below w.heap.size w wr)
  case atStart => exact ⟨0, by omega, rfl, rfl, Below.refl _ _⟩
  case round =>
    obtain ⟨i, hik, rfl, hall, hB⟩ := hrel
    have HALL := Lib.hid hall
    clear hall
    by_cases hlt : i < es.length
    · obtain ⟨b, off, rfl, g⟩ := HE.out i hlt
      replace g := ec_below g hB
      have hx := HW.out i hlt
      have HY : Hid (okE (es.getD i default) = true → (es.take (i + 1)).all okE = true) := fun h => all_take hlt HALL.out h
      have HN : Hid (okE (es.getD i default) = false → es.all okE = false) := fun h => all_not hlt h
      generalize es.getD i default = x at *
      obtain ⟨x1, x2, x3, x4⟩ := x
      obtain ⟨g1, g2, g3, g4⟩ := g
      simp only at g1 g2 g3 g4
      have hwr := Lib.hid (wrong_any x1 x2 x3 x4 wr hx)
      clear hx
      cases hok : okE (x1, x2, x3, x4) with
      | true =>
        have HS := Lib.hid (HY.out hok)
        rw [hok] at hwr
        clear hok
        go_wp2_with (go_at_call 34; refine hwr.out.mono ?_; rintro e w3 ⟨rfl, hb3⟩)
        go_roundg (gk - 1)
        case measure => omega
        case rel => exact ⟨i + 1, by omega, by simp, HS.out, hB.trans (hb3.mono hB.size)⟩
      | false =>
        have HS := Lib.hid (HN.out hok)
        rw [hok] at hwr
        clear hok
        go_wp2_with (go_at_call 34; refine hwr.out.mono ?_; rintro e w3 ⟨rfl, hb3⟩)
        go_ret
        exact ⟨_, rfl, by rw [HS.out]; simp, hB.trans (hb3.mono hB.size)⟩
    · have HS : Hid (es.all okE = true) := by
        have := HALL.out
        rw [List.take_of_length_le (by omega)] at this
        exact this
      go_wp2
      go_ret
      exact ⟨_, rfl, by rw [HS.out]; decide, hB⟩
set_option maxRecDepth 100000 in
theorem contains_any (a : Option Addr) (cap : Nat) (es : List Ent) (w : World) (hE : Ents w a es) (hlen : es.length ≤ maxLen) (hwf : ∀ i, i < es.length → wfE (es.getD i default)) :
    Calls Try.prog 33 #[.slice a es.length cap, .func (.func 34) #[] #[]] w (RetB (!es.all okE) w) := by
  have hi := Lib.hid (index_any a cap es w hE hlen hwf)
  clear hE hwf hlen
  go_enter Try.func33, Try.ntmps33
  go_wp2_with (go_at_call 56; refine hi.out.mono ?_; rintro e w3 ⟨n, rfl, hn, hb3⟩; have HN := Lib.hid hn; clear hn)
  go_ret
  exact retB HN.out hb3

def checkE (es : List Ent) : Int := if 300 < es.length then 3 else if sortedB es && es.all okE then 0 else 2
set_option maxRecDepth 100000 in
set_option maxHeartbeats 1000000 in
theorem check_any (a : Option Addr) (cap : Nat) (es : List Ent) (w : World) (hE : Ents w a es) (hlen : es.length ≤ maxLen) (hwf : ∀ i, i < es.length → wfE (es.getD i default)) :
    Calls Try.prog 9 #[.slice a es.length cap] w (RetI (checkE es) w) := by
  by_cases hl : 300 < es.length
  · have hC : Hid (3 = checkE es) := by rw [Hid, checkE, if_pos hl]
    have hli : (300 : Int) < (es.length : Int) := by omega
    clear hl hE hwf hlen
    go_enter Try.func9, Try.ntmps9
    go_wp2
    go_ret
    exact retI hC.out (Below.refl _ _)
  · have hC : Hid (checkE es = if sortedB es && es.all okE then 0 else 2) := by rw [Hid, checkE, if_neg hl]
    have hs := Lib.hid (sorted_any a cap es w hE hlen)
    have HE := Lib.hid hE
    have HW := Lib.hid hwf
    have HL := Lib.hid hlen
    have hli : (es.length : Int) ≤ 300 := by omega
    clear hl hE hwf hlen
    cases h1 : sortedB es with
    | false =>
      rw [h1] at hs hC
      clear h1
      go_enter Try.func9, Try.ntmps9
      go_wp2_with (go_at_call 31; refine hs.out.mono ?_; rintro e w3 ⟨rfl, hb3⟩)
      go_ret
      exact retI (by rw [hC.out]; rfl) hb3
    | true =>
      rw [h1] at hs hC
      clear h1
      have hc : Hid (∀ w3, Ents w3 a es → Calls Try.prog 33 #[.slice a es.length cap, .func (.func 34) #[] #[]] w3 (RetB (!es.all okE) w3)) := fun w3 hE3 => contains_any a cap es w3 hE3 HL.out HW.out
      cases h2 : es.all okE with
      | false =>
        rw [h2] at hc hC
        clear h2
        go_enter Try.func9, Try.ntmps9
        go_wp2_with (first | (go_at_call 31; refine hs.out.mono ?_; rintro e w3 ⟨rfl, hb3⟩) | (go_at_call 33; refine (hc.out _ (ents_below HE.out hb3)).mono ?_; rintro e w4 ⟨rfl, hb4⟩))
        go_ret
        exact retI (by rw [hC.out]; rfl) (grew_trans hb3 hb4)
      | true =>
        rw [h2] at hc hC
        clear h2
        go_enter Try.func9, Try.ntmps9
        go_wp2_with (first | (go_at_call 31; refine hs.out.mono ?_; rintro e w3 ⟨rfl, hb3⟩) | (go_at_call 33; refine (hc.out _ (ents_below HE.out hb3)).mono ?_; rintro e w4 ⟨rfl, hb4⟩))
        go_ret
        exact retI (by rw [hC.out]; rfl) (grew_trans hb3 hb4)
end Go.Proofs.Ytcleaamjfjnkkaa
/- Lists that are compared. -/
namespace Go.Proofs.Ytcleaamjfjnkkaa
open Go.RowKit Go.Joins

/-- what a log says. -/
abbrev Line := Int × Int × Bool × List Gid
def eqL (x y : Line) : Bool := decide (x = y)
end Go.Proofs.Ytcleaamjfjnkkaa
/- Lists of entries that the call makes. -/
namespace Go.Proofs.Ytcleaamjfjnkkaa
open Go.RowKit Go.Joins

def encE (x : Ent) : List Value := [.int .u64 x.1, .int .i64 x.2.1, .int .u64 x.2.2.1, .int .u64 x.2.2.2]
def flat (es : List Ent) : List Value := es.flatMap encE
theorem flat_length (es : List Ent) : (flat es).length = es.length * 4 := by
  induction es with
  | nil => rfl
  | cons x xs ih => simp only [flat, List.flatMap_cons, List.length_append, List.length_cons] at ih ⊢; rw [ih]; simp [encE]; omega
theorem flat_append (xs ys : List Ent) : flat (xs ++ ys) = flat xs ++ flat ys := by simp [flat]
theorem flat_get (es : List Ent) : ∀ (i j : Nat), j < 4 → i < es.length → (flat es)[i * 4 + j]? = (encE (es.getD i default))[j]? := by
  induction es with
  | nil => intro i j _ hi; simp at hi
  | cons x xs ih =>
    intro i j hj hi
    cases i with
    | zero =>
      simp only [flat, List.flatMap_cons]
      rw [List.getElem?_append_left (by simp [encE]; omega)]
      simp
    | succ i =>
      have := ih i j hj (by simpa using hi)
      simp only [flat, List.flatMap_cons] at this ⊢
      rw [List.getElem?_append_right (by simp [encE]; omega)]
      have e : (i + 1) * 4 + j - (encE x).length = i * 4 + j := by simp [encE]; omega
      rw [e, this]
      simp
theorem flat_one (es : List Ent) : ∀ u ∈ flat es, u.oneCell' = true := by
  intro u hu
  obtain ⟨x, _, hx⟩ := List.mem_flatMap.1 hu
  simp [encE] at hx
  rcases hx with rfl | rfl | rfl | rfl <;> rfl

/-- the call owns these entries. -/
def OwnE (w : World) (base : Nat) (v : Value) (es : List Ent) : Prop := w.ownsRow base 30 4 v es.length (flat es)
theorem ownE_nil (w : World) (base : Nat) : OwnE w base (.slice none 0 0) [] := World.ownsRow_nil _ _ _ _
theorem OwnE.mono {w : World} {base base' : Nat} {v : Value} {es : List Ent} (h : OwnE w base v es) (hb : base' ≤ base) : OwnE w base' v es := by
  refine ⟨h.1, ?_⟩
  rcases h.2 with h2 | ⟨g, cap, cur, e1, e2, r⟩
  · exact .inl h2
  · exact .inr ⟨g, cap, cur, e1, by omega, r⟩
theorem ec_of_flat {w : World} {b off i : Nat} {es : List Ent} (hi : i < es.length) (h : ∀ j u, (flat es)[j]? = some u → w.cell? ⟨b, off + j, none⟩ = some u) : EC w b (off + i * 4) (es.getD i default) := by
  have h0 := h (i * 4 + 0) _ (by rw [flat_get es i 0 (by omega) hi]; rfl)
  have h1 := h (i * 4 + 1) _ (by rw [flat_get es i 1 (by omega) hi]; rfl)
  have h2 := h (i * 4 + 2) _ (by rw [flat_get es i 2 (by omega) hi]; rfl)
  have h3 := h (i * 4 + 3) _ (by rw [flat_get es i 3 (by omega) hi]; rfl)
  rw [show off + (i * 4 + 0) = off + i * 4 by omega] at h0
  rw [show off + (i * 4 + 1) = off + i * 4 + 1 by omega] at h1
  rw [show off + (i * 4 + 2) = off + i * 4 + 1 + 1 by omega] at h2
  rw [show off + (i * 4 + 3) = off + i * 4 + 1 + 1 + 1 by omega] at h3
  exact ⟨h0, h1, h2, h3⟩
/-- what the call owns, as a slice. -/
theorem own_ents {w : World} {base : Nat} {v : Value} {es : List Ent} (h : OwnE w base v es) :
    ∃ a cap, v = .slice a es.length cap ∧ Ents w a es ∧ (a = none → cap = 0) ∧ es.length ≤ cap ∧ cap ≤ maxLen ∧ (∀ b off, a = some ⟨b, off, none⟩ → base ≤ b ∧ b < w.heap.size) := by
  rcases h.2 with ⟨rfl, h0⟩ | ⟨g, cap, cur, rfl, hb, hg, h1, h2, _⟩
  · exact ⟨none, 0, by rw [h0], fun i hi => by omega, fun _ => rfl, by omega, Nat.zero_le _, by simp⟩
  · refine ⟨some ⟨g, 0, none⟩, cap, rfl, fun i hi => ⟨g, 0, rfl, ec_of_flat hi fun j u hu => ?_⟩, by simp, h1, h2, fun b off e => ?_⟩
    · have := h.cells (g := g) rfl j u hu
      rw [Go.WideShapes.add_plain] at this
      exact this
    · simp at e; obtain ⟨rfl, _⟩ := e; exact ⟨hb, (Array.getElem?_eq_some_iff.1 hg).1⟩
theorem ents_news {w : World} {ad : Addr} {es : List Ent} (h : Ents w (some ad) es) : ∀ j u, (flat es)[j]? = some u → w.cell? (ad.add j) = some u := by
  intro j u hu
  have hj : j < es.length * 4 := by rw [← flat_length]; exact (List.getElem?_eq_some_iff.1 hu).1
  obtain ⟨b, off, e, g0, g1, g2, g3⟩ := h (j / 4) (by omega)
  simp at e
  subst e
  rw [Go.WideShapes.add_plain]
  have hd : j / 4 * 4 + j % 4 = j := by omega
  have hf := flat_get es (j / 4) (j % 4) (by omega) (by omega)
  rw [hd, hu] at hf
  have hm : j % 4 = 0 ∨ j % 4 = 1 ∨ j % 4 = 2 ∨ j % 4 = 3 := by omega
  rcases hm with m | m | m | m <;> rw [m] at hf <;> simp [encE] at hf <;> subst hf
  · rw [show off + j = off + j / 4 * 4 by omega]; exact g0
  · rw [show off + j = off + j / 4 * 4 + 1 by omega]; exact g1
  · rw [show off + j = off + j / 4 * 4 + 1 + 1 by omega]; exact g2
  · rw [show off + j = off + j / 4 * 4 + 1 + 1 + 1 by omega]; exact g3

theorem info33 : (Try.prog.info? 30).map (fun i => (i.size, i.bytes)) = some (4, 32) := by kernel_rfl
set_option maxRecDepth 100000 in
theorem zero33 : ∃ i z, Try.prog.info? 30 = some i ∧ i.zero = some z ∧ i.size = 4 ∧ i.bytes = 32 ∧ z.cells.size = 4 := by
  refine ⟨_, _, rfl, rfl, rfl, rfl, rfl⟩
/-- append of entries, nil or not, onto a row that the call owns. -/
theorem app_ents {w : World} {ops : Array Oper} {rest : List Oper} {o : Oper} {a : Act} {Q : Exit → Act → World → Prop} (hgd : o.guard = none) (s x : Operand)
    (ho : o.op = .call { callee := .builtin .append, args := #[s, x], argTypes := #[22, 22] }) (base : Nat) (v : Value) (xs : List Ent) (hs : a.eval s = v) (hown : OwnE w base v xs)
    (sa : Option Addr) (n c : Nat) (ys : List Ent) (hn : ys.length = n) (hx : a.eval x = .slice sa n c) (hE : Ents w sa ys) (hnone : sa = none → c = 0)
    (hb : (xs.length + ys.length) * 32 ≤ 140737488355328) (hbase : base ≤ w.heap.size)
    (h : ∀ v' w', OwnE w' base v' (xs ++ ys) → w.grownBy w' v.ownBlock → wpList Try.prog ops Q rest (a.put o.dst v') w') : wpList Try.prog ops Q (o :: rest) a w := by
  obtain ⟨i, z, hi, hz, h1, h2, h3⟩ := zero33
  subst hn
  cases sa with
  | none =>
    obtain rfl := hnone rfl
    have h0 : ys = [] := by
      cases ys with
      | nil => rfl
      | cons y ys => obtain ⟨_, _, e, _⟩ := hE 0 (by simp); cases e
    subst h0
    refine wpList_append_own_none hgd s x 22 ho base 30 i 4 Try.underlying22 hi v xs.length (flat xs) hs hown hx ?_
    refine h v w (by rw [List.append_nil]; exact hown) ⟨rfl, rfl, rfl, Nat.le_refl _, fun _ _ _ => rfl⟩
  | some ad =>
    refine wpList_append_own w hgd s x 22 ho base 30 i z 4 32 Try.underlying22 hi hz h1 h2 h3 (by decide) v xs.length (flat xs) hs hown ad ys.length c (flat ys) hx (flat_length ys) (ents_news hE) (flat_one ys) (by unfold maxLen; omega) hb hbase ?_
    intro v' w' ho' hg _
    refine h v' w' ?_ hg
    unfold OwnE
    rw [List.length_append, flat_append]
    exact ho'

def OwnPost (es : List Ent) (w : World) (e : Ending) (w' : World) : Prop := ∃ v, e = .returned v ∧ OwnE w' w.heap.size v es ∧ Below w.heap.size w w'
theorem own_form {es : List Ent} {n : Nat} {w w' : World} {e : Ending} (h : OwnPost es w e w') (hn : es.length = n) : ∃ a cap, e = .returned (.slice a n cap) ∧ Ents w' a es ∧ (a = none → cap = 0) ∧ n ≤ cap ∧ cap ≤ maxLen ∧ (∀ b off, a = some ⟨b, off, none⟩ → w.heap.size ≤ b) ∧ Below w.heap.size w w' := by
  subst hn
  obtain ⟨v, rfl, ho, hb⟩ := h
  obtain ⟨a, cap, rfl, h1, h2, h3, h4, h5⟩ := own_ents ho
  exact ⟨a, cap, rfl, h1, h2, h3, h4, fun b off e => (h5 b off e).1, hb⟩
end Go.Proofs.Ytcleaamjfjnkkaa
/- Clone, Grow, Concat of entries. -/
namespace Go.Proofs.Ytcleaamjfjnkkaa
open Go.RowKit Go.Joins

/-- a slice of entries that may be cut and appended. -/
structure Sl (w : World) (a : Option Addr) (cap : Nat) (es : List Ent) : Prop where
  ents : Ents w a es
  nil0 : a = none → cap = 0
  len : es.length ≤ cap
  capm : cap ≤ maxLen
  plain : ∀ ad, a = some ad → ∃ b off, ad = ⟨b, off, none⟩
theorem Sl.below {w w' : World} {a : Option Addr} {cap : Nat} {es : List Ent} (h : Sl w a cap es) (hb : Below w.heap.size w w') : Sl w' a cap es := ⟨ents_below h.ents hb, h.nil0, h.len, h.capm, h.plain⟩
theorem Sl.take {w : World} {a : Option Addr} {cap : Nat} {es : List Ent} (h : Sl w a cap es) (n : Nat) : Sl w a cap (es.take n) := ⟨ents_take h.ents n, h.nil0, by have := h.len; simp; omega, h.capm, h.plain⟩
theorem Sl.empty {w : World} {cap : Nat} {es : List Ent} (h : Sl w none cap es) : es = [] ∧ cap = 0 := by
  have h0 := h.nil0 rfl
  have := h.len
  exact ⟨List.eq_nil_of_length_eq_zero (by omega), h0⟩
theorem Sl.nil (w : World) : Sl w none 0 [] := ⟨fun i hi => by simp at hi, fun _ => rfl, Nat.zero_le _, Nat.zero_le _, fun _ e => by cases e⟩
theorem own_sl {w : World} {base : Nat} {v : Value} {es : List Ent} (h : OwnE w base v es) : ∃ a cap, v = .slice a es.length cap ∧ Sl w a cap es ∧ (∀ b off, a = some ⟨b, off, none⟩ → base ≤ b ∧ b < w.heap.size) := by
  obtain ⟨a, cap, e, h1, h2, h3, h4, h5⟩ := own_ents h
  refine ⟨a, cap, e, ⟨h1, h2, h3, h4, fun ad ha => ?_⟩, h5⟩
  rcases h.2 with ⟨e2, _⟩ | ⟨g, c, cur, e2, _⟩
  · rw [e] at e2; simp at e2; rw [e2.1] at ha; cases ha
  · rw [e] at e2; simp at e2; rw [e2.1] at ha; simp at ha; exact ⟨_, _, ha.symm⟩
theorem sl_form {es : List Ent} {n : Nat} {w w' : World} {e : Ending} (h : OwnPost es w e w') (hn : es.length = n) : ∃ a cap, e = .returned (.slice a n cap) ∧ Sl w' a cap es ∧ (∀ b off, a = some ⟨b, off, none⟩ → w.heap.size ≤ b) ∧ Below w.heap.size w w' := by
  subst hn
  obtain ⟨v, rfl, ho, hb⟩ := h
  obtain ⟨a, cap, rfl, h1, h2⟩ := own_sl ho
  exact ⟨a, cap, rfl, h1, fun b off e => (h2 b off e).1, hb⟩

set_option maxRecDepth 100000 in
theorem clone_any (a : Option Addr) (cap : Nat) (es : List Ent) (w : World) (h : Sl w a cap es) (hb : es.length * 32 ≤ 140737488355328) :
    Calls Try.prog 55 #[.slice a es.length cap] w (OwnPost es w) := by
  have qT : ∀ (w : World) (a : Option Addr) (n c : Nat), (binOp .eql 22 (.slice a n c) (.slice none 0 0)).run Try.prog w = .ok (.bool a.isNone) w := fun w a n c => Lib.run_eql_slice_nil w 22 30 a n c 0 0 Try.underlying22
  cases a with
  | none =>
    obtain ⟨rfl, rfl⟩ := h.empty
    go_enter Try.func55, Try.ntmps55
    go_wp2
    go_ret
    exact ⟨_, rfl, ownE_nil _ _, Below.refl _ _⟩
  | some ad =>
    have HS := Lib.hid h
    clear h
    have hown0 : Hid (OwnE (w.alloc (.cells #[] 30)) w.heap.size (.slice (some ⟨w.heap.size, 0, none⟩) 0 0) []) := World.ownsRow_made w #[] 0 (Nat.le_refl _) (Nat.zero_le _) rfl
    have hE1 : Hid (Ents (w.alloc (.cells #[] 30)) (some ad) es) := ents_below HS.out.ents ((Below.refl _ w).alloc (Nat.le_refl _) _)
    go_enter Try.func55, Try.ntmps55
    go_wp2_with (at_builtin; refine app_ents rfl _ _ rfl w.heap.size _ [] rfl hown0.out (some ad) es.length cap es rfl rfl hE1.out HS.out.nil0 (by simpa using hb) (by simp) ?_; intro v' w' hown' hgrow)
    go_ret
    exact ⟨_, rfl, hown', ((Below.refl _ w).alloc (Nat.le_refl _) _).grown hgrow (by simp) (fun j hj => (World.ownsRow.lt hown0.out j hj).1)⟩

set_option maxRecDepth 100000 in
theorem grow_any (n : Nat) (w : World) (hb : n * 32 ≤ 140737488355328) : Calls Try.prog 76 #[.slice none 0 0, .int .i64 (n : Int)] w (OwnPost [] w) := by
  by_cases h0 : n = 0
  · subst h0
    go_enter Try.func76, Try.ntmps76
    go_wp2
    go_ret
    exact ⟨_, rfl, ownE_nil _ _, Below.refl _ _⟩
  · obtain ⟨i, z, hi, hz, h1, h2, h3⟩ := zero33
    have hrz : ∀ ty, (Builtin.append_ #[22, 3] ty #[.slice none 0 0, .int .i64 (n : Int)]).run Try.prog w = .ok (.slice (some ⟨w.heap.size, 0, none⟩) n (grownCap w n 0 30)) (w.drew.alloc (.cells (#[] ++ Builtin.zeroCells z.cells n ++ Builtin.zeroCells z.cells (grownCap w n 0 30 - n)) 30)) := fun ty => by
      have h := Lib.run_append_grow_zeros w 22 3 ty 30 i z .i64 .i64 Try.underlying22 Try.underlying3 hi hz none 0 0 [] (by rw [h1]; exact run_firstCells_none w.drew 4 0 0 0) n (by omega) (by omega) (by omega) (by omega) (by rw [h2]; omega) (by simp only [Nat.zero_add]; rw [h2]; exact growslice_fits (by omega) hb)
      simp only [Nat.zero_add] at h
      exact h
    have hge : n ≤ grownCap w n 0 30 := grownCap_ge w n 0 30
    have hle : grownCap w n 0 30 ≤ maxLen := grownCap_le_maxLen w n 0 30 (by unfold maxLen; omega)
    have hown : Hid (OwnE (w.drew.alloc (.cells (#[] ++ Builtin.zeroCells z.cells n ++ Builtin.zeroCells z.cells (grownCap w n 0 30 - n)) 30)) w.heap.size (.slice (some ⟨w.heap.size, 0, none⟩) 0 (grownCap w n 0 30)) []) := by
      refine World.ownsRow_made w.drew _ _ (Nat.le_refl _) hle ?_
      simp only [Array.size_append, size_zeroCells, h3]
      simp
      omega
    generalize grownCap w n 0 30 = G at *
    have hbl : Hid (∀ o, Below w.heap.size w (w.drew.alloc o)) := fun o => (Below.refl _ w).drew.alloc (Nat.le_refl _) o
    generalize Obj.cells (#[] ++ Builtin.zeroCells z.cells n ++ Builtin.zeroCells z.cells (G - n)) 30 = O at *
    have hp : 0 < n := by omega
    unfold maxLen at hle
    clear hz h1 h2 h3 h0
    go_enter Try.func76, Try.ntmps76
    go_wp2_with (at_builtin; refine Lib.wpList_append_run _ rfl _ _ _ _ rfl _ _ rfl rfl _ _ (hrz _) ?_)
    go_ret
    exact ⟨_, rfl, hown.out, hbl.out _⟩
end Go.Proofs.Ytcleaamjfjnkkaa
/- Concat of two lists of entries. -/
namespace Go.Proofs.Ytcleaamjfjnkkaa
open Go.RowKit Go.Joins

set_option maxRecDepth 100000 in
set_option maxHeartbeats 1000000 in
theorem concat_any (b o : Nat) (a1 a2 : Option Addr) (c1 c2 : Nat) (xs ys : List Ent) (w : World) (hx : Sl w a1 c1 xs) (hy : Sl w a2 c2 ys)
    (k1 : w.cell? ⟨b, o, none⟩ = some (.slice a1 xs.length c1)) (k2 : w.cell? ⟨b, o + 1, none⟩ = some (.slice a2 ys.length c2)) (hb : (xs.length + ys.length) * 32 ≤ 140737488355328) :
    Calls Try.prog 74 #[.slice (some ⟨b, o, none⟩) 2 2] w (OwnPost (xs ++ ys) w) := by
  have HX := Lib.hid hx
  have HY := Lib.hid hy
  have K1 := Lib.hid k1
  have K2 := Lib.hid k2
  clear hx hy
  go_enter Try.func74, Try.ntmps74
  go_wp2
  go_loopg [3, 5, 11] 2 (fun k v3 v5 v11 wr => ((k = 2 ∧ v3 = .int .i64 0 ∧ v11 = .int .i64 0) ∨ (k = 1 ∧ v3 = .int .i64 (xs.length : Int) ∧ v11 = .int .i64 1) ∨ (k = 0 ∧ v3 = .int .i64 ((xs.length : Int) + (ys.length : Int)) ∧ v11 = .int .i64 2)) ∧ wr = w)
  case atStart => exact ⟨.inl ⟨rfl, rfl, rfl⟩, rfl⟩
  case round =>
    obtain ⟨hr, rfl⟩ := hrel
    rcases hr with ⟨rfl, rfl, rfl⟩ | ⟨rfl, rfl, rfl⟩ | ⟨rfl, rfl, rfl⟩
    · go_wp2
      go_roundg 1
      case measure => omega
      case rel => exact ⟨.inr (.inl ⟨rfl, by simp, by simp⟩), rfl⟩
    · go_wp2
      go_roundg 0
      case measure => omega
      case rel => exact ⟨.inr (.inr ⟨rfl, by simp, by simp⟩), rfl⟩
    · have hg := Lib.hid (grow_any (xs.length + ys.length) wr hb)
      rw [Int.natCast_add] at hg
      go_wp2_with (go_at_call 76; refine hg.out.mono ?_; rintro e w1 ⟨v, rfl, hown, hb1⟩)
      have HO := Lib.hid hown
      have HB := Lib.hid hb1
      clear hown hb1
      obtain ⟨w0, rfl⟩ : ∃ w0 : World, w0 = wr := ⟨_, rfl⟩
      go_loopg [6, 8, 27] 2 (fun k v6 v8 v27 wr => ((k = 2 ∧ OwnE wr w0.heap.size v6 [] ∧ v27 = .int .i64 0) ∨ (k = 1 ∧ OwnE wr w0.heap.size v6 xs ∧ v27 = .int .i64 1) ∨ (k = 0 ∧ OwnE wr w0.heap.size v6 (xs ++ ys) ∧ v27 = .int .i64 2)) ∧ Below w0.heap.size w0 wr)
      case atStart => exact ⟨.inl ⟨rfl, HO.out, rfl⟩, HB.out⟩
      case round =>
        obtain ⟨hr, hbr⟩ := hrel
        have HBR := Lib.hid hbr
        have q1 := (hbr.cell (p := ⟨b, o, none⟩) (World.block_lt_of_cell? _ _ K1.out)).trans K1.out
        have q2 := (hbr.cell (p := ⟨b, o + 1, none⟩) (World.block_lt_of_cell? _ _ K2.out)).trans K2.out
        clear hbr k1 k2
        rcases hr with ⟨rfl, hown, rfl⟩ | ⟨rfl, hown, rfl⟩ | ⟨rfl, hown, rfl⟩
        · go_wp2_with (at_builtin; refine app_ents rfl _ _ rfl w0.heap.size _ [] rfl hown a1 xs.length c1 xs rfl rfl (HX.out.below HBR.out).ents HX.out.nil0 (by simp; omega) HBR.out.size ?_; intro v' w' hown' hgrow)
          go_roundg 1
          case measure => omega
          case rel => exact ⟨.inr (.inl ⟨rfl, by simpa using hown', by simp⟩), HBR.out.grown hgrow (HBR.out.size) (fun j hj => (World.ownsRow.lt hown j hj).1)⟩
        · go_wp2_with (at_builtin; refine app_ents rfl _ _ rfl w0.heap.size _ xs rfl hown a2 ys.length c2 ys rfl rfl (HY.out.below HBR.out).ents HY.out.nil0 hb HBR.out.size ?_; intro v' w' hown' hgrow)
          go_roundg 0
          case measure => omega
          case rel => exact ⟨.inr (.inr ⟨rfl, hown', by simp⟩), HBR.out.grown hgrow (HBR.out.size) (fun j hj => (World.ownsRow.lt hown j hj).1)⟩
        · go_wp2
          go_ret
          exact ⟨_, rfl, hown, HBR.out⟩
end Go.Proofs.Ytcleaamjfjnkkaa
/- Entries laid behind a number. -/
namespace Go.Proofs.Ytcleaamjfjnkkaa
open Go.RowKit Go.Joins

/-! ### Plain -/
/-- how many entries are of the same terms, one by one. -/
def com : List Ent → List Ent → Nat
  | x :: xs, y :: ys => if x.1 = y.1 then com xs ys + 1 else 0
  | _, _ => 0
theorem com_iff (xs ys : List Ent) : ∀ i, i ≤ com xs ys ↔ i ≤ xs.length ∧ i ≤ ys.length ∧ ∀ j, j < i → (xs.getD j default).1 = (ys.getD j default).1 := by
  induction xs generalizing ys with
  | nil => intro i; simp [com]; intro h; subst h; simp
  | cons x xs ih =>
    intro i
    cases ys with
    | nil =>
      simp [com]
      constructor
      · intro h; subst h; simp
      · intro h; exact h.2.1
    | cons y ys =>
      simp only [com]
      cases i with
      | zero => simp
      | succ i =>
        split
        · rename_i he
          rw [Nat.succ_le_succ_iff, ih]
          simp only [List.length_cons, Nat.succ_le_succ_iff]
          constructor
          · rintro ⟨h1, h2, h3⟩
            refine ⟨h1, h2, fun j hj => ?_⟩
            cases j with
            | zero => simpa using he
            | succ j => simpa using h3 j (by omega)
          · rintro ⟨h1, h2, h3⟩
            refine ⟨h1, h2, fun j hj => ?_⟩
            simpa using h3 (j + 1) (by omega)
        · rename_i he
          constructor
          · intro h; omega
          · rintro ⟨_, _, h3⟩
            exact absurd (by simpa using h3 0 (by omega)) he
theorem com_stop {xs ys : List Ent} {i : Nat} (h : i ≤ com xs ys) (hs : xs.length ≤ i ∨ (xs.getD i default).1 ≠ (ys.getD i default).1) : com xs ys = i := by
  have hn : ¬ i + 1 ≤ com xs ys := by
    rw [com_iff]
    rintro ⟨h1, h2, h3⟩
    rcases hs with h | h
    · omega
    · exact h (h3 i (by omega))
  omega
theorem com_go {xs ys : List Ent} {i : Nat} (h : i ≤ com xs ys) (hx : i < xs.length) (hi : i < ys.length) (hs : (xs.getD i default).1 = (ys.getD i default).1) : i + 1 ≤ com xs ys := by
  rw [com_iff] at h ⊢
  refine ⟨by omega, by omega, fun j hj => ?_⟩
  by_cases e : j = i
  · subst e; exact hs
  · exact h.2.2 j (by omega)
def joinL (es : List Ent) (prev : Int) (more : List Ent) : List Ent :=
  if prev < 0 ∨ (es.length : Int) < prev then es
  else if com (es.drop prev.toNat) more = more.length then es else es.take (prev.toNat + com (es.drop prev.toNat) more) ++ more.drop (com (es.drop prev.toNat) more)

theorem ents_drop {w : World} {b off : Nat} {es : List Ent} (h : Ents w (some ⟨b, off, none⟩) es) (p : Nat) : Ents w (some ⟨b, off + p * 4, none⟩) (es.drop p) := by
  intro i hi
  simp only [List.length_drop] at hi
  obtain ⟨b', off', e, hc⟩ := h (p + i) (by omega)
  simp at e
  obtain ⟨rfl, rfl⟩ := e
  refine ⟨b, _, rfl, ?_⟩
  rw [show (es.drop p).getD i default = es.getD (p + i) default by simp [List.getD]]
  rw [show off + p * 4 + i * 4 = off + (p + i) * 4 by omega]
  exact hc
theorem size33 (w : World) : (Go.sizeOf 30).run Try.prog w = .ok 4 w := by kernel_rfl
theorem tail_sl {w : World} {a : Option Addr} {cap : Nat} {es : List Ent} (h : Sl w a cap es) (p : Nat) (hp : p ≤ es.length) :
    ∃ A C, (∀ W, (Instr.slice 22 (.slice a es.length cap) (some (.int .i64 (p : Int))) none none).run Try.prog W = .ok (.slice A (es.length - p) C) W) ∧ Sl w A C (es.drop p) := by
  have ht' : Try.prog.underlying 22 = some (.slice (Try.prog.elem 22)) := by kernel_rfl
  have he : Try.prog.elem 22 = 30 := by kernel_rfl
  have hlen := h.len
  have hcm := h.capm
  by_cases hc : cap = p
  · have h0 : es.drop p = [] := List.eq_nil_of_length_eq_zero (by simp; omega)
    refine ⟨a, 0, fun W => ?_, ?_⟩
    · rw [run_slice_l W 22 _ _ _ ht' .i64 _ (by omega) (by omega), he, size33]
      simp only [Result.andThen, sliced, Int.toNat_natCast]
      subst hc
      cases a <;> simp
    · rw [h0]
      exact ⟨fun i hi => by simp at hi, fun _ => rfl, Nat.zero_le _, Nat.zero_le _, h.plain⟩
  · cases a with
    | none => have := h.nil0 rfl; omega
    | some ad =>
      obtain ⟨b, off, rfl⟩ := h.plain ad rfl
      refine ⟨some ⟨b, off + p * 4, none⟩, cap - p, fun W => ?_, ⟨ents_drop h.ents p, by simp, by simp; omega, by omega, fun ad e => by simp at e; exact ⟨_, _, e.symm⟩⟩⟩
      rw [run_slice_l W 22 _ _ _ ht' .i64 _ (by omega) (by omega), he, size33]
      simp only [Result.andThen, sliced, Int.toNat_natCast]
      simp [hc, Addr.add]
      try (intro h0; subst h0; simp)
theorem concat_len (b o n1 n2 : Nat) (a1 a2 : Option Addr) (c1 c2 : Nat) (xs ys : List Ent) (h1 : xs.length = n1) (h2 : ys.length = n2) (w : World) (hx : Sl w a1 c1 xs) (hy : Sl w a2 c2 ys)
    (k1 : w.cell? ⟨b, o, none⟩ = some (.slice a1 n1 c1)) (k2 : w.cell? ⟨b, o + 1, none⟩ = some (.slice a2 n2 c2)) (hb : (xs.length + ys.length) * 32 ≤ 140737488355328) :
    Calls Try.prog 74 #[.slice (some ⟨b, o, none⟩) 2 2] w (OwnPost (xs ++ ys) w) := by
  subst h1 h2; exact concat_any b o a1 a2 c1 c2 xs ys w hx hy k1 k2 hb
/-- two slices, just laid side by side. -/
theorem concat_new (n1 n2 : Nat) (t : TypeId) (a1 a2 : Option Addr) (c1 c2 : Nat) (xs ys : List Ent) (h1 : xs.length = n1) (h2 : ys.length = n2) (w : World) (hx : Sl w a1 c1 xs) (hy : Sl w a2 c2 ys) (hb : (n1 + n2) * 32 ≤ 140737488355328) :
    Calls Try.prog 74 #[.slice (some ⟨w.heap.size, 0, none⟩) 2 2] (w.alloc (.cells #[.slice a1 n1 c1, .slice a2 n2 c2] t)) (OwnPost (xs ++ ys) (w.alloc (.cells #[.slice a1 n1 c1, .slice a2 n2 c2] t))) := by
  have hB : Below w.heap.size w (w.alloc (.cells #[.slice a1 n1 c1, .slice a2 n2 c2] t)) := (Below.refl _ w).alloc (Nat.le_refl _) _
  exact concat_len w.heap.size 0 n1 n2 a1 a2 c1 c2 xs ys h1 h2 _ (hx.below hB) (hy.below hB) (World.cell?_alloc_at _ _ _ _ rfl) (World.cell?_alloc_at _ _ _ _ rfl) (by omega)

set_option maxRecDepth 100000 in
set_option maxHeartbeats 4000000 in
theorem join_any (a b : Option Addr) (c d : Nat) (es more : List Ent) (prev : Int) (w : World) (hl : Sl w a c es) (hm : Sl w b d more) (hb : (es.length + more.length) * 32 ≤ 140737488355328) :
    Calls Try.prog 66 #[.slice a es.length c, .int .i64 prev, .slice b more.length d] w (OwnPost (joinL es prev more) w) := by
  have HL := Lib.hid hl
  have HM := Lib.hid hm
  have hll := hl.len
  have hlc := hl.capm
  have hml := hm.len
  have hmc := hm.capm
  unfold maxLen at hlc hmc
  have hcl : Hid (∀ w1, Below w.heap.size w w1 → Calls Try.prog 55 #[.slice a es.length c] w1 (OwnPost es w1)) := fun w1 hb1 => clone_any a c es w1 (HL.out.below hb1) (by omega)
  clear hl hm
  by_cases hbad : prev < 0 ∨ (es.length : Int) < prev
  · have hJ : Hid (joinL es prev more = es) := if_pos hbad
    by_cases h0 : prev < 0
    · clear hbad
      go_enter Try.func66, Try.ntmps66
      go_wp2_with (go_at_call 55; refine (hcl.out _ (Below.refl _ _)).mono ?_; rintro e w1 ⟨v, rfl, ho, hb1⟩)
      go_ret
      exact ⟨_, rfl, by rw [hJ.out]; exact ho, hb1⟩
    · have h1 : (es.length : Int) < prev := by omega
      have h2 : 0 ≤ prev := by omega
      clear hbad h0
      go_enter Try.func66, Try.ntmps66
      go_wp2_with (go_at_call 55; refine (hcl.out _ (Below.refl _ _)).mono ?_; rintro e w1 ⟨v, rfl, ho, hb1⟩)
      go_ret
      exact ⟨_, rfl, by rw [hJ.out]; exact ho, hb1⟩
  · obtain ⟨p, rfl⟩ := Int.eq_ofNat_of_zero_le (show 0 ≤ prev by omega)
    have hp : p ≤ es.length := by omega
    have hpi : (p : Int) ≤ (es.length : Int) := by omega
    have hJ : Hid (joinL es (p : Int) more = if com (es.drop p) more = more.length then es else es.take (p + com (es.drop p) more) ++ more.drop (com (es.drop p) more)) := by
      rw [Hid, joinL, if_neg hbad, Int.toNat_natCast]
    obtain ⟨A, C, hA, hS⟩ := tail_sl HL.out p hp
    have HS := Lib.hid hS
    have hdl : (es.drop p).length = es.length - p := by simp
    have HDL := Lib.hid hdl
    clear hS hbad hdl
    have hd1 : decide ((p : Int) < 0) = false := by simp
    have hd2 : decide (es.length < p) = false := by simp; omega
    go_enter Try.func66, Try.ntmps66
    go_wp2
    obtain ⟨L, hL⟩ : ∃ L, es.length - p = L := ⟨_, rfl⟩
    rw [hL] at hA HDL
    simp only [hL]
    have HLL := Lib.hid hL
    clear hL
    go_loopg [8, 9, 25] more.length (fun k v8 v9 v25 wr => ∃ i : Nat, i + k = more.length ∧ v25 = .int .i64 (i : Int) ∧ i ≤ com (es.drop p) more ∧ Below w.heap.size w wr)
    case atStart => exact ⟨0, by omega, rfl, Nat.zero_le _, Below.refl _ _⟩
    case round =>
      obtain ⟨i, hik, rfl, hcom, hB⟩ := hrel
      have HC := Lib.hid hcom
      clear hcom
      by_cases hlt : i < more.length
      · have hy := (HM.out.below hB).ents i hlt
        obtain ⟨b', off', rfl, g⟩ := hy
        generalize hyy : more.getD i default = y at g
        have HYY := Lib.hid hyy
        clear hyy
        obtain ⟨y1, y2, y3, y4⟩ := y
        obtain ⟨g1, g2, g3, g4⟩ := g
        simp only at g1 g2 g3 g4
        have HB := Lib.hid hB
        clear hB
        go_wp2
        have hbW : Below w.heap.size w (wr.alloc (.cells #[.int .u64 y1, .int .i64 y2, .int .u64 y3, .int .u64 y4] 30)) := HB.out.alloc HB.out.size _
        have cY : (wr.alloc (.cells #[.int .u64 y1, .int .i64 y2, .int .u64 y3, .int .u64 y4] 30)).cell? ⟨wr.heap.size, 0, none⟩ = some (.int .u64 y1) := World.cell?_alloc_at _ _ _ _ rfl
        generalize wr.alloc (.cells #[.int .u64 y1, .int .i64 y2, .int .u64 y3, .int .u64 y4] 30) = W1 at *
        have HBW := Lib.hid hbW
        clear hbW g1 g2 g3 g4
        by_cases hL : i < L
        · obtain ⟨b2, off2, rfl, h1, -⟩ := (HS.out.below HBW.out).ents i (by rw [HDL.out]; exact hL)
          have HGO : Hid (((es.drop p).getD i default).1 = (more.getD i default).1 → i + 1 ≤ com (es.drop p) more) := fun h => com_go HC.out (by rw [HDL.out]; exact hL) hlt h
          rw [HYY.out] at HGO
          have HST : Hid (((es.drop p).getD i default).1 ≠ y1 → com (es.drop p) more = i) := fun h => com_stop HC.out (.inr (by rw [HYY.out]; exact h))
          have hLi : (i : Int) < (L : Int) := by omega
          generalize ((es.drop p).getD i default).1 = x1 at *
          by_cases hxy : x1 = y1
          · subst hxy
            have HN := Lib.hid (HGO.out rfl)
            go_quiet (fail)
            go_wp2
            have hbq : Below w.heap.size w (W1.drewN nq) := HBW.out.trans ((below_drewN' W1 nq).mono HBW.out.size)
            generalize W1.drewN nq = W2 at *
            go_roundg (gk - 1)
            case measure => omega
            case rel => exact ⟨i + 1, by omega, by simp, HN.out, hbq⟩
          · have hcm := Lib.hid (HST.out hxy)
            have hb1 : (x1 == y1) = false := by simpa using hxy
            have hb2 : (x1 != y1) = true := by simpa using hxy
            clear hxy
            have hle : p + i ≤ es.length := by have := (com_iff _ _ i).1 HC.out; rw [HDL.out] at this; have := HLL.out; omega
            have HLE := Lib.hid hle
            clear hle
            have hJ2 : Hid (joinL es (p : Int) more = es.take (p + i) ++ more.drop i) := by rw [Hid, hJ.out, hcm.out, if_neg (by omega)]
            obtain ⟨A2, C2, hA2, hS2⟩ := tail_sl HM.out i (by omega)
            have HS2 := Lib.hid hS2
            have j1 : IntKind.i64.wrap ((p : Int) + (i : Int)) = (p : Int) + (i : Int) := IntWalk.i64_in _ (by omega)
            have j2 : ((p : Int) + (i : Int)).toNat = p + i := by omega
            have j3 : (0 : Int) ≤ (p : Int) + (i : Int) := by omega
            have j4 : (p : Int) + (i : Int) ≤ (c : Int) := by have := HLE.out; omega
            have j5 : (i : Int) ≤ (more.length : Int) := by omega
            have j6 : p + i ≤ es.length := HLE.out
            go_quiet (fail)
            go_wp2
            have hbq : Below w.heap.size w (W1.drewN nq) := HBW.out.trans ((below_drewN' W1 nq).mono HBW.out.size)
            generalize W1.drewN nq = W2 at *
            have HBQ := Lib.hid hbq
            clear hbq cY
            go_still_tail 8, (by kernel_rfl)
            change wpList _ _ _ _ _ W2.drew
            have HB3 : Hid (Below w.heap.size w W2.drew) := HBQ.out.drew
            generalize W2.drew = W3 at *
            clear j1 j2
            go_wp2_with (go_at_call 74; refine (concat_new (p + i) (more.length - i) _ a A2 c C2 (es.take (p + i)) (more.drop i) (by simp; omega) (by simp) _ ((HL.out.below HB3.out).take _) (HS2.out.below HB3.out) (by omega)).mono ?_; rintro e w4 ⟨v, rfl, ho, hb4⟩)
            go_ret
            exact ⟨_, rfl, by rw [hJ2.out]; exact ho.mono (by simp; exact Nat.le_succ_of_le HB3.out.size), HB3.out.trans ((Below.trans ((Below.refl _ W3).alloc (Nat.le_refl _) _) (hb4.mono (by simp))).mono HB3.out.size)⟩
        · have hLi : (L : Int) ≤ (i : Int) := by omega
          have hle : p + i ≤ es.length := by have := (com_iff _ _ i).1 HC.out; rw [HDL.out] at this; have := HLL.out; omega
          have HLE := Lib.hid hle
          clear hle
          have hcm := Lib.hid (com_stop HC.out (.inl (by rw [HDL.out]; omega)))
          have hJ2 : Hid (joinL es (p : Int) more = es.take (p + i) ++ more.drop i) := by rw [Hid, hJ.out, hcm.out, if_neg (by omega)]
          obtain ⟨A2, C2, hA2, hS2⟩ := tail_sl HM.out i (by omega)
          have HS2 := Lib.hid hS2
          have j1 : IntKind.i64.wrap ((p : Int) + (i : Int)) = (p : Int) + (i : Int) := IntWalk.i64_in _ (by omega)
          have j2 : ((p : Int) + (i : Int)).toNat = p + i := by omega
          have j3 : (0 : Int) ≤ (p : Int) + (i : Int) := by omega
          have j4 : (p : Int) + (i : Int) ≤ (c : Int) := by have := HLE.out; omega
          have j5 : (i : Int) ≤ (more.length : Int) := by omega
          have j6 : p + i ≤ es.length := HLE.out
          go_quiet (fail)
          go_wp2
          have hbq : Below w.heap.size w (W1.drewN nq) := HBW.out.trans ((below_drewN' W1 nq).mono HBW.out.size)
          generalize W1.drewN nq = W2 at *
          have HBQ := Lib.hid hbq
          clear hbq cY
          go_still_tail 8, (by kernel_rfl)
          change wpList _ _ _ _ _ W2.drew
          have HB3 : Hid (Below w.heap.size w W2.drew) := HBQ.out.drew
          generalize W2.drew = W3 at *
          clear j1 j2
          go_wp2_with (go_at_call 74; refine (concat_new (p + i) (more.length - i) _ a A2 c C2 (es.take (p + i)) (more.drop i) (by simp; omega) (by simp) _ ((HL.out.below HB3.out).take _) (HS2.out.below HB3.out) (by omega)).mono ?_; rintro e w4 ⟨v, rfl, ho, hb4⟩)
          go_ret
          exact ⟨_, rfl, by rw [hJ2.out]; exact ho.mono (by simp; exact Nat.le_succ_of_le HB3.out.size), HB3.out.trans ((Below.trans ((Below.refl _ W3).alloc (Nat.le_refl _) _) (hb4.mono (by simp))).mono HB3.out.size)⟩
      · have hie : i = more.length := by omega
        have hcm : com (es.drop p) more = more.length := by have := (com_iff (es.drop p) more (com (es.drop p) more)).1 (Nat.le_refl _); have := HC.out; omega
        have hJ2 : Hid (joinL es (p : Int) more = es) := by rw [Hid, hJ.out, if_pos hcm]
        have HB := Lib.hid hB
        clear hcm hB
        go_wp2_with (go_at_call 55; refine (hcl.out _ HB.out).mono ?_; rintro e w1 ⟨v, rfl, ho, hb1⟩)
        go_ret
        exact ⟨_, rfl, by rw [hJ2.out]; exact ho.mono HB.out.size, HB.out.trans (hb1.mono HB.out.size)⟩
end Go.Proofs.Ytcleaamjfjnkkaa
/- What the first entries of a log say: the step. -/
namespace Go.Proofs.Ytcleaamjfjnkkaa
open Go.RowKit Go.Joins

/-! ### Plain -/
def lastG (gs : List Gid) : Gid := gs.getD (gs.length - 1) default
/-- does an entry bring a guid? -/
def brings (s : Line) (e : Ent) : Bool := decide (e.2.1 = 3) && decide (e.1 = s.1) && decide (e.2.2.1 = e.1) && (decide (s.2.2.2.length = 0) || aboveB (e.2.2.1, e.2.2.2) (lastG s.2.2.2))
def lstep (s : Line) (e : Ent) : Line :=
  if e.2.1 = 1 then (e.1, (s.2.2.2.length : Int), false, s.2.2.2)
  else if e.2.1 = 2 ∧ e.1 = s.1 then (s.1, s.2.1, true, s.2.2.2)
  else if brings s e = true then (s.1, s.2.1, s.2.2.1, s.2.2.2 ++ [(e.2.2.1, e.2.2.2)])
  else s
def foldL (es : List Ent) : Line := es.foldl lstep (0, 0, false, [])

/-! ### Guids that the call owns -/
def encG (x : Gid) : List Value := [.int .u64 x.1, .int .u64 x.2]
def flatG (gs : List Gid) : List Value := gs.flatMap encG
theorem flatG_length (gs : List Gid) : (flatG gs).length = gs.length * 2 := by
  induction gs with
  | nil => rfl
  | cons x xs ih => simp only [flatG, List.flatMap_cons, List.length_append, List.length_cons] at ih ⊢; rw [ih]; simp [encG]; omega
theorem flatG_append (xs ys : List Gid) : flatG (xs ++ ys) = flatG xs ++ flatG ys := by simp [flatG]
theorem flatG_get (gs : List Gid) : ∀ (i j : Nat), j < 2 → i < gs.length → (flatG gs)[i * 2 + j]? = (encG (gs.getD i default))[j]? := by
  induction gs with
  | nil => intro i j _ hi; simp at hi
  | cons x xs ih =>
    intro i j hj hi
    cases i with
    | zero =>
      simp only [flatG, List.flatMap_cons]
      rw [List.getElem?_append_left (by simp [encG]; omega)]
      simp
    | succ i =>
      have := ih i j hj (by simpa using hi)
      simp only [flatG, List.flatMap_cons] at this ⊢
      rw [List.getElem?_append_right (by simp [encG]; omega)]
      have e : (i + 1) * 2 + j - (encG x).length = i * 2 + j := by simp [encG]; omega
      rw [e, this]
      simp
def OwnG (w : World) (base : Nat) (v : Value) (gs : List Gid) : Prop := w.ownsRow base 28 2 v gs.length (flatG gs)
theorem ownG_nil (w : World) (base : Nat) : OwnG w base (.slice none 0 0) [] := World.ownsRow_nil _ _ _ _
theorem own_gids {w : World} {base : Nat} {v : Value} {gs : List Gid} (h : OwnG w base v gs) :
    ∃ a cap, v = .slice a gs.length cap ∧ Gids w a gs ∧ (a = none → cap = 0) ∧ gs.length ≤ cap ∧ cap ≤ maxLen ∧ (∀ b off, a = some ⟨b, off, none⟩ → base ≤ b ∧ b < w.heap.size) := by
  rcases h.2 with ⟨rfl, h0⟩ | ⟨g, cap, cur, rfl, hb, hg, h1, h2, _⟩
  · exact ⟨none, 0, by rw [h0], fun i hi => by omega, fun _ => rfl, by omega, Nat.zero_le _, by simp⟩
  · refine ⟨some ⟨g, 0, none⟩, cap, rfl, fun i hi => ⟨g, 0, rfl, ?_⟩, by simp, h1, h2, fun b off e => ?_⟩
    · have hh : ∀ j u, (flatG gs)[j]? = some u → w.cell? ⟨g, 0 + j, none⟩ = some u := fun j u hu => by
        have := h.cells (g := g) rfl j u hu
        rw [Go.WideShapes.add_plain] at this
        exact this
      have h0 := hh (i * 2 + 0) _ (by rw [flatG_get gs i 0 (by omega) hi]; rfl)
      have h1 := hh (i * 2 + 1) _ (by rw [flatG_get gs i 1 (by omega) hi]; rfl)
      exact ⟨h0, h1⟩
    · simp at e; obtain ⟨rfl, _⟩ := e; exact ⟨hb, (Array.getElem?_eq_some_iff.1 hg).1⟩

/-- a line lies in a block; its guids are the call's own. -/
def LineIs (w : World) (B : Nat) (s : Line) (v : Value) : Prop := w.heap[B]? = some (.cells #[.int .u64 s.1, .int .i64 s.2.1, .bool s.2.2.1, v] 41 (0, 0))
structure LineAt (w : World) (base B : Nat) (s : Line) : Prop where
  at_ : ∃ v, LineIs w B s v ∧ OwnG w base v s.2.2.2
theorem own_ne {w : World} {base n B : Nat} {v : Value} {xs : List Value} {cs : Array Value} (h : w.ownsRow base 28 2 v n xs) (hB : w.heap[B]? = some (.cells cs 41 (0, 0))) : v.ownBlock = none ∨ v.ownBlock ≠ some B := by
  rcases h.2 with ⟨rfl, _⟩ | ⟨g, cap, cur, rfl, _, hg, _⟩
  · exact .inl rfl
  · refine .inr fun e => ?_
    simp [Value.ownBlock] at e
    subst e
    rw [hg] at hB
    injection hB with hB
    injection hB with _ ht
    cases ht
theorem grownBy_setCell (w : World) (B i : Nat) (u : Value) : w.grownBy (w.setCell ⟨B, i, none⟩ u) (some B) :=
  ⟨rfl, rfl, rfl, by simp [World.setCell], fun k _ hk => Below.heap_setCell _ _ _ _ (fun e => hk (by rw [e]))⟩
theorem OwnG.set {w : World} {base B : Nat} {v : Value} {gs : List Gid} {cs : Array Value} (h : OwnG w base v gs) (hB : w.heap[B]? = some (.cells cs 41 (0, 0))) (i : Nat) (u : Value) : OwnG (w.setCell ⟨B, i, none⟩ u) base v gs :=
  World.ownsRow.kept h (grownBy_setCell w B i u) (own_ne h hB)
end Go.Proofs.Ytcleaamjfjnkkaa
