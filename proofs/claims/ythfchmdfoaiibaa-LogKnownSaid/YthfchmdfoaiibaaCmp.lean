/- Lists that are compared. -/
import Derived.Test.YthfchmdfoaiibaaChk
namespace Go.Proofs.Ythfchmdfoaiibaa
open Go.RowKit Go.Joins

set_option maxRecDepth 100000 in
theorem rsame_any (xs ys : List Ent) (ax ay : Option Addr) (cx cy : Nat) (w : World) (hx : Ents w ax xs) (hy : Ents w ay ys) (hlx : xs.length ≤ maxLen) :
    Calls Try.prog 19 #[.slice ax xs.length cx, .slice ay ys.length cy] w (QuietB (decide (xs = ys)) w) := by
  unfold maxLen at hlx
  by_cases hl : xs.length = ys.length
  · have hb : ((xs.length : Int) == (ys.length : Int)) = true := by simp [hl]
    have hb2 : ((xs.length : Int) != (ys.length : Int)) = false := by simp [hl]
    rw [← hl]
    rw [← hl] at hb hb2
    have HL := Lib.hid hl
    clear hl
    go_enter Try.func19, Try.ntmps19
    go_wp2
    go_loopg [5] xs.length (fun k v5 wr => ∃ i : Nat, i + k = xs.length ∧ v5 = .int .i64 (i : Int) ∧ xs.take i = ys.take i ∧ ∃ q, wr = w.drewN q)
    case atStart => exact ⟨0, by omega, rfl, rfl, 0, rfl⟩
    case round =>
      obtain ⟨i, hik, rfl, heq, q, hq⟩ := hrel
      have HQ := Lib.hid hq
      clear hq
      have HE := Lib.hid heq
      clear heq
      by_cases hlt : i < xs.length
      · obtain ⟨b, off, rfl, hc⟩ := hx i hlt
        obtain ⟨b', off', rfl, hc'⟩ := hy i (by have := HL.out; omega)
        have g : EC wr b (off + i * 4) (xs.getD i default) := by rw [HQ.out]; exact hc
        have g' : EC wr b' (off' + i * 4) (ys.getD i default) := by rw [HQ.out]; exact hc'
        have hs : Hid (xs.getD i default = ys.getD i default → xs.take (i + 1) = ys.take (i + 1)) := fun hz => by
          have h2 : i < ys.length := by have := HL.out; omega
          rw [take_snoc xs i default hlt, take_snoc ys i default h2, HE.out, hz]
        have hn : Hid (xs.getD i default ≠ ys.getD i default → false = decide (xs = ys)) := fun hz => by
          have : xs ≠ ys := fun e => hz (by rw [e])
          simp [this]
        clear hc hc'
        generalize xs.getD i default = x at *
        generalize ys.getD i default = y at *
        obtain ⟨x1, x2, x3, x4⟩ := x
        obtain ⟨y1, y2, y3, y4⟩ := y
        obtain ⟨g1, g2, g3, g4⟩ := g
        obtain ⟨g1', g2', g3', g4'⟩ := g'
        simp only at g1 g2 g3 g4 g1' g2' g3' g4'
        have hq := fun w => neq33 w x1 x2 x3 x4 y1 y2 y3 y4
        have hgd := grd33
        by_cases hz : ((x1, x2, x3, x4) : Ent) = (y1, y2, y3, y4)
        · have he : eqE (x1, x2, x3, x4) (y1, y2, y3, y4) = true := by unfold eqE; simpa using hz
          have HS := Lib.hid (hs.out hz)
          clear hz hn hs
          go_wp2
          go_quiet (fail)
          go_wp2
          go_roundg (gk - 1)
          case measure => omega
          case rel => exact ⟨i + 1, by omega, by simp, HS.out, q + nq, by rw [HQ.out]; simp [World.drewN, Nat.add_assoc]⟩
        · have he : eqE (x1, x2, x3, x4) (y1, y2, y3, y4) = false := by unfold eqE; simpa using hz
          have HS := Lib.hid (hn.out hz)
          clear hz hn hs
          go_wp2
          go_quiet (fail)
          go_wp2
          go_ret
          exact quietB HS.out ⟨q + nq, by rw [HQ.out]; simp [World.drewN, Nat.add_assoc]⟩
      · have hs : Hid (true = decide (xs = ys)) := by
          have e := HE.out
          rw [List.take_of_length_le (by omega), List.take_of_length_le (by have := HL.out; omega)] at e
          simp [Hid, e]
        go_wp2
        go_ret
        exact quietB hs.out ⟨q, HQ.out⟩
  · have hs : Hid (false = decide (xs = ys)) := by
      have : xs ≠ ys := fun e => hl (by rw [e])
      simp [Hid, this]
    have hb : ((xs.length : Int) == (ys.length : Int)) = false := by simp; omega
    have hb2 : ((xs.length : Int) != (ys.length : Int)) = true := by simp; omega
    go_enter Try.func19, Try.ntmps19
    go_wp2
    go_ret
    exact quietB hs.out ⟨0, rfl⟩

set_option maxRecDepth 100000 in
theorem guids_any (xs ys : List Gid) (ax ay : Option Addr) (cx cy : Nat) (w : World) (hx : Gids w ax xs) (hy : Gids w ay ys) (hlx : xs.length ≤ maxLen) :
    Calls Try.prog 38 #[.slice ax xs.length cx, .slice ay ys.length cy] w (QuietB (decide (xs = ys)) w) := by
  unfold maxLen at hlx
  by_cases hl : xs.length = ys.length
  · have hb : ((xs.length : Int) == (ys.length : Int)) = true := by simp [hl]
    have hb2 : ((xs.length : Int) != (ys.length : Int)) = false := by simp [hl]
    rw [← hl]
    rw [← hl] at hb hb2
    have HL := Lib.hid hl
    clear hl
    go_enter Try.func38, Try.ntmps38
    go_wp2
    go_loopg [5] xs.length (fun k v5 wr => ∃ i : Nat, i + k = xs.length ∧ v5 = .int .i64 (i : Int) ∧ xs.take i = ys.take i ∧ ∃ q, wr = w.drewN q)
    case atStart => exact ⟨0, by omega, rfl, rfl, 0, rfl⟩
    case round =>
      obtain ⟨i, hik, rfl, heq, q, hq⟩ := hrel
      have HQ := Lib.hid hq
      clear hq
      have HE := Lib.hid heq
      clear heq
      by_cases hlt : i < xs.length
      · obtain ⟨b, off, rfl, hc⟩ := hx i hlt
        obtain ⟨b', off', rfl, hc'⟩ := hy i (by have := HL.out; omega)
        have g : GC wr b (off + i * 2) (xs.getD i default) := by rw [HQ.out]; exact hc
        have g' : GC wr b' (off' + i * 2) (ys.getD i default) := by rw [HQ.out]; exact hc'
        have hs : Hid (xs.getD i default = ys.getD i default → xs.take (i + 1) = ys.take (i + 1)) := fun hz => by
          have h2 : i < ys.length := by have := HL.out; omega
          rw [take_snoc xs i default hlt, take_snoc ys i default h2, HE.out, hz]
        have hn : Hid (xs.getD i default ≠ ys.getD i default → false = decide (xs = ys)) := fun hz => by
          have : xs ≠ ys := fun e => hz (by rw [e])
          simp [this]
        clear hc hc'
        generalize xs.getD i default = x at *
        generalize ys.getD i default = y at *
        obtain ⟨x1, x2⟩ := x
        obtain ⟨y1, y2⟩ := y
        obtain ⟨g1, g2⟩ := g
        obtain ⟨g1', g2'⟩ := g'
        simp only at g1 g2 g1' g2'
        have hq := fun w => neq31 w x1 x2 y1 y2
        have hgd := grd31
        by_cases hz : ((x1, x2) : Gid) = (y1, y2)
        · have he : eqG (x1, x2) (y1, y2) = true := by unfold eqG; simpa using hz
          have HS := Lib.hid (hs.out hz)
          clear hz hn hs
          go_wp2
          go_quiet (fail)
          go_wp2
          go_roundg (gk - 1)
          case measure => omega
          case rel => exact ⟨i + 1, by omega, by simp, HS.out, q + nq, by rw [HQ.out]; simp [World.drewN, Nat.add_assoc]⟩
        · have he : eqG (x1, x2) (y1, y2) = false := by unfold eqG; simpa using hz
          have HS := Lib.hid (hn.out hz)
          clear hz hn hs
          go_wp2
          go_quiet (fail)
          go_wp2
          go_ret
          exact quietB HS.out ⟨q + nq, by rw [HQ.out]; simp [World.drewN, Nat.add_assoc]⟩
      · have hs : Hid (true = decide (xs = ys)) := by
          have e := HE.out
          rw [List.take_of_length_le (by omega), List.take_of_length_le (by have := HL.out; omega)] at e
          simp [Hid, e]
        go_wp2
        go_ret
        exact quietB hs.out ⟨q, HQ.out⟩
  · have hs : Hid (false = decide (xs = ys)) := by
      have : xs ≠ ys := fun e => hl (by rw [e])
      simp [Hid, this]
    have hb : ((xs.length : Int) == (ys.length : Int)) = false := by simp; omega
    have hb2 : ((xs.length : Int) != (ys.length : Int)) = true := by simp; omega
    go_enter Try.func38, Try.ntmps38
    go_wp2
    go_ret
    exact quietB hs.out ⟨0, rfl⟩

set_option maxRecDepth 100000 in
theorem has_any (a : Option Addr) (cap : Nat) (es : List Ent) (w : World) (hE : Ents w a es) (hlen : es.length ≤ maxLen) :
    Calls Try.prog 25 #[.slice a es.length cap] w (SameB (es.any fun e => decide (e.2.1 = 1)) w) := by
  unfold maxLen at hlen
  have HE := Lib.hid hE
  clear hE
  go_enter Try.func25, Try.ntmps25
  go_wp2
  go_loopg [3] es.length (fun k v3 wr => ∃ i : Nat, i + k = es.length ∧ v3 = .int .i64 (i : Int) ∧ (∀ j, j < i → (es.getD j default).2.1 ≠ 1) ∧ wr = w)
  case atStart => exact ⟨0, by omega, rfl, fun j hj => by omega, rfl⟩
  case round =>
    obtain ⟨i, hik, rfl, hall, rfl⟩ := hrel
    have HALL := Lib.hid hall
    clear hall
    by_cases hlt : i < es.length
    · obtain ⟨b, off, rfl, -, g2, -⟩ := HE.out i hlt
      have HY : Hid ((es.getD i default).2.1 = 1 → (true = es.any fun e => decide (e.2.1 = 1))) := fun h => by
        refine Eq.symm (?_ : _ = true)
        rw [List.any_eq_true]
        exact ⟨es.getD i default, by simp [hlt], by simpa using h⟩
      have HN : Hid ((es.getD i default).2.1 ≠ 1 → ∀ j, j < i + 1 → (es.getD j default).2.1 ≠ 1) := fun h j hj => by
        by_cases e : j = i
        · subst e; exact h
        · exact HALL.out j (by omega)
      generalize (es.getD i default).2.1 = k at g2 HY HN
      by_cases hk : k = 1
      · subst hk
        have HS := Lib.hid (HY.out rfl)
        clear HY HN
        go_wp2
        go_ret
        exact sameB HS.out
      · have hb : (k == 1) = false := by simpa using hk
        have HS := Lib.hid (HN.out hk)
        clear HY HN hk
        go_wp2
        go_roundg (gk - 1)
        case measure => omega
        case rel => exact ⟨i + 1, by omega, by simp, HS.out, rfl⟩
    · have HS : Hid (false = es.any fun e => decide (e.2.1 = 1)) := by
        refine Eq.symm ?_
        rw [List.any_eq_false]
        intro x hx
        obtain ⟨j, hj, rfl⟩ := List.getElem_of_mem hx
        have := HALL.out j (by omega)
        simpa [hj] using this
      go_wp2
      go_ret
      exact sameB HS.out

/-- what a log says. -/
abbrev Line := Int × Int × Bool × List Gid
def eqL (x y : Line) : Bool := decide (x = y)
set_option maxRecDepth 100000 in
set_option maxHeartbeats 1000000 in
theorem lines_any (e1 b1 e2 b2 : Int) (l1 l2 : Bool) (gs hs : List Gid) (ax ay : Option Addr) (cx cy : Nat) (w : World) (hx : Gids w ax gs) (hy : Gids w ay hs) (hlx : gs.length ≤ maxLen) :
    Calls Try.prog 20 #[.agg #[.int .u64 e1, .int .i64 b1, .bool l1, .slice ax gs.length cx], .agg #[.int .u64 e2, .int .i64 b2, .bool l2, .slice ay hs.length cy]] w (RetB (eqL (e1, b1, l1, gs) (e2, b2, l2, hs)) w) := by
  have HB : Hid (∀ (o1 o2 : Obj), Below w.heap.size w ((w.alloc o1).alloc o2)) := fun o1 o2 => ((Below.refl _ w).alloc (Nat.le_refl _) o1).alloc (by simp) o2
  have hO : Hid (eqL (e1, b1, l1, gs) (e2, b2, l2, hs) = (decide (e1 = e2) && (decide (b1 = b2) && (decide (l1 = l2) && decide (gs = hs))))) := by
    unfold Hid eqL
    rw [Bool.eq_iff_iff]; simp
  have hg : Hid (∀ o1 o2, Calls Try.prog 38 #[.slice ax gs.length cx, .slice ay hs.length cy] ((w.alloc o1).alloc o2) (RetB (decide (gs = hs)) ((w.alloc o1).alloc o2))) := fun o1 o2 => by
    refine (guids_any gs hs ax ay cx cy _ (gids_below hx (HB.out _ _)) (gids_below hy (HB.out _ _)) hlx).mono ?_
    rintro e w3 ⟨rfl, q, rfl⟩
    exact ⟨rfl, below_drewN' _ q⟩
  clear hx hy hlx
  generalize decide (gs = hs) = bg at hO hg
  by_cases h1 : e1 = e2
  · subst h1
    by_cases h2 : b1 = b2
    · subst h2
      by_cases h3 : l1 = l2
      · subst h3
        have hl : (l1 == l1) = true := by cases l1 <;> rfl
        go_enter Try.func20, Try.ntmps20
        go_wp2_with (go_at_call 38; refine (hg.out _ _).mono ?_; rintro e w3 ⟨rfl, hb3⟩)
        go_ret
        exact retB (by rw [hO.out]; simp) (grew_trans (HB.out _ _) hb3)
      · have hl : (l1 == l2) = false := by cases l1 <;> cases l2 <;> simp_all
        have K := Lib.hid h3
        clear h3
        go_enter Try.func20, Try.ntmps20
        go_wp2
        go_ret
        exact retB (by rw [hO.out]; simp [K.out]) (HB.out _ _)
    · have hb : (b1 == b2) = false := by simpa using h2
      have K := Lib.hid h2
      clear h2
      go_enter Try.func20, Try.ntmps20
      go_wp2
      go_ret
      exact retB (by rw [hO.out]; simp [K.out]) (HB.out _ _)
  · have hb : (e1 == e2) = false := by simpa using h1
    have K := Lib.hid h1
    clear h1
    go_enter Try.func20, Try.ntmps20
    go_wp2
    go_ret
    exact retB (by rw [hO.out]; simp [K.out]) (HB.out _ _)
end Go.Proofs.Ythfchmdfoaiibaa
