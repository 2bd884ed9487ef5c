/- The reference: which link is cut. -/
import Derived.Test.YtmiaifbpepfbnaaRDrop
import Derived.ChangeKeysEq
namespace Go.Proofs.Ytmiaifbpepfbnaa
open Go.RowKit Go.Joins Go.ChangeMaps

theorem grd60 : Try.prog.eqGuardType Try.prog.depth 60 = false := by kernel_rfl
theorem cells3 : Try.prog.cellsOf 3 = 1 := by kernel_rfl
theorem inf3 : ∃ i, Try.prog.info? 3 = some i ∧ i.size = 1 := ⟨_, rfl, rfl⟩
theorem eq60 (d : Nat) (w : World) (x1 x2 y1 y2 : Int) : (Op.equalIn (d + 1 + 1) 60 (.agg #[.int .i64 x1, .int .i64 x2]) (.agg #[.int .i64 y1, .int .i64 y2])).run Try.prog w = .ok (decide ((x1, x2) = (y1, y2))) w := by
  obtain ⟨i, hi, hs⟩ := inf3
  rw [run_equalIn_array w (d + 1) _ _ Try.underlying60 hi]
  rw [show List.range 2 = [0, 1] from rfl, cells3]
  simp [Op.eqItems, part, go_sem, run_equalIn_int _ d 3 .i64 .i64 _ _ Try.underlying3]
  by_cases h1 : x1 = y1 <;> by_cases h2 : x2 = y2 <;> simp [h1, h2]
theorem eql60 (w : World) (x1 x2 y1 y2 : Int) : (binOp .eql 60 (.agg #[.int .i64 x1, .int .i64 x2]) (.agg #[.int .i64 y1, .int .i64 y2])).run Try.prog w = .ok (.bool (decide ((x1, x2) = (y1, y2)))) w := by
  rw [run_eql_struct, eq60 9998]; rfl
def cutI (s : St) (a b : Int) : Int := if lk a b ∈ s.cuts then (s.cuts.idxOf (lk a b) : Int) else -1
theorem cutI_b (s : St) (a b : Int) : decide (0 ≤ cutI s a b) = cutB s a b := by
  unfold cutI cutB
  by_cases h : lk a b ∈ s.cuts
  · simp [h]
  · simp [h]
theorem idx_at (c : Pr) : ∀ (l : List Pr) (i : Nat), i < l.length → l.getD i default = c → (∀ j, j < i → l.getD j default ≠ c) → c ∈ l ∧ l.idxOf c = i
  | [], i, hi, _, _ => by simp at hi
  | x :: l, 0, _, h, _ => by simp at h; subst h; simp
  | x :: l, i + 1, hi, h, hno => by
    have h0 : x ≠ c := by simpa using hno 0 (by omega)
    obtain ⟨h1, h2⟩ := idx_at c l i (by simpa using hi) (by simpa using h) (fun j hj => by simpa using hno (j + 1) (by omega))
    have hb : (x == c) = false := beq_eq_false_iff_ne.2 h0
    refine ⟨List.mem_cons_of_mem _ h1, ?_⟩
    rw [List.idxOf_cons, hb, h2]
    rfl
theorem idx_none (c : Pr) (l : List Pr) (hno : ∀ j, j < l.length → l.getD j default ≠ c) : c ∉ l := by
  intro h
  obtain ⟨j, hj, e⟩ := List.getElem_of_mem h
  exact hno j hj (by rw [List.getD_eq_getElem?_getD, List.getElem?_eq_getElem hj]; exact e)
set_option maxHeartbeats 2000000 in
set_option maxRecDepth 100000 in
theorem rcut_idx (base q : Nat) (v c : Value) (s : St) (a b : Int) (w : World) (h : RN w base q v c s) :
    Calls Try.prog 39 #[.pointer (some ⟨q, 0, none⟩), .int .i64 a, .int .i64 b] w (SameI (cutI s a b) w) := by
  obtain ⟨ad, cap, rfl, hS, -⟩ := h.ownc.sli EP
  have c2 := h.c.1.2.2.1
  have hcm := hS.capm
  have hln := hS.len
  unfold maxLen at hcm
  have hSL := Lib.hid hS
  have hcI : Hid (cutI s a b = if lk a b ∈ s.cuts then (s.cuts.idxOf (lk a b) : Int) else -1) := rfl
  generalize cutI s a b = r at *
  generalize s.cuts = l at *
  clear h hS
  generalize hn : l.length = n at *
  have hN := Lib.hid hn
  clear hn
  have hmm : Hid (lk a b = (min a b, max a b)) := rfl
  go_enter Try.func39, Try.ntmps39
  go_wp2
  go_loopg [7] n (fun gk v7 wr => wr = w ∧ ∃ i : Nat, i + gk = n ∧ v7 = .int .i64 (i : Int) ∧ ∀ j, j < i → l.getD j default ≠ lk a b)
  case atStart => exact ⟨rfl, 0, by omega, rfl, by omega⟩
  case round =>
    obtain ⟨rfl, i, hik, rfl, hno⟩ := hrel
    have HNo := Lib.hid hno
    clear hno
    by_cases hlt : i < n
    · have hli : (i : Int) < (n : Int) := by omega
      obtain ⟨bb, off, hab, hc⟩ := hSL.out.lst i (by have := hN.out; omega)
      subst hab
      obtain ⟨g0, g1⟩ := pr_cells hc
      have hget := Lib.hid (show l.getD i default = ((l.getD i default).1, (l.getD i default).2) from rfl)
      generalize (l.getD i default).1 = x1 at *
      generalize (l.getD i default).2 = x2 at *
      by_cases hle : a < b
      · have hle2 : a ≤ b := Int.le_of_lt hle
        have hk : Hid (lk a b = (a, b)) := Prod.ext (show min a b = a by omega) (show max a b = b by omega)
        by_cases he : (x1, x2) = (a, b)
        · have hq : ∀ W, (binOp .eql 60 (.agg #[.int .i64 x1, .int .i64 x2]) (.agg #[.int .i64 a, .int .i64 b])).run Try.prog W = .ok (.bool true) W := fun W => (eql60 W x1 x2 a b).trans (by simp [he])
          have hE := Lib.hid he
          clear he
          go_wp2
          go_ret
          refine sameI ?_
          obtain ⟨m1, m2⟩ := idx_at (lk a b) l i (by have := hN.out; omega) (by rw [hget.out, hk.out, hE.out]) HNo.out
          rw [hcI.out, if_pos m1, m2]
        · have hq : ∀ W, (binOp .eql 60 (.agg #[.int .i64 x1, .int .i64 x2]) (.agg #[.int .i64 a, .int .i64 b])).run Try.prog W = .ok (.bool false) W := fun W => (eql60 W x1 x2 a b).trans (by simp only [he, decide_false])
          have hE := Lib.hid he
          clear he
          go_wp2
          go_roundg (gk - 1)
          case measure => omega
          case rel =>
            refine ⟨rfl, i + 1, by omega, by simp, fun j hj => ?_⟩
            by_cases hji : j = i
            · rw [hji, hget.out, hk.out]; exact hE.out
            · exact HNo.out j (by omega)
      · by_cases hgt : b < a
        · have hle2 : b ≤ a := Int.le_of_lt hgt
          clear hle
          have hk : Hid (lk a b = (b, a)) := Prod.ext (show min a b = b by omega) (show max a b = a by omega)
          by_cases he : (x1, x2) = (b, a)
          · have hq : ∀ W, (binOp .eql 60 (.agg #[.int .i64 x1, .int .i64 x2]) (.agg #[.int .i64 b, .int .i64 a])).run Try.prog W = .ok (.bool true) W := fun W => (eql60 W x1 x2 b a).trans (by simp [he])
            have hE := Lib.hid he
            clear he
            go_wp2
            go_ret
            refine sameI ?_
            obtain ⟨m1, m2⟩ := idx_at (lk a b) l i (by have := hN.out; omega) (by rw [hget.out, hk.out, hE.out]) HNo.out
            rw [hcI.out, if_pos m1, m2]
          · have hq : ∀ W, (binOp .eql 60 (.agg #[.int .i64 x1, .int .i64 x2]) (.agg #[.int .i64 b, .int .i64 a])).run Try.prog W = .ok (.bool false) W := fun W => (eql60 W x1 x2 b a).trans (by simp only [he, decide_false])
            have hE := Lib.hid he
            clear he
            go_wp2
            go_roundg (gk - 1)
            case measure => omega
            case rel =>
              refine ⟨rfl, i + 1, by omega, by simp, fun j hj => ?_⟩
              by_cases hji : j = i
              · rw [hji, hget.out, hk.out]; exact hE.out
              · exact HNo.out j (by omega)
        · obtain rfl : a = b := by omega
          have hle2 : a ≤ a := Int.le_refl a
          clear hle hgt
          have hk : Hid (lk a a = (a, a)) := Prod.ext (show min a a = a by omega) (show max a a = a by omega)
          by_cases he : (x1, x2) = (a, a)
          · have hq : ∀ W, (binOp .eql 60 (.agg #[.int .i64 x1, .int .i64 x2]) (.agg #[.int .i64 a, .int .i64 a])).run Try.prog W = .ok (.bool true) W := fun W => (eql60 W x1 x2 a a).trans (by simp [he])
            have hE := Lib.hid he
            clear he
            go_wp2
            go_ret
            refine sameI ?_
            obtain ⟨m1, m2⟩ := idx_at (lk a a) l i (by have := hN.out; omega) (by rw [hget.out, hk.out, hE.out]) HNo.out
            rw [hcI.out, if_pos m1, m2]
          · have hq : ∀ W, (binOp .eql 60 (.agg #[.int .i64 x1, .int .i64 x2]) (.agg #[.int .i64 a, .int .i64 a])).run Try.prog W = .ok (.bool false) W := fun W => (eql60 W x1 x2 a a).trans (by simp only [he, decide_false])
            have hE := Lib.hid he
            clear he
            go_wp2
            go_roundg (gk - 1)
            case measure => omega
            case rel =>
              refine ⟨rfl, i + 1, by omega, by simp, fun j hj => ?_⟩
              by_cases hji : j = i
              · rw [hji, hget.out, hk.out]; exact hE.out
              · exact HNo.out j (by omega)
    · obtain rfl : i = n := by omega
      clear hlt
      go_wp2
      go_ret
      refine sameI ?_
      rw [hcI.out, if_neg (idx_none _ _ (fun j hj => HNo.out j (by have := hN.out; omega)))]
def RUpd' (q : Nat) (v v' c c' : Value) (w w' : World) : Prop := Mod (RF q v c) w w' ∧ (∀ g, v'.ownBlock = some g → v.ownBlock = some g ∨ w.heap.size ≤ g) ∧ ∀ g, c'.ownBlock = some g → c.ownBlock = some g ∨ w.heap.size ≤ g
theorem RUpd'.from {q : Nat} {v v' c c' : Value} {w w2 w' : World} (hb : Below w.heap.size w w2) (h : RUpd' q v v' c c' w2 w') : RUpd' q v v' c c' w w' :=
  ⟨((Mod.belowAll hb).mono (fun _ _ c => c.elim)).trans h.1, fun g hg => (h.2.1 g hg).imp id (fun c => Nat.le_trans hb.size c), fun g hg => (h.2.2 g hg).imp id (fun c => Nat.le_trans hb.size c)⟩
theorem RUpd.fin {base q : Nat} {v v' c c' : Value} {s : St} {w w2 : World} (h2 : RN w2 base q v' c' s) (hr : ∀ k, RF q v' c' k → k ≠ w.heap.size) (h : RUpd' q v v' c c' w w2) (x y z : Value) :
    RUpd base q v c s w (((w2.setCell ⟨w.heap.size, 0, none⟩ x).setCell ⟨w.heap.size, 1, none⟩ y).setCell ⟨w.heap.size, 2, none⟩ z) := by
  have hm : Mod (fun k => k = w.heap.size) w2 (((w2.setCell ⟨w.heap.size, 0, none⟩ x).setCell ⟨w.heap.size, 1, none⟩ y).setCell ⟨w.heap.size, 2, none⟩ z) := ((mod_setCell _ 0 _ _).trans (mod_setCell _ 1 _ _)).trans (mod_setCell _ 2 _ _)
  exact ⟨v', c', h2.mod hm hr, h.1.then hm (fun i hi e => by omega), h.2.1, h.2.2⟩
set_option maxHeartbeats 2000000 in
set_option maxRecDepth 100000 in
theorem rtake_any (base q : Nat) (v c : Value) (s : St) (k : Int) (w : World) (h : RN w base q v c s) (hg : Good s) (hbase : base ≤ w.heap.size) :
    Calls Try.prog 23 #[.pointer (some ⟨q, 0, none⟩), .int .i64 k] w (RT (tkV (takeS s k).2) (RUpd base q v c (takeS s k).1 w)) := by
  have hB0 := Lib.hid (bel1 w (.cells #[.int .i64 0, .int .i64 0, .string ⟨#[]⟩] 31))
  have hr0 : Hid ((w.alloc (.cells #[.int .i64 0, .int .i64 0, .string ⟨#[]⟩] 31)).heap[w.heap.size]? = some (.cells #[.int .i64 0, .int .i64 0, .string ⟨#[]⟩] 31 (0, 0))) := heap_alloc_new w _
  have hP0 := Lib.hid (h.below hB0.out)
  have his := Lib.hid (is_any base q v c s k _ hP0.out)
  have hL := Lib.hid hg.len
  by_cases hk : inB s k = true
  · have hk' := hk
    simp [inB] at hk'
    obtain ⟨i, rfl⟩ := Int.eq_ofNat_of_zero_le hk'.1
    have hi : i < s.fl.length := by omega
    have hI := Lib.hid (show i < 1000 by have := hL.out; omega)
    have hD : takeS s (i : Int) = (leaveS s i, if cutB s (s.fl.getD i default).1 (s.fl.getD i default).2.1 = true then (nof, false) else (s.fl.getD i default, true)) := by simp [takeS, hk]
    rw [hD]
    rw [hk] at his
    obtain ⟨a, cap, rfl, hS, -⟩ := hP0.out.own.sli EF
    have hcm := hS.capm
    have hln := hS.len
    unfold maxLen at hcm
    have c1 := hP0.out.c.1.2.1
    obtain ⟨b, off, hab, hc⟩ := hS.lst i hi
    subst hab
    obtain ⟨g0, g1, g2⟩ := fr_cells hc
    have hlt := Lib.hid (fun k c => (h.lt k c).2)
    have hcb := cutI_b (leaveS s i) (s.fl.getD i default).1 (s.fl.getD i default).2.1
    rw [show cutB (leaveS s i) (s.fl.getD i default).1 (s.fl.getD i default).2.1 = cutB s (s.fl.getD i default).1 (s.fl.getD i default).2.1 from rfl] at hcb
    generalize s.fl.getD i default = f at *
    obtain ⟨f0, f1, f2⟩ := f
    simp only at hcb
    have hX := Lib.hid (bel1 (w.alloc (.cells #[.int .i64 0, .int .i64 0, .string ⟨#[]⟩] 31)) (.cells #[.int .i64 f0, .int .i64 f1, .string f2] 31))
    have hPX := Lib.hid (hP0.out.below hX.out)
    have hnb : Hid (((w.alloc (.cells #[.int .i64 0, .int .i64 0, .string ⟨#[]⟩] 31)).alloc (.cells #[.int .i64 f0, .int .i64 f1, .string f2] 31)).heap[w.heap.size + 1]? = some (.cells #[.int .i64 f0, .int .i64 f1, .string f2] 31)) := by
      have := heap_alloc_new (w.alloc (.cells #[.int .i64 0, .int .i64 0, .string ⟨#[]⟩] 31)) (.cells #[.int .i64 f0, .int .i64 f1, .string f2] 31)
      rw [show (w.alloc (.cells #[.int .i64 0, .int .i64 0, .string ⟨#[]⟩] 31)).heap.size = w.heap.size + 1 by simp] at this
      exact this
    have hin : (i : Int) < (s.fl.length : Int) := by omega
    have h0i : (0 : Int) ≤ (i : Int) := by omega
    have hnk : ¬ s.fl.length ≤ i := by omega
    clear hk hk' hi h hc hS hD hg
    by_cases hc : cutB s f0 f1 = true
    · rw [if_pos hc]
      have hr : 0 ≤ cutI (leaveS s i) f0 f1 := by rw [hc] at hcb; simpa using hcb
      clear hcb
      clear hc
      go_enter Try.func23, Try.ntmps23
      go_wp2_with (first
        | (go_at_call 30; refine his.out.mono ?_; rintro e w1 ⟨rfl, rfl⟩)
        | (go_at_call 38; refine (rleave_any base q _ c s i _ hPX.out hL.out (Nat.le_trans hbase (Nat.le_trans hB0.out.size hX.out.size)) hI.out).mono ?_; rintro e w2 ⟨rfl, v', c', hPN2, hM2, hv2, hc2⟩; have hP2 := Lib.hid hPN2; have hrb2 := Lib.hid (hM2.heap (blk_below hr0.out hX.out) (fun c => absurd (hlt.out _ c) (Nat.lt_irrefl _))); have hnb2 := Lib.hid (hM2.heap hnb.out (fun c => absurd (hlt.out _ c) (by simp))); have hU := Lib.hid (And.intro (RUpd.from (grew_trans hB0.out hX.out) ⟨v', c', hPN2, hM2, hv2, hc2⟩) hM2); have HV := Lib.hid hv2; have HC := Lib.hid hc2; have m0 := (cell_of hnb2.out 0 (v := .int .i64 f0) rfl).1; have m1 := (cell_of hnb2.out 1 (v := .int .i64 f1) rfl).1; have m2 := (cell_of hnb2.out 2 (v := .string f2) rfl).1; have d0 := (cell_of hrb2.out 0 (v := .int .i64 0) rfl).1; have d1 := (cell_of hrb2.out 1 (v := .int .i64 0) rfl).1; have d2 := (cell_of hrb2.out 2 (v := .string ⟨#[]⟩) rfl).1; have q0 := (cell_of hrb2.out 0 (v := .int .i64 0) rfl).2; have q1 := (cell_of hrb2.out 1 (v := .int .i64 0) rfl).2; have q2 := (cell_of hrb2.out 2 (v := .string ⟨#[]⟩) rfl).2; clear hPN2 hM2 hv2 hc2)
        | (go_at_call 39; refine (rcut_idx base q _ _ (leaveS s i) f0 f1 _ hP2.out).mono ?_; rintro e w3 ⟨rfl, rfl⟩))
      refine bodyPost_ret (results_fr rfl _ _ w.heap.size _ (0, 0) rfl rfl (set3_blk hrb2.out)) rfl ?_
      refine ⟨rfl, RUpd.fin hP2.out (fun k c => ?_) (RUpd'.from (grew_trans hB0.out hX.out) ⟨hU.out.2, HV.out, HC.out⟩) _ _ _⟩
      rintro rfl
      rcases c with c | c | c
      · exact absurd (hlt.out _ (.inl c)) (Nat.lt_irrefl _)
      · rcases HV.out _ c with c | c
        · exact absurd (hlt.out _ (.inr (.inl c))) (Nat.lt_irrefl _)
        · simp at c; omega
      · rcases HC.out _ c with c | c
        · exact absurd (hlt.out _ (.inr (.inr c))) (Nat.lt_irrefl _)
        · simp at c; omega
    · rw [if_neg hc]
      have hr : cutI (leaveS s i) f0 f1 < 0 := by rw [show cutB s f0 f1 = false by simpa using hc] at hcb; simpa using hcb
      clear hcb
      clear hc
      go_enter Try.func23, Try.ntmps23
      go_wp2_with (first
        | (go_at_call 30; refine his.out.mono ?_; rintro e w1 ⟨rfl, rfl⟩)
        | (go_at_call 38; refine (rleave_any base q _ c s i _ hPX.out hL.out (Nat.le_trans hbase (Nat.le_trans hB0.out.size hX.out.size)) hI.out).mono ?_; rintro e w2 ⟨rfl, v', c', hPN2, hM2, hv2, hc2⟩; have hP2 := Lib.hid hPN2; have hrb2 := Lib.hid (hM2.heap (blk_below hr0.out hX.out) (fun c => absurd (hlt.out _ c) (Nat.lt_irrefl _))); have hnb2 := Lib.hid (hM2.heap hnb.out (fun c => absurd (hlt.out _ c) (by simp))); have hU := Lib.hid (And.intro (RUpd.from (grew_trans hB0.out hX.out) ⟨v', c', hPN2, hM2, hv2, hc2⟩) hM2); have HV := Lib.hid hv2; have HC := Lib.hid hc2; have m0 := (cell_of hnb2.out 0 (v := .int .i64 f0) rfl).1; have m1 := (cell_of hnb2.out 1 (v := .int .i64 f1) rfl).1; have m2 := (cell_of hnb2.out 2 (v := .string f2) rfl).1; have d0 := (cell_of hrb2.out 0 (v := .int .i64 0) rfl).1; have d1 := (cell_of hrb2.out 1 (v := .int .i64 0) rfl).1; have d2 := (cell_of hrb2.out 2 (v := .string ⟨#[]⟩) rfl).1; have q0 := (cell_of hrb2.out 0 (v := .int .i64 0) rfl).2; have q1 := (cell_of hrb2.out 1 (v := .int .i64 0) rfl).2; have q2 := (cell_of hrb2.out 2 (v := .string ⟨#[]⟩) rfl).2; clear hPN2 hM2 hv2 hc2)
        | (go_at_call 39; refine (rcut_idx base q _ _ (leaveS s i) f0 f1 _ hP2.out).mono ?_; rintro e w3 ⟨rfl, rfl⟩))
      refine bodyPost_ret (results_fr rfl _ _ w.heap.size _ (0, 0) rfl rfl (set3_blk hrb2.out)) rfl ?_
      refine ⟨rfl, RUpd.fin hP2.out (fun k c => ?_) (RUpd'.from (grew_trans hB0.out hX.out) ⟨hU.out.2, HV.out, HC.out⟩) _ _ _⟩
      rintro rfl
      rcases c with c | c | c
      · exact absurd (hlt.out _ (.inl c)) (Nat.lt_irrefl _)
      · rcases HV.out _ c with c | c
        · exact absurd (hlt.out _ (.inr (.inl c))) (Nat.lt_irrefl _)
        · simp at c; omega
      · rcases HC.out _ c with c | c
        · exact absurd (hlt.out _ (.inr (.inr c))) (Nat.lt_irrefl _)
        · simp at c; omega
  · have hk' : inB s k = false := by simpa using hk
    have hD : Hid (takeS s k = (s, nof, false)) := by simp [Hid, takeS, hk]
    rw [hD.out]
    rw [hk'] at his
    obtain ⟨hh, d0, d1, d2, q0, q1, q2⟩ := And.intro hr0.out (And.intro (cell_of hr0.out 0 (v := .int .i64 0) rfl).1 (And.intro (cell_of hr0.out 1 (v := .int .i64 0) rfl).1 (And.intro (cell_of hr0.out 2 (v := .string ⟨#[]⟩) rfl).1 (And.intro (cell_of hr0.out 0 (v := .int .i64 0) rfl).2 (And.intro (cell_of hr0.out 1 (v := .int .i64 0) rfl).2 (cell_of hr0.out 2 (v := .string ⟨#[]⟩) rfl).2)))))
    have hH := Lib.hid hh
    have hP := Lib.hid h
    clear hk hk' h hg hh
    go_enter Try.func23, Try.ntmps23
    go_wp2_with (go_at_call 30; refine his.out.mono ?_; rintro e w1 ⟨rfl, rfl⟩)
    refine bodyPost_ret (results_fr rfl _ _ w.heap.size _ (0, 0) rfl rfl hH.out) rfl ?_
    exact ⟨rfl, RUpd.same hP.out hB0.out⟩
end Go.Proofs.Ytmiaifbpepfbnaa
