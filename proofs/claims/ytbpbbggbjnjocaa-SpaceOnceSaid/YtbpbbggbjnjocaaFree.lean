/- The callers of the sectors that nobody holds. -/
import Derived.Test.YtbpbbggbjnjocaaIter
import Derived.Maps.AppendAt
import Derived.Deep.Onto
import Derived.Shelf.RegionOpen
namespace Go.Proofs.Ytbpbbggbjnjocaa
open Go.RowKit Go.Shelf
attribute [local go_sem] Oper.semAt_some

theorem normally {F : Fence} {n : Nat} {P : Program} {c : Code} {Q : Exit → Act → World → Prop} {a : Act} {w : World} (h : c.wpIn F n P (Exit.then (fun a w => Q .normal a w) (fun _ _ _ => False)) a w) : c.wpIn F n P Q a w :=
  wpIn_mono h (by intro e a w hp; cases e <;> first | exact hp | exact hp.elim)

set_option maxRecDepth 100000 in
set_option maxHeartbeats 2000000 in
theorem free_any (a : Option Addr) (cap : Nat) (cs : List Int) (w : World) (hrow : Row w a cs) (hlen : cs.length ≤ maxLen) :
    Calls Try.prog 14 #[.slice a cs.length cap] w (RetI (frees cs).length w) := by
  refine callsIn_wide (n := 3) |>.1 ?_
  have hfl : (frees cs).length ≤ 9223372036854775807 := by have := freesTo_len cs cs.length; unfold maxLen at hlen; unfold frees; omega
  refine callsIn_of_wp_marks Try.func14 rfl trivial ?_ rfl
  simp only [Try.ntmps14, List.size_toArray, List.length_cons, List.length_nil, Nat.reduceAdd, Nat.reduceSub, Array.replicate_succ, Array.replicate_zero, List.push_toArray, List.append_toArray, List.nil_append, List.cons_append]
  gi_wp2_with (refine ⟨trivial, ?_⟩; gi_at_call 17; refine (free_in Fence.wide 2 trivial rfl _ _ _ _).mono ?_; rintro e w' ⟨rfl, rfl⟩)
  have bO := Boxed.new w 3 (.int .i64 0)
  have bN := Boxed.new (w.alloc (.cells #[.int .i64 0] 3)) 23 (.slice a cs.length cap)
  rw [World.size_alloc] at bN
  have hB0 : Below w.heap.size w ((w.alloc (.cells #[.int .i64 0] 3)).alloc (.cells #[.slice a cs.length cap] 23)) := ((Below.refl _ w).alloc (Nat.le_refl _) _).alloc (by simp) _
  refine wpIn_rangeFunc_ownG rfl (by decide) (gf := 19) (lb := #[.pointer (some ⟨w.heap.size + 1, 0, none⟩)]) rfl trivial (enters_of Try.func19 (by kernel_rfl) rfl)
    (free_stops Fence.wide (3 - 1) trivial rfl (by omega) (w.heap.size + 1) w a cap cs hrow hlen _ hB0 bN) (fun h k => h.trans k) (Kept.put (by simp; omega) (by simp)) (Below.refl _ _) (fun _ => rfl)
    (fun pre W => Boxed W w.heap.size 3 (.int .i64 (pre.length : Int)) ∧ Below w.heap.size w W)
    (fun _ _ _ => False)
    (OwnFrom.and (Own.from (boxed_own w.heap.size 3 (fun (pre : List Int) => .int .i64 (pre.length : Int))) _) (ownFrom_below (Nat.le_refl _) (by simp; omega)))
    (fun _ _ _ _ _ hs _ _ => hs)
    ⟨bO.alloc _, hB0⟩
    (fun x => { tmps := #[Value.slice a cs.length cap, undef, Value.int IntKind.i64 0,
          Value.pointer (some { block := w.heap.size, off := 0 }), Value.slice a cs.length cap,
          Value.func (Fn.func 19) #[] #[Value.pointer (some { block := w.heap.size + 1, off := 0 })], .int .i64 x, undef,
          undef, undef], defers := [] }) ?assign ?body ?done ?stop
  case assign =>
    intro l x W K hK
    gi_wp2
    simpa using hK
  case body =>
    rintro l pre x W ⟨hv, hB⟩ hlt
    have hc := hv.cell
    have hfz := hv.frozen
    have hl2 : (pre.length : Int) + 1 ≤ 9223372036854775807 := by omega
    gi_wp2
    refine ⟨(KeepsOthers.setCell _ _ _).from _, ⟨(Below.refl w.heap.size W).setCell (p := ⟨w.heap.size, 0, none⟩) (Nat.le_refl _) _, fun sv hs => hs.other (by omega) _⟩, ?_, hB.setCell (p := ⟨w.heap.size, 0, none⟩) (Nat.le_refl _) _⟩
    have := hv.set (.int .i64 ((pre.length : Int) + 1))
    simpa using this
  case done =>
    rintro D ys W hD rfl ⟨hv, hB⟩ hK
    have hc := hv.cell
    gi_wp2
    refine ⟨by simp, .inl ⟨_, _, rfl, run_takeDeferred hK, ?_⟩⟩
    exact ⟨_, results_tmp rfl _ _ _, rfl, hB.trans (belowK_b (w := w) (Nat.le_refl _) W D _ _ (by simp at hD; omega) hK rfl rfl)⟩
  case stop =>
    rintro D c pre W _ _ h _
    exact h.elim

theorem info3 : (Try.prog.info? 3).map (fun i => (i.zero, i.size, i.bytes)) = some (some (.int .i64 0), 1, 8) := by kernel_rfl

/-- what a function hands back that hands back numbers and a code. -/
def LPost (xs : List Int) (er : Int) (w : World) (e : Ending) (w' : World) : Prop :=
  ∃ v, e = .returned (.tuple #[v, .int .i64 er]) ∧ w'.ownsRow w.heap.size 3 1 v xs.length (xs.map (Value.int .i64)) ∧ Below w.heap.size w w'

/-- what Take answers. -/
def takes (cs : List Int) (n : Int) : List Int := if n < 0 then [] else if (frees cs).length < n then [] else (frees cs).take n.toNat
def takesE (cs : List Int) (n : Int) : Int := if n < 0 then 2 else if (frees cs).length < n then 7 else 0
theorem take_prefix_of {q xs : List Int} {x : Int} {n : Nat} (h : q ++ [x] <+: xs) (hq : q.length = n) : q = xs.take n := by
  obtain ⟨t, rfl⟩ := h
  subst hq
  simp
set_option maxRecDepth 100000 in
set_option maxHeartbeats 2000000 in
theorem take_any (a : Option Addr) (cap : Nat) (cs : List Int) (n : Int) (w : World) (hrow : Row w a cs) (hlen : cs.length ≤ maxLen) (hbytes : cs.length * 8 ≤ 140737488355328) :
    Calls Try.prog 12 #[.slice a cs.length cap, .int .i64 n] w (LPost (takes cs n) (takesE cs n) w) := by
  refine callsIn_wide (n := 3) |>.1 ?_
  have hfl : (frees cs).length ≤ cs.length := freesTo_len cs cs.length
  obtain ⟨i0, hi, hz0, hz1, hz2⟩ := info_parts info3
  refine callsIn_of_wp_marks Try.func12 rfl trivial ?_ rfl
  simp only [Try.ntmps12, List.size_toArray, List.length_cons, List.length_nil, Nat.reduceAdd, Nat.reduceSub, Array.replicate_succ, Array.replicate_zero, List.push_toArray, List.append_toArray, List.nil_append, List.cons_append]
  gi_wp2_with (refine ⟨trivial, ?_⟩; gi_at_call 17; refine (free_in Fence.wide 2 trivial rfl _ _ _ _).mono ?_; rintro e w' ⟨rfl, rfl⟩)
  · have hn : n < 0 := by assumption
    rw [show takes cs n = [] from if_pos hn, show takesE cs n = 2 from if_pos hn]
    refine ⟨_, results_tmp2 rfl _ _ _, ?_⟩
    exact ⟨_, rfl, World.ownsRow_nil _ _ _ _, (Below.refl _ w).alloc (Nat.le_refl _) _⟩
  · have hn : 0 ≤ n := by assumption
    have hmix : Try.prog.follows .mixedOrders = true := by kernel_rfl
    have bN := Boxed.new w 3 (.int .i64 n)
    have hc := bN.cell
    refine normally ?_
    gi_region_with_o (refine ⟨trivial, ?_⟩; gi_at_call 14; refine (callsIn_wide.2 (free_any a cap cs _ (row_below hrow (((Below.refl _ w).alloc (Nat.le_refl _) _).drew)) hlen)).mono ?_; rintro e w1 ⟨rfl, hb1⟩; have hc1 := (hb1.cell (p := ⟨w.heap.size, 0, none⟩) (by simp)).trans hc)
    all_goals have hbw : Below w.heap.size w w1 := ((Below.refl _ w).alloc (Nat.le_refl _) _).drew.trans (hb1.mono (by simp))
    all_goals have hsz : w.heap.size < w1.heap.size := by have := hb1.size; simp at this; omega
    · gi_wp2_with (refine ⟨trivial, ?_⟩; gi_at_call 17; refine (free_in Fence.wide 2 trivial rfl _ _ _ _).mono ?_; rintro e w' ⟨rfl, rfl⟩)
      · have hf : ((frees cs).length : Int) < n := by assumption
        rw [show takes cs n = [] from (if_neg (by omega)).trans (if_pos hf), show takesE cs n = 7 from (if_neg (by omega)).trans (if_pos hf)]
        refine ⟨_, results_tmp2 rfl _ _ _, ?_⟩
        exact ⟨_, rfl, World.ownsRow_nil _ _ _ _, hbw⟩
      have hf : n ≤ ((frees cs).length : Int) := by assumption
      have bO := Boxed.new w1 23 (.slice none 0 0)
      have bS := Boxed.new (w1.alloc (.cells #[.slice none 0 0] 23)) 23 (.slice a cs.length cap)
      rw [World.size_alloc] at bS
      have hB1 : Below w1.heap.size w1 ((w1.alloc (.cells #[.slice none 0 0] 23)).alloc (.cells #[.slice a cs.length cap] 23)) := ((Below.refl _ w1).alloc (Nat.le_refl _) _).alloc (by simp) _
      have hB0 := hbw.trans (hB1.mono hbw.size)
      have hT : Hid (takes cs n = (frees cs).take n.toNat ∧ takesE cs n = 0) := ⟨(if_neg (by omega)).trans (if_neg (by omega)), (if_neg (by omega)).trans (if_neg (by omega))⟩
      refine wpIn_rangeFunc_ownG rfl (by decide) (gf := 19) (lb := #[.pointer (some ⟨w1.heap.size + 1, 0, none⟩)]) rfl trivial (enters_of Try.func19 (by kernel_rfl) rfl)
        (free_stops Fence.wide (3 - 1) trivial rfl (by omega) (w1.heap.size + 1) w a cap cs hrow hlen _ hB0 bS) (fun h k => h.trans k) (Kept.put (by simp; omega) (by simp)) (Below.refl _ _) (fun _ => rfl)
        (fun pre W => ((∃ v, Boxed W w1.heap.size 23 v ∧ W.ownsRow w1.heap.size 3 1 v pre.length (pre.map (Value.int .i64)) ∧ True) ∧ Below w1.heap.size w1 W) ∧ (pre.length : Int) ≤ n)
        (fun c pre W => ((∃ v, Boxed W w1.heap.size 23 v ∧ W.ownsRow w1.heap.size 3 1 v pre.dropLast.length (pre.dropLast.map (Value.int .i64)) ∧ True) ∧ Below w1.heap.size w1 W) ∧ (∃ q x, pre = q ++ [x] ∧ (q.length : Int) = n) ∧ c = .exit 0)
        (OwnFrom.and (OwnFrom.and (Own.from (holdsRow_own w1.heap.size w1.heap.size 23 3 1 (fun (pre : List Int) => pre.length) (fun (pre : List Int) => pre.map (Value.int .i64)) (fun _ _ => True)) _) (ownFrom_below (Nat.le_refl _) (by simp; omega))) (ownFrom_pure _ _))
        (fun c => OwnFrom.and (OwnFrom.and (Own.from (holdsRow_own w1.heap.size w1.heap.size 23 3 1 (fun (pre : List Int) => pre.dropLast.length) (fun (pre : List Int) => pre.dropLast.map (Value.int .i64)) (fun _ _ => True)) _) (ownFrom_below (Nat.le_refl _) (by simp; omega))) (ownFrom_pure _ _))
        ⟨⟨⟨_, bO.alloc _, World.ownsRow_nil _ _ _ _, trivial⟩, hB1⟩, hn⟩
        (fun x => { tmps := #[Value.slice a cs.length cap, Value.int IntKind.i64 n, undef, Value.pointer (some { block := w.heap.size, off := 0 }), Value.slice none 0 0, Value.int IntKind.i64 0, Value.pointer (some { block := w1.heap.size, off := 0 }), .int .i64 x, Value.int IntKind.i64 n, Value.bool (decide (n < 0)), Value.int IntKind.i64 n, Value.slice a cs.length cap, Value.int IntKind.i64 ↑(frees cs).length, Value.bool false, Value.slice a cs.length cap, Value.func (Fn.func 19) #[] #[Value.pointer (some { block := w1.heap.size + 1, off := 0 })], .int .i64 x, undef, undef, undef, undef, undef, undef, undef, undef, undef], defers := [] }) ?assign1 ?body1 ?done1 ?stop1
      case assign1 =>
        intro l x W K hK
        gi_wp2
        exact hK
      case body1 =>
        rintro l pre x W ⟨⟨⟨v, hv, hown, -⟩, hB⟩, hpn⟩ hlt
        have hc := hv.cell
        have hcn := (hB.cell (p := ⟨w.heap.size, 0, none⟩) hsz).trans hc1
        have ho := hown
        obtain ⟨va, vc, rfl, -⟩ := own_row ho
        have hpl : pre.length < cs.length := by omega
        unfold maxLen at hlen
        have hsW := hB.size
        gi_wp2_with (gi_at_builtin; refine wpListIn_append_own _ rfl _ _ 23 rfl w1.heap.size 3 i0 (.int .i64 0) 1 8 Try.underlying23 hi hz0 hz1 hz2 rfl (by decide) _ _ _ rfl (hown.alloc _) ⟨W.heap.size, 0, none⟩ 1 1 [.int .i64 x] rfl rfl (cell_one_new _ _ _) (by simp [Value.oneCell']) (by unfold maxLen; omega) (by omega) (by simp; omega) ?_; intro v' w2 hown' hgrow _; obtain ⟨g', cap', rfl⟩ := ownsRow_succ hown'; obtain ⟨hv1, hv2, hr2, hk2, hb2⟩ := hv.appended (by decide) hown hB.size (Nat.le_refl _) hown' hgrow; have hc2 := hv1.cell; have hf2 := hv1.frozen)
        · have hx : (pre.length : Int) = n := by
            have : ((pre.length : Int) == n) = true := by assumption
            simpa using this
          exact ⟨KeepsFrom.refl _ _, ⟨⟨_, hv, by simpa using hown, trivial⟩, hB⟩, ⟨pre, x, rfl, hx⟩, rfl⟩
        · have hx : ¬ (pre.length : Int) = n := by
            have : ((pre.length : Int) == n) = false := by assumption
            simpa using this
          refine ⟨hk2.from _, ⟨hb2.mono hbw.size, fun sv hs => ((hs.alloc _).kept hgrow (hs.not_row (by decide) hown)).other (by omega) _⟩, ⟨⟨_, hv2, by simpa using hr2, trivial⟩, hB.trans hb2⟩, ?_⟩
          simp; omega
      case done1 =>
        rintro D ys W hD rfl ⟨⟨⟨v, hv, hown, -⟩, hB⟩, hpn⟩ hK
        have hc := hv.cell
        gi_wp2
        refine ⟨by simp, .inl ⟨_, _, rfl, run_takeDeferred hK, ?_⟩⟩
        rw [hT.out.1, hT.out.2, show n.toNat = (frees cs).length by omega, List.take_length]
        exact ⟨_, results_tmp2 rfl _ _ _, _, rfl, (ownsRow_putObj hown _ hK rfl).mono hbw.size, hbw.trans ((hB.trans (belowK_b (w := w1) (Nat.le_refl _) W D _ _ (by simp at hD; omega) hK rfl rfl)).mono hbw.size)⟩
      case stop1 =>
        rintro D c pre W hD hpre ⟨⟨⟨v, hv, hown, -⟩, hB⟩, ⟨q, x, rfl, hq⟩, rfl⟩ hK
        have hc := hv.cell
        have hqe := take_prefix_of hpre (n := n.toNat) (by omega)
        rw [List.dropLast_concat] at hown
        gi_wp2
        refine ⟨by simp, .inl ⟨_, _, rfl, run_takeDeferred hK, ?_⟩⟩
        rw [hT.out.1, hT.out.2, ← hqe]
        exact ⟨_, results_tmp2 rfl _ _ _, _, rfl, (ownsRow_putObj hown _ hK rfl).mono hbw.size, hbw.trans ((hB.trans (belowK_b (w := w1) (Nat.le_refl _) W D _ _ (by simp at hD; omega) hK rfl rfl)).mono hbw.size)⟩
    · gi_wp2_with (refine ⟨trivial, ?_⟩; gi_at_call 17; refine (free_in Fence.wide 2 trivial rfl _ _ _ _).mono ?_; rintro e w' ⟨rfl, rfl⟩)
      · have hf : ((frees cs).length : Int) < n := by assumption
        rw [show takes cs n = [] from (if_neg (by omega)).trans (if_pos hf), show takesE cs n = 7 from (if_neg (by omega)).trans (if_pos hf)]
        refine ⟨_, results_tmp2 rfl _ _ _, ?_⟩
        exact ⟨_, rfl, World.ownsRow_nil _ _ _ _, hbw⟩
      have hf : n ≤ ((frees cs).length : Int) := by assumption
      have bO := Boxed.new w1 23 (.slice none 0 0)
      have bS := Boxed.new (w1.alloc (.cells #[.slice none 0 0] 23)) 23 (.slice a cs.length cap)
      rw [World.size_alloc] at bS
      have hB1 : Below w1.heap.size w1 ((w1.alloc (.cells #[.slice none 0 0] 23)).alloc (.cells #[.slice a cs.length cap] 23)) := ((Below.refl _ w1).alloc (Nat.le_refl _) _).alloc (by simp) _
      have hB0 := hbw.trans (hB1.mono hbw.size)
      have hT : Hid (takes cs n = (frees cs).take n.toNat ∧ takesE cs n = 0) := ⟨(if_neg (by omega)).trans (if_neg (by omega)), (if_neg (by omega)).trans (if_neg (by omega))⟩
      refine wpIn_rangeFunc_ownG rfl (by decide) (gf := 19) (lb := #[.pointer (some ⟨w1.heap.size + 1, 0, none⟩)]) rfl trivial (enters_of Try.func19 (by kernel_rfl) rfl)
        (free_stops Fence.wide (3 - 1) trivial rfl (by omega) (w1.heap.size + 1) w a cap cs hrow hlen _ hB0 bS) (fun h k => h.trans k) (Kept.put (by simp; omega) (by simp)) (Below.refl _ _) (fun _ => rfl)
        (fun pre W => ((∃ v, Boxed W w1.heap.size 23 v ∧ W.ownsRow w1.heap.size 3 1 v pre.length (pre.map (Value.int .i64)) ∧ True) ∧ Below w1.heap.size w1 W) ∧ (pre.length : Int) ≤ n)
        (fun c pre W => ((∃ v, Boxed W w1.heap.size 23 v ∧ W.ownsRow w1.heap.size 3 1 v pre.dropLast.length (pre.dropLast.map (Value.int .i64)) ∧ True) ∧ Below w1.heap.size w1 W) ∧ (∃ q x, pre = q ++ [x] ∧ (q.length : Int) = n) ∧ c = .exit 0)
        (OwnFrom.and (OwnFrom.and (Own.from (holdsRow_own w1.heap.size w1.heap.size 23 3 1 (fun (pre : List Int) => pre.length) (fun (pre : List Int) => pre.map (Value.int .i64)) (fun _ _ => True)) _) (ownFrom_below (Nat.le_refl _) (by simp; omega))) (ownFrom_pure _ _))
        (fun c => OwnFrom.and (OwnFrom.and (Own.from (holdsRow_own w1.heap.size w1.heap.size 23 3 1 (fun (pre : List Int) => pre.dropLast.length) (fun (pre : List Int) => pre.dropLast.map (Value.int .i64)) (fun _ _ => True)) _) (ownFrom_below (Nat.le_refl _) (by simp; omega))) (ownFrom_pure _ _))
        ⟨⟨⟨_, bO.alloc _, World.ownsRow_nil _ _ _ _, trivial⟩, hB1⟩, hn⟩
        (fun x => { tmps := #[Value.slice a cs.length cap, Value.int IntKind.i64 n, undef, Value.pointer (some { block := w.heap.size, off := 0 }), Value.slice none 0 0, Value.int IntKind.i64 0, Value.pointer (some { block := w1.heap.size, off := 0 }), .int .i64 x, Value.int IntKind.i64 n, Value.bool (decide (n < 0)), Value.int IntKind.i64 n, Value.slice a cs.length cap, Value.int IntKind.i64 ↑(frees cs).length, Value.bool false, Value.slice a cs.length cap, Value.func (Fn.func 19) #[] #[Value.pointer (some { block := w1.heap.size + 1, off := 0 })], .int .i64 x, undef, undef, undef, undef, undef, undef, undef, undef, undef], defers := [] }) ?assign2 ?body2 ?done2 ?stop2
      case assign2 =>
        intro l x W K hK
        gi_wp2
        exact hK
      case body2 =>
        rintro l pre x W ⟨⟨⟨v, hv, hown, -⟩, hB⟩, hpn⟩ hlt
        have hc := hv.cell
        have hcn := (hB.cell (p := ⟨w.heap.size, 0, none⟩) hsz).trans hc1
        have ho := hown
        obtain ⟨va, vc, rfl, -⟩ := own_row ho
        have hpl : pre.length < cs.length := by omega
        unfold maxLen at hlen
        have hsW := hB.size
        gi_wp2_with (gi_at_builtin; refine wpListIn_append_own _ rfl _ _ 23 rfl w1.heap.size 3 i0 (.int .i64 0) 1 8 Try.underlying23 hi hz0 hz1 hz2 rfl (by decide) _ _ _ rfl (hown.alloc _) ⟨W.heap.size, 0, none⟩ 1 1 [.int .i64 x] rfl rfl (cell_one_new _ _ _) (by simp [Value.oneCell']) (by unfold maxLen; omega) (by omega) (by simp; omega) ?_; intro v' w2 hown' hgrow _; obtain ⟨g', cap', rfl⟩ := ownsRow_succ hown'; obtain ⟨hv1, hv2, hr2, hk2, hb2⟩ := hv.appended (by decide) hown hB.size (Nat.le_refl _) hown' hgrow; have hc2 := hv1.cell; have hf2 := hv1.frozen)
        · have hx : (pre.length : Int) = n := by
            have : ((pre.length : Int) == n) = true := by assumption
            simpa using this
          exact ⟨KeepsFrom.refl _ _, ⟨⟨_, hv, by simpa using hown, trivial⟩, hB⟩, ⟨pre, x, rfl, hx⟩, rfl⟩
        · have hx : ¬ (pre.length : Int) = n := by
            have : ((pre.length : Int) == n) = false := by assumption
            simpa using this
          refine ⟨hk2.from _, ⟨hb2.mono hbw.size, fun sv hs => ((hs.alloc _).kept hgrow (hs.not_row (by decide) hown)).other (by omega) _⟩, ⟨⟨_, hv2, by simpa using hr2, trivial⟩, hB.trans hb2⟩, ?_⟩
          simp; omega
      case done2 =>
        rintro D ys W hD rfl ⟨⟨⟨v, hv, hown, -⟩, hB⟩, hpn⟩ hK
        have hc := hv.cell
        gi_wp2
        refine ⟨by simp, .inl ⟨_, _, rfl, run_takeDeferred hK, ?_⟩⟩
        rw [hT.out.1, hT.out.2, show n.toNat = (frees cs).length by omega, List.take_length]
        exact ⟨_, results_tmp2 rfl _ _ _, _, rfl, (ownsRow_putObj hown _ hK rfl).mono hbw.size, hbw.trans ((hB.trans (belowK_b (w := w1) (Nat.le_refl _) W D _ _ (by simp at hD; omega) hK rfl rfl)).mono hbw.size)⟩
      case stop2 =>
        rintro D c pre W hD hpre ⟨⟨⟨v, hv, hown, -⟩, hB⟩, ⟨q, x, rfl, hq⟩, rfl⟩ hK
        have hc := hv.cell
        have hqe := take_prefix_of hpre (n := n.toNat) (by omega)
        rw [List.dropLast_concat] at hown
        gi_wp2
        refine ⟨by simp, .inl ⟨_, _, rfl, run_takeDeferred hK, ?_⟩⟩
        rw [hT.out.1, hT.out.2, ← hqe]
        exact ⟨_, results_tmp2 rfl _ _ _, _, rfl, (ownsRow_putObj hown _ hK rfl).mono hbw.size, hbw.trans ((hB.trans (belowK_b (w := w1) (Nat.le_refl _) W D _ _ (by simp at hD; omega) hK rfl rfl)).mono hbw.size)⟩
end Go.Proofs.Ytbpbbggbjnjocaa
