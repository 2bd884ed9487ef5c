/- LeaseGrows: whatever the input, the law returns true and leaves its arguments as they were. No condition. -/
import Derived.Test.YtnlmgpodfmmfmaaGrows
import Derived.Test.YtnlmgpodfmmfmaaOpen
namespace Go.Proofs.Ytnlmgpodfmmfmaa.leaseGrows
open Go.ChangeShapes Go.WideShapes Go.ChangeAt Go.RowKit
open Go.ChangeMaps (open_string shut_string)
set_option linter.unusedVariables false

theorem own : ownKnob Try.prog.godebug = none := by kernel_rfl
theorem laidOut : laidOutB Try.prog = true := by kernel_rfl

set_option maxRecDepth 100000 in
theorem lifted (os : Os) (started : os.Started) (H : Type) (enc : TypeId × Value → H) :
    ReturnsInHanded {} Try.checked os 6 .any (Rows.leaseGrowsSpec.pre6 enc Try.prog Try.f6 Rows.leaseGrowsRow.domain false) (Rows.leaseGrowsSpec.post enc Try.prog Try.f6 false true false false) := by
  refine returnsInHanded_of_change (C := Try.checked) own started (by kernel_rfl) Try.func6
    (ChangeSpec.witness6 (enc := enc) (C := Try.checked) false ⟨#[], #[.slice none 0 0, .int .u8 0, .agg #[.int .i64 0, .int .i64 0]], []⟩ 8 (by kernel_rfl) (by kernel_rfl) (by kernel_rfl) (by kernel_rfl)) ?_
  intro W base args ds gs before hval0 hW hcnd _
  have hval : ∀ (j : Nat) t v, Try.f6.params[j]? = some t → args[j]? = some v → Value.okWide Try.prog W .any base t v := hval0
  have hW' := hW
  obtain ⟨p, q, hA0, hV, rfl, hfz, hnd⟩ := hW
  have hA : DataW.TrodAll enc Try.prog W 0 (fun _ => true) true Try.f6.params.toList args.toList ds p := hA0
  rw [Try.params6] at hA hval
  obtain ⟨v0, vs0, d0, ds0, p0, q0, hargs, rfl, rfl, h0, r0⟩ := trodAll_cons hA
  obtain ⟨v1, vs1, d1, ds1, p1, q1, rfl, rfl, rfl, h1, r1⟩ := trodAll_cons r0
  obtain ⟨v2, vs2, d2, ds2, p2, q2, rfl, rfl, rfl, h2, r2⟩ := trodAll_cons r1
  obtain ⟨rfl, rfl, rfl⟩ := trodAll_nil r2
  obtain rfl : args = #[v0, v1, v2] := by cases args; simp_all
  obtain ⟨rfl, rfl⟩ := trodVars_none hV
  have k0 := h0
  have lt0 : ∀ x ∈ p0, x.block < W.heap.size := by obtain ⟨m, hm⟩ := k0; exact DataW.trod_lt m _ _ _ hm
  obtain ⟨a0, len0, cap0, rfl⟩ := okWide_slice Try.underlying22 (hval 0 22 v0 rfl rfl)
  have o0 := opened (show Opens Try.prog 22 (pSlice 1 (pInt .i64)) from opens_slice Try.underlying22 (by kernel_rfl) (by decide) (opens_int Try.underlying2)) k0
  have k1 := h1
  have lt1 : ∀ x ∈ p1, x.block < W.heap.size := by obtain ⟨m, hm⟩ := k1; exact DataW.trod_lt m _ _ _ hm
  obtain ⟨a1, rfl, -, -, w1⟩ := open_int Try.underlying5 (hval 1 5 v1 rfl rfl) h1
  have k2 := h2
  have lt2 : ∀ x ∈ p2, x.block < W.heap.size := by obtain ⟨m, hm⟩ := k2; exact DataW.trod_lt m _ _ _ hm
  obtain ⟨cs2, rfl⟩ := agg_form (by first | exact .inl ⟨_, Try.underlying30⟩ | exact .inr ⟨_, _, Try.underlying30⟩) (hval 2 30 v2 rfl rfl)
  have o2 := opened (show Opens Try.prog 30 (pArray 2 1 (pInt .i64)) from opens_array Try.underlying30 (by kernel_rfl) (by kernel_rfl) (opens_int Try.underlying2)) k2
  clear hA0 hval0
  obtain ⟨a, len, cap, xs, hcs, hl, hlc, hcm, hn, hr, hw, hb⟩ := ints_of_slice o0
  simp [Value.cells] at hcs
  obtain ⟨rfl, rfl, rfl⟩ := hcs
  have hbd : ∀ t ∈ xs, -9223372036854775808 ≤ t ∧ t ≤ 9223372036854775807 := fun t ht => bounds_i64 (hw t ht)
  obtain ⟨zs, rfl, hzl, hzw⟩ := ints_of_array o2
  obtain ⟨z0, z1, rfl⟩ := list2 hzl
  have b0 := bounds_i64 (hzw z0 (by simp))
  have b1 := bounds_i64 (hzw z1 (by simp))
  have bk := bounds_u8 w1
  refine (lawGrows a0 len0 cap0 xs a1 z0 z1 W hl hlc hcm hn hr hbd bk.1 bk.2 b0.1 b0.2 b1.1 b1.2).mono fun e W' ⟨he, bel⟩ => ?_
  subst he
  exact ⟨_, rfl, _, _, _, [], _, [], hW', trodAll_mk1 (shut_bool Try.underlying4 _), (trodAll_cons_mk (Below.trod laidOut (by kernel_rfl) (of_decide_eq_true (by kernel_rfl)) k0 bel lt0) (trodAll_cons_mk (Below.trod laidOut (by kernel_rfl) (of_decide_eq_true (by kernel_rfl)) k1 bel lt1) (trodAll_cons_mk (Below.trod laidOut (by kernel_rfl) (of_decide_eq_true (by kernel_rfl)) k2 bel lt2) trodAll_mk0))), rfl, bel.frame _, fun h => by cases h⟩

theorem over : Rows.leaseGrowsRow.holds Try.pinned (OpenSpec.ofChange Rows.leaseGrowsSpec) :=
  OpenClaim.holds_of_wide 6 Try.f6 rfl rfl rfl rfl rfl rfl rfl ⟨rfl, rfl, rfl, rfl, rfl⟩ rfl rfl rfl rfl rfl (by kernel_rfl) Try.func6 (by kernel_rfl)
    (of_decide_eq_true (by kernel_rfl)) (by unfold Func.isWrapper; first | (rw [if_pos (by decide +kernel)]; kernel_rfl) | (rw [if_neg (by decide +kernel)]; exact ⟨rfl, rfl⟩))
    (fun os started H enc _ => lifted os started H enc)

theorem leaseGrows_holds : Rows.LeaseGrowsSaid := over
#print axioms leaseGrows_holds
end Go.Proofs.Ytnlmgpodfmmfmaa.leaseGrows
