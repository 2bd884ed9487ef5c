/- Round: the frames that go. -/
import Derived.Test.YtkojjnkohnokoaaGoing
import Derived.Maps.AppendAt
import Derived.Deep.Onto
import Derived.Shelf.RegionOpen
namespace Go.Proofs.Ytkojjnkohnokoaa
open Go.RowKit Go.Shelf
attribute [local go_sem] Oper.semAt_some

theorem info46 : (Try.prog.info? 46).map (fun i => (i.zero, i.size, i.bytes)) = some (some (.agg #[.int .i64 0, .int .i64 0, .string ⟨#[]⟩]), 3, 32) := by kernel_rfl
theorem going_in (n p : Nat) (w : World) :
    CallsIn Fence.wide n Try.prog 19 #[.pointer (some ⟨p, 0, none⟩)] w fun e w' => e = .returned (.func (.func 21) #[] #[.pointer (some ⟨w.heap.size, 0, none⟩)]) ∧ w' = w.alloc (.cells #[.pointer (some ⟨p, 0, none⟩)] 23) := by
  refine callsIn_of_wp Try.func19 rfl trivial ?_ rfl
  simp only [Try.ntmps19, List.size_toArray, List.length_cons, List.length_nil, Nat.reduceAdd, Nat.reduceSub, Array.replicate_succ, Array.replicate_zero, List.push_toArray, List.append_toArray, List.nil_append, List.cons_append]
  gi_wp2
  go_ret
  exact ⟨rfl, rfl⟩
theorem own_app {w : World} {base : Nat} {v : Value} {xs ys : List Fr} (h : w.ownsRow base 46 3 v (xs.length + ys.length) (flatOf encF xs ++ flatOf encF ys)) : Hid (OwnL encF 3 46 w base v (xs ++ ys)) := by
  refine Lib.hid ?_
  unfold OwnL
  rw [List.length_append, flatOf_append]
  exact h
def RoundP (base p : Nat) (t : TypeId) (vs : Nat → Value) (s : St) (w : World) (e : Ending) (w' : World) : Prop :=
  ∃ v, e = .returned v ∧ OwnL encF 3 46 w' w.heap.size v (roundF s) ∧ Stand (fun _ => False) base p t vs w (roundS s) w'
set_option maxRecDepth 100000 in
set_option maxHeartbeats 2000000 in
theorem round_any (base p : Nat) (vs : Nat → Value) (s : St) (w : World) (h : Sch w base p 56 vs s) (hg : Good s) :
    Calls Try.prog 9 #[.pointer (some ⟨p, 0, none⟩)] w (RoundP base p 56 vs s w) := by
  refine callsIn_wide (n := 3) |>.1 ?_
  refine callsIn_of_wp_marks Try.func9 rfl trivial ?_ rfl
  simp only [Try.ntmps9, List.size_toArray, List.length_cons, List.length_nil, Nat.reduceAdd, Nat.reduceSub, Array.replicate_succ, Array.replicate_zero, List.push_toArray, List.append_toArray, List.nil_append, List.cons_append]
  gi_wp2_with (refine ⟨trivial, ?_⟩; gi_at_call 19; refine (going_in 2 _ _).mono ?_; rintro e w' ⟨rfl, rfl⟩)
  have hsch := Lib.hid h
  have hplt := h.plt
  obtain ⟨W0, hW0⟩ : ∃ W0, (w.alloc (.cells #[.slice none 0 0] 35)).alloc (.cells #[.pointer (some ⟨p, 0, none⟩)] 23) = W0 := ⟨_, rfl⟩
  have hB0 : Below w.heap.size w W0 := by rw [← hW0]; exact ((Below.refl _ w).alloc (Nat.le_refl _) _).alloc (by simp) _
  have hsz : W0.heap.size = w.heap.size + 2 := by rw [← hW0]; simp
  have bO : Boxed W0 w.heap.size 35 (.slice none 0 0) := by rw [← hW0]; exact (Boxed.new w 35 _).alloc _
  have bX : Boxed W0 (w.heap.size + 1) 23 (.pointer (some ⟨p, 0, none⟩)) := by
    rw [← hW0]; have := Boxed.new (w.alloc (.cells #[.slice none 0 0] 35)) 23 (.pointer (some ⟨p, 0, none⟩)); rwa [World.size_alloc] at this
  rw [hW0]
  have hsch0 := h.below hB0
  have hSF : ∀ k, Foot p vs k → ¬ (k = w.heap.size ∨ w.heap.size + 2 ≤ k) := fun k hk => by have := (h.lt k hk).2; omega
  obtain ⟨i0, hi, hz0, hz1, hz2⟩ := info_parts info46
  refine range_over (F := Fence.wide) (n := 3) rfl (by decide) (gf := 21) (lb := #[.pointer (some ⟨w.heap.size + 1, 0, none⟩)]) rfl trivial (enters_of Try.func21 (by kernel_rfl) rfl)
    (encs := encV) p (by omega) (fun k => k = w.heap.size ∨ w.heap.size + 2 ≤ k) (fun k hk => .inr (by omega)) (S := fun xs W' => xs = roundF s ∧ Stand (fun k => k = w.heap.size ∨ w.heap.size + 2 ≤ k) base p 56 vs W0 (roundS s) W') (N := 24)
    (fun l J W hW hJ hY h0 => going1_in (3 - 1) (by omega) l (w.heap.size + 1) base p vs s W0 hg _ hSF (fun W' hm => ?hbx) J hJ hY W ?hst h0) ?hS (fun _ => rfl)
    (fun pre W => w.heap.size + 2 ≤ W.heap.size ∧ ∃ v, Boxed W w.heap.size 35 v ∧ OwnL encF 3 46 W (w.heap.size + 2) v pre) ?hI ?hIp ?h0
    (fun x => { tmps := #[.pointer (some ⟨p, 0, none⟩), undef, .slice none 0 0, .pointer (some ⟨w.heap.size, 0, none⟩), .int .i64 (x.1 : Int), .string x.2, .pointer (some ⟨p, 0, none⟩), .bool false, .pointer (some ⟨p, 0, none⟩),
        .func (.func 21) #[] #[.pointer (some ⟨w.heap.size + 1, 0, none⟩)], .int .i64 (x.1 : Int), .string x.2, undef, undef, undef, undef, undef, undef, undef], defers := [] }) ?assign ?body ?done
  case hbx =>
    refine hm.cell bX.cell ?_
    rintro (hk | hk)
    · have := (h.lt _ hk).2; simp at this; omega
    · simp at hk
  case hst =>
    exact ⟨vs, hsch0.below hW, Mod.of_below hW (Nat.le_refl _) _, fun k hk => hk⟩
  case hS =>
    rintro xs W l o o' hl ho hoc ⟨rfl, hst⟩
    exact ⟨rfl, hst.mod hSF (Mod.putObj (.inr (by omega)) o')⟩
  case hI =>
    rintro xs W l o o' hl ho hoc ⟨hz, v, hb, hown⟩
    exact ⟨by simpa [World.putObj] using hz, v, (World.putObj_heap_other (by omega)).trans hb, ownsRow_putObj hown o' ho hoc⟩
  case hIp =>
    rintro xs A B ⟨hz, v, hb, hown⟩ ht
    refine ⟨by rw [ht.2]; exact hz, v, ht.keeps (by omega) hb, hown.mod ht.1 (fun g hg e => ?_)⟩
    have := (World.ownsRow.lt hown g hg).1
    omega
  case h0 =>
    intro o
    exact ⟨by simp; omega, _, (bO.alloc _).alloc _, ownL_nil _ _⟩
  case assign =>
    intro l x W K hK
    gi_wp2
    simpa [encV] using hK
  case body =>
    rintro l pre x W ⟨hcW, v, hv, hown⟩ hlt
    have hc := hv.cell
    have hf := hv.frozen
    obtain ⟨x1, x2⟩ := x
    obtain ⟨va, vc, rfl, -⟩ := hown.sli EF
    have hWs := hv.lt
    gi_wp2_with (gi_at_builtin; refine wpListIn_append_own _ rfl _ _ 35 rfl (w.heap.size + 2) 46 i0 _ 3 32 Try.underlying35 hi hz0 hz1 hz2 rfl (by decide) _ _ _ rfl (World.ownsRow.alloc hown _) ⟨W.heap.size, 0, none⟩ 1 1 (flatOf encF [(x1, x2)]) rfl rfl ((sli_lit EF W [(x1, x2)] 1 _ 46 rfl rfl (by decide)).lst.news EF) (flatOf_one EF _) (by unfold maxLen; omega) (by omega) (by simp; omega) ?_; intro v' w1 hown' hgrow _; have HO : Hid (OwnL encF 3 46 w1 (w.heap.size + 2) v' (pre ++ [(x1, x2)])) := own_app hown'; have HG : Hid ((W.alloc (.cells #[.int .i64 0, .int .i64 (x1 : Int), .string x2] 46)).grownBy w1 (Value.slice va pre.length vc).ownBlock) := Lib.hid hgrow; clear hgrow; have hv1 : Boxed w1 w.heap.size 35 _ := (hv.alloc _).kept HG.out (hv.not_row (by decide) hown); obtain ⟨g', cap', rfl⟩ := ownsRow_succ hown'; have hc1 := hv1.cell; have hf1 := hv1.frozen)
    obtain ⟨-, k2, -, k4, -⟩ := hv.appended (n₀ := w.heap.size) (by decide) (OwnL.mono hown (by omega)) (by omega) (Nat.le_refl _) (OwnL.mono HO.out (by omega)) HG.out
    have hsz1 := HG.out.size
    simp only [World.size_alloc] at hsz1
    refine ⟨k4, ?_, by simp [World.setCell]; omega, _, k2, HO.out.mod (Mod.cellOf w.heap.size 0 _) (fun g hg e => by have := (World.ownsRow.lt HO.out g hg).1; omega)⟩
    refine ((Mod.of_below (bel1 W _) (Nat.le_refl _) _).then (Mod.grown (S := fun k => k = w.heap.size ∨ w.heap.size + 2 ≤ k) HG.out (fun k hk => .inr (World.ownsRow.lt hown k hk).1)) (fun _ _ hk => hk)).trans ((Mod.cellOf w.heap.size 0 _).mono fun k _ hk => .inl hk)
  case done =>
    rintro D xs W hD ⟨rfl, hst⟩ ⟨-, v, hv, hown⟩ hK
    have hc := hv.cell
    gi_wp2
    refine ⟨by simp, .inl ⟨_, _, rfl, run_takeDeferred hK, ?_⟩⟩
    refine ⟨_, results_tmp rfl _ _ _, v, rfl, OwnL.mono (ownsRow_putObj hown _ hK rfl) (by omega), ?_⟩
    obtain ⟨vs', h1, h2, h3⟩ := hst.mod hSF (Mod.putObj (l := D) (.inr (by omega)) (.deferred none))
    exact ⟨vs', h1, (Mod.of_below hB0 (Nat.le_refl _) _).then h2 (fun i hi hk => by
      rcases hk with hk | hk | hk
      · exact .inl hk
      · omega
      · omega), h3⟩
end Go.Proofs.Ytkojjnkohnokoaa
