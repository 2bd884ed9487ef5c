/- Do two disks tell the same: the walk. -/
import Derived.Test.YtcgkdomfbkkboaaRCopy
namespace Go.Proofs.Ytcgkdomfbkkboaa
open Go.RowKit Go.Joins Go.ChangeMaps

section
variable {P : Program} {ops : Array Oper} {Q : Exit → Act → World → Prop} {S : World → Prop}
theorem wpAnyL_takeD (i d : Nat) {oi : Oper} {v : Value} {fuel : Nat} {listed : Array Bool} {a : Act} {w : World} (hi : ops[i]? = some oi) (hd : oi.dst = some d)
    (hb : (decide (i + 1 < ops.size) && closeB ops && downsB ops listed && Region.noSelect ops && Region.free .any ops listed i && (Region.ready .any ops listed).contains i) = true)
    (hQ : ∀ c a w, Q (.panic c) (a.put oi.dst v) w → Q (.panic c) a w) (hy : YieldsIf P ops S oi v a) (hS : S w)
    (h : wpAnyL P ops Q S fuel (listed.setIfInBounds i true) { a with tmps := a.tmps.setIfInBounds d v } w) : wpAnyL P ops Q S (fuel + 1) listed a w := by
  refine wpAnyL_take i hi hb hQ hy hS ?_
  rw [hd]
  exact h
theorem wpAnyL_two (i j : Nat) {oi oj : Oper} {fuel : Nat} {listed : Array Bool} {a : Act} {w : World} (hr : Region.ready .any ops listed = [i, j]) (hi : ops[i]? = some oi) (hj : ops[j]? = some oj)
    (h1 : ∀ K' : Act → World → Prop, Shut (∀ a w, S w → (S w → wpAnyL P ops Q S fuel (listed.setIfInBounds i true) a w) → K' a w) → if Region.wanted oi (yielded ops a.tmps) = true then Oper.wp P oi a w K' Q else K' (a.put oi.dst undef) w)
    (h2 : ∀ K' : Act → World → Prop, Shut (∀ a w, S w → (S w → wpAnyL P ops Q S fuel (listed.setIfInBounds j true) a w) → K' a w) → if Region.wanted oj (yielded ops a.tmps) = true then Oper.wp P oj a w K' Q else K' (a.put oj.dst undef) w) : wpAnyL P ops Q S (fuel + 1) listed a w := by
  refine ⟨fun h0 => (by rw [hr] at h0; cases h0), ?_⟩
  rw [hr]
  intro k hk
  rcases List.mem_cons.1 hk with rfl | hk
  · exact wpOp_step hi (fun K' hK => h1 K' (fun a w hS hW => hK a w ⟨fun _ => hS, hW hS⟩))
  · obtain rfl := List.mem_singleton.1 hk
    exact wpOp_step hj (fun K' hK => h2 K' (fun a w hS hW => hK a w ⟨fun _ => hS, hW hS⟩))
end
theorem same_S {W w : World} {F : Nat → Prop} {p bm q : Nat} {bv nv : Value} {s : St} (h : BE W w F p bm q bv nv s s) : BE W w F p bm q bv nv s s ∧ w.cell? ⟨q, 0, none⟩ = some (.int .i64 s.len) ∧ w.cell? ⟨q, 7, none⟩ = some (.bool (!s.off)) := ⟨h, b_ref h⟩
theorem b_rread_of {w0 w : World} {F : Nat → Prop} {p bm q : Nat} {bv nv : Value} {s r : St} {i : Int} {b : BA} {e : Int} (h : BE w0 w F p bm q bv nv s r) (he : readR r i = (b, e)) : Calls Try.prog 47 #[.pointer (some ⟨q, 0, none⟩), .int .i64 i] w (RetSI b e w) := by
  have := b_rread (i := i) h
  rwa [he] at this
theorem wrap_wf (x : Int) : (Lit.int .i64 (IntKind.i64.wrap x)).wf = true := by
  simp [Lit.wf, IntKind.min, IntKind.max, IntKind.wrap, IntKind.signed, IntKind.bits]; omega
theorem lit3 (w : World) (x y : Int) : Lst encI 1 (w.alloc (.cells #[.int .i64 x, .int .i64 x, .int .i64 y] 3)) (some ⟨w.heap.size, 0, none⟩) [x, x, y] := (sli_lit EI1 w [x, x, y] 3 _ 3 rfl rfl (by unfold maxLen; omega)).lst
set_option linter.unusedSimpArgs false in
set_option maxHeartbeats 16000000 in
set_option maxRecDepth 100000 in
theorem same_any {W w : World} {F : Nat → Prop} {p bm q : Nat} {bv nv : Value} {s : St} (x : Int) (hx : (Lit.int .i64 x).wf = true) (h : BE W w F p bm q bv nv s s) : Calls Try.prog 28 #[.pointer (some ⟨p, 0, none⟩), .pointer (some ⟨q, 0, none⟩), .int .i64 x] w (RetB true w) := by
  have N1 := Lib.hid h
  have h1 := b_read (i := x) h
  clear h
  generalize hrr : readR s x = rr at *
  obtain ⟨ra, re⟩ := rr
  have HRR := Lib.hid hrr
  clear hrr
  have H1 := Lib.hid h1
  clear h1
  have wfy : (Lit.int .i64 (IntKind.i64.wrap (x + 1))).wf = true := wrap_wf _
  have wf3' : WfI [x, x, IntKind.i64.wrap (x + 1)] := by
    intro z hz
    simp at hz
    rcases hz with rfl | rfl
    · exact hx
    · exact wfy
  generalize hyy : IntKind.i64.wrap (x + 1) = y at *
  have wf3 := wf3'
  clear wf3' wfy
  go_enter Try.func28, Try.ntmps28
  go_upto_region 3 with (first
    | (go_at_call 18; refine H1.out.mono ?_; rintro e w1 ⟨rfl, hb⟩; have B1 := Lib.hid hb; clear hb)
    | (go_at_call 47; refine (b_rread_of (N1.out.below B1.out) HRR.out).mono ?_; rintro e w2 ⟨rfl, hb⟩; have B2 := Lib.hid (grew_trans B1.out hb); clear hb))
  have N := Lib.hid (N1.out.below B2.out)
  obtain ⟨Y, hY⟩ : ∃ Y, Y = w2 := ⟨_, rfl⟩
  subst hY
  refine wp_region_noPanic ?_
  refine wp_region_last (fun w' => BE W w' F p bm q bv nv s s ∧ w'.cell? ⟨q, 0, none⟩ = some (.int .i64 s.len) ∧ w'.cell? ⟨q, 7, none⟩ = some (.bool (!s.off))) (by kernel_rfl) (same_S (N.out.below (Below.refl _ _).drew)) (fun hS0 => ?_)
  refine wpAnyL_takeD 0 23 (v := ?_) rfl rfl (by kernel_rfl) (fun _ _ _ h => h) (Or.inl ⟨by kernel_rfl, ?_⟩) (by assumption) ?_
  rotate_left
  · (intro w5 hSw; (try dsimp only at hSw); go_split_ands; go_simp; (try with_reducible rfl))
  try simp only [List.setIfInBounds_toArray, List.set_cons_zero, List.set_cons_succ]
  refine wpAnyL_takeD 1 24 (v := ?_) rfl rfl (by kernel_rfl) (fun _ _ _ h => h) (Or.inl ⟨by kernel_rfl, ?_⟩) (by assumption) ?_
  rotate_left
  · (intro w5 hSw; (try dsimp only at hSw); go_split_ands; go_simp; (try with_reducible rfl))
  try simp only [List.setIfInBounds_toArray, List.set_cons_zero, List.set_cons_succ]
  refine wpAnyL_takeD 2 25 (v := ?_) rfl rfl (by kernel_rfl) (fun _ _ _ h => h) (Or.inl ⟨by kernel_rfl, ?_⟩) (by assumption) ?_
  rotate_left
  · (intro w5 hSw; (try dsimp only at hSw); go_split_ands; go_simp; (try with_reducible rfl))
  try simp only [List.setIfInBounds_toArray, List.set_cons_zero, List.set_cons_succ]
  refine wpAnyL_takeD 3 26 (v := ?_) rfl rfl (by kernel_rfl) (fun _ _ _ h => h) (Or.inl ⟨by kernel_rfl, ?_⟩) (by assumption) ?_
  rotate_left
  · (intro w5 hSw; (try dsimp only at hSw); go_split_ands; go_simp; (try with_reducible rfl))
  try simp only [List.setIfInBounds_toArray, List.set_cons_zero, List.set_cons_succ]
  refine wpAnyL_takeD 4 27 (v := ?_) rfl rfl (by kernel_rfl) (fun _ _ _ h => h) (Or.inl ⟨by kernel_rfl, ?_⟩) (by assumption) ?_
  rotate_left
  · (intro w5 hSw; (try dsimp only at hSw); go_split_ands; go_simp; (try with_reducible rfl))
  try simp only [List.setIfInBounds_toArray, List.set_cons_zero, List.set_cons_succ]
  refine wpAnyL_takeD 5 28 (v := ?_) rfl rfl (by kernel_rfl) (fun _ _ _ h => h) (Or.inl ⟨by kernel_rfl, ?_⟩) (by assumption) ?_
  rotate_left
  · (intro w5 hSw; (try dsimp only at hSw); go_split_ands; go_simp; (try with_reducible rfl))
  try simp only [List.setIfInBounds_toArray, List.set_cons_zero, List.set_cons_succ]
  refine wpAnyL_takeD 6 29 (v := ?_) rfl rfl (by kernel_rfl) (fun _ _ _ h => h) (Or.inl ⟨by kernel_rfl, ?_⟩) (by assumption) ?_
  rotate_left
  · (intro w5 hSw; (try dsimp only at hSw); go_split_ands; go_simp; (try with_reducible rfl))
  try simp only [List.setIfInBounds_toArray, List.set_cons_zero, List.set_cons_succ]
  refine wpAnyL_takeD 7 30 (v := ?_) rfl rfl (by kernel_rfl) (fun _ _ _ h => h) (Or.inl ⟨by kernel_rfl, ?_⟩) (by assumption) ?_
  rotate_left
  · (intro w5 hSw; (try dsimp only at hSw); go_split_ands; go_simp; (try with_reducible rfl))
  try simp only [List.setIfInBounds_toArray, List.set_cons_zero, List.set_cons_succ]
  refine wpAnyL_takeD 8 31 (v := ?_) rfl rfl (by kernel_rfl) (fun _ _ _ h => h) (Or.inl ⟨by kernel_rfl, ?_⟩) (by assumption) ?_
  rotate_left
  · (intro w5 hSw; (try dsimp only at hSw); go_split_ands; go_simp; (try with_reducible rfl))
  try simp only [List.setIfInBounds_toArray, List.set_cons_zero, List.set_cons_succ]
  refine wpAnyL_takeD 9 32 (v := ?_) rfl rfl (by kernel_rfl) (fun _ _ _ h => h) (Or.inl ⟨by kernel_rfl, ?_⟩) (by assumption) ?_
  rotate_left
  · (intro w5 hSw; (try dsimp only at hSw); go_split_ands; go_simp; (try with_reducible rfl))
  try simp only [List.setIfInBounds_toArray, List.set_cons_zero, List.set_cons_succ]
  refine wpAnyL_takeD 11 34 (v := ?_) rfl rfl (by kernel_rfl) (fun _ _ _ h => h) (Or.inl ⟨by kernel_rfl, ?_⟩) (by assumption) ?_
  rotate_left
  · (intro w5 hSw; (try dsimp only at hSw); go_split_ands; go_simp; (try with_reducible rfl))
  try simp only [List.setIfInBounds_toArray, List.set_cons_zero, List.set_cons_succ]
  refine wpAnyL_takeD 12 35 (v := ?_) rfl rfl (by kernel_rfl) (fun _ _ _ h => h) (Or.inl ⟨by kernel_rfl, ?_⟩) (by assumption) ?_
  rotate_left
  · (intro w5 hSw; (try dsimp only at hSw); go_split_ands; go_simp; (try with_reducible rfl))
  try simp only [List.setIfInBounds_toArray, List.set_cons_zero, List.set_cons_succ]
  refine wpAnyL_takeD 13 36 (v := ?_) rfl rfl (by kernel_rfl) (fun _ _ _ h => h) (Or.inl ⟨by kernel_rfl, ?_⟩) (by assumption) ?_
  rotate_left
  · (intro w5 hSw; (try dsimp only at hSw); go_split_ands; go_simp; (try with_reducible rfl))
  try simp only [List.setIfInBounds_toArray, List.set_cons_zero, List.set_cons_succ]
  refine wpAnyL_takeD 14 37 (v := ?_) rfl rfl (by kernel_rfl) (fun _ _ _ h => h) (Or.inl ⟨by kernel_rfl, ?_⟩) (by assumption) ?_
  rotate_left
  · (intro w5 hSw; (try dsimp only at hSw); go_split_ands; go_simp; (try with_reducible rfl))
  try simp only [List.setIfInBounds_toArray, List.set_cons_zero, List.set_cons_succ]
  refine wpAnyL_step 10 (by kernel_rfl) rfl (fun K5 hK => ?_)
  go_simp
  go_at_call 21
  refine (b_on hS0.1).mono ?_
  rintro e w6 ⟨rfl, rfl⟩
  dsimp only
  refine hK.out _ _ hS0 (fun hS => ?_)
  clear hK K5 hS
  try simp only [Act.put, List.setIfInBounds_toArray, List.set_cons_zero, List.set_cons_succ]
  refine wpAnyL_takeD 15 38 (v := ?_) rfl rfl (by kernel_rfl) (fun _ _ _ h => h) (Or.inl ⟨by kernel_rfl, ?_⟩) (by assumption) ?_
  rotate_left
  · (intro w5 hSw; (try dsimp only at hSw); go_split_ands; go_simp; (try with_reducible rfl))
  try simp only [List.setIfInBounds_toArray, List.set_cons_zero, List.set_cons_succ]
  refine wpAnyL_takeD 16 39 (v := ?_) rfl rfl (by kernel_rfl) (fun _ _ _ h => h) (Or.inl ⟨by kernel_rfl, ?_⟩) (by assumption) ?_
  rotate_left
  · (intro w5 hSw; (try dsimp only at hSw); go_split_ands; go_simp; (try with_reducible rfl))
  try simp only [List.setIfInBounds_toArray, List.set_cons_zero, List.set_cons_succ]
  refine wpAnyL_takeD 17 40 (v := ?_) rfl rfl (by kernel_rfl) (fun _ _ _ h => h) (Or.inl ⟨by kernel_rfl, ?_⟩) (by assumption) ?_
  rotate_left
  · (intro w5 hSw; (try dsimp only at hSw); go_split_ands; go_simp; (try with_reducible rfl))
  try simp only [List.setIfInBounds_toArray, List.set_cons_zero, List.set_cons_succ]
  refine wpAnyL_takeD 18 41 (v := ?_) rfl rfl (by kernel_rfl) (fun _ _ _ h => h) (Or.inl ⟨by kernel_rfl, ?_⟩) (by assumption) ?_
  rotate_left
  · (intro w5 hSw; (try dsimp only at hSw); go_split_ands; go_simp; (try with_reducible rfl))
  try simp only [List.setIfInBounds_toArray, List.set_cons_zero, List.set_cons_succ]
  refine wpAnyL_takeD 20 43 (v := ?_) rfl rfl (by kernel_rfl) (fun _ _ _ h => h) (Or.inl ⟨by kernel_rfl, ?_⟩) (by assumption) ?_
  rotate_left
  · (intro w5 hSw; (try dsimp only at hSw); go_split_ands; go_simp; (try with_reducible rfl))
  try simp only [List.setIfInBounds_toArray, List.set_cons_zero, List.set_cons_succ]
  refine wpAnyL_step 19 (by kernel_rfl) rfl (fun K5 hK => ?_)
  go_simp
  go_at_call 23
  refine (b_used hS0.1).mono ?_
  rintro e w6 ⟨rfl, rfl⟩
  dsimp only
  refine hK.out _ _ hS0 (fun hS => ?_)
  clear hK K5 hS
  try simp only [Act.put, List.setIfInBounds_toArray, List.set_cons_zero, List.set_cons_succ]
  refine wpAnyL_step 21 (by kernel_rfl) rfl (fun K5 hK => ?_)
  go_simp
  go_at_call 48
  refine (b_rused hS0.1).mono ?_
  rintro e w6 ⟨rfl, rfl⟩
  dsimp only
  refine hK.out _ _ hS0 (fun hS => ?_)
  clear hK K5 hS
  try simp only [Act.put, List.setIfInBounds_toArray, List.set_cons_zero, List.set_cons_succ]
  refine wpAnyL_takeD 22 45 (v := ?_) rfl rfl (by kernel_rfl) (fun _ _ _ h => h) (Or.inl ⟨by kernel_rfl, ?_⟩) (by assumption) ?_
  rotate_left
  · (intro w5 hSw; (try dsimp only at hSw); go_split_ands; go_simp; (try with_reducible rfl))
  try simp only [List.setIfInBounds_toArray, List.set_cons_zero, List.set_cons_succ]
  refine wpAnyL_takeD 23 46 (v := ?_) rfl rfl (by kernel_rfl) (fun _ _ _ h => h) (Or.inl ⟨by kernel_rfl, ?_⟩) (by assumption) ?_
  rotate_left
  · (intro w5 hSw; (try dsimp only at hSw); go_split_ands; go_simp; (try with_reducible rfl))
  try simp only [List.setIfInBounds_toArray, List.set_cons_zero, List.set_cons_succ]
  refine wpAnyL_takeD 24 47 (v := ?_) rfl rfl (by kernel_rfl) (fun _ _ _ h => h) (Or.inl ⟨by kernel_rfl, ?_⟩) (by assumption) ?_
  rotate_left
  · (intro w5 hSw; (try dsimp only at hSw); go_split_ands; go_simp; (try with_reducible rfl))
  try simp only [List.setIfInBounds_toArray, List.set_cons_zero, List.set_cons_succ]
  refine wpAnyL_takeD 25 48 (v := ?_) rfl rfl (by kernel_rfl) (fun _ _ _ h => h) (Or.inl ⟨by kernel_rfl, ?_⟩) (by assumption) ?_
  rotate_left
  · (intro w5 hSw; (try dsimp only at hSw); go_split_ands; go_simp; (try with_reducible rfl))
  try simp only [List.setIfInBounds_toArray, List.set_cons_zero, List.set_cons_succ]
  refine wpAnyL_takeD 27 50 (v := ?_) rfl rfl (by kernel_rfl) (fun _ _ _ h => h) (Or.inl ⟨by kernel_rfl, ?_⟩) (by assumption) ?_
  rotate_left
  · (intro w5 hSw; (try dsimp only at hSw); go_split_ands; go_simp; (try with_reducible rfl))
  try simp only [List.setIfInBounds_toArray, List.set_cons_zero, List.set_cons_succ]
  refine wpAnyL_takeD 28 51 (v := ?_) rfl rfl (by kernel_rfl) (fun _ _ _ h => h) (Or.inl ⟨by kernel_rfl, ?_⟩) (by assumption) ?_
  rotate_left
  · (intro w5 hSw; (try dsimp only at hSw); go_split_ands; go_simp; (try with_reducible rfl))
  try simp only [List.setIfInBounds_toArray, List.set_cons_zero, List.set_cons_succ]
  refine wpAnyL_takeD 29 52 (v := ?_) rfl rfl (by kernel_rfl) (fun _ _ _ h => h) (Or.inl ⟨by kernel_rfl, ?_⟩) (by assumption) ?_
  rotate_left
  · (intro w5 hSw; (try dsimp only at hSw); go_split_ands; go_simp; (try with_reducible rfl))
  try simp only [List.setIfInBounds_toArray, List.set_cons_zero, List.set_cons_succ]
  refine wpAnyL_takeD 30 53 (v := ?_) rfl rfl (by kernel_rfl) (fun _ _ _ h => h) (Or.inl ⟨by kernel_rfl, ?_⟩) (by assumption) ?_
  rotate_left
  · (intro w5 hSw; (try dsimp only at hSw); go_split_ands; go_simp; (try with_reducible rfl))
  try simp only [List.setIfInBounds_toArray, List.set_cons_zero, List.set_cons_succ]
  refine wpAnyL_step 26 (by kernel_rfl) rfl (fun K5 hK => ?_)
  go_simp
  go_at_call 29
  refine (b_len hS0.1).mono ?_
  rintro e w6 ⟨rfl, rfl⟩
  dsimp only
  refine hK.out _ _ hS0 (fun hS => ?_)
  clear hK K5 hS
  try simp only [Act.put, List.setIfInBounds_toArray, List.set_cons_zero, List.set_cons_succ]
  refine wpAnyL_takeD 31 54 (v := ?_) rfl rfl (by kernel_rfl) (fun _ _ _ h => h) (Or.inl ⟨by kernel_rfl, ?_⟩) (by assumption) ?_
  rotate_left
  · (intro w5 hSw; (try dsimp only at hSw); go_split_ands; go_simp; (try with_reducible rfl))
  try simp only [List.setIfInBounds_toArray, List.set_cons_zero, List.set_cons_succ]
  refine wpAnyL_takeD 32 55 (v := ?_) rfl rfl (by kernel_rfl) (fun _ _ _ h => h) (Or.inl ⟨by kernel_rfl, ?_⟩) (by assumption) ?_
  rotate_left
  · (intro w5 hSw; (try dsimp only at hSw); go_split_ands; go_simp; (try with_reducible rfl))
  try simp only [List.setIfInBounds_toArray, List.set_cons_zero, List.set_cons_succ]
  refine wpAnyL_takeD 33 56 (v := ?_) rfl rfl (by kernel_rfl) (fun _ _ _ h => h) (Or.inl ⟨by kernel_rfl, ?_⟩) (by assumption) ?_
  rotate_left
  · (intro w5 hSw; (try dsimp only at hSw); go_split_ands; go_simp; (try with_reducible rfl))
  try simp only [List.setIfInBounds_toArray, List.set_cons_zero, List.set_cons_succ]
  refine wpAnyL_takeD 34 57 (v := ?_) rfl rfl (by kernel_rfl) (fun _ _ _ h => h) (Or.inl ⟨by kernel_rfl, ?_⟩) (by assumption) ?_
  rotate_left
  · (intro w5 hSw; (try dsimp only at hSw); go_split_ands; go_simp; (try with_reducible rfl))
  try simp only [List.setIfInBounds_toArray, List.set_cons_zero, List.set_cons_succ]
  refine wpAnyL_takeD 35 58 (v := ?_) rfl rfl (by kernel_rfl) (fun _ _ _ h => h) (Or.inl ⟨by kernel_rfl, ?_⟩) (by assumption) ?_
  rotate_left
  · (intro w5 hSw; (try dsimp only at hSw); go_split_ands; go_simp; (try with_reducible rfl))
  try simp only [List.setIfInBounds_toArray, List.set_cons_zero, List.set_cons_succ]
  refine wpAnyL_takeD 36 59 (v := ?_) rfl rfl (by kernel_rfl) (fun _ _ _ h => h) (Or.inl ⟨by kernel_rfl, ?_⟩) (by assumption) ?_
  rotate_left
  · (intro w5 hSw; (try dsimp only at hSw); go_split_ands; go_simp; (try with_reducible rfl))
  try simp only [List.setIfInBounds_toArray, List.set_cons_zero, List.set_cons_succ]
  refine wpAnyL_takeD 37 60 (v := ?_) rfl rfl (by kernel_rfl) (fun _ _ _ h => h) (Or.inl ⟨by kernel_rfl, ?_⟩) (by assumption) ?_
  rotate_left
  · (intro w5 hSw; (try dsimp only at hSw); go_split_ands; go_simp; (try with_reducible rfl))
  try simp only [List.setIfInBounds_toArray, List.set_cons_zero, List.set_cons_succ]
  refine wpAnyL_takeD 38 61 (v := ?_) rfl rfl (by kernel_rfl) (fun _ _ _ h => h) (Or.inl ⟨by kernel_rfl, ?_⟩) (by assumption) ?_
  rotate_left
  · (intro w5 hSw; (try dsimp only at hSw); go_split_ands; go_simp; (try with_reducible rfl))
  try simp only [List.setIfInBounds_toArray, List.set_cons_zero, List.set_cons_succ]
  refine wpAnyL_takeD 41 64 (v := ?_) rfl rfl (by kernel_rfl) (fun _ _ _ h => h) (Or.inl ⟨by kernel_rfl, ?_⟩) (by assumption) ?_
  rotate_left
  · (intro w5 hSw; (try dsimp only at hSw); go_split_ands; go_simp; (try with_reducible rfl))
  try simp only [List.setIfInBounds_toArray, List.set_cons_zero, List.set_cons_succ]
  refine wpAnyL_takeD 42 65 (v := ?_) rfl rfl (by kernel_rfl) (fun _ _ _ h => h) (Or.inl ⟨by kernel_rfl, ?_⟩) (by assumption) ?_
  rotate_left
  · (intro w5 hSw; (try dsimp only at hSw); go_split_ands; go_simp; (try with_reducible rfl))
  try simp only [List.setIfInBounds_toArray, List.set_cons_zero, List.set_cons_succ]
  refine wpAnyL_takeD 43 66 (v := ?_) rfl rfl (by kernel_rfl) (fun _ _ _ h => h) (Or.inl ⟨by kernel_rfl, ?_⟩) (by assumption) ?_
  rotate_left
  · (intro w5 hSw; (try dsimp only at hSw); go_split_ands; go_simp; (try with_reducible rfl))
  try simp only [List.setIfInBounds_toArray, List.set_cons_zero, List.set_cons_succ]
  refine wpAnyL_takeD 44 67 (v := ?_) rfl rfl (by kernel_rfl) (fun _ _ _ h => h) (Or.inl ⟨by kernel_rfl, ?_⟩) (by assumption) ?_
  rotate_left
  · (intro w5 hSw; (try dsimp only at hSw); go_split_ands; go_simp; (try with_reducible rfl))
  try simp only [List.setIfInBounds_toArray, List.set_cons_zero, List.set_cons_succ]
  refine wpAnyL_takeD 45 68 (v := ?_) rfl rfl (by kernel_rfl) (fun _ _ _ h => h) (Or.inl ⟨by kernel_rfl, ?_⟩) (by assumption) ?_
  rotate_left
  · (intro w5 hSw; (try dsimp only at hSw); go_split_ands; go_simp; (try with_reducible rfl))
  try simp only [List.setIfInBounds_toArray, List.set_cons_zero, List.set_cons_succ]
  refine wpAnyL_two 39 46 (by kernel_rfl) rfl rfl (fun K5 hK => ?_) (fun K5 hK => ?_)
  · go_simp
    refine hK.out _ _ (same_S (hS0.1.below (bel1 _ (.cells #[.int .i64 x, .int .i64 x, .int .i64 y] 3)))) (fun hS1 => ?_)
    clear hK K5
    try simp only [Act.put, List.setIfInBounds_toArray, List.set_cons_zero, List.set_cons_succ]
    have l1 : Lst encI 1 (World.drew (World.alloc Y (.cells #[.int .i64 x, .int .i64 x, .int .i64 y] 3))) (some ⟨Y.heap.size, 0, none⟩) [x, x, y] := lit3 Y.drew x y
    have g1 : Below Y.heap.size Y.drew (World.drew (World.alloc Y (.cells #[.int .i64 x, .int .i64 x, .int .i64 y] 3))) := bel1 Y.drew (.cells #[.int .i64 x, .int .i64 x, .int .i64 y] 3)
    generalize World.drew (World.alloc Y (.cells #[.int .i64 x, .int .i64 x, .int .i64 y] 3)) = V1 at *
    have l1' := Lib.hid l1
    have g1' := Lib.hid g1
    clear l1 g1
    refine wpAnyL_two 40 46 (by kernel_rfl) rfl rfl (fun K5 hK => ?_) (fun K5 hK => ?_)
    · go_simp
      go_at_call 14
      refine (b_fits (n := 3) hS1.1 l1'.out wf3 rfl (by omega)).mono ?_
      rintro e w6 ⟨rfl, hb6⟩
      dsimp only
      refine hK.out _ _ (same_S (hS1.1.below hb6)) (fun hS2 => ?_)
      clear hK K5
      try simp only [Act.put, List.setIfInBounds_toArray, List.set_cons_zero, List.set_cons_succ]
      have hb6' := Lib.hid hb6
      clear hb6
      refine wpAnyL_step 46 (by kernel_rfl) rfl (fun K5 hK => ?_)
      go_simp
      refine hK.out _ _ (same_S (hS2.1.below (bel1 _ (.cells #[.int .i64 x, .int .i64 x, .int .i64 y] 3)))) (fun hS3 => ?_)
      clear hK K5
      try simp only [Act.put, List.setIfInBounds_toArray, List.set_cons_zero, List.set_cons_succ]
      have l2 : Lst encI 1 (World.alloc w6 (.cells #[.int .i64 x, .int .i64 x, .int .i64 y] 3)) (some ⟨w6.heap.size, 0, none⟩) [x, x, y] := lit3 w6 x y
      have g2 : Below w6.heap.size w6 (World.alloc w6 (.cells #[.int .i64 x, .int .i64 x, .int .i64 y] 3)) := bel1 w6 (.cells #[.int .i64 x, .int .i64 x, .int .i64 y] 3)
      generalize World.alloc w6 (.cells #[.int .i64 x, .int .i64 x, .int .i64 y] 3) = V2 at *
      have l2' := Lib.hid l2
      have g2' := Lib.hid g2
      clear l2 g2
      refine wpAnyL_step 47 (by kernel_rfl) rfl (fun K5 hK => ?_)
      go_simp
      go_at_call 15
      refine (b_rfits (n := 3) hS3.1 l2'.out rfl (by omega)).mono ?_
      rintro e w7 ⟨rfl, hb7⟩
      dsimp only
      refine hK.out _ _ (same_S (hS3.1.below hb7)) (fun hS4 => ?_)
      clear hK K5
      try simp only [Act.put, List.setIfInBounds_toArray, List.set_cons_zero, List.set_cons_succ]
      have hb7' := Lib.hid hb7
      clear hb7
      have HBB := Lib.hid ((grew_trans (grew_trans (grew_trans (grew_trans ((Below.refl _ _).drew : Below Y.heap.size Y Y.drew) g1'.out) hb6'.out) g2'.out) hb7'.out))
      refine wpAnyL_takeD 48 71 (v := ?_) rfl rfl (by kernel_rfl) (fun _ _ _ h => h) (Or.inl ⟨by kernel_rfl, ?_⟩) (by assumption) ?_
      rotate_left
      · (intro w5 hSw; (try dsimp only at hSw); go_split_ands; go_simp; (try with_reducible rfl))
      try simp only [List.setIfInBounds_toArray, List.set_cons_zero, List.set_cons_succ]
      refine wpAnyL_takeD 49 72 (v := ?_) rfl rfl (by kernel_rfl) (fun _ _ _ h => h) (Or.inl ⟨by kernel_rfl, ?_⟩) (by assumption) ?_
      rotate_left
      · (intro w5 hSw; (try dsimp only at hSw); go_split_ands; go_simp; (try with_reducible rfl))
      try simp only [List.setIfInBounds_toArray, List.set_cons_zero, List.set_cons_succ]
      refine wpAnyL_end 50 (by kernel_rfl) rfl (by kernel_rfl) (by kernel_rfl) (fun K5 hK => ?_)
      go_simp
      refine hK.out _ _ (NoPanic.normal ?_)
      clear hK K5
      go_wp2
      go_ret
      exact retB rfl (grew_trans B2.out HBB.out)
    · go_simp
      refine hK.out _ _ (same_S (hS1.1.below (bel1 _ (.cells #[.int .i64 x, .int .i64 x, .int .i64 y] 3)))) (fun hS2 => ?_)
      clear hK K5
      try simp only [Act.put, List.setIfInBounds_toArray, List.set_cons_zero, List.set_cons_succ]
      have l2 : Lst encI 1 (World.alloc V1 (.cells #[.int .i64 x, .int .i64 x, .int .i64 y] 3)) (some ⟨V1.heap.size, 0, none⟩) [x, x, y] := lit3 V1 x y
      have g2 : Below V1.heap.size V1 (World.alloc V1 (.cells #[.int .i64 x, .int .i64 x, .int .i64 y] 3)) := bel1 V1 (.cells #[.int .i64 x, .int .i64 x, .int .i64 y] 3)
      generalize World.alloc V1 (.cells #[.int .i64 x, .int .i64 x, .int .i64 y] 3) = V2 at *
      have l2' := Lib.hid l2
      have g2' := Lib.hid g2
      clear l2 g2
      refine wpAnyL_step 40 (by kernel_rfl) rfl (fun K5 hK => ?_)
      go_simp
      go_at_call 14
      refine (b_fits (n := 3) hS2.1 (l1'.out.below g2'.out) wf3 rfl (by omega)).mono ?_
      rintro e w6 ⟨rfl, hb6⟩
      dsimp only
      refine hK.out _ _ (same_S (hS2.1.below hb6)) (fun hS3 => ?_)
      clear hK K5
      try simp only [Act.put, List.setIfInBounds_toArray, List.set_cons_zero, List.set_cons_succ]
      have hb6' := Lib.hid hb6
      clear hb6
      refine wpAnyL_step 47 (by kernel_rfl) rfl (fun K5 hK => ?_)
      go_simp
      go_at_call 15
      refine (b_rfits (n := 3) hS3.1 (l2'.out.below hb6'.out) rfl (by omega)).mono ?_
      rintro e w7 ⟨rfl, hb7⟩
      dsimp only
      refine hK.out _ _ (same_S (hS3.1.below hb7)) (fun hS4 => ?_)
      clear hK K5
      try simp only [Act.put, List.setIfInBounds_toArray, List.set_cons_zero, List.set_cons_succ]
      have hb7' := Lib.hid hb7
      clear hb7
      have HBB := Lib.hid ((grew_trans (grew_trans (grew_trans (grew_trans ((Below.refl _ _).drew : Below Y.heap.size Y Y.drew) g1'.out) g2'.out) hb6'.out) hb7'.out))
      refine wpAnyL_takeD 48 71 (v := ?_) rfl rfl (by kernel_rfl) (fun _ _ _ h => h) (Or.inl ⟨by kernel_rfl, ?_⟩) (by assumption) ?_
      rotate_left
      · (intro w5 hSw; (try dsimp only at hSw); go_split_ands; go_simp; (try with_reducible rfl))
      try simp only [List.setIfInBounds_toArray, List.set_cons_zero, List.set_cons_succ]
      refine wpAnyL_takeD 49 72 (v := ?_) rfl rfl (by kernel_rfl) (fun _ _ _ h => h) (Or.inl ⟨by kernel_rfl, ?_⟩) (by assumption) ?_
      rotate_left
      · (intro w5 hSw; (try dsimp only at hSw); go_split_ands; go_simp; (try with_reducible rfl))
      try simp only [List.setIfInBounds_toArray, List.set_cons_zero, List.set_cons_succ]
      refine wpAnyL_end 50 (by kernel_rfl) rfl (by kernel_rfl) (by kernel_rfl) (fun K5 hK => ?_)
      go_simp
      refine hK.out _ _ (NoPanic.normal ?_)
      clear hK K5
      go_wp2
      go_ret
      exact retB rfl (grew_trans B2.out HBB.out)
  · go_simp
    refine hK.out _ _ (same_S (hS0.1.below (bel1 _ (.cells #[.int .i64 x, .int .i64 x, .int .i64 y] 3)))) (fun hS1 => ?_)
    clear hK K5
    try simp only [Act.put, List.setIfInBounds_toArray, List.set_cons_zero, List.set_cons_succ]
    have l1 : Lst encI 1 (World.drew (World.alloc Y (.cells #[.int .i64 x, .int .i64 x, .int .i64 y] 3))) (some ⟨Y.heap.size, 0, none⟩) [x, x, y] := lit3 Y.drew x y
    have g1 : Below Y.heap.size Y.drew (World.drew (World.alloc Y (.cells #[.int .i64 x, .int .i64 x, .int .i64 y] 3))) := bel1 Y.drew (.cells #[.int .i64 x, .int .i64 x, .int .i64 y] 3)
    generalize World.drew (World.alloc Y (.cells #[.int .i64 x, .int .i64 x, .int .i64 y] 3)) = V1 at *
    have l1' := Lib.hid l1
    have g1' := Lib.hid g1
    clear l1 g1
    refine wpAnyL_step 39 (by kernel_rfl) rfl (fun K5 hK => ?_)
    go_simp
    refine hK.out _ _ (same_S (hS1.1.below (bel1 _ (.cells #[.int .i64 x, .int .i64 x, .int .i64 y] 3)))) (fun hS2 => ?_)
    clear hK K5
    try simp only [Act.put, List.setIfInBounds_toArray, List.set_cons_zero, List.set_cons_succ]
    have l2 : Lst encI 1 (World.alloc V1 (.cells #[.int .i64 x, .int .i64 x, .int .i64 y] 3)) (some ⟨V1.heap.size, 0, none⟩) [x, x, y] := lit3 V1 x y
    have g2 : Below V1.heap.size V1 (World.alloc V1 (.cells #[.int .i64 x, .int .i64 x, .int .i64 y] 3)) := bel1 V1 (.cells #[.int .i64 x, .int .i64 x, .int .i64 y] 3)
    generalize World.alloc V1 (.cells #[.int .i64 x, .int .i64 x, .int .i64 y] 3) = V2 at *
    have l2' := Lib.hid l2
    have g2' := Lib.hid g2
    clear l2 g2
    refine wpAnyL_step 40 (by kernel_rfl) rfl (fun K5 hK => ?_)
    go_simp
    go_at_call 14
    refine (b_fits (n := 3) hS2.1 l2'.out wf3 rfl (by omega)).mono ?_
    rintro e w6 ⟨rfl, hb6⟩
    dsimp only
    refine hK.out _ _ (same_S (hS2.1.below hb6)) (fun hS3 => ?_)
    clear hK K5
    try simp only [Act.put, List.setIfInBounds_toArray, List.set_cons_zero, List.set_cons_succ]
    have hb6' := Lib.hid hb6
    clear hb6
    refine wpAnyL_step 47 (by kernel_rfl) rfl (fun K5 hK => ?_)
    go_simp
    go_at_call 15
    refine (b_rfits (n := 3) hS3.1 ((l1'.out.below g2'.out).below hb6'.out) rfl (by omega)).mono ?_
    rintro e w7 ⟨rfl, hb7⟩
    dsimp only
    refine hK.out _ _ (same_S (hS3.1.below hb7)) (fun hS4 => ?_)
    clear hK K5
    try simp only [Act.put, List.setIfInBounds_toArray, List.set_cons_zero, List.set_cons_succ]
    have hb7' := Lib.hid hb7
    clear hb7
    have HBB := Lib.hid ((grew_trans (grew_trans (grew_trans (grew_trans ((Below.refl _ _).drew : Below Y.heap.size Y Y.drew) g1'.out) g2'.out) hb6'.out) hb7'.out))
    refine wpAnyL_takeD 48 71 (v := ?_) rfl rfl (by kernel_rfl) (fun _ _ _ h => h) (Or.inl ⟨by kernel_rfl, ?_⟩) (by assumption) ?_
    rotate_left
    · (intro w5 hSw; (try dsimp only at hSw); go_split_ands; go_simp; (try with_reducible rfl))
    try simp only [List.setIfInBounds_toArray, List.set_cons_zero, List.set_cons_succ]
    refine wpAnyL_takeD 49 72 (v := ?_) rfl rfl (by kernel_rfl) (fun _ _ _ h => h) (Or.inl ⟨by kernel_rfl, ?_⟩) (by assumption) ?_
    rotate_left
    · (intro w5 hSw; (try dsimp only at hSw); go_split_ands; go_simp; (try with_reducible rfl))
    try simp only [List.setIfInBounds_toArray, List.set_cons_zero, List.set_cons_succ]
    refine wpAnyL_end 50 (by kernel_rfl) rfl (by kernel_rfl) (by kernel_rfl) (fun K5 hK => ?_)
    go_simp
    refine hK.out _ _ (NoPanic.normal ?_)
    clear hK K5
    go_wp2
    go_ret
    exact retB rfl (grew_trans B2.out HBB.out)
end Go.Proofs.Ytcgkdomfbkkboaa
