/- The chapter's examples. -/
import Derived.Test.YtcleaamjfjnkkaaCo36
import Derived.Test.YtcleaamjfjnkkaaCo37
namespace Go.Proofs.Ytcleaamjfjnkkaa
open Go.RowKit Go.Joins

/-- a row of messages that none of a voter's blocks holds. -/
structure RowAt (w : World) (p : Nat) (lv : Value) (g : Nat) (cu : Array Value) : Prop where
  fre : Fre w p lv g
  blk : w.heap[g]? = some (.cells cu 46 (0, 0))
theorem Fre.below {w w' : World} {p : Nat} {lv : Value} {g : Nat} (h : Fre w p lv g) (hb : Below w.heap.size w w') : Fre w' p lv g := ⟨Nat.lt_of_lt_of_le h.lt hb.size, h.no⟩
theorem RowAt.below {w w' : World} {p : Nat} {lv : Value} {g : Nat} {cu : Array Value} (h : RowAt w p lv g cu) (hb : Below w.heap.size w w') : RowAt w' p lv g cu := ⟨h.fre.below hb, blk_below h.blk hb⟩
theorem RowAt.step {w w' : World} {base p N g cap : Nat} {lv lv' tv' : Value} {c' : Co} {a : Option Addr} {os' : List RM} {cu : Array Value} (h : RowAt w p lv g cu) (hN : OutN base p lv N c' w w' lv' a cap tv' os') : RowAt w' p lv' g cu := by
  have k := hN.keep h.fre
  exact ⟨k.1, k.2.trans h.blk⟩
theorem OutN.rowAt {base p N cap : Nat} {lv lv' tv' : Value} {c' : Co} {w w' : World} {a : Option Addr} {os' : List RM} (h : OutN base p lv N c' w w' lv' a cap tv' os') (h0 : 0 < N) : ∃ g cu, a = some ⟨g, 0, none⟩ ∧ RowAt w' p lv' g cu ∧ ∀ i, i < N → ∀ j u, (encM (os'.getD i default))[j]? = some u → cu[i * 26 + j]? = some u := by
  obtain ⟨g, cu, h1, h2, -, h3, h4⟩ := h.row h0
  exact ⟨g, cu, h1, ⟨h2, h3⟩, h4⟩
theorem sli2 {w : World} {base : Nat} {v : Value} {xs : List Int} {n : Nat} (h : OwnL encI 1 3 w base v xs) (hn : xs.length = n) : ∃ a c, v = .slice a n c ∧ Lst encI 1 w a xs := by
  obtain ⟨a, c, hv, hs, -⟩ := OwnL.sli EI h
  exact ⟨a, c, by rw [hv, hn], hs.lst⟩
theorem kq1_ok : Ok kq1 := (Goo.tick wo0_ok (i64s (by omega)) 5).ok
theorem kq2_ok : Ok kq2 := (Goo.handle kq1_ok woM1_ok (i64s (by omega)) 0).ok
theorem kq3_ok : Ok kq3 := (Goo.handle kq2_ok woM2_ok (i64s (by omega)) 0).ok
theorem ints2 (n : Nat) (xs ys : List Int) (ax ay : Option Addr) (cx cy : Nat) (w : World) (h1 : xs.length = n) (h2 : ys.length = n) (hx : Lst encI 1 w ax xs) (hy : Lst encI 1 w ay ys) (hl : n ≤ 1000) : Calls Try.prog 23 #[.slice ax n cx, .slice ay n cy] w (QuietB (decide (xs = ys)) w) := by
  have h := ints_any xs ys ax ay cx cy w hx hy (by omega)
  rw [h1, h2] at h
  exact h
set_option maxRecDepth 100000 in
theorem fld1 (w : World) (x y z : Value) : (Instr.field 26 (.agg #[x, y, z]) 1).run Try.prog w = .ok y w := by kernel_rfl
theorem kmA_ok : MOk kmA := mok_small rfl (by show (0 : Int) ≤ 5 ∧ (5 : Int) ≤ 10000; omega) (by show (-1000 : Int) ≤ 9 ∧ (9 : Int) ≤ 10000; omega) (by show (-1000 : Int) ≤ 0 ∧ (0 : Int) ≤ 10000; omega) (by show (-1000 : Int) ≤ 0 ∧ (0 : Int) ≤ 10000; omega) (by show (-1000 : Int) ≤ 0 ∧ (0 : Int) ≤ 10000; omega)
theorem kmD_ok : MOk kmD := mok_small rfl (by show (0 : Int) ≤ 6 ∧ (6 : Int) ≤ 10000; omega) (by show (-1000 : Int) ≤ 3 ∧ (3 : Int) ≤ 10000; omega) (by show (-1000 : Int) ≤ 0 ∧ (0 : Int) ≤ 10000; omega) (by show (-1000 : Int) ≤ 0 ∧ (0 : Int) ≤ 10000; omega) (by show (-1000 : Int) ≤ 9 ∧ (9 : Int) ≤ 10000; omega)
theorem kmG_ok : MOk kmG := mok_small rfl (by show (0 : Int) ≤ 4 ∧ (4 : Int) ≤ 10000; omega) (by show (-1000 : Int) ≤ 0 ∧ (0 : Int) ≤ 10000; omega) (by show (-1000 : Int) ≤ 0 ∧ (0 : Int) ≤ 10000; omega) (by show (-1000 : Int) ≤ 0 ∧ (0 : Int) ≤ 10000; omega) (by show (-1000 : Int) ≤ 7 ∧ (7 : Int) ≤ 10000; omega)
theorem kmH_ok : MOk kmH := mok_small rfl (by show (0 : Int) ≤ 9 ∧ (9 : Int) ≤ 10000; omega) (by show (-1000 : Int) ≤ 0 ∧ (0 : Int) ≤ 10000; omega) (by show (-1000 : Int) ≤ 0 ∧ (0 : Int) ≤ 10000; omega) (by show (-1000 : Int) ≤ 0 ∧ (0 : Int) ≤ 10000; omega) (by show (-1000 : Int) ≤ 0 ∧ (0 : Int) ≤ 10000; omega)
theorem kmX_ok : MOk kmX := mok_small rfl (by show (0 : Int) ≤ 99 ∧ (99 : Int) ≤ 10000; omega) (by show (-1000 : Int) ≤ 0 ∧ (0 : Int) ≤ 10000; omega) (by show (-1000 : Int) ≤ 0 ∧ (0 : Int) ≤ 10000; omega) (by show (-1000 : Int) ≤ 0 ∧ (0 : Int) ≤ 10000; omega) (by show (-1000 : Int) ≤ 0 ∧ (0 : Int) ≤ 10000; omega)
theorem kmP_ok : MOk kmP := mok_small rfl (by show (0 : Int) ≤ 99 ∧ (99 : Int) ≤ 10000; omega) (by show (-1000 : Int) ≤ 0 ∧ (0 : Int) ≤ 10000; omega) (by show (-1000 : Int) ≤ 0 ∧ (0 : Int) ≤ 10000; omega) (by show (-1000 : Int) ≤ 0 ∧ (0 : Int) ≤ 10000; omega) (by show (-1000 : Int) ≤ 0 ∧ (0 : Int) ≤ 10000; omega)
theorem kmV_ok : MOk kmV := mok_small rfl (by show (0 : Int) ≤ 2 ∧ (2 : Int) ≤ 10000; omega) (by show (-1000 : Int) ≤ 0 ∧ (0 : Int) ≤ 10000; omega) (by show (-1000 : Int) ≤ 0 ∧ (0 : Int) ≤ 10000; omega) (by show (-1000 : Int) ≤ 0 ∧ (0 : Int) ≤ 10000; omega) (by show (-1000 : Int) ≤ 0 ∧ (0 : Int) ≤ 10000; omega)
theorem kmE_ok : MOk kmE := ⟨by show (0 : Int) ≤ 6 ∧ (6 : Int) ≤ 18446744073709551615; omega, (i64s (by show (-1000 : Int) ≤ 1 ∧ (1 : Int) ≤ 10000; omega)), (i64s (by show (-1000 : Int) ≤ 5 ∧ (5 : Int) ≤ 10000; omega)), (i64s (by show (-1000 : Int) ≤ 0 ∧ (0 : Int) ≤ 10000; omega)), (i64s (by show (-1000 : Int) ≤ 10 ∧ (10 : Int) ≤ 10000; omega)), by show 1 ≤ 1000; omega, wf_mem.2 (fun e he => by obtain rfl := List.mem_singleton.1 he; exact ⟨by decide, by decide, by decide⟩)⟩
theorem kmF_ok : MOk kmF := ⟨by show (0 : Int) ≤ 6 ∧ (6 : Int) ≤ 18446744073709551615; omega, (i64s (by show (-1000 : Int) ≤ 0 ∧ (0 : Int) ≤ 10000; omega)), (i64s (by show (-1000 : Int) ≤ 0 ∧ (0 : Int) ≤ 10000; omega)), (i64s (by show (-1000 : Int) ≤ 0 ∧ (0 : Int) ≤ 10000; omega)), (i64s (by show (-1000 : Int) ≤ 0 ∧ (0 : Int) ≤ 10000; omega)), by show 1 ≤ 1000; omega, wf_mem.2 (fun e he => by obtain rfl := List.mem_singleton.1 he; exact ⟨by decide, by decide, by decide⟩)⟩
theorem kq4_ok : Ok kq4 := (Goo.handle kq3_ok kmA_ok (i64s (by omega)) 0).ok
theorem kq5_ok : Ok kq5 := (Goo.handle kq4_ok kmA_ok (i64s (by omega)) 0).ok
theorem kq6_ok : Ok kq6 := (Goo.handle kq5_ok kmD_ok (i64s (by omega)) 0).ok
theorem kq7_ok : Ok kq7 := (Goo.handle kq6_ok kmE_ok (i64s (by omega)) 0).ok
theorem kq8_ok : Ok kq8 := (Goo.handle kq7_ok kmF_ok (i64s (by omega)) 0).ok
theorem kq9_ok : Ok kq9 := (Goo.handle kq8_ok kmG_ok (i64s (by omega)) 0).ok
theorem kq10_ok : Ok kq10 := (Goo.handle kq9_ok kmH_ok (i64s (by omega)) 0).ok
theorem kq11_ok : Ok kq11 := (Goo.handle kq10_ok kmH_ok (i64s (by omega)) 0).ok
theorem kq12_ok : Ok kq12 := (Goo.handle kq11_ok kmX_ok (i64s (by omega)) 0).ok
theorem kq13_ok : Ok kq13 := (Goo.handle kq12_ok kmX_ok (i64s (by omega)) 0).ok
theorem kq14_ok : Ok kq14 := (Goo.handle kq13_ok kmP_ok (i64s (by omega)) 0).ok
theorem kn_four (w : World) (o1 o2 o3 o4 : Obj) : ((((w.alloc o1).alloc o2).alloc o3).alloc o4).heap[w.heap.size]? = some o1 ∧ ((((w.alloc o1).alloc o2).alloc o3).alloc o4).heap[w.heap.size + 1]? = some o2 ∧ ((((w.alloc o1).alloc o2).alloc o3).alloc o4).heap[w.heap.size + 1 + 1]? = some o3 ∧ ((((w.alloc o1).alloc o2).alloc o3).alloc o4).heap[w.heap.size + 1 + 1 + 1]? = some o4 ∧ ((((w.alloc o1).alloc o2).alloc o3).alloc o4).heap.size = w.heap.size + 4 ∧ Below w.heap.size w ((((w.alloc o1).alloc o2).alloc o3).alloc o4) := by
  have a1 := bel1 w o1
  have a2 := bel1 (w.alloc o1) o2
  have a3 := bel1 ((w.alloc o1).alloc o2) o3
  have a4 := bel1 (((w.alloc o1).alloc o2).alloc o3) o4
  have h1 := heap_alloc_new w o1
  have h2 := heap_alloc_new (w.alloc o1) o2
  have h3 := heap_alloc_new ((w.alloc o1).alloc o2) o3
  have h4 := heap_alloc_new (((w.alloc o1).alloc o2).alloc o3) o4
  refine ⟨blk_below (blk_below (blk_below h1 a2) a3) a4, ?_, ?_, ?_, by simp, ((a1.trans (a2.mono (by simp))).trans (a3.mono (by simp; omega))).trans (a4.mono (by simp; omega))⟩
  · have := blk_below (blk_below h2 a3) a4; simpa using this
  · have := blk_below h3 a4; simpa using this
  · simpa using h4
/-- a box whose log grows. -/
def KnL (w0 : World) (fb : Nat) (k : Nat) (v14 : Value) (wr : World) : Prop := ∃ (j : Nat) (v : Value), j + k = 300 ∧ v14 = .int .i64 (j : Int) ∧ wr.heap[fb]? = some (.cells #[.int .u64 1, .int .i64 (-1), v] 26 (0, 0)) ∧ OwnE wr w0.heap.size v (List.replicate j (1, 1, 0, 0)) ∧ Mod (fun k => k = fb) w0 wr
theorem knl_step {w0 wr w' : World} {o : Obj} {fb j : Nat} {v v' : Value} (hfb : fb < w0.heap.size) (hm : Mod (fun k => k = fb) w0 wr) (hb : wr.heap[fb]? = some (.cells #[.int .u64 1, .int .i64 (-1), v] 26 (0, 0))) (ho : OwnE w' w0.heap.size v' (List.replicate j (1, 1, 0, 0) ++ [(1, 1, 0, 0)])) (hg : (wr.alloc o).grownBy w' v.ownBlock) (hn : v.ownBlock ≠ some fb) (hv : ∀ g, v.ownBlock = some g → w0.heap.size ≤ g) :
    w'.heap[fb]? = some (.cells #[.int .u64 1, .int .i64 (-1), v] 26 (0, 0)) ∧ (w'.setCell ⟨fb, 2, none⟩ v').heap[fb]? = some (.cells #[.int .u64 1, .int .i64 (-1), v'] 26 (0, 0)) ∧ OwnE (w'.setCell ⟨fb, 2, none⟩ v') w0.heap.size v' (List.replicate (j + 1) (1, 1, 0, 0)) ∧ Mod (fun k => k = fb) w0 (w'.setCell ⟨fb, 2, none⟩ v') := by
  have hmg : Mod (fun k => v.ownBlock = some k) (wr.alloc o) w' := Mod.grown hg (fun _ e => e)
  have h1 : w'.heap[fb]? = some (.cells #[.int .u64 1, .int .i64 (-1), v] 26 (0, 0)) := hmg.heap (blk_below hb (bel1 wr o)) hn
  have hM : Mod (fun k => k = fb) w' (w'.setCell ⟨fb, 2, none⟩ v') := Mod.cellOf fb 2 v'
  refine ⟨h1, by rw [setCell_blk h1]; rfl, ?_, ?_⟩
  · rw [List.replicate_succ']
    exact hM.own ho (fun g hg e => by have := (World.ownsRow.lt ho g hg).1; omega)
  · have h2 : Mod (fun k => v.ownBlock = some k) wr w' := (Mod.bel (bel1 wr o)).trans hmg
    exact (hm.then h2 (fun i hi e => by have := hv i e; omega)).trans hM
theorem blk_sl {w : World} {g : Nat} (h : w.heap[g]? = some (.cells #[.int .u64 2, .int .i64 1, .int .u64 0, .int .u64 0] 30 (0, 0))) : Sl w (some ⟨g, 0, none⟩) 1 [(2, 1, 0, 0)] :=
  ⟨fun i hi => by
    obtain rfl : i = 0 := by simp at hi; omega
    exact ⟨g, 0, rfl, (cell_of h 0 rfl).1, (cell_of h 1 rfl).1, (cell_of h 2 rfl).1, (cell_of h 3 rfl).1⟩, (fun e => by cases e), Nat.le_refl _, by unfold maxLen; omega, fun ad e => ⟨_, _, (Option.some.inj e).symm⟩⟩
theorem kfull_wf : ∀ i, i < kFull.length → wfE (kFull.getD i default) := wf_mem.2 (fun e he => by
  unfold kFull at he
  obtain rfl := List.eq_of_mem_replicate he
  exact ⟨by decide, by decide, by decide⟩)
theorem kx0_ok : Ok kx0 := ok_new kn_e.1 kfull_wf (i64s (by omega)) (by omega)
theorem kx1_ok : Ok kx1 := (Goo.tick kx0_ok (i64s (by omega)) 0).ok
theorem kx2_ok : Ok kx2 := (Goo.tick kx1_ok (i64s (by omega)) 0).ok
theorem kx3_ok : Ok kx3 := (Goo.handle kx2_ok kmV_ok (i64s (by omega)) 0).ok
theorem kx3p_ok : Ok (kx3.propose (0, 2, 0, 0)).2 := ok_propose kx3_ok ⟨by decide, by decide⟩
theorem kx3p_2 : ((kx3.propose (0, 2, 0, 0)).2.propose (0, 9, 0, 0)).1 = 2 := by decide +kernel
set_option maxRecDepth 100000 in
theorem fldL0 (w : World) (x y z u : Value) : (Instr.field 41 (.agg #[x, y, z, u]) 0).run Try.prog w = .ok x w := by kernel_rfl
def HardM (t v : Int) (n : Nat) (w : World) (e : Ending) (w' : World) : Prop := ∃ a cap, e = .returned (.agg #[.int .u64 t, .int .i64 v, .slice a n cap]) ∧ Below w.heap.size w w'
theorem hardT {t t' v : Int} {es : List Ent} {w : World} {e : Ending} {w' : World} (h : HardP t' v es w e w') (hn : t' = t) : HardM t v es.length w e w' := by
  subst hn
  obtain ⟨a, c, h1, -, h3⟩ := h
  exact ⟨a, c, h1, h3⟩
theorem kk_lt {w : World} {base p : Nat} {lv ov tv : Value} {c : Co} (h : CL w base p lv ov tv c) {k : Nat} (hk : CF p lv NIL NIL k) : base ≤ k := by
  rcases hk with e | e | e | e
  · have := h.lt.1; omega
  · exact (h.lt.2 k e).1
  · cases e
  · cases e
theorem lit_sl (w : World) (x : Ent) : Sl (w.alloc (.cells #[.int .u64 x.1, .int .i64 x.2.1, .int .u64 x.2.2.1, .int .u64 x.2.2.2] 30)) (some ⟨w.heap.size, 0, none⟩) 1 [x] := ⟨lit_ents w x, (fun e => by cases e), Nat.le_refl _, by unfold maxLen; omega, fun ad e => ⟨_, _, (Option.some.inj e).symm⟩⟩
theorem eat_new {w : World} {o : Obj} {base p : Nat} {lv ov tv : Value} {c : Co} (h : CL w base p lv ov tv c) {b off : Nat} (e : (some ⟨w.heap.size, 0, none⟩ : Option Addr) = some ⟨b, off, none⟩) : b < (w.alloc o).heap.size ∧ ¬ CF p lv NIL NIL b := by
  simp at e
  obtain ⟨rfl, -⟩ := e
  refine ⟨by simp, ?_⟩
  rintro (e | e | e | e)
  · have := h.lt.1; omega
  · have := (h.lt.2 _ e).2; omega
  · cases e
  · cases e
set_option linter.unusedSimpArgs false in
set_option linter.unusedVariables false in
set_option maxHeartbeats 8000000 in
set_option maxRecDepth 100000 in
theorem lawKnown (W : World) : Calls Try.prog 7 #[] W (RetB true W) := by
  have hf0 := fld0
  have hf1 := fld1
  have hf2 := fld2
  go_enter Try.func7, Try.ntmps7
  go_upto_region 2 with (go_at_call 8; refine (new_wo _).mono ?_; rintro e w1 ⟨p, lv, rfl, hC, hB⟩; have C0 := Lib.hid hC; have B0 := Lib.hid hB; clear hC hB)
  go_upto_region 4 with (go_at_call 10; refine (works_any _).mono ?_; rintro e w2 ⟨rfl, hb⟩; have C0b := Lib.hid (C0.out.below hb); have B1 := Lib.hid (B0.out.trans (hb.mono B0.out.size)); clear hb)
  clear C0 B0
  go_upto_region 5 with (go_at_call 11; refine (tick_any 30 5 (i64s (by omega)) (i64s (by omega)) C0b.out wo0_ok).mono ?_; intro e w3 hO; obtain ⟨lv1, ov1, tv1, os1, rfl, hC, hM, hF⟩ := (show OutP _ p lv kq1 _ _ _ from hO); have C1 := Lib.hid hC; have B2 := Lib.hid (B1.out.trans (hM.below B1.out.size (fun k hk => kk_lt C0b.out hk))); clear hC hM hF hO)
  have HR1 := Lib.hid (role_any C1.out.toCL)
  rw [kn_a.1] at HR1
  have HH1 := Lib.hid (hard_any C1.out.toCL kq1_ok.log)
  rw [kn_a.2.1] at HH1
  go_upto_region 7 with (first
    | (go_at_call 13; refine HR1.out.mono ?_; rintro e w4 ⟨rfl, rfl⟩)
    | (go_at_call 12; refine HH1.out.mono ?_; rintro e w4 ⟨ah, ch, rfl, -, hb⟩; have C2 := Lib.hid (C1.out.below hb); have B3 := Lib.hid (B2.out.trans (hb.mono B2.out.size)); have HT2 := Lib.hid (to_any C2.out (by show kq1.dest.length ≤ 100; rw [kn_a.2.2.1]; decide)); clear hb)
    | (go_at_call 24; refine HT2.out.mono ?_; rintro e w5 ⟨v5, rfl, ho, hb⟩; obtain ⟨a5, c5, hv5, hs5⟩ := sli2 (n := 2) ho (by rw [kn_a.2.2.1]; rfl); subst hv5; have C3 := Lib.hid (C2.out.below hb); have B4 := Lib.hid (B3.out.trans (hb.mono B3.out.size)); have S5 := Lib.hid hs5; have HIN := Lib.hid (ints2 2 kq1.dest [1, 2] a5 (some ⟨w5.heap.size, 0, none⟩) c5 2 (w5.alloc (.cells #[.int .i64 1, .int .i64 2] 3)) (by rw [kn_a.2.2.1]; rfl) rfl (S5.out.below (bel1 _ _)) (sli_lit EI w5 [1, 2] 2 _ 3 rfl rfl (by unfold maxLen; omega)).lst (by omega)); rw [show decide (kq1.dest = [1, 2]) = true from decide_eq_true kn_a.2.2.1] at HIN; clear ho hb hs5)
    | (go_at_call 23; refine HIN.out.mono ?_; rintro e w6 ⟨rfl, q6, hq6⟩; have hb6 : Below w5.heap.size w5 w6 := (by rw [hq6]; exact grew_trans (bel1 w5 _) (below_drewN' _ q6)); have C4 := Lib.hid (C3.out.below hb6); have B5 := Lib.hid (B4.out.trans (hb6.mono B4.out.size)); have HP4 := Lib.hid (propose_any (0, 2, 0, 0) C4.out kq1_ok ⟨by decide, by decide⟩); rw [kn_a.2.2.2] at HP4; clear hq6 hb6)
    | (go_at_call 25; refine HP4.out.mono ?_; rintro e w7 ⟨rfl, lv2, ov2, tv2, os2, hC, hM, -⟩; have CL1 := Lib.hid hC.toCL; have B6 := Lib.hid (B5.out.trans (hM.below B5.out.size (fun k hk => C4.out.lt k hk |>.1 |> Nat.le_trans (Nat.le_refl _)))); clear hC hM))
  clear HR1 HH1 HT2 HIN HP4 S5 C1 C2 C3 C4 B1 B2 B3 B4 B5 C0b
  have hl2 : kq2.out.length = 2 := by decide +kernel
  have hl3 : kq3.out.length = 0 := by decide +kernel
  have HL2 := Lib.hid hl2
  have HL3 := Lib.hid hl3
  clear hl2 hl3
  go_upto_region 8 with (go_at_call 17; refine (handle_any woM1 none 0 0 zr 1 31 0 (i64s (by omega)) (i64s (by omega)) CL1.out kq1_ok woM1_ok rfl (eat_nil rfl)).mono ?_; intro e wq2 hO; obtain ⟨lq2, aq2, pq2, tq2, oq2, rfl, hN⟩ := outN (c' := kq2) hO HL2.out; have N2 := Lib.hid hN; have B7 := Lib.hid (B6.out.trans (hN.below CL1.out B6.out.size)); clear hO hN)
  clear B6
  go_upto_region 9 with (go_at_call 17; refine (handle_any woM2 none 0 0 zr 2 33 0 (i64s (by omega)) (i64s (by omega)) N2.out.cat.toCL kq2_ok woM2_ok rfl (eat_nil rfl)).mono ?_; intro e wq3 hO; obtain ⟨lq3, aq3, pq3, tq3, oq3, rfl, hN⟩ := outN (c' := kq3) hO HL3.out; have N3 := Lib.hid hN; have B8 := Lib.hid (B7.out.trans (hN.below N2.out.cat.toCL B7.out.size)); clear hO hN)
  clear B7
  go_upto_region 10 with (go_at_call 17; refine (handle_any kmA none 0 0 zr 1 50 0 (i64s (by omega)) (i64s (by omega)) N3.out.cat.toCL kq3_ok kmA_ok rfl (eat_nil rfl)).mono ?_; intro e wq4 hO; obtain ⟨lq4, aq4, pq4, tq4, oq4, rfl, hN⟩ := outN (c' := kq4) hO kn_b.1; have N4 := Lib.hid hN; have B9 := Lib.hid (B8.out.trans (hN.below N3.out.cat.toCL B8.out.size)); clear hO hN)
  obtain ⟨gA, cuA, rfl, hrowA, hcA⟩ := N4.out.rowAt (by omega)
  have RA_4 := Lib.hid hrowA
  have vA_6 := Lib.hid (show cuA[6]? = some (.bool false) from by have h5 := hcA 0 (by omega) 6 _ rfl; rw [N4.out.kind 0 (by omega)] at h5; rw [show (kq4.out.getD 0 default).yes = _ from kn_b.2.1] at h5; simpa using h5)
  have vA_1 := Lib.hid (show cuA[1]? = some (.int .u64 1) from by have h5 := hcA 0 (by omega) 1 _ rfl; rw [N4.out.kind 0 (by omega)] at h5; rw [show (kq4.out.getD 0 default).term = _ from kn_b.2.2.1] at h5; simpa using h5)
  clear hrowA hcA
  clear B8
  have HRA := Lib.hid (role_any N4.out.cat.toCL)
  rw [kn_b.2.2.2.1] at HRA
  go_upto_region 11 with (go_at_call 13; refine HRA.out.mono ?_; rintro e w8 ⟨rfl, rfl⟩)
  go_upto_region 12 with (go_at_call 17; refine (handle_any kmA none 0 0 zr 1 51 0 (i64s (by omega)) (i64s (by omega)) N4.out.cat.toCL kq4_ok kmA_ok rfl (eat_nil rfl)).mono ?_; intro e wq5 hO; obtain ⟨lq5, aq5, pq5, tq5, oq5, rfl, hN⟩ := outN (c' := kq5) hO kn_b.2.2.2.2.1; have N5 := Lib.hid hN; have B10 := Lib.hid (B9.out.trans (hN.below N4.out.cat.toCL B9.out.size)); clear hO hN)
  have RA_5 := Lib.hid (RowAt.step (RA_4.out) N5.out)
  clear RA_4
  obtain ⟨gB, cuB, rfl, hrowB, hcB⟩ := N5.out.rowAt (by omega)
  have RB_5 := Lib.hid hrowB
  have vB_6 := Lib.hid (show cuB[6]? = some (.bool true) from by have h5 := hcB 0 (by omega) 6 _ rfl; rw [N5.out.kind 0 (by omega)] at h5; rw [show (kq5.out.getD 0 default).yes = _ from kn_b.2.2.2.2.2.1] at h5; simpa using h5)
  have vB_1 := Lib.hid (show cuB[1]? = some (.int .u64 5) from by have h5 := hcB 0 (by omega) 1 _ rfl; rw [N5.out.kind 0 (by omega)] at h5; rw [show (kq5.out.getD 0 default).term = _ from kn_b.2.2.2.2.2.2.1] at h5; simpa using h5)
  clear hrowB hcB
  clear B9
  have xA_6 := (cell_of RA_5.out.blk 6 (v := .bool false) vA_6.out).1
  have xA_1 := (cell_of RA_5.out.blk 1 (v := .int .u64 1) vA_1.out).1
  have xB_6 := (cell_of RB_5.out.blk 6 (v := .bool true) vB_6.out).1
  have xB_1 := (cell_of RB_5.out.blk 1 (v := .int .u64 5) vB_1.out).1
  have HR5 := Lib.hid (role_any N5.out.cat.toCL)
  rw [kn_b.2.2.2.2.2.2.2.1] at HR5
  have HH5 := Lib.hid (hard_any N5.out.cat.toCL kq5_ok.log)
  rw [kn_b.2.2.2.2.2.2.2.2.1] at HH5
  have HE5 := Lib.hid (fun X hb => head_any (N5.out.cat.toCL.below (w' := X) hb))
  rw [kn_b.2.2.2.2.2.2.2.2.2.1] at HE5
  have HC5 := Lib.hid (fun X hb => commit_any (N5.out.cat.toCL.below (w' := X) hb))
  rw [kn_b.2.2.2.2.2.2.2.2.2.2] at HC5
  go_upto_region 14 with (first
    | (go_at_call 13; refine HR5.out.mono ?_; rintro e w9 ⟨rfl, rfl⟩)
    | (go_at_call 12; refine HH5.out.mono ?_; rintro e w9 ⟨ah5, ch5, rfl, -, hb⟩; have Q9 := Lib.hid hb; clear hb)
    | (go_at_call 26; refine (HE5.out _ Q9.out).mono ?_; rintro e w10 ⟨rfl, rfl⟩)
    | (go_at_call 14; refine (HC5.out _ Q9.out).mono ?_; rintro e w10 ⟨rfl, rfl⟩))
  have C5b := Lib.hid (N5.out.cat.toCL.below Q9.out)
  have B5b := Lib.hid (B10.out.trans (Q9.out.mono B10.out.size))
  clear RA_5
  clear RB_5
  clear xA_6 xA_1 xB_6 xB_1
  go_upto_region 15 with (go_at_call 17; refine (handle_any kmD none 0 0 zr 2 60 0 (i64s (by omega)) (i64s (by omega)) C5b.out kq5_ok kmD_ok rfl (eat_nil rfl)).mono ?_; intro e wq6 hO; obtain ⟨lq6, aq6, pq6, tq6, oq6, rfl, hN⟩ := outN (c' := kq6) hO kn_c.1; have N6 := Lib.hid hN; have B11 := Lib.hid (B5b.out.trans (hN.below C5b.out B5b.out.size)); clear hO hN)
  obtain ⟨gD, cuD, rfl, hrowD, hcD⟩ := N6.out.rowAt (by omega)
  have RD_6 := Lib.hid hrowD
  have vD_6 := Lib.hid (show cuD[6]? = some (.bool false) from by have h5 := hcD 0 (by omega) 6 _ rfl; rw [N6.out.kind 0 (by omega)] at h5; rw [show (kq6.out.getD 0 default).yes = _ from kn_c.2.1] at h5; simpa using h5)
  have vD_7 := Lib.hid (show cuD[7]? = some (.int .i64 1) from by have h5 := hcD 0 (by omega) 7 _ rfl; rw [N6.out.kind 0 (by omega)] at h5; rw [show (kq6.out.getD 0 default).mat = _ from kn_c.2.2.1] at h5; simpa using h5)
  have vD_8 := Lib.hid (show cuD[8]? = some (.int .i64 9) from by have h5 := hcD 0 (by omega) 8 _ rfl; rw [N6.out.kind 0 (by omega)] at h5; rw [show (kq6.out.getD 0 default).stamp = _ from kn_c.2.2.2.1] at h5; simpa using h5)
  clear hrowD hcD
  clear B5b
  have X7 := Lib.hid (lit_sl wq6 (6, 1, 0, 0))
  have C7e := Lib.hid (N6.out.cat.toCL |>.below (bel1 wq6 (.cells #[.int .u64 6, .int .i64 1, .int .u64 0, .int .u64 0] 30)))
  have HB7 := Lib.hid (bel1 wq6 (.cells #[.int .u64 6, .int .i64 1, .int .u64 0, .int .u64 0] 30))
  have E7 := Lib.hid (show EAt (wq6.alloc (.cells #[.int .u64 6, .int .i64 1, .int .u64 0, .int .u64 0] 30)) (CF p lq6 NIL NIL) ⟨some ⟨wq6.heap.size, 0, none⟩, 1, kmE⟩ from ⟨X7.out, fun b2 off2 e => eat_new (N6.out.cat.toCL) e⟩)
  go_upto_region 16 with (go_at_call 17; refine (handle_any kmE (some ⟨wq6.heap.size, 0, none⟩) 1 1 zr 2 61 0 (i64s (by omega)) (i64s (by omega)) C7e.out kq6_ok kmE_ok rfl E7.out).mono ?_; intro e wq7 hO; obtain ⟨lq7, aq7, pq7, tq7, oq7, rfl, hN⟩ := outN (c' := kq7) hO kn_c.2.2.2.2.1; have N7 := Lib.hid hN; have B12 := Lib.hid ((B11.out.trans (HB7.out.mono B11.out.size)).trans (hN.below C7e.out (B11.out.trans (HB7.out.mono B11.out.size)).size)); clear hO hN)
  have RD_7 := Lib.hid (RowAt.step (RD_6.out.below HB7.out) N7.out)
  clear RD_6
  obtain ⟨gE, cuE, rfl, hrowE, hcE⟩ := N7.out.rowAt (by omega)
  have RE_7 := Lib.hid hrowE
  have vE_6 := Lib.hid (show cuE[6]? = some (.bool true) from by have h5 := hcE 0 (by omega) 6 _ rfl; rw [N7.out.kind 0 (by omega)] at h5; rw [show (kq7.out.getD 0 default).yes = _ from kn_c.2.2.2.2.2.1] at h5; simpa using h5)
  have vE_7 := Lib.hid (show cuE[7]? = some (.int .i64 2) from by have h5 := hcE 0 (by omega) 7 _ rfl; rw [N7.out.kind 0 (by omega)] at h5; rw [show (kq7.out.getD 0 default).mat = _ from kn_c.2.2.2.2.2.2.1] at h5; simpa using h5)
  have vE_8 := Lib.hid (show cuE[8]? = some (.int .i64 10) from by have h5 := hcE 0 (by omega) 8 _ rfl; rw [N7.out.kind 0 (by omega)] at h5; rw [show (kq7.out.getD 0 default).stamp = _ from kn_c.2.2.2.2.2.2.2.1] at h5; simpa using h5)
  clear hrowE hcE
  clear B11 C7e HB7 E7 X7
  have X8 := Lib.hid (lit_sl wq7 (3, 1, 0, 0))
  have C8e := Lib.hid (N7.out.cat.toCL |>.below (bel1 wq7 (.cells #[.int .u64 3, .int .i64 1, .int .u64 0, .int .u64 0] 30)))
  have HB8 := Lib.hid (bel1 wq7 (.cells #[.int .u64 3, .int .i64 1, .int .u64 0, .int .u64 0] 30))
  have E8 := Lib.hid (show EAt (wq7.alloc (.cells #[.int .u64 3, .int .i64 1, .int .u64 0, .int .u64 0] 30)) (CF p lq7 NIL NIL) ⟨some ⟨wq7.heap.size, 0, none⟩, 1, kmF⟩ from ⟨X8.out, fun b2 off2 e => eat_new (N7.out.cat.toCL) e⟩)
  go_upto_region 17 with (go_at_call 17; refine (handle_any kmF (some ⟨wq7.heap.size, 0, none⟩) 1 1 zr 2 62 0 (i64s (by omega)) (i64s (by omega)) C8e.out kq7_ok kmF_ok rfl E8.out).mono ?_; intro e wq8 hO; obtain ⟨lq8, aq8, pq8, tq8, oq8, rfl, hN⟩ := outN (c' := kq8) hO kn_c.2.2.2.2.2.2.2.2.2.1; have N8 := Lib.hid hN; have B13 := Lib.hid ((B12.out.trans (HB8.out.mono B12.out.size)).trans (hN.below C8e.out (B12.out.trans (HB8.out.mono B12.out.size)).size)); clear hO hN)
  have RD_8 := Lib.hid (RowAt.step (RD_7.out.below HB8.out) N8.out)
  clear RD_7
  have RE_8 := Lib.hid (RowAt.step (RE_7.out.below HB8.out) N8.out)
  clear RE_7
  clear B12 C8e HB8 E8 X8
  go_upto_region 18 with (go_at_call 17; refine (handle_any kmG none 0 0 zr 1 63 0 (i64s (by omega)) (i64s (by omega)) N8.out.cat.toCL kq8_ok kmG_ok rfl (eat_nil rfl)).mono ?_; intro e wq9 hO; obtain ⟨lq9, aq9, pq9, tq9, oq9, rfl, hN⟩ := outN (c' := kq9) hO kn_c.2.2.2.2.2.2.2.2.2.2.1; have N9 := Lib.hid hN; have B14 := Lib.hid (B13.out.trans (hN.below N8.out.cat.toCL B13.out.size)); clear hO hN)
  have RD_9 := Lib.hid (RowAt.step (RD_8.out) N9.out)
  clear RD_8
  have RE_9 := Lib.hid (RowAt.step (RE_8.out) N9.out)
  clear RE_8
  obtain ⟨gG, cuG, rfl, hrowG, hcG⟩ := N9.out.rowAt (by omega)
  have RG_9 := Lib.hid hrowG
  have vG_0 := Lib.hid (show cuG[0]? = some (.int .i64 2) from by have h5 := hcG 0 (by omega) 0 _ rfl; rw [N9.out.kind 0 (by omega)] at h5; rw [show (kq9.out.getD 0 default).kind = _ from kn_c.2.2.2.2.2.2.2.2.2.2.2.1] at h5; simpa using h5)
  have vG_6 := Lib.hid (show cuG[6]? = some (.bool false) from by have h5 := hcG 0 (by omega) 6 _ rfl; rw [N9.out.kind 0 (by omega)] at h5; rw [show (kq9.out.getD 0 default).yes = _ from kn_c.2.2.2.2.2.2.2.2.2.2.2.2.1] at h5; simpa using h5)
  have vG_1 := Lib.hid (show cuG[1]? = some (.int .u64 6) from by have h5 := hcG 0 (by omega) 1 _ rfl; rw [N9.out.kind 0 (by omega)] at h5; rw [show (kq9.out.getD 0 default).term = _ from kn_c.2.2.2.2.2.2.2.2.2.2.2.2.2.1] at h5; simpa using h5)
  have vG_8 := Lib.hid (show cuG[8]? = some (.int .i64 0) from by have h5 := hcG 0 (by omega) 8 _ rfl; rw [N9.out.kind 0 (by omega)] at h5; rw [show (kq9.out.getD 0 default).stamp = _ from kn_c.2.2.2.2.2.2.2.2.2.2.2.2.2.2.1] at h5; simpa using h5)
  clear hrowG hcG
  clear B13
  go_upto_region 19 with (go_at_call 17; refine (handle_any kmH none 0 0 zr 1 84 0 (i64s (by omega)) (i64s (by omega)) N9.out.cat.toCL kq9_ok kmH_ok rfl (eat_nil rfl)).mono ?_; intro e wq10 hO; obtain ⟨lq10, aq10, pq10, tq10, oq10, rfl, hN⟩ := outN (c' := kq10) hO kn_c.2.2.2.2.2.2.2.2.2.2.2.2.2.2.2.1; have N10 := Lib.hid hN; have B15 := Lib.hid (B14.out.trans (hN.below N9.out.cat.toCL B14.out.size)); clear hO hN)
  have RD_10 := Lib.hid (RowAt.step (RD_9.out) N10.out)
  clear RD_9
  have RE_10 := Lib.hid (RowAt.step (RE_9.out) N10.out)
  clear RE_9
  have RG_10 := Lib.hid (RowAt.step (RG_9.out) N10.out)
  clear RG_9
  obtain ⟨gH, cuH, rfl, hrowH, hcH⟩ := N10.out.rowAt (by omega)
  have RH_10 := Lib.hid hrowH
  have vH_1 := Lib.hid (show cuH[1]? = some (.int .u64 6) from by have h5 := hcH 0 (by omega) 1 _ rfl; rw [N10.out.kind 0 (by omega)] at h5; rw [show (kq10.out.getD 0 default).term = _ from kn_c.2.2.2.2.2.2.2.2.2.2.2.2.2.2.2.2.1] at h5; simpa using h5)
  clear hrowH hcH
  clear B14
  go_upto_region 20 with (go_at_call 17; refine (handle_any kmH none 0 0 zr 1 86 0 (i64s (by omega)) (i64s (by omega)) N10.out.cat.toCL kq10_ok kmH_ok rfl (eat_nil rfl)).mono ?_; intro e wq11 hO; obtain ⟨lq11, aq11, pq11, tq11, oq11, rfl, hN⟩ := outN (c' := kq11) hO kn_c.2.2.2.2.2.2.2.2.2.2.2.2.2.2.2.2.2.1; have N11 := Lib.hid hN; have B16 := Lib.hid (B15.out.trans (hN.below N10.out.cat.toCL B15.out.size)); clear hO hN)
  have RD_11 := Lib.hid (RowAt.step (RD_10.out) N11.out)
  clear RD_10
  have RE_11 := Lib.hid (RowAt.step (RE_10.out) N11.out)
  clear RE_10
  have RG_11 := Lib.hid (RowAt.step (RG_10.out) N11.out)
  clear RG_10
  have RH_11 := Lib.hid (RowAt.step (RH_10.out) N11.out)
  clear RH_10
  obtain ⟨gI, cuI, rfl, hrowI, hcI⟩ := N11.out.rowAt (by omega)
  have RI_11 := Lib.hid hrowI
  have vI_6 := Lib.hid (show cuI[6]? = some (.bool false) from by have h5 := hcI 0 (by omega) 6 _ rfl; rw [N11.out.kind 0 (by omega)] at h5; rw [show (kq11.out.getD 0 default).yes = _ from kn_c.2.2.2.2.2.2.2.2.2.2.2.2.2.2.2.2.2.2.1] at h5; simpa using h5)
  have vI_1 := Lib.hid (show cuI[1]? = some (.int .u64 9) from by have h5 := hcI 0 (by omega) 1 _ rfl; rw [N11.out.kind 0 (by omega)] at h5; rw [show (kq11.out.getD 0 default).term = _ from kn_c.2.2.2.2.2.2.2.2.2.2.2.2.2.2.2.2.2.2.2] at h5; simpa using h5)
  clear hrowI hcI
  clear B15
  have xD_6 := (cell_of RD_11.out.blk 6 (v := .bool false) vD_6.out).1
  have xD_7 := (cell_of RD_11.out.blk 7 (v := .int .i64 1) vD_7.out).1
  have xD_8 := (cell_of RD_11.out.blk 8 (v := .int .i64 9) vD_8.out).1
  have xE_6 := (cell_of RE_11.out.blk 6 (v := .bool true) vE_6.out).1
  have xE_7 := (cell_of RE_11.out.blk 7 (v := .int .i64 2) vE_7.out).1
  have xE_8 := (cell_of RE_11.out.blk 8 (v := .int .i64 10) vE_8.out).1
  have xG_0 := (cell_of RG_11.out.blk 0 (v := .int .i64 2) vG_0.out).1
  have xG_6 := (cell_of RG_11.out.blk 6 (v := .bool false) vG_6.out).1
  have xG_1 := (cell_of RG_11.out.blk 1 (v := .int .u64 6) vG_1.out).1
  have xG_8 := (cell_of RG_11.out.blk 8 (v := .int .i64 0) vG_8.out).1
  have xH_1 := (cell_of RH_11.out.blk 1 (v := .int .u64 6) vH_1.out).1
  have xI_6 := (cell_of RI_11.out.blk 6 (v := .bool false) vI_6.out).1
  have xI_1 := (cell_of RI_11.out.blk 1 (v := .int .u64 9) vI_1.out).1
  have HC11 := Lib.hid (commit_any N11.out.cat.toCL)
  rw [kn_c.2.2.2.2.2.2.2.2.1] at HC11
  go_upto_region 22 with (go_at_call 14; refine HC11.out.mono ?_; rintro e w10 ⟨rfl, rfl⟩)
  clear RD_11
  clear xD_6
  clear xD_7
  clear xD_8
  clear RE_11
  clear xE_6
  clear xE_7
  clear xE_8
  clear RG_11
  clear xG_0
  clear xG_6
  clear xG_1
  clear xG_8
  clear RH_11
  clear xH_1
  clear RI_11
  clear xI_6
  clear xI_1
  have HX1 := Lib.hid (kn_d)
  have T12 : True := trivial
  have T13 : True := trivial
  have T14 : True := trivial
  go_upto_region 24 with (first
    | (go_at_call 17; have _t := T12; refine (handle_any kmX none 0 0 zr 0 99 0 (i64s (by omega)) (i64s (by omega)) N11.out.cat.toCL kq11_ok kmX_ok rfl (eat_nil rfl)).mono ?_; intro e wq12 hO; obtain ⟨lq12, aq12, pq12, tq12, oq12, rfl, hN⟩ := outN (c' := kq12) hO kn_d.1; have N12 := Lib.hid hN; have BX12 := Lib.hid (B16.out.trans (hN.below (N11.out.cat.toCL) B16.out.size)); clear hO hN T12)
    | (go_at_call 17; have _t := T13; refine (handle_any kmX none 0 0 zr 3 99 0 (i64s (by omega)) (i64s (by omega)) N12.out.cat.toCL kq12_ok kmX_ok rfl (eat_nil rfl)).mono ?_; intro e wq13 hO; obtain ⟨lq13, aq13, pq13, tq13, oq13, rfl, hN⟩ := outN (c' := kq13) hO kn_d.2.1; have N13 := Lib.hid hN; have BX13 := Lib.hid (BX12.out.trans (hN.below (N12.out.cat.toCL) BX12.out.size)); clear hO hN T13)
    | (go_at_call 17; have _t := T14; refine (handle_any kmP none 0 0 zr 1 99 0 (i64s (by omega)) (i64s (by omega)) N13.out.cat.toCL kq13_ok kmP_ok rfl (eat_nil rfl)).mono ?_; intro e wq14 hO; obtain ⟨lq14, aq14, pq14, tq14, oq14, rfl, hN⟩ := outN (c' := kq14) hO kn_d.2.2.1; have N14 := Lib.hid hN; have BX14 := Lib.hid (BX13.out.trans (hN.below (N13.out.cat.toCL) BX13.out.size)); clear hO hN T14)
    | (go_at_call 12; refine ((hard_any N14.out.cat.toCL kq14_ok.log).mono (fun e w' h => hardT (t := 9) h kn_d.2.2.2)).mono ?_; rintro e w11 ⟨ah6, ch6, rfl, hb⟩; have BH := Lib.hid (BX14.out.trans (hb.mono BX14.out.size)); clear hb))
  clear HX1 HL2 HL3
  go_wp2
  have KB := Lib.hid (show ((((w11.alloc (.cells #[.int .u64 2, .int .i64 1, .int .u64 0, .int .u64 0] 30)).alloc (.cells #[.int .u64 1, .int .i64 (-1), .slice (some ⟨w11.heap.size, 0, none⟩) 1 1] 26)).alloc (.cells #[.int .u64 0, .int .i64 3, .slice none 0 0] 26)).alloc (.cells #[.int .u64 1, .int .i64 (-1), .slice none 0 0] 26)).heap[w11.heap.size]? = some (.cells #[.int .u64 2, .int .i64 1, .int .u64 0, .int .u64 0] 30) ∧ ((((w11.alloc (.cells #[.int .u64 2, .int .i64 1, .int .u64 0, .int .u64 0] 30)).alloc (.cells #[.int .u64 1, .int .i64 (-1), .slice (some ⟨w11.heap.size, 0, none⟩) 1 1] 26)).alloc (.cells #[.int .u64 0, .int .i64 3, .slice none 0 0] 26)).alloc (.cells #[.int .u64 1, .int .i64 (-1), .slice none 0 0] 26)).heap[w11.heap.size + 1]? = some (.cells #[.int .u64 1, .int .i64 (-1), .slice (some ⟨w11.heap.size, 0, none⟩) 1 1] 26) ∧ ((((w11.alloc (.cells #[.int .u64 2, .int .i64 1, .int .u64 0, .int .u64 0] 30)).alloc (.cells #[.int .u64 1, .int .i64 (-1), .slice (some ⟨w11.heap.size, 0, none⟩) 1 1] 26)).alloc (.cells #[.int .u64 0, .int .i64 3, .slice none 0 0] 26)).alloc (.cells #[.int .u64 1, .int .i64 (-1), .slice none 0 0] 26)).heap[w11.heap.size + 1 + 1]? = some (.cells #[.int .u64 0, .int .i64 3, .slice none 0 0] 26) ∧ ((((w11.alloc (.cells #[.int .u64 2, .int .i64 1, .int .u64 0, .int .u64 0] 30)).alloc (.cells #[.int .u64 1, .int .i64 (-1), .slice (some ⟨w11.heap.size, 0, none⟩) 1 1] 26)).alloc (.cells #[.int .u64 0, .int .i64 3, .slice none 0 0] 26)).alloc (.cells #[.int .u64 1, .int .i64 (-1), .slice none 0 0] 26)).heap[w11.heap.size + 1 + 1 + 1]? = some (.cells #[.int .u64 1, .int .i64 (-1), .slice none 0 0] 26) ∧ ((((w11.alloc (.cells #[.int .u64 2, .int .i64 1, .int .u64 0, .int .u64 0] 30)).alloc (.cells #[.int .u64 1, .int .i64 (-1), .slice (some ⟨w11.heap.size, 0, none⟩) 1 1] 26)).alloc (.cells #[.int .u64 0, .int .i64 3, .slice none 0 0] 26)).alloc (.cells #[.int .u64 1, .int .i64 (-1), .slice none 0 0] 26)).heap.size = w11.heap.size + 4 ∧ Below w11.heap.size w11 ((((w11.alloc (.cells #[.int .u64 2, .int .i64 1, .int .u64 0, .int .u64 0] 30)).alloc (.cells #[.int .u64 1, .int .i64 (-1), .slice (some ⟨w11.heap.size, 0, none⟩) 1 1] 26)).alloc (.cells #[.int .u64 0, .int .i64 3, .slice none 0 0] 26)).alloc (.cells #[.int .u64 1, .int .i64 (-1), .slice none 0 0] 26)) from kn_four _ _ _ _ _)
  generalize ((((w11.alloc (.cells #[.int .u64 2, .int .i64 1, .int .u64 0, .int .u64 0] 30)).alloc (.cells #[.int .u64 1, .int .i64 (-1), .slice (some ⟨w11.heap.size, 0, none⟩) 1 1] 26)).alloc (.cells #[.int .u64 0, .int .i64 3, .slice none 0 0] 26)).alloc (.cells #[.int .u64 1, .int .i64 (-1), .slice none 0 0] 26)) = w12 at *
  go_loopg [14] 300 (fun k v14 wr => KnL w12 (w11.heap.size + 1 + 1 + 1) k v14 wr)
  case atStart => exact ⟨0, .slice none 0 0, by omega, rfl, KB.out.2.2.2.1, ownE_nil _ _, Mod.refl _ _⟩
  case round =>
    obtain ⟨j, v, hjk, rfl, hbx, how, hmod⟩ := hrel
    obtain ⟨va, vc, hv, hsl, -⟩ := own_sl how
    rw [List.length_replicate] at hv
    subst hv
    have HBX := Lib.hid hbx
    have HOW := Lib.hid how
    have HMO := Lib.hid hmod
    have HSL := Lib.hid hsl
    have hbs : w11.heap.size + 4 = w12.heap.size := KB.out.2.2.2.2.1.symm
    have HBS := Lib.hid hbs
    have HNB := Lib.hid (show (Value.slice va j vc).ownBlock ≠ some (w11.heap.size + 1 + 1 + 1) from fun e => by have := (World.ownsRow.lt how _ e).1; omega)
    clear how hmod hsl hbs
    by_cases hj : j < 300
    · have hji : (j : Int) < 300 := by omega
      have x2 := (cell_of (blk_below HBX.out (bel1 wr (.cells #[.int .u64 1, .int .i64 1, .int .u64 0, .int .u64 0] 30))) 2 (v := .slice va j vc) rfl)
      have y2 := (cell_of HBX.out 2 (v := .slice va j vc) rfl).1
      obtain ⟨x2c, x2f⟩ := x2
      have HO1 := Lib.hid (OwnE.bel HOW.out (bel1 wr (.cells #[.int .u64 1, .int .i64 1, .int .u64 0, .int .u64 0] 30)))
      have HE1 := Lib.hid (lit_ents wr (1, 1, 0, 0))
      go_upto_region 29 with (at_builtin; refine app_ents rfl _ _ rfl w12.heap.size _ (List.replicate j (1, 1, 0, 0)) rfl HO1.out (some ⟨wr.heap.size, 0, none⟩) 1 1 [(1, 1, 0, 0)] rfl rfl HE1.out (fun e => by cases e) (by simp; omega) (by have := HMO.out.size; simp; omega) ?_; intro v' w' hown' hgrow; obtain ⟨va2, vc2, hv2, -, -⟩ := own_sl hown'; rw [show List.length (List.replicate j ((1, 1, 0, 0) : Ent) ++ [(1, 1, 0, 0)]) = j + 1 by simp] at hv2; subst hv2; have KN := Lib.hid (knl_step (fb := w11.heap.size + 1 + 1 + 1) (by have := HBS.out; omega) HMO.out HBX.out hown' hgrow HNB.out (fun g hg => (World.ownsRow.lt HOW.out g hg).1)); have hq := cell_of (KN.out.1) 2 (v := .slice va j vc) rfl; obtain ⟨hq1, hq2⟩ := hq; clear hown' hgrow)
      go_wp2
      go_roundg (gk - 1)
      case measure => omega
      case rel => exact ⟨j + 1, .slice va2 (j + 1) vc2, by omega, by simp, KN.out.2.1, KN.out.2.2.1, KN.out.2.2.2⟩
    · obtain rfl : j = 300 := by omega
      have BW := Lib.hid (show Below w12.heap.size w12 wr ∨ True from Or.inr trivial)
      have M0 := Lib.hid (HMO.out)
      have BAD := Lib.hid (HMO.out.heap KB.out.1 (by omega))
      have BB1 := Lib.hid (HMO.out.heap KB.out.2.1 (by omega))
      have BB2 := Lib.hid (HMO.out.heap KB.out.2.2.1 (by omega))
      have BT := Lib.hid (show Below W.heap.size W wr from BH.out.trans ((KB.out.2.2.2.2.2.trans (HMO.out.below (by have := HBS.out; omega) (fun k e => by omega))).mono BH.out.size))
      clear BW M0
      have hbm := HBX.out
      have HNX := Lib.hid (new_yes 2 1 (-1) 0 3 va 300 vc kFull (by unfold kFull; simp) HSL.out (by unfold kFull; simp) kfull_wf (i64s (by omega)) kn_e.1)
      go_upto_region 32 with (first
        | (with_reducible refine wpList_load_row rfl 26 (.tmp 13) rfl (w11.heap.size + 1 + 1 + 1) rfl 26 _ (0, 0) _ hbm Try.underlying26 rfl (by kernel_rfl) ?_)
        | (go_at_call 8; refine HNX.out.mono ?_; rintro e w13 ⟨px, lx0, rfl, hC, hb⟩; have X0 := Lib.hid (show CL w13 wr.heap.size px lx0 NIL NIL kx0 from hC); have BX0 := Lib.hid (BT.out.trans (hb.mono BT.out.size)); have Z1 := Lib.hid (blk_below BB1.out hb); have Z2 := Lib.hid (blk_below BB2.out hb); have Z0 := Lib.hid (blk_below BAD.out hb); clear hC hb hbm))
      have U1 : True := trivial
      have U2 : True := trivial
      have U3 : True := trivial
      have U4 : True := trivial
      have U5 : True := trivial
      have U6 : True := trivial
      go_upto_region 34 with (first
        | (go_at_call 8; have _t := U1; refine (new_no 3 0 (-1) 0 0 none 0 0 [] rfl (Sl.nil _) (Nat.zero_le _) (fun i hi => by simp at hi) (i64s (by omega)) kn_e.2.1).mono ?_; rintro e w14 ⟨rfl, hb⟩; have Y1 := Lib.hid (X0.out.below hb); have K1 := Lib.hid (BX0.out.trans (hb.mono BX0.out.size)); have P1 := Lib.hid (blk_below Z1.out hb); have P2 := Lib.hid (blk_below Z2.out hb); have P0 := Lib.hid (blk_below Z0.out hb); clear hb U1)
        | (go_at_call 8; have _t := U2; refine (new_no (-1) 0 (-1) 0 0 none 0 0 [] rfl (Sl.nil _) (Nat.zero_le _) (fun i hi => by simp at hi) (i64s (by omega)) kn_e.2.2.1).mono ?_; rintro e w15 ⟨rfl, hb⟩; have Y2 := Lib.hid (Y1.out.below hb); have K2 := Lib.hid (K1.out.trans (hb.mono K1.out.size)); have Q1 := Lib.hid (blk_below P1.out hb); have Q2 := Lib.hid (blk_below P2.out hb); have Q0 := Lib.hid (blk_below P0.out hb); obtain ⟨b0, b1, b2⟩ := (And.intro (cell_of Q1.out 0 (v := .int .u64 1) rfl).1 (And.intro (cell_of Q1.out 1 (v := .int .i64 (-1)) rfl).1 (cell_of Q1.out 2 (v := .slice (some ⟨w11.heap.size, 0, none⟩) 1 1) rfl).1)); clear hb U2)
        | (go_at_call 8; have _t := U3; refine (new_no 0 1 (-1) 0 0 (some ⟨w11.heap.size, 0, none⟩) 1 1 [(2, 1, 0, 0)] rfl (blk_sl Q0.out) (by simp) (wf_mem.2 (fun e he => by obtain rfl := List.mem_singleton.1 he; exact ⟨by decide, by decide, by decide⟩)) (i64s (by omega)) kn_e.2.2.2.1).mono ?_; rintro e w16 ⟨rfl, hb⟩; have Y3 := Lib.hid (Y2.out.below hb); have K3 := Lib.hid (K2.out.trans (hb.mono K2.out.size)); clear b0 b1 b2; have S2 := Lib.hid (blk_below Q2.out hb); obtain ⟨b0, b1, b2⟩ := (And.intro (cell_of S2.out 0 (v := .int .u64 0) rfl).1 (And.intro (cell_of S2.out 1 (v := .int .i64 3) rfl).1 (cell_of S2.out 2 (v := .slice none 0 0) rfl).1)); clear hb U3)
        | (go_at_call 8; have _t := U4; refine (new_no 0 0 (3) 0 0 none 0 0 [] rfl (Sl.nil _) (Nat.zero_le _) (fun i hi => by simp at hi) (i64s (by omega)) kn_e.2.2.2.2.1).mono ?_; rintro e w17 ⟨rfl, hb⟩; have Y4 := Lib.hid (Y3.out.below hb); have K4 := Lib.hid (K3.out.trans (hb.mono K3.out.size)); clear b0 b1 b2; clear hb U4)
        | (go_at_call 11; have _t := U5; refine (tick_any 32 0 (i64s (by omega)) (i64s (by omega)) Y4.out kx0_ok).mono ?_; intro e w18 hO; obtain ⟨lx1, ax1, cx1, tx1, ox1, rfl, hN⟩ := outN (c' := kx1) hO kn_e.2.2.2.2.2.1; have NX1 := Lib.hid hN; have K5 := Lib.hid (K4.out.trans (hN.mod.below K4.out.size (fun k hk => Nat.le_trans BT.out.size (kk_lt Y4.out hk)))); clear hO hN U5)
        | (go_at_call 11; have _t := U6; refine (tick_any 33 0 (i64s (by omega)) (i64s (by omega)) NX1.out.cat.toCL kx1_ok).mono ?_; intro e w19 hO; obtain ⟨lx2, ax2, cx2, tx2, ox2, rfl, hN⟩ := outN (c' := kx2) hO kn_e.2.2.2.2.2.2.1; have NX2 := Lib.hid hN; have K6 := Lib.hid (K5.out.trans (hN.mod.below K5.out.size (fun k hk => Nat.le_trans BT.out.size (kk_lt NX1.out.cat.toCL hk)))); clear hO hN U6))
      go_upto_region 35 with (go_at_call 17; refine (handle_any kmV none 0 0 zr 0 34 0 (i64s (by omega)) (i64s (by omega)) NX2.out.cat.toCL kx2_ok kmV_ok rfl (eat_nil rfl)).mono ?_; intro e w20 hO; obtain ⟨lx3, ov3, tx3, ox3, rfl, hC, hM, hF⟩ := (show OutP _ px lx2 kx3 _ _ _ from hO); have X3 := Lib.hid hC; have K7 := Lib.hid (K6.out.trans (hM.below K6.out.size (fun k hk => Nat.le_trans BT.out.size (kk_lt NX2.out.cat.toCL hk)))); clear hC hM hF hO)
      have HRX := Lib.hid (role_any X3.out.toCL)
      rw [kn_e.2.2.2.2.2.2.2.1] at HRX
      have HHX := Lib.hid ((hard_any X3.out.toCL kx3_ok.log).mono (fun e w' h => hardN h kn_e.2.2.2.2.2.2.2.2.1))
      have V1 : True := trivial
      have V2 : True := trivial
      go_upto_region 38 with (first
        | (go_at_call 13; refine HRX.out.mono ?_; rintro e w21 ⟨rfl, rfl⟩)
        | (go_at_call 12; refine HHX.out.mono ?_; rintro e w21 ⟨ahx, chx, rfl, hb⟩; have X4 := Lib.hid (X3.out.below hb); have K8 := Lib.hid (K7.out.trans (hb.mono K7.out.size)); clear hb)
        | (go_at_call 25; have _t := V1; refine (propose_any (0, 2, 0, 0) X4.out kx3_ok ⟨by decide, by decide⟩).mono ?_; rintro e w22 ⟨he, lx4, ov4, tx4, ox4, hC, hM, -⟩; rw [kn_e.2.2.2.2.2.2.2.2.2.1] at he; subst he; have X5 := Lib.hid hC; have K9 := Lib.hid (K8.out.trans (hM.below K8.out.size (fun k hk => Nat.le_trans BT.out.size (X4.out.lt k hk).1))); clear hC hM V1)
        | (go_at_call 25; have _t := V2; refine (propose_any (0, 9, 0, 0) X5.out kx3p_ok ⟨by decide, by decide⟩).mono ?_; rintro e w23 ⟨he, lx5, ov5, tx5, ox5, hC, hM, -⟩; rw [kx3p_2] at he; subst he; have K10 := Lib.hid (K9.out.trans (hM.below K9.out.size (fun k hk => Nat.le_trans BT.out.size (X5.out.lt k hk).1))); clear hC hM V2))
      have NB : ∀ {X Y : World}, Below W.heap.size W X → Below X.heap.size X Y → Below W.heap.size W Y := fun h k => h.trans (k.mono h.size)
      clear NB
      have hl0 := fldL0
      go_wp2_with (first
        | (go_at_call 11; refine (tick_nil 1 1 _).mono ?_; rintro e wn0 ⟨rfl, hb⟩; have Kn0 := Lib.hid (K10.out.trans (hb.mono K10.out.size)); clear hb)
        | (go_at_call 17; refine (handle_nil 1 1 1 _).mono ?_; rintro e wn1 ⟨rfl, hb⟩; have Kn1 := Lib.hid (Kn0.out.trans (hb.mono Kn0.out.size)); clear hb)
        | (go_at_call 24; refine (to_nil _).mono ?_; rintro e wn2 ⟨rfl, hb⟩; have Kn2 := Lib.hid (Kn1.out.trans (hb.mono Kn1.out.size)); clear hb)
        | (go_at_call 25; refine (propose_nil _).mono ?_; rintro e wn3 ⟨rfl, hb⟩; have Kn3 := Lib.hid (Kn2.out.trans (hb.mono Kn2.out.size)); clear hb)
        | (go_at_call 13; refine (role_nil _).mono ?_; rintro e wn4 ⟨rfl, hb⟩; have Kn4 := Lib.hid (Kn3.out.trans (hb.mono Kn3.out.size)); clear hb)
        | (go_at_call 26; refine (head_nil _).mono ?_; rintro e wn5 ⟨rfl, hb⟩; have Kn5 := Lib.hid (Kn4.out.trans (hb.mono Kn4.out.size)); clear hb)
        | (go_at_call 14; refine (commit_nil _).mono ?_; rintro e wn6 ⟨rfl, hb⟩; have Kn6 := Lib.hid (Kn5.out.trans (hb.mono Kn5.out.size)); clear hb)
        | (go_at_call 15; refine (until_nil _).mono ?_; rintro e wn7 ⟨rfl, hb⟩; have Kn7 := Lib.hid (Kn6.out.trans (hb.mono Kn6.out.size)); clear hb)
        | (go_at_call 12; refine (hard_nil _).mono ?_; rintro e wn8 ⟨rfl, hb⟩; have Kn8 := Lib.hid (Kn7.out.trans (hb.mono Kn7.out.size)); clear hb)
        | (go_at_call 27; refine (line_nil _).mono ?_; rintro e wn9 ⟨rfl, hb⟩; have Kn9 := Lib.hid (Kn8.out.trans (hb.mono Kn8.out.size)); clear hb)
        | (go_at_call 10; refine (works_any _).mono ?_; rintro e wz ⟨rfl, hb⟩; have KZ := Lib.hid (Kn9.out.trans (hb.mono Kn9.out.size)); clear hb))
      go_ret
      exact retB rfl KZ.out
end Go.Proofs.Ytcleaamjfjnkkaa
