/- The sign of life. -/
import Derived.Test.YtcleaamjfjnkkaaCo29
namespace Go.Proofs.Ytcleaamjfjnkkaa
open Go.RowKit Go.Joins

/-- behind a call: how many messages, and that nothing else was turned. -/
structure OutN (base p : Nat) (lv : Value) (N : Nat) (c' : Co) (w w' : World) (lv' : Value) (a : Option Addr) (cap : Nat) (tv' : Value) (os' : List RM) : Prop where
  cat : CAt w' base p lv' (.slice a N cap) tv' os' c'
  mod : Mod (CF p lv NIL NIL) w w'
  fr : ∀ k, CF p lv' (.slice a N cap) tv' k → CF p lv NIL NIL k ∨ w.heap.size ≤ k
  len : os'.length = N
theorem outN {base p : Nat} {lv : Value} {c' : Co} {w w' : World} {e : Ending} {N : Nat} (h : OutP base p lv c' w e w') (hN : c'.out.length = N) : ∃ lv' a cap tv' os', e = .returned (.slice a N cap) ∧ OutN base p lv N c' w w' lv' a cap tv' os' := by
  obtain ⟨lv', ov', tv', os', rfl, hC, hM, hF⟩ := h
  obtain ⟨a, cap, hv, -, -⟩ := OwnL.sli EM hC.out
  have hl : os'.length = N := by rw [← hN]; exact os_len hC
  rw [hl] at hv
  subst hv
  exact ⟨lv', a, cap, tv', os', rfl, hC, hM, hF, hl⟩
section
variable {base p N : Nat} {lv lv' tv' : Value} {c c' : Co} {w w' : World} {a : Option Addr} {cap : Nat} {os' : List RM}
theorem OutN.below (h : OutN base p lv N c' w w' lv' a cap tv' os') {ov tv : Value} (hC : CL w base p lv ov tv c) (hb : base ≤ w.heap.size) : Below base w w' :=
  h.mod.below hb (fun k hk => by
    rcases hk with e | e | e | e
    · have := hC.lt.1; omega
    · exact (hC.lt.2 k e).1
    · cases e
    · cases e)
/-- a block that is none of the voter's. -/
structure Fre (w : World) (p : Nat) (lv : Value) (g : Nat) : Prop where
  lt : g < w.heap.size
  no : ¬ CF p lv NIL NIL g
theorem OutN.keep (h : OutN base p lv N c' w w' lv' a cap tv' os') {g : Nat} (hg : Fre w p lv g) : Fre w' p lv' g ∧ w'.heap[g]? = w.heap[g]? := by
  refine ⟨⟨Nat.lt_of_lt_of_le hg.lt h.mod.size, fun hk => ?_⟩, h.mod.block g hg.lt hg.no⟩
  have h2 : CF p lv' (.slice a N cap) tv' g := by
    rcases hk with e | e | e | e
    · exact .inl e
    · exact .inr (.inl e)
    · cases e
    · cases e
  rcases h.fr g h2 with d | d
  · exact hg.no d
  · have := hg.lt; omega
/-- the block of what was sent. -/
theorem OutN.row (h : OutN base p lv N c' w w' lv' a cap tv' os') (h0 : 0 < N) : ∃ g cur, a = some ⟨g, 0, none⟩ ∧ Fre w' p lv' g ∧ base ≤ g ∧ w'.heap[g]? = some (.cells cur 46 (0, 0)) ∧ ∀ i, i < N → ∀ j u, (encM (os'.getD i default))[j]? = some u → cur[i * 26 + j]? = some u := by
  have hl := h.len
  rcases h.cat.out.2 with ⟨_, e⟩ | ⟨g, cap', cur, e, hb, hg, h1, h2, h3, h4⟩
  · omega
  · simp at e
    obtain ⟨rfl, -, rfl⟩ := e
    refine ⟨g, cur, rfl, ⟨blk_lt hg, ?_⟩, hb, hg, fun i hi j u hu => ?_⟩
    · intro hk
      rcases hk with e | e | e | e
      · subst e; have := h.cat.blk; rw [this] at hg; simp at hg
      · have := (h.cat.apart.1 g e).1; simp [Value.ownBlock] at this
      · cases e
      · cases e
    · have hj : j < 26 := by
        have := (List.getElem?_eq_some_iff.1 hu).1
        rwa [EM.1] at this
      have hf := flatOf_get EM os' i j hj (by omega)
      rw [← h4] at hf
      rw [hu] at hf
      have h6 : i < os'.length := by omega
      have h5 : i * 26 + j < os'.length * 26 := by omega
      rw [List.getElem?_take_of_lt h5] at hf
      simpa using hf
theorem OutN.kind (h : OutN base p lv N c' w w' lv' a cap tv' os') (i : Nat) (hi : i < N) : (os'.getD i default).m = c'.out.getD i default := by
  have hl := h.len
  have e := h.cat.eq
  rw [← e]
  simp [List.getD, show i < os'.length by omega]
end
def wo0 : Co := newC 0 0 (-1) [] 0 0
def wo1 : Co := wo0.tick 29 0
def wo2 : Co := wo1.tick 30 5
def woM1 : Mg := { mg0 2 with term := 1, yes := true }
def woM2 : Mg := { mg0 4 with term := 1, yes := true, mat := 1, stamp := 31 }
def wo3 : Co := wo2.handle 1 woM1 31 0
def wo4 : Co := wo3.handle 2 woM2 33 0
theorem wo_vals : wo1.out.length = 0 ∧ wo2.out.length = 2 ∧ (wo2.out.getD 0 default).kind = 1 ∧ wo3.out.length = 2 ∧ (wo3.out.getD 0 default).ents.length = 1 ∧ wo4.out.length = 0 ∧ wo4.commit = 1 ∧ wo4.until_ = 51 ∧ wo4.role = 2 ∧ wo4.head = 0 := by decide +kernel
theorem i64s {x : Int} (h : -1000 ≤ x ∧ x ≤ 10000) : I64 x := i64_small h.1 h.2
theorem mok_small {m : Mg} (h0 : m.ents = []) (h1 : 0 ≤ m.term ∧ m.term ≤ 10000) (h2 : -1000 ≤ m.prev ∧ m.prev ≤ 10000) (h3 : -1000 ≤ m.commit ∧ m.commit ≤ 10000) (h4 : -1000 ≤ m.mat ∧ m.mat ≤ 10000) (h5 : -1000 ≤ m.stamp ∧ m.stamp ≤ 10000) : MOk m :=
  ⟨⟨h1.1, by omega⟩, i64s h2, i64s h3, i64s h4, i64s h5, by rw [h0]; exact Nat.zero_le _, fun i hi => by rw [h0] at hi; simp at hi⟩
theorem eat_nil {w : World} {S : Nat → Prop} {m : Mg} (h : m.ents = []) : EAt w S ⟨none, 0, m⟩ := ⟨by show Sl w none 0 m.ents; rw [h]; exact Sl.nil w, fun b off e => by cases e⟩
def zr : Nat → Value
  | 0 => .int .u64 0 | 1 => .int .i64 0 | 2 => .bool false | 3 => .slice none 0 0 | 4 => .int .i64 0 | 5 => .int .u64 0 | 6 => .int .u64 0 | 7 => .int .u64 0 | 8 => .int .u64 0 | 9 => .int .i64 0 | 10 => .int .u64 0 | 11 => .int .u64 0 | 12 => .int .u64 0 | 13 => .int .u64 0 | 14 => .int .i64 0 | 15 => .int .i64 0 | _ => .slice none 0 0
theorem wo0_ok : Ok wo0 := ok_new (by decide +kernel) (fun i hi => by simp at hi) (i64s (by omega)) (by omega)
theorem wo1_ok : Ok wo1 := (Goo.tick wo0_ok (i64s (by omega)) 0).ok
theorem wo2_ok : Ok wo2 := (Goo.tick wo1_ok (i64s (by omega)) 5).ok
theorem woM1_ok : MOk woM1 := mok_small rfl (by show (0 : Int) ≤ 1 ∧ (1 : Int) ≤ 10000; omega) (by show (-1000 : Int) ≤ 0 ∧ (0 : Int) ≤ 10000; omega) (by show (-1000 : Int) ≤ 0 ∧ (0 : Int) ≤ 10000; omega) (by show (-1000 : Int) ≤ 0 ∧ (0 : Int) ≤ 10000; omega) (by show (-1000 : Int) ≤ 0 ∧ (0 : Int) ≤ 10000; omega)
theorem woM2_ok : MOk woM2 := mok_small rfl (by show (0 : Int) ≤ 1 ∧ (1 : Int) ≤ 10000; omega) (by show (-1000 : Int) ≤ 0 ∧ (0 : Int) ≤ 10000; omega) (by show (-1000 : Int) ≤ 0 ∧ (0 : Int) ≤ 10000; omega) (by show (-1000 : Int) ≤ 1 ∧ (1 : Int) ≤ 10000; omega) (by show (-1000 : Int) ≤ 31 ∧ (31 : Int) ≤ 10000; omega)
theorem wo3_ok : Ok wo3 := (Goo.handle wo2_ok woM1_ok (i64s (by omega)) 0).ok
theorem wo4_ok : Ok wo4 := (Goo.handle wo3_ok woM2_ok (i64s (by omega)) 0).ok
theorem new_wo (w : World) : Calls Try.prog 8 #[.int .i64 0, .agg #[.int .u64 0, .int .i64 (-1), .slice none 0 0], .int .i64 0, .int .i64 0] w (NewP wo0 w) :=
  new_yes 0 0 (-1) 0 0 none 0 0 [] rfl (Sl.nil w) (Nat.zero_le _) (fun i hi => by simp at hi) (i64s (by omega)) (by decide +kernel)
set_option linter.unusedSimpArgs false in
set_option linter.unusedVariables false in
set_option maxHeartbeats 8000000 in
set_option maxRecDepth 100000 in
theorem works_any (w : World) : Calls Try.prog 10 #[] w (RetB true w) := by
  obtain ⟨v1, v2, v3, v4, v5, v6, v7, v8, v9, v10⟩ := wo_vals
  have HV := Lib.hid (And.intro v1 (And.intro v2 (And.intro v3 (And.intro v4 (And.intro v5 v6)))))
  have HV2 := Lib.hid (And.intro v7 (And.intro v8 (And.intro v9 v10)))
  clear v1 v2 v3 v4 v5 v6 v7 v8 v9 v10
  go_enter Try.func10, Try.ntmps10
  go_upto_region 2 with (go_at_call 8; refine (new_wo _).mono ?_; rintro e w1 ⟨p, lv, rfl, hC, hB⟩; have C0 := Lib.hid hC; have B0 := Lib.hid hB; clear hC hB)
  go_upto_region 4 with (go_at_call 11; refine (tick_any 29 0 (i64s (by omega)) (i64s (by omega)) C0.out wo0_ok).mono ?_; intro e w2 hO; obtain ⟨lv2, a2, cap2, tv2, os2, rfl, hN⟩ := outN (c' := wo1) hO HV.out.1; have N2 := Lib.hid hN; clear hO hN)
  go_upto_region 5 with (go_at_call 11; refine (tick_any 30 5 (i64s (by omega)) (i64s (by omega)) N2.out.cat.toCL wo1_ok).mono ?_; intro e w3 hO; obtain ⟨lv3, a3, cap3, tv3, os3, rfl, hN⟩ := outN (c' := wo2) hO HV.out.2.1; have N3 := Lib.hid hN; clear hO hN)
  obtain ⟨g3, cu3, rfl, hf3, -, hh3, hc3⟩ := N3.out.row (by omega)
  have k3 := hc3 0 (by omega) 0 (.int .i64 1) (by rw [show (encM (os3.getD 0 default))[0]? = some (.int .i64 (os3.getD 0 default).m.kind) from rfl, N3.out.kind 0 (by omega), HV.out.2.2.1])
  have R3 := Lib.hid (And.intro hf3 (And.intro hh3 k3))
  clear hf3 hh3 hc3 k3
  go_upto_region 6 with (go_at_call 17; refine (handle_any woM1 none 0 0 zr 1 31 0 (i64s (by omega)) (i64s (by omega)) N3.out.cat.toCL wo2_ok woM1_ok rfl (eat_nil rfl)).mono ?_; intro e w4 hO; obtain ⟨lv4, a4, cap4, tv4, os4, rfl, hN⟩ := outN (c' := wo3) hO HV.out.2.2.2.1; have N4 := Lib.hid hN; clear hO hN)
  obtain ⟨g4, cu4, rfl, hf4, -, hh4, hc4⟩ := N4.out.row (by omega)
  have k4 := hc4 0 (by omega) 4 _ rfl
  rw [N4.out.kind 0 (by omega), HV.out.2.2.2.2.1] at k4
  have R4 := Lib.hid (And.intro hf4 (And.intro hh4 k4))
  clear hf4 hh4 hc4 k4
  go_upto_region 7 with (go_at_call 17; refine (handle_any woM2 none 0 0 zr 2 33 0 (i64s (by omega)) (i64s (by omega)) N4.out.cat.toCL wo3_ok woM2_ok rfl (eat_nil rfl)).mono ?_; intro e w5 hO; obtain ⟨lv5, a5, cap5, tv5, os5, rfl, hN⟩ := outN (c' := wo4) hO HV.out.2.2.2.2.2; have N5 := Lib.hid hN; clear hO hN)
  have h3 : w5.cell? ⟨g3, 0, none⟩ = some (.int .i64 1) := by
    have q4 := N4.out.keep R3.out.1
    have q5 := N5.out.keep q4.1
    exact (cell_of (q5.2.trans (q4.2.trans R3.out.2.1)) 0 (by simpa using R3.out.2.2)).1
  have h4 : w5.cell? ⟨g4, 4, none⟩ = some (.slice (os4.getD 0 default).ea 1 (os4.getD 0 default).ec) := by
    have q5 := N5.out.keep R4.out.1
    exact (cell_of (q5.2.trans R4.out.2.1) 4 (by simpa using R4.out.2.2)).1
  have HCM := Lib.hid (commit_any N5.out.cat.toCL)
  have HUN := Lib.hid (cuntil_any N5.out.cat.toCL wo4_ok.now (fun v hv => (wo4_ok.pr v hv).1))
  have HRO := Lib.hid (fun W (hb : Below w5.heap.size w5 W) => role_any (N5.out.cat.toCL.below hb))
  have HHE := Lib.hid (fun W (hb : Below w5.heap.size w5 W) => head_any (N5.out.cat.toCL.below hb))
  rw [HV2.out.1] at HCM
  rw [HV2.out.2.1] at HUN
  rw [HV2.out.2.2.1] at HRO
  rw [HV2.out.2.2.2] at HHE
  clear R3 R4
  go_wp2_with (first
    | (go_at_call 14; refine HCM.out.mono ?_; rintro e w6 ⟨rfl, rfl⟩)
    | (go_at_call 15; refine HUN.out.mono ?_; rintro e w6 ⟨rfl, hb⟩; have B6 := Lib.hid hb; clear hb)
    | (go_at_call 13; refine (HRO.out _ B6.out).mono ?_; rintro e w7 ⟨rfl, rfl⟩)
    | (go_at_call 26; refine (HHE.out _ B6.out).mono ?_; rintro e w7 ⟨rfl, rfl⟩))
  go_ret
  refine retB rfl ?_
  have b2 := N2.out.below C0.out B0.out.size
  have s2 : w.heap.size ≤ w2.heap.size := Nat.le_trans B0.out.size N2.out.mod.size
  have b3 := N3.out.below N2.out.cat.toCL s2
  have s3 := Nat.le_trans s2 N3.out.mod.size
  have b4 := N4.out.below N3.out.cat.toCL s3
  have s4 := Nat.le_trans s3 N4.out.mod.size
  have b5 := N5.out.below N4.out.cat.toCL s4
  exact ((((B0.out.trans b2).trans b3).trans b4).trans b5).trans (B6.out.mono (Nat.le_trans s4 N5.out.mod.size))
end Go.Proofs.Ytcleaamjfjnkkaa
