/- Whom messages go to; what is proposed; the line. -/
import Derived.Test.YtcleaamjfjnkkaaGreatCo26
namespace Go.Proofs.YtcleaamjfjnkkaaGreat
open Go.RowKit Go.Joins

/-- an owned row of ints. -/
def IntsP (xs : List Int) (w : World) (e : Ending) (w' : World) : Prop := ∃ v, e = .returned v ∧ OwnL encI 1 3 w' w.heap.size v xs ∧ Below w.heap.size w w'
set_option linter.unusedSimpArgs false in
set_option linter.unusedVariables false in
set_option maxHeartbeats 8000000 in
set_option maxRecDepth 100000 in
theorem cloneI_any (a : Option Addr) (cap n : Nat) (xs : List Int) (hn : xs.length = n) (w : World) (h : Sli encI 1 w a cap xs) (hb : n ≤ 1000) :
    Calls Tryz.prog 61 #[.slice a n cap] w (IntsP xs w) := by
  subst hn
  have qT : ∀ (w : World) (a : Option Addr) (n c : Nat), (binOp .eql 45 (.slice a n c) (.slice none 0 0)).run Tryz.prog w = .ok (.bool a.isNone) w := fun w a n c => Lib.run_eql_slice_nil w 45 3 a n c 0 0 Tryz.underlying45
  cases a with
  | none =>
    have h0 := h.nil0 rfl
    have h1 := h.len
    obtain rfl : xs = [] := List.eq_nil_of_length_eq_zero (by omega)
    subst h0
    go_enter Tryz.func61, Tryz.ntmps61
    go_wp2
    go_ret
    exact ⟨_, rfl, ownL_nil _ _, Below.refl _ _⟩
  | some ad =>
    have HS := Lib.hid h
    clear h
    have hown0 : Hid (OwnL encI 1 3 (w.alloc (.cells #[] 3)) w.heap.size (.slice (some ⟨w.heap.size, 0, none⟩) 0 0) ([] : List Int)) := World.ownsRow_made w #[] 0 (Nat.le_refl _) (Nat.zero_le _) rfl
    have hE1 : Hid (Lst encI 1 (w.alloc (.cells #[] 3)) (some ad) xs) := HS.out.lst.below ((Below.refl _ w).alloc (Nat.le_refl _) _)
    go_enter Tryz.func61, Tryz.ntmps61
    go_wp2_with (at_builtin; refine wpList_app EI TI rfl _ _ rfl rfl hown0.out (some ad) xs.length cap xs rfl rfl hE1.out HS.out.nil0 (by simp; omega) (by simp; unfold maxLen; omega) (by simp) ?_; intro v' w' hown' hgrow hf)
    go_ret
    exact ⟨_, rfl, hown', ((Below.refl _ w).alloc (Nat.le_refl _) _).grown hgrow (by simp) (fun j hj => (World.ownsRow.lt hown0.out j hj).1)⟩
set_option linter.unusedSimpArgs false in
set_option linter.unusedVariables false in
set_option maxHeartbeats 8000000 in
set_option maxRecDepth 100000 in
theorem to_any {w : World} {base p : Nat} {lv ov tv : Value} {os : List RM} {c : Co} (h : CAt w base p lv ov tv os c) (hd : c.dest.length ≤ 100) : Calls Tryz.prog 44 #[.pointer (some ⟨p, 0, none⟩)] w (IntsP c.dest w) := by
  obtain ⟨a, cap, hv, hs, -⟩ := OwnL.sli EI h.dst
  subst hv
  have g := h.toCL.cells.1.2.2.2.2.2.2.2.2.2.2.2.2
  have HC := Lib.hid (cloneI_any a cap c.dest.length c.dest rfl w hs (by omega))
  clear h hs
  go_enter Tryz.func44, Tryz.ntmps44
  go_wp2_with (go_at_call 61; refine HC.out.mono ?_; rintro e w1 ⟨v, rfl, h1, h2⟩; have H1 := Lib.hid h1; have H2 := Lib.hid h2; clear h1 h2)
  go_ret
  exact ⟨_, rfl, H1.out, H2.out⟩
theorem ents_of_lst {w : World} {a : Option Addr} {es : List Ent} (h : Lst encE 4 w a es) : Ents w a es := by
  intro i hi
  obtain ⟨b, off, e, hc⟩ := h i hi
  exact ⟨b, off, e, by simpa using hc 0 _ rfl, by simpa using hc 1 _ rfl, by simpa using hc 2 _ rfl, by simpa using hc 3 _ rfl⟩
theorem lit_ents (w : World) (x : Ent) : Ents (w.alloc (.cells #[.int .u64 x.1, .int .i64 x.2.1, .int .u64 x.2.2.1, .int .u64 x.2.2.2] 83)) (some ⟨w.heap.size, 0, none⟩) [x] := ents_of_lst (litE w x)
theorem h_stay {w w' : World} {base p : Nat} {lv ov tv : Value} {os : List RM} {c : Co} (h : CAt w' base p lv ov tv os c) (hb : Below w.heap.size w w') : CUpd base p lv ov tv c w w' := ⟨lv, ov, tv, os, h, Mod.bel hb, fun _ hk => .inl hk⟩
theorem pro_wf {c : Co} {x : Ent} (ok : Ok c) (hx : 0 ≤ x.2.2.1 ∧ 0 ≤ x.2.2.2) : ∀ i, i < [((c.term, x.2) : Ent)].length → wfE ([((c.term, x.2) : Ent)].getD i default) := by
  intro i hi
  obtain rfl : i = 0 := by simp at hi; omega
  exact ⟨ok.term.1, hx.1, hx.2⟩
def ProS (p bx : Nat) (lv : Value) (x : Ent) (w' : World) : Prop := w'.cell? ⟨p, 3, none⟩ = some lv ∧ w'.cell? ⟨bx, 0, none⟩ = some (.int .u64 x.1) ∧ w'.cell? ⟨bx, 1, none⟩ = some (.int .i64 x.2.1) ∧ w'.cell? ⟨bx, 2, none⟩ = some (.int .u64 x.2.2.1) ∧ w'.cell? ⟨bx, 3, none⟩ = some (.int .u64 x.2.2.2)
theorem proS_bel {p bx : Nat} {lv : Value} {x : Ent} {w w' : World} (h : ProS p bx lv x w) (hb : Below w.heap.size w w') : ProS p bx lv x w' := ⟨keepc' h.1 hb, keepc' h.2.1 hb, keepc' h.2.2.1 hb, keepc' h.2.2.2.1 hb, keepc' h.2.2.2.2 hb⟩
/-- what Propose answers, and leaves. -/
def ProP (base p : Nat) (lv ov tv : Value) (r : Int × Co) (w : World) (e : Ending) (w' : World) : Prop := e = .returned (.int .i64 r.1) ∧ CUpd base p lv ov tv r.2 w w'
end Go.Proofs.YtcleaamjfjnkkaaGreat
