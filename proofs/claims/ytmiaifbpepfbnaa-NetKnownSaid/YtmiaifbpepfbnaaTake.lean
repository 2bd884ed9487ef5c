/- A frame is dropped, doubled, taken. -/
import Derived.Test.YtmiaifbpepfbnaaAt
namespace Go.Proofs.Ytmiaifbpepfbnaa
open Go.RowKit Go.Joins Go.ChangeMaps

theorem cellN (w : World) (cs : Array Value) (t : TypeId) (n i : Nat) (v : Value) (hn : n = w.heap.size) (hv : cs[i]? = some v) : (w.alloc (.cells cs t)).cell? ⟨n, i, none⟩ = some v := by
  rw [World.cell?_alloc_at _ _ _ _ hn]; exact hv
theorem PUpd.from {base p bm : Nat} {v : Value} {s : St} {w w2 w' : World} (hb : Below w.heap.size w w2) (h : PUpd base p bm v s w2 w') : PUpd base p bm v s w w' := by
  obtain ⟨v', h1, h2, h3⟩ := h
  exact ⟨v', h1, ((Mod.belowAll hb).mono (fun _ _ c => c.elim)).trans h2, fun g hg => (h3 g hg).imp id (fun c => Nat.le_trans hb.size c)⟩
theorem PUpd.same {base p bm : Nat} {v : Value} {s : St} {w w' : World} (h : PN w base p bm v s) (hb : Below w.heap.size w w') : PUpd base p bm v s w w' :=
  ⟨v, h.below hb, (Mod.belowAll hb).mono (fun _ _ c => c.elim), fun _ hg => .inl hg⟩
def RB (b : Bool) (R : World → Prop) (e : Ending) (w' : World) : Prop := e = .returned (.bool b) ∧ R w'
theorem rB {a b : Bool} {R : World → Prop} {w' : World} (h : a = b) (hr : R w') : RB b R (.returned (.bool a)) w' := ⟨by rw [h], hr⟩
theorem RetV.frm {v : Value} {w w' : World} {e : Ending} (h : RetV v w e w') : e = .returned v ∧ Below w.heap.size w w' := h
set_option maxRecDepth 100000 in
theorem drop_any (base p bm : Nat) (v : Value) (s : St) (k : Int) (w : World) (h : PN w base p bm v s) :
    Calls Try.prog 18 #[.pointer (some ⟨p, 0, none⟩), .int .i64 k] w (RB (dropS s k).2 (PUpd base p bm v (dropS s k).1 w)) := by
  by_cases hk : inB s k = true
  · have hk' := hk
    simp [inB] at hk'
    obtain ⟨i, rfl⟩ := Int.eq_ofNat_of_zero_le hk'.1
    have hi : i < s.fl.length := by omega
    have ha0 := at_in base p bm v s i w h hi
    have hP := Lib.hid h
    have hD : Hid (dropS s (i : Int) = (leaveS s i, true)) := by simp [Hid, dropS, hk]
    rw [hD.out]
    have hI := Lib.hid hi
    generalize s.fl.getD i default = f at *
    obtain ⟨f0, f1, f2⟩ := f
    simp only [frV] at ha0
    have ha := Lib.hid ha0
    clear ha0 hk hk' hi h
    go_enter Try.func18, Try.ntmps18
    go_wp2_with (first
      | (go_at_call 29; refine ha.out.mono ?_; rintro e w1 ⟨rfl, hb⟩; have hB := Lib.hid hb; clear hb)
      | (go_at_call 32; refine (leave_any base p bm _ _ v s i _ (hP.out.below (grew_trans hB.out (grew_trans (bel1 _ _) (bel1 _ _)))) hI.out (cellN _ _ _ _ _ _ (by simp) rfl)).mono ?_; rintro e w2 ⟨rfl, hU⟩))
    go_ret
    exact rB rfl (PUpd.from (grew_trans hB.out (grew_trans (bel1 _ _) (bel1 _ _))) hU)
  · have hk' : inB s k = false := by simpa using hk
    have ha0 := at_out base p bm v s k w h hk'
    simp only [frV, nof] at ha0
    have ha := Lib.hid ha0
    clear ha0
    have hP := Lib.hid h
    have hD : Hid (dropS s k = (s, false)) := by simp [Hid, dropS, hk]
    rw [hD.out]
    clear hk hk' h
    go_enter Try.func18, Try.ntmps18
    go_wp2_with (go_at_call 29; refine ha.out.mono ?_; rintro e w1 ⟨rfl, hb⟩; have hB := Lib.hid hb; clear hb)
    go_ret
    exact rB rfl (PUpd.same hP.out (grew_trans hB.out (bel1 _ _)))
theorem fr_own {w : World} {f : Fr} {n : Nat} (hn : n = w.heap.size) : Lst encF 3 (w.alloc (.cells #[.int .i64 f.1, .int .i64 f.2.1, .string f.2.2] 31)) (some ⟨n, 0, none⟩) [f] := by
  subst hn
  exact (sli_lit EF w [f] 1 _ 31 rfl rfl (by unfold maxLen; omega)).lst
set_option maxHeartbeats 1000000 in
set_option maxRecDepth 100000 in
theorem twice_any (base p bm : Nat) (v : Value) (s : St) (k : Int) (w : World) (h : PN w base p bm v s) (hbase : base ≤ w.heap.size) :
    Calls Try.prog 11 #[.pointer (some ⟨p, 0, none⟩), .int .i64 k] w (RB (twiceS s k).2 (PUpd base p bm v (twiceS s k).1 w)) := by
  by_cases hk : inB s k = true
  · have hk' := hk
    simp [inB] at hk'
    obtain ⟨i, rfl⟩ := Int.eq_ofNat_of_zero_le hk'.1
    have hi : i < s.fl.length := by omega
    have ha0 := at_in base p bm v s i w h hi
    have hP := Lib.hid h
    by_cases h8 : s.fl.length < 800
    · have hD : Hid (twiceS s (i : Int) = ({ s with fl := s.fl ++ [s.fl.getD i default] }, true)) := by simp [Hid, twiceS, hk, h8]
      rw [hD.out]
      have h8i : (s.fl.length : Int) < 800 := by omega
      have H8 := Lib.hid h8
      generalize s.fl.getD i default = f at *
      obtain ⟨f0, f1, f2⟩ := f
      simp only [frV] at ha0
      have ha := Lib.hid ha0
      have mixed : Try.prog.follows .mixedOrders = true := by kernel_rfl
      clear hk hk' hi h ha0 h8 hD
      go_enter Try.func11, Try.ntmps11
      go_wp2_with (first
        | (go_at_call 29; refine ha.out.mono ?_; rintro e w1 ⟨rfl, hb⟩; have hB := Lib.hid hb; clear hb; have hP1 := Lib.hid (hP.out.below (grew_trans hB.out (bel1 w1 (.cells #[.int .i64 f0, .int .i64 f1, .string f2] 31)))))
        | (go_at_call 13; refine (len_any base p bm v s _ hP1.out).mono ?_; rintro e w2 ⟨rfl, rfl⟩))
      have e0 := cellN w1 #[.int .i64 f0, .int .i64 f1, .string f2] 31 _ 0 _ rfl rfl
      have e1 := cellN w1 #[.int .i64 f0, .int .i64 f1, .string f2] 31 _ 1 _ rfl rfl
      have e2 := cellN w1 #[.int .i64 f0, .int .i64 f1, .string f2] 31 _ 2 _ rfl rfl
      have hBX := Lib.hid (grew_trans hB.out (bel1 w1 (.cells #[.int .i64 f0, .int .i64 f1, .string f2] 31)))
      generalize w1.alloc (.cells #[.int .i64 f0, .int .i64 f1, .string f2] 31) = X at *
      generalize w1.heap.size = nb at *
      have c1 := hP1.out.c.1.2.1
      have c1' := fun o => keepc' c1 (bel1 X o)
      have hB3 := Lib.hid ((Below.refl _ X).drew.alloc (Nat.le_refl _) (.cells #[.int .i64 f0, .int .i64 f1, .string f2] 31))
      have hP3 := Lib.hid (hP1.out.below hB3.out)
      have hbX : base ≤ X.heap.size := Nat.le_trans hbase hBX.out.size
      go_region_law_o (refine step_app EF TF rfl (.tmp 24) (.tmp 26) rfl (by simp [Act.eval]) hP3.out.own (some ⟨_, 0, none⟩) 1 1 [(f0, f1, f2)] rfl (by simp [Act.eval]) (fr_own (f := (f0, f1, f2)) rfl) (by simp) (by have := H8.out; simp; omega) (by have := H8.out; unfold maxLen; simp; omega) (by simp; omega) ?_; intro v' w' ho hgr hat; obtain ⟨a', c', rfl, -, -⟩ := ho.sli EF; have hm := Lib.hid (Mod.grown (S := fun k => v.ownBlock = some k) hgr (fun _ hk => hk)); have d1 := (cell_of (hm.out.heap hP3.out.blk hP3.out.not_own.1) 1 rfl).1; have d2 := (cell_of (hm.out.heap hP3.out.blk hP3.out.not_own.1) 1 rfl).2)
      all_goals (
        go_wp2
        go_ret
        exact rB rfl (PUpd.from hBX.out (PUpd.from hB3.out ⟨_, hP3.out.put1 hm.out hP3.out.not_own.1 hP3.out.not_own.2.1 (by simpa using ho) ⟨rfl, rfl, rfl, rfl, rfl⟩, (hm.out.mono fun j _ hj => .inr (.inr hj)).trans ((mod_setCell p 1 _ _).mono fun j _ hj => .inl hj), by simpa using hat⟩)))
    · have hD : Hid (twiceS s (i : Int) = (s, false)) := by simp [Hid, twiceS, h8]
      rw [hD.out]
      have h8i : (800 : Int) ≤ (s.fl.length : Int) := by omega
      generalize s.fl.getD i default = f at *
      obtain ⟨f0, f1, f2⟩ := f
      simp only [frV] at ha0
      have ha := Lib.hid ha0
      clear hk hk' hi h ha0 h8 hD
      go_enter Try.func11, Try.ntmps11
      go_wp2_with (first
        | (go_at_call 29; refine ha.out.mono ?_; rintro e w1 ⟨rfl, hb⟩; have hB := Lib.hid hb; clear hb; have hP1 := Lib.hid (hP.out.below (grew_trans hB.out (bel1 w1 (.cells #[.int .i64 f0, .int .i64 f1, .string f2] 31)))))
        | (go_at_call 13; refine (len_any base p bm v s _ hP1.out).mono ?_; rintro e w2 ⟨rfl, rfl⟩))
      go_ret
      exact rB rfl (PUpd.same hP.out (grew_trans hB.out (bel1 _ _)))
  · have hk' : inB s k = false := by simpa using hk
    have ha0 := at_out base p bm v s k w h hk'
    simp only [frV, nof] at ha0
    have ha := Lib.hid ha0
    clear ha0
    have hP := Lib.hid h
    have hD : Hid (twiceS s k = (s, false)) := by simp [Hid, twiceS, hk]
    rw [hD.out]
    clear hk hk' h
    go_enter Try.func11, Try.ntmps11
    go_wp2_with (go_at_call 29; refine ha.out.mono ?_; rintro e w1 ⟨rfl, hb⟩; have hB := Lib.hid hb; clear hb)
    go_ret
    exact rB rfl (PUpd.same hP.out (grew_trans hB.out (bel1 _ _)))
end Go.Proofs.Ytmiaifbpepfbnaa
