/- Put: the program's, and the reference's. -/
import Derived.Test.YtkojjnkohnokoaaLeaf
import Derived.Shelf.RegionOpenPlain
namespace Go.Proofs.Ytkojjnkohnokoaa
open Go.RowKit Go.Joins

/-- what Put hands back, and what it leaves. -/
def PutR (base p : Nat) (t : TypeId) (vs : Nat → Value) (s : St) (lk : Int) (b : BA) (w : World) (e : Ending) (w' : World) : Prop := e = .returned (.int .i64 (putE s lk b)) ∧ Upd base p t vs (putS s lk b) w w'
theorem put_same {base p : Nat} {t : TypeId} {vs : Nat → Value} {s : St} {lk : Int} {b : BA} {w w' : World} {n : Int} (h : Sch w base p t vs s) (h1 : putE s lk b = n) (h2 : putS s lk b = s) (hb : Below w.heap.size w w') : PutR base p t vs s lk b w (.returned (.int .i64 n)) w' :=
  ⟨by rw [h1], by rw [h2]; exact ⟨vs, h.below hb, Mod.of_below hb (Nat.le_refl _) _, fun k hk => .inl hk⟩⟩
theorem notE {b : BA} (h : ¬ b.size = 0) : b.toList.isEmpty = false := by
  rw [ByteArray.toList_eq]
  cases hb : b.data.toList with
  | nil => exact absurd (by rw [ByteArray.size, ← Array.length_toList, hb]; rfl) h
  | cons _ _ => rfl
set_option maxHeartbeats 1000000 in
set_option maxRecDepth 100000 in
theorem put_any (base p : Nat) (vs : Nat → Value) (s : St) (lk : Int) (b : BA) (w : World) (h : Sch w base p 56 vs s) (hb : base ≤ w.heap.size) :
    Calls Try.prog 11 #[.pointer (some ⟨p, 0, none⟩), .int .i64 lk, .string b] w (PutR base p 56 vs s lk b w) := by
  have H := Lib.hid h
  by_cases h1 : lk < 0 ∨ 6 ≤ lk ∨ b.size = 0
  · have hE := Lib.hid (show putE s lk b = 2 by simp only [putE, if_pos h1])
    have hS := Lib.hid (show putS s lk b = s by simp only [putS, if_pos h1])
    clear h
    by_cases k1 : lk < 0
    · clear h1
      go_enter Try.func11, Try.ntmps11
      go_wp2
      go_ret
      exact put_same H.out hE.out hS.out (Below.refl _ _)
    · have k1' : 0 ≤ lk := by omega
      by_cases k2 : 6 ≤ lk
      · clear h1
        go_enter Try.func11, Try.ntmps11
        go_wp2
        go_ret
        exact put_same H.out hE.out hS.out (Below.refl _ _)
      · have k3 : lk < 6 := by omega
        have k4 : b.size = 0 := by omega
        have k5 : b = ⟨#[]⟩ := by cases b with | mk d => simp [ByteArray.size] at k4; simp [k4]
        clear h1 k4
        subst k5
        go_enter Try.func11, Try.ntmps11
        go_wp2
        go_ret
        exact put_same H.out hE.out hS.out (Below.refl _ _)
  · have k1 : 0 ≤ lk := by omega
    have k2 : lk < 6 := by omega
    have kb : b.toList.isEmpty = false := notE (fun e => h1 (.inr (.inr e)))
    obtain ⟨k, rfl⟩ : ∃ k : Nat, lk = k := ⟨lk.toNat, by omega⟩
    have hk : k < 6 := by omega
    by_cases h2 : 8192 < b.size
    · have hE := Lib.hid (show putE s k b = 3 by simp only [putE, if_neg h1, if_pos h2])
      have hS := Lib.hid (show putS s k b = s by simp only [putS, if_neg h1, if_pos h2])
      have h2' : (8192 : Int) < (b.size : Int) := by omega
      clear h1 h
      go_enter Try.func11, Try.ntmps11
      go_wp2
      go_ret
      exact put_same H.out hE.out hS.out (Below.refl _ _)
    · have h2' : (b.size : Int) ≤ 8192 := by omega
      have hc := h.cell (tabs12 s.c) hk
      have hq := h.que k hk
      obtain ⟨a, cap, hv, -⟩ := hq.form
      rw [hv] at hc
      have hfz := h.frozen (k * 2)
      by_cases h3 : 4 ≤ (s.q k).length
      · have hE := Lib.hid (show putE s k b = 7 by simp only [putE, if_neg h1, if_neg h2, Int.toNat_natCast, if_pos h3])
        have hS := Lib.hid (show putS s k b = s by simp only [putS, if_neg h1, if_neg h2, Int.toNat_natCast, if_pos h3])
        have h3' : (4 : Int) ≤ ((s.q k).length : Int) := by omega
        clear h1 h h2 hv hq h3
        generalize (s.q k).length = n at *
        go_enter Try.func11, Try.ntmps11
        go_wp2
        go_ret
        exact put_same H.out hE.out hS.out (Below.refl _ _)
      · have hE := Lib.hid (show putE s k b = 0 by simp only [putE, if_neg h1, if_neg h2, Int.toNat_natCast, if_neg h3])
        have hS := Lib.hid (show putS s k b = ⟨upd s.q k (s.q k ++ [b]), s.c⟩ by simp only [putS, if_neg h1, if_neg h2, Int.toNat_natCast, if_neg h3])
        have h3' : ((s.q k).length : Int) < 4 := by omega
        have hlq := Lib.hid (show ∃ l, l = s.q k ∧ l.length ≤ 1000000 from ⟨_, rfl, by omega⟩)
        have HV := Lib.hid hv
        have HQ := Lib.hid hq
        have hnp := Lib.hid (h.np k hk)
        clear h1 h h2 hv hq h3
        generalize (s.q k).length = n at *
        go_enter Try.func11, Try.ntmps11
        go_wp2_with (go_at_call 20; refine (qput_any p (k * 2) base (.slice a n cap) (s.q k) b w hc hfz (by rw [← HV.out]; exact HQ.out) hb (by obtain ⟨l, rfl, hl⟩ := hlq.out; exact hl) (by rw [← HV.out]; exact hnp.out)).mono ?_; rintro e w' ⟨rfl, v', w1, rfl, hq1, hm1, hv1⟩)
        go_ret
        have key := H.out.turn (tabs12 s.c) hk hq1 (hm1.mono (fun k _ hk => by rw [HV.out]; exact hk)) (fun g hg => by rw [HV.out]; exact hv1 g hg)
        refine ⟨by rw [hE.out]; rfl, ?_⟩
        rw [hS.out]
        exact ⟨_, key.1, key.2.1, key.2.2⟩
set_option maxHeartbeats 1000000 in
set_option maxRecDepth 100000 in
theorem rput_any (base p : Nat) (vs : Nat → Value) (s : St) (lk : Int) (b : BA) (w : World) (h : Sch w base p 31 vs s) (hb : base ≤ w.heap.size) :
    Calls Try.prog 13 #[.pointer (some ⟨p, 0, none⟩), .int .i64 lk, .string b] w (PutR base p 31 vs s lk b w) := by
  have H := Lib.hid h
  by_cases h1 : lk < 0 ∨ 6 ≤ lk ∨ b.size = 0
  · have hE := Lib.hid (show putE s lk b = 2 by simp only [putE, if_pos h1])
    have hS := Lib.hid (show putS s lk b = s by simp only [putS, if_pos h1])
    clear h
    by_cases k1 : lk < 0
    · clear h1
      go_enter Try.func13, Try.ntmps13
      go_wp2
      go_ret
      exact put_same H.out hE.out hS.out (Below.refl _ _)
    · have k1' : 0 ≤ lk := by omega
      by_cases k2 : 6 ≤ lk
      · clear h1
        go_enter Try.func13, Try.ntmps13
        go_wp2
        go_ret
        exact put_same H.out hE.out hS.out (Below.refl _ _)
      · have k3 : lk < 6 := by omega
        have k4 : b.size = 0 := by omega
        have k5 : b = ⟨#[]⟩ := by cases b with | mk d => simp [ByteArray.size] at k4; simp [k4]
        clear h1 k4
        subst k5
        go_enter Try.func13, Try.ntmps13
        go_wp2
        go_ret
        exact put_same H.out hE.out hS.out (Below.refl _ _)
  · have k1 : 0 ≤ lk := by omega
    have k2 : lk < 6 := by omega
    have kb : ((b.size : Int) == 0) = false := by
      have : ¬ b.size = 0 := fun e => h1 (.inr (.inr e))
      exact beq_eq_false_iff_ne.2 (by omega)
    obtain ⟨k, rfl⟩ : ∃ k : Nat, lk = k := ⟨lk.toNat, by omega⟩
    have hk : k < 6 := by omega
    by_cases h2 : 8192 < b.size
    · have hE := Lib.hid (show putE s k b = 3 by simp only [putE, if_neg h1, if_pos h2])
      have hS := Lib.hid (show putS s k b = s by simp only [putS, if_neg h1, if_pos h2])
      have h2' : (8192 : Int) < (b.size : Int) := by omega
      clear h1 h
      go_enter Try.func13, Try.ntmps13
      go_wp2
      go_ret
      exact put_same H.out hE.out hS.out (Below.refl _ _)
    · have h2' : (b.size : Int) ≤ 8192 := by omega
      have hc := h.cell (tabs12 s.c) hk
      have hq := h.que k hk
      obtain ⟨a, cap, hv, -⟩ := hq.form
      rw [hv] at hc
      have hfz := h.frozen (k * 2)
      by_cases h3 : 4 ≤ (s.q k).length
      · have hE := Lib.hid (show putE s k b = 7 by simp only [putE, if_neg h1, if_neg h2, Int.toNat_natCast, if_pos h3])
        have hS := Lib.hid (show putS s k b = s by simp only [putS, if_neg h1, if_neg h2, Int.toNat_natCast, if_pos h3])
        have h3' : (4 : Int) ≤ ((s.q k).length : Int) := by omega
        clear h1 h h2 hv hq h3
        generalize (s.q k).length = n at *
        go_enter Try.func13, Try.ntmps13
        go_wp2
        go_ret
        exact put_same H.out hE.out hS.out (Below.refl _ _)
      · have hE := Lib.hid (show putE s k b = 0 by simp only [putE, if_neg h1, if_neg h2, Int.toNat_natCast, if_neg h3])
        have hS := Lib.hid (show putS s k b = ⟨upd s.q k (s.q k ++ [b]), s.c⟩ by simp only [putS, if_neg h1, if_neg h2, Int.toNat_natCast, if_neg h3])
        have h3' : ((s.q k).length : Int) < 4 := by omega
        have hlq := Lib.hid (show ∃ l, l = s.q k ∧ l.length ≤ 1000000 from ⟨_, rfl, by omega⟩)
        have HV := Lib.hid hv
        have HQ := Lib.hid hq
        have hnp := Lib.hid (h.np k hk)
        clear h1 h h2 hv hq h3
        generalize (s.q k).length = n at *
        go_enter Try.func13, Try.ntmps13
        have hpl := World.block_lt_of_cell? _ _ hc
        have e1 := cell_one_new w (.string b) 9 0 (.string b) rfl
        rw [Go.WideShapes.add_plain, Nat.zero_add] at e1
        have hBd := Lib.hid ((Below.refl _ w).drew.alloc (Nat.le_refl _) (.cells #[.string b] 9))
        have hc' : ∀ o, (w.alloc o).cell? ⟨p, k * 2, none⟩ = some (.slice a n cap) := fun o => ((bel1 w o).cell (p := ⟨p, k * 2, none⟩) hpl).trans hc
        have hq0 : Que w base (.slice a n cap) (s.q k) := by rw [← HV.out]; exact HQ.out
        have HQ0 := Lib.hid (hq0.below hBd.out)
        have hcB := Lib.hid ((hBd.out.cell (p := ⟨p, k * 2, none⟩) hpl).trans hc)
        have hfB := Lib.hid ((hBd.out.frozen (p := ⟨p, k * 2, none⟩) hpl).trans hfz)
        have hl1 := Lib.hid (show (s.q k).length ≤ 1000000 by obtain ⟨l, rfl, hl⟩ := hlq.out; exact hl)
        have hnp' := Lib.hid (show (Value.slice a n cap).ownBlock ≠ some p by rw [← HV.out]; exact hnp.out)
        clear hq0
        have mixed : Try.prog.follows .mixedOrders = true := by kernel_rfl
        go_upto_region 7 with fail
        go_region_law_o (refine step_que (v := .slice a n cap) (base := base) rfl (.tmp 38) (.tmp 40) rfl (by simp [Act.eval]) HQ0.out (by simp; omega) hl1.out ⟨w.heap.size, 0, none⟩ 1 b (by simp [Act.eval]) e1 ?_; intro v' w' ho hgr hat; obtain ⟨a', c', rfl, -⟩ := ho.form; have hc1 := hgr.cell (a := ⟨p, k * 2, none⟩) hcB.out hnp'.out.symm; have hf1 : w'.frozen? ⟨p, k * 2, none⟩ = false := (World.frozen?_of_block (a := ⟨p, k * 2, none⟩) (hgr.block p (by simp; have := hpl; simp at this; omega) hnp'.out.symm)).trans hfB.out)
        all_goals (
          rw [List.length_append, List.length_singleton] at ho hat
          have HO := Lib.hid ho
          have HG := Lib.hid hgr
          have HA := Lib.hid hat
          clear ho hgr hat
          go_wp2
          go_ret
          have hm1 : Mod (fun k => (Value.slice a n cap).ownBlock = some k) w w' := (Mod.of_below hBd.out (Nat.le_refl _) _).trans (Mod.grown HG.out (fun k hk => hk))
          have key := H.out.turn (tabs12 s.c) hk HO.out (hm1.mono (fun k _ hk => by rw [HV.out]; exact hk)) (fun g hg => by rw [HV.out]; exact (HA.out g hg).imp id (fun h => by simp at h; omega))
          refine ⟨by rw [hE.out]; rfl, ?_⟩
          rw [hS.out]
          exact ⟨_, key.1, key.2.1, key.2.2⟩)
end Go.Proofs.Ytkojjnkohnokoaa
