/- The iterator over a round's frames. -/
import Derived.Test.YtkojjnkohnokoaaRange
import Derived.Test.YtkojjnkohnokoaaFrames
import Derived.Sort.BigQuietIn
import Derived.Sort.LoopGhostIn
namespace Go.Proofs.Ytkojjnkohnokoaa
open Go.RowKit Go.Shelf
attribute [local go_sem] Oper.semAt_some

def encV (f : Fr) : Array Value := #[.int .i64 (f.1 : Int), .string f.2]
/-- where the round stands: the object holds s', and nothing but its own and S0 has turned since w. -/
def Stand (S0 : Nat → Prop) (base p : Nat) (t : TypeId) (vs : Nat → Value) (w : World) (s' : St) (W : World) : Prop :=
  ∃ vs', Sch W base p t vs' s' ∧ Mod (fun k => Foot p vs k ∨ S0 k) w W ∧ ∀ k, Foot p vs' k → Foot p vs k
section
variable {S0 : Nat → Prop} {base p : Nat} {t : TypeId} {vs : Nat → Value} {w W W' : World} {s' : St}
theorem Stand.mod (h : Stand S0 base p t vs w s' W) (hS : ∀ k, Foot p vs k → ¬ S0 k) (hm : Mod S0 W W') : Stand S0 base p t vs w s' W' := by
  obtain ⟨vs', h1, h2, h3⟩ := h
  exact ⟨vs', h1.mod hm (fun k hk => hS k (h3 k hk)), h2.trans (hm.mono fun k _ hk => .inr hk), h3⟩
theorem Stand.cell (h : Stand S0 base p t vs w s' W) {i : Nat} (hi : i < 6) : ∃ a cap, W.cell? ⟨p, i * 2, none⟩ = some (.slice a (s'.q i).length cap) ∧ W.cell? ⟨p, i * 2 + 1, none⟩ = some (.int .i64 (s'.c i)) ∧ ∀ o, W.frozen? ⟨p, o, none⟩ = false := by
  obtain ⟨vs', h1, h2, h3⟩ := h
  obtain ⟨a, cap, hv, -⟩ := (h1.que i hi).form
  exact ⟨a, cap, hv ▸ h1.cell (tabs12 s'.c) hi, h1.credit_get hi, h1.frozen⟩
theorem Stand.credit (h : Stand S0 base p t vs w s' W) {i : Nat} (hi : i < 6) (x : Int) : Stand S0 base p t vs w ⟨s'.q, upd s'.c i x⟩ (W.setCell ⟨p, i * 2 + 1, none⟩ (.int .i64 x)) := by
  obtain ⟨vs', h1, h2, h3⟩ := h
  exact ⟨vs', h1.credit hi x, h2.trans ((Mod.cellOf p (i * 2 + 1) (.int .i64 x)).mono fun k _ hk => .inl (.inl hk)), h3⟩
/-- the head of a queue is taken. -/
theorem Stand.head (h : Stand S0 base p t vs w s' W) {i : Nat} (hi : i < 6) {x : BA} {r : List BA} (hq : s'.q i = x :: r) :
    ∃ g off cap, W.cell? ⟨p, i * 2, none⟩ = some (.slice (some ⟨g, off, none⟩) (r.length + 1) (cap + 1)) ∧ W.cell? ⟨g, off, none⟩ = some (.string x) ∧ r.length ≤ cap ∧
      Stand S0 base p t vs w ⟨upd s'.q i r, s'.c⟩ (W.setCell ⟨p, i * 2, none⟩ (.slice (if cap = 0 then some ⟨g, off, none⟩ else some ⟨g, off + 1, none⟩) r.length cap)) := by
  obtain ⟨vs', h1, h2, h3⟩ := h
  have hque := h1.que i hi
  rw [hq] at hque
  obtain ⟨g, off, cap, hv, hg, hc, hm, hx, hque'⟩ := hque.head
  refine ⟨g, off, cap, hv ▸ h1.cell (tabs12 s'.c) hi, hx, hc, ?_⟩
  have key := h1.turn (tabs12 s'.c) hi hque' (Mod.refl _ _) (fun k hk => by
    left
    rw [hv]
    split at hk <;> exact hk)
  exact ⟨_, key.1, h2.trans (key.2.1.mono fun k _ hk => .inl (h3 k hk)), fun k hk => by
    rcases hk with rfl | ⟨j, hj, hk⟩
    · exact .inl rfl
    · by_cases hji : j = i
      · subst hji
        rw [upd_same] at hk
        refine h3 k (.inr ⟨j, hj, ?_⟩)
        rw [hv]
        split at hk <;> exact hk
      · rw [upd_other hji] at hk
        exact h3 k (.inr ⟨j, hj, hk⟩)⟩
end
theorem st_eta (s : St) : (⟨s.q, s.c⟩ : St) = s := rfl
/-- the length that lies in a cell. -/
def lenAt (p o : Nat) (W : World) : Nat := match W.cell? ⟨p, o, none⟩ with | some (.slice _ n _) => n | _ => 0
theorem lenAt_of {p o n c : Nat} {a : Option Addr} {W : World} (h : W.cell? ⟨p, o, none⟩ = some (.slice a n c)) : lenAt p o W = n := by simp [lenAt, h]

set_option maxHeartbeats 4000000 in
set_option maxRecDepth 100000 in
theorem going1_in (n : Nat) (hn : 1 ≤ n) (l Bx base p : Nat) (vs : Nat → Value) (s : St) (w : World) (hg : Good s) (S0 : Nat → Prop) (hS : ∀ k, Foot p vs k → ¬ S0 k)
    (hBx : ∀ W, Mod (fun k => Foot p vs k ∨ S0 k) w W → W.cell? ⟨Bx, 0, none⟩ = some (.pointer (some ⟨p, 0, none⟩))) (J : List Fr → World → Prop) (hJ : ∀ s A B, J s A → Turn p A B → J s B)
    (hY : ∀ pre x W1, J pre W1 → pre.length < 24 → YieldAt Fence.wide (n - 1) Try.prog l (encV x) W1 fun e W' => e = .returned (.bool true) ∧ J (pre ++ [x]) W' ∧ Mod S0 W1 W')
    (W : World) (hW : Stand S0 base p 56 vs w s W) (h0 : J [] W) :
    CallsIn Fence.wide n Try.prog 21 #[.func (.yield l) #[] #[], .pointer (some ⟨Bx, 0, none⟩)] W fun e W' => (∃ v, e = .returned v) ∧ ∃ xs, (xs = roundF s ∧ Stand S0 base p 56 vs w (roundS s) W') ∧ J xs W' := by
  refine callsIn_of_wp Try.func21 rfl trivial ?_ rfl
  simp only [Try.ntmps21, List.size_toArray, List.length_cons, List.length_nil, Nat.reduceAdd, Nat.reduceSub, Array.replicate_succ, Array.replicate_zero, List.push_toArray, List.append_toArray, List.nil_append, List.cons_append]
  gi_wp2
  gi_loopw [3, 4, 5, 6] (fun _ _ _ v6 wr => ∃ k : Nat, k ≤ 6 ∧ v6 = .int .i64 (k : Int) ∧ Stand S0 base p 56 vs w (roundTo k s).1 wr ∧ J (roundTo k s).2 wr)
    (fun _ _ _ i _ => 6 - (intOf i).toNat)
  case atStart => exact ⟨0, Nat.zero_le _, rfl, hW, h0⟩
  case round =>
    obtain ⟨k, hk, rfl, hSt, hJk⟩ := hrel
    have HS := Lib.hid hSt
    have HJ := Lib.hid hJk
    have hbx := hBx wr (by obtain ⟨_, _, h2, _⟩ := hSt; exact h2)
    clear hSt hJk
    by_cases hlt : k < 6
    · have hlk : (k : Int) < 6 := by omega
      obtain ⟨a, cap, hc, hd, hf⟩ := HS.out.cell hlt
      have hq1 : (roundTo k s).1.q k = s.q k := by rw [roundTo_q, if_neg (by omega)]
      have hc1 : (roundTo k s).1.c k = s.c k := by rw [roundTo_c, if_neg (by omega)]
      rw [hq1] at hc
      rw [hc1] at hd
      by_cases hq : s.q k = []
      · rw [hq] at hc
        have hnext := Lib.hid (show roundTo (k + 1) s = roundTo k s by
          have e : lround (s.q k) (s.c k) = ([], s.q k, s.c k) := by rw [lround, if_pos hq, hq]
          rw [show roundTo (k + 1) s = (⟨upd (roundTo k s).1.q k (lround (s.q k) (s.c k)).2.1, upd (roundTo k s).1.c k (lround (s.q k) (s.c k)).2.2⟩, (roundTo k s).2 ++ (lround (s.q k) (s.c k)).1.map fun b => (k, b)) from rfl, e]
          simp only [List.map_nil, List.append_nil]
          rw [← hq1, ← hc1, upd_id, upd_id])
        clear hq hq1 hc1
        simp only [List.length_nil] at hc
        gi_wp2
        go_roundw
        case rel => exact ⟨k + 1, by omega, by simp, by rw [hnext.out]; exact HS.out, by rw [hnext.out]; exact HJ.out⟩
        case measure => simp [intOf]; omega
      · have hne : ((s.q k).length : Int) ≠ 0 := by
          have := List.length_pos_iff.2 hq
          omega
        have hneb : (((s.q k).length : Int) == 0) = false := beq_eq_false_iff_ne.2 hne
        have hcc := hg k hlt
        have hcl := hcc.2.1
        have hcu := hcc.2.2
        have hqg := Lib.hid hcc.1
        have hlr := Lib.hid (show lround (s.q k) (s.c k) = ((drain (s.q k) (s.c k + 80)).1, (drain (s.q k) (s.c k + 80)).2.1, if (drain (s.q k) (s.c k + 80)).2.1 = [] then 0 else (drain (s.q k) (s.c k + 80)).2.2) by rw [lround, if_neg hq])
        have hroom := Lib.hid (show (roundTo k s).2.length + 4 ≤ 24 by have := roundTo_len hg (k := k) (by omega); omega)
        have HS1 := Lib.hid (HS.out.credit hlt (s.c k + 80))
        have HJ1 := Lib.hid (hJ _ _ _ HJ.out (Turn.set p (k * 2 + 1) (.int .i64 (s.c k + 80)) wr))
        have hnx := Lib.hid (roundTo_next k s)
        have HQ1 := Lib.hid hq1
        clear hq hne hcc hq1 hc1 HS HJ
        obtain ⟨s1, hs1⟩ : ∃ s1, s1 = (roundTo k s).1 := ⟨_, rfl⟩
        obtain ⟨f1, hf1⟩ : ∃ f1, f1 = (roundTo k s).2 := ⟨_, rfl⟩
        rw [← hs1] at HS1 HQ1 hnx
        rw [← hf1] at HJ1 hroom hnx
        clear hs1 hf1
        gi_wp2
        clear hc hd hf hbx hneb hW h0
        generalize wr.setCell ⟨p, k * 2 + 1, none⟩ (.int .i64 (s.c k + 80)) = W1 at *
        obtain ⟨D, hD⟩ : ∃ D, D = drain (s.q k) (s.c k + 80) := ⟨_, rfl⟩
        rw [← hD] at hlr
        have hp0 := Lib.hid (show ([] : List BA) ++ (drain (s.q k) (s.c k + 80)).1 = D.1 ∧ (drain (s.q k) (s.c k + 80)).2 = D.2 by rw [← hD]; exact ⟨rfl, rfl⟩)
        have hDl := Lib.hid (show D.1.length ≤ 4 by have := drain_app (s.q k) (s.c k + 80); rw [← hD] at this; have h2 := congrArg List.length this; rw [List.length_append] at h2; have := hqg.out.1; omega)
        clear hD
        gi_loopw [5] (fun _ wr2 => ∃ (q2 : List BA) (c2 : Int) (pre : List BA), Stand S0 base p 56 vs w ⟨upd s1.q k q2, upd s1.c k c2⟩ wr2 ∧ J (f1 ++ pre.map fun b => (k, b)) wr2 ∧ pre ++ (drain q2 c2).1 = D.1 ∧ (drain q2 c2).2 = D.2 ∧ 0 ≤ c2 ∧ c2 ≤ 8272 ∧ q2.length ≤ 4)
          (fun _ wr2 => lenAt p (k * 2) wr2)
        case atStart =>
          exact ⟨s.q k, s.c k + 80, [], by rw [← HQ1.out, upd_id]; exact HS1.out, by simpa using HJ1.out, hp0.out.1, hp0.out.2, by omega, by omega, hqg.out.1⟩
        case round =>
          obtain ⟨q2, c2, pre, hS2, hJ2, hd1, hd2, hc0, hc9, hq4⟩ := hrel
          have HS2 := Lib.hid hS2
          have HJ2 := Lib.hid hJ2
          have HD1 := Lib.hid hd1
          have HD2 := Lib.hid hd2
          clear hJ2 hd1 hd2
          obtain ⟨a2, cap2, hcl2, hcr2, hfz2⟩ := hS2.cell hlt
          simp only [upd_same] at hcl2 hcr2
          rcases q2 with _ | ⟨x, r⟩
          · simp only [List.length_nil] at hcl2
            clear hS2
            gi_wp2
            gi_big_quiet_th (fail)
            gi_wp2
            have e1 : D.2 = ([], c2) := HD2.out.symm
            have e2 : D.1 = pre := by rw [← HD1.out]; simp [drain]
            refine ⟨⟨k + 1, by omega, by simp, ?_, ?_⟩, by simp [intOf]; omega⟩
            · rw [hnx.out.1, hlr.out, e1]
              have h := ((HS2.out.mod hS (Mod.drewN _ nq)).credit hlt 0)
              simp only [upd_upd] at h
              exact h
            · rw [hnx.out.2, hlr.out, e2]
              exact hJ _ _ _ (hJ _ _ _ HJ2.out (Turn.drew p nq wr)) (Turn.set _ _ _ _)
          · obtain ⟨g, off, cap3, hh1, hh2, hh3, hh4⟩ := hS2.head hlt (upd_same _ _ _)
            by_cases hle : (x.size : Int) ≤ c2
            · have e1 : drain (x :: r) c2 = (x :: (drain r (c2 - x.size)).1, (drain r (c2 - x.size)).2) := by rw [drain, if_pos hle]
              have hx0 : (0 : Int) ≤ (x.size : Int) := by omega
              clear hS2 hh4 hcl2
              gi_wp2
              gi_big_quiet_th (fail)
              have hS3 := HS2.out.mod hS (Mod.drewN _ nq)
              have hJ3 := hJ _ _ _ HJ2.out (Turn.drew p nq wr)
              have hmz := Lib.hid (lenAt_of (W := wr) (p := p) (o := k * 2) hh1)
              clear hh1 hh2 hh3 hcr2 hfz2
              generalize wr.drewN nq = W2 at *
              obtain ⟨a3, cap3, -, hcr2, hfz2⟩ := hS3.cell hlt
              simp only [upd_same] at hcr2
              obtain ⟨g, off, cap3, hh1, hh2, hh3, hh4⟩ := hS3.head hlt (upd_same _ _ _)
              simp only [upd_upd] at hh4
              generalize hv3 : (Value.slice (if cap3 = 0 then some ⟨g, off, none⟩ else some ⟨g, off + 1, none⟩) r.length cap3) = v3 at hh4
              have hv3' : ∃ a', v3 = .slice a' r.length cap3 := ⟨_, hv3.symm⟩
              have HV3 := Lib.hid hv3
              clear hv3
              obtain ⟨a4, rfl⟩ := hv3'
              have hc3 : (W2.setCell ⟨p, k * 2, none⟩ (.slice a4 r.length cap3)).cell? ⟨p, k * 2 + 1, none⟩ = some (.int .i64 c2) := by
                rw [World.cell?_setCell_other _ _ _ _ (by simp)]; exact hcr2
              have hf3 : ∀ o, (W2.setCell ⟨p, k * 2, none⟩ (.slice a4 r.length cap3)).frozen? ⟨p, o, none⟩ = false := fun o => by rw [World.frozen?_setCell]; exact hfz2 o
              have HS5 := hh4.credit hlt (c2 - x.size)
              simp only [upd_upd] at HS5
              have HJ5 := hJ _ _ _ (hJ _ _ _ hJ3 (Turn.set p (k * 2) (.slice a4 r.length cap3) W2)) (Turn.set p (k * 2 + 1) (.int .i64 (c2 - x.size)) _)
              have hlen : (f1 ++ pre.map fun b => (k, b)).length < 24 := by
                have h1 := congrArg List.length HD1.out
                rw [e1, List.length_append, List.length_cons] at h1
                have := hroom.out
                have := hDl.out
                simp only [List.length_append, List.length_map]
                omega
              obtain ⟨fn, tmps, assign, body, hy, hR⟩ := hY _ (k, x) _ HJ5 hlen
              have HR := Lib.hid hR
              have HST := Lib.hid HS5
              have HF2 := Lib.hid hfz2
              have hfk := hfz2 (k * 2)
              clear hlen hS3 hJ3 HJ5 hR HS5 hh4
              simp only [encV] at hy
              gi_wp2_with (refine ⟨trivial, ?_⟩; gi_at_call 22; refine (callsIn_wide.2 (take_any p (k * 2) g off r.length cap3 x W2 hh1 hfk hh2)).mono ?_; rw [HV3.out]; rintro e w' ⟨rfl, rfl⟩)
              refine HR.out.mono ?_
              rintro e W5 ⟨rfl, hJ5, hk5⟩
              have hS5 := HST.out.mod hS hk5
              have hm5 := hS5.cell hlt
              obtain ⟨a5, cap5, hcl5, -, -⟩ := hm5
              simp only [upd_same] at hcl5
              have HM5 := Lib.hid (lenAt_of hcl5)
              have HS6 := Lib.hid hS5
              have HJ6 := Lib.hid hJ5
              clear hS5 hJ5 hcl5 hk5 hcr2 hfk hh1 hh2
              gi_wp2
              go_roundw
              case rel =>
                refine ⟨r, c2 - x.size, pre ++ [x], HS6.out, by simpa using HJ6.out, ?_, ?_, by omega, by omega, by simp at hq4; omega⟩
                · rw [← HD1.out, e1]; simp
                · rw [← HD2.out, e1]
              case measure =>
                rw [HM5.out, hmz.out]
                simp
            · have hgt : c2 < (x.size : Int) := by omega
              clear hS2 hh4 hcl2 hle
              gi_wp2
              gi_big_quiet_th (fail)
              gi_wp2
              have e1 : D.2 = (x :: r, c2) := by rw [← HD2.out, drain, if_neg (by omega)]
              have e2 : D.1 = pre := by rw [← HD1.out, drain, if_neg (by omega)]; simp
              refine ⟨⟨k + 1, by omega, by simp, ?_, ?_⟩, by simp [intOf]; omega⟩
              · rw [hnx.out.1, hlr.out, e1]
                simp only [List.cons_ne_nil, if_false]
                exact HS2.out.mod hS (Mod.drewN _ nq)
              · rw [hnx.out.2, hlr.out, e2]
                exact hJ _ _ _ HJ2.out (Turn.drew p nq wr)
    · obtain rfl : k = 6 := by omega
      gi_wp2
      go_end0
      exact ⟨⟨_, rfl⟩, _, ⟨rfl, HS.out⟩, HJ.out⟩
end Go.Proofs.Ytkojjnkohnokoaa
