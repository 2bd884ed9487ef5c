/- Entries laid behind a number: the document's answer. -/
import Derived.Test.YthfchmdfoaiibaaJoin
namespace Go.Proofs.Ythfchmdfoaiibaa
open Go.RowKit Go.Joins

set_option maxRecDepth 100000 in
set_option maxHeartbeats 4000000 in
theorem rjoin_any (a b : Option Addr) (c d : Nat) (es more : List Ent) (prev : Int) (w : World) (hl : Sl w a c es) (hm : Sl w b d more) (hb : (es.length + more.length) * 32 ≤ 140737488355328) :
    Calls Try.prog 18 #[.slice a es.length c, .int .i64 prev, .slice b more.length d] w (OwnPost (joinL es prev more) w) := by
  have HL := Lib.hid hl
  have HM := Lib.hid hm
  have hll := hl.len
  have hlc := hl.capm
  have hml := hm.len
  have hmc := hm.capm
  unfold maxLen at hlc hmc
  clear hl hm
  by_cases hbad : prev < 0 ∨ (es.length : Int) < prev
  · have hJ : Hid (joinL es prev more = es) := if_pos hbad
    by_cases h0 : prev < 0
    · clear hbad
      go_enter Try.func18, Try.ntmps18
      go_wp2_with (at_builtin; refine app_ents rfl _ _ rfl w.heap.size _ [] rfl (ownE_nil _ _) a es.length c es rfl rfl HL.out.ents HL.out.nil0 (by simp; omega) (Nat.le_refl _) ?_; intro v' w' hown' hgrow)
      go_ret
      exact ⟨_, rfl, by rw [hJ.out]; exact hown', (Below.refl _ w).grown hgrow (Nat.le_refl _) (fun j hj => by cases hj)⟩
    · have h1 : (es.length : Int) < prev := by omega
      have h2 : 0 ≤ prev := by omega
      clear hbad h0
      go_enter Try.func18, Try.ntmps18
      go_wp2_with (at_builtin; refine app_ents rfl _ _ rfl w.heap.size _ [] rfl (ownE_nil _ _) a es.length c es rfl rfl HL.out.ents HL.out.nil0 (by simp; omega) (Nat.le_refl _) ?_; intro v' w' hown' hgrow)
      go_ret
      exact ⟨_, rfl, by rw [hJ.out]; exact hown', (Below.refl _ w).grown hgrow (Nat.le_refl _) (fun j hj => by cases hj)⟩
  · obtain ⟨p, rfl⟩ := Int.eq_ofNat_of_zero_le (show 0 ≤ prev by omega)
    have hp : p ≤ es.length := by omega
    have hpi : (p : Int) ≤ (es.length : Int) := by omega
    have hJ : Hid (joinL es (p : Int) more = if com (es.drop p) more = more.length then es else es.take (p + com (es.drop p) more) ++ more.drop (com (es.drop p) more)) := by
      rw [Hid, joinL, if_neg hbad, Int.toNat_natCast]
    clear hbad
    have hd1 : decide ((p : Int) < 0) = false := by simp
    have hd2 : decide (es.length < p) = false := by simp; omega
    go_enter Try.func18, Try.ntmps18
    go_wp2
    go_loopg [7, 8, 9] more.length (fun k v7 v8 v9 wr => ∃ i : Nat, i + k = more.length ∧ v7 = .slice none 0 0 ∧ v8 = .int .i64 (i : Int) ∧ i ≤ com (es.drop p) more ∧ ∃ q, wr = w.drewN q)
    case atStart => exact ⟨0, by omega, rfl, rfl, Nat.zero_le _, 0, rfl⟩
    case round =>
      obtain ⟨i, hik, rfl, rfl, hcom, q, hq⟩ := hrel
      have HC := Lib.hid hcom
      have hB : Below w.heap.size w wr := by rw [hq]; exact below_drewN' w q
      have HQ := Lib.hid hq
      clear hcom hq
      have hdl : (es.drop p).length = es.length - p := by simp
      by_cases hlt : i < more.length
      · obtain ⟨b', off', hbb, g1, -⟩ := (HM.out.below hB).ents i hlt
        obtain ⟨A2, C2, hA2, hS2⟩ := tail_sl HM.out i (by omega)
        subst hbb
        have HS2 := Lib.hid hS2
        have HST : Hid ((es.drop p).length ≤ i ∨ ((es.drop p).getD i default).1 ≠ (more.getD i default).1 → joinL es (p : Int) more = es.take (p + i) ++ more.drop i ∧ p + i ≤ es.length) := fun h => by
          have hc := com_stop HC.out h
          have h3 := (com_iff (es.drop p) more i).1 HC.out
          exact ⟨by rw [hJ.out, hc, if_neg (by omega)], by omega⟩
        have j1 : ((p : Int) + (i : Int)).toNat = p + i := by omega
        have j3 : (0 : Int) ≤ (p : Int) + (i : Int) := by omega
        have j5 : (i : Int) ≤ (more.length : Int) := by omega
        have HB := Lib.hid hB
        clear hB hS2
        by_cases hL : p + i < es.length
        · have HGO : Hid (((es.drop p).getD i default).1 = (more.getD i default).1 → i + 1 ≤ com (es.drop p) more) := fun h => com_go HC.out (by omega) hlt h
          obtain ⟨b2, off2, rfl, h1, -⟩ := (HL.out.below HB.out).ents (p + i) hL
          rw [show (es.drop p).getD i default = es.getD (p + i) default by simp [List.getD]] at HGO HST
          generalize (es.getD (p + i) default).1 = x1 at h1 HGO HST
          generalize (more.getD i default).1 = y1 at g1 HGO HST
          have j4 : (p : Int) + (i : Int) < (es.length : Int) := by omega
          by_cases hxy : x1 = y1
          · subst hxy
            have HN := Lib.hid (HGO.out rfl)
            go_wp2
            go_quiet (fail)
            go_wp2
            go_roundg (gk - 1)
            case measure => omega
            case rel => exact ⟨i + 1, by omega, rfl, by simp, HN.out, q + nq, by rw [HQ.out]; simp [World.drewN, Nat.add_assoc]⟩
          · have hcm := Lib.hid (HST.out (.inr hxy))
            have hb1 : (x1 == y1) = false := by simpa using hxy
            have hb2 : (x1 != y1) = true := by simpa using hxy
            clear hxy
            go_wp2
            go_quiet (fail)
            have HB2 : Hid (Below w.heap.size w (wr.drewN nq)) := HB.out.trans ((below_drewN' wr nq).mono HB.out.size)
            generalize wr.drewN nq = W2 at *
            have j6 : (p : Int) + (i : Int) ≤ (c : Int) := by omega
            have T1 := trivial
            go_wp2_with (first
              | (have t := T1; at_builtin; refine app_ents rfl _ _ rfl W2.heap.size _ [] rfl (ownE_nil _ _) (some ⟨b2, off2, none⟩) (p + i) c (es.take (p + i)) (by simp; omega) rfl ((HL.out.below HB2.out).take _).ents HL.out.nil0 (by simp; omega) (Nat.le_refl _) ?_; intro v5 w5 hown5 hgrow5; have hb5 : Below W2.heap.size W2 w5 := (Below.refl _ W2).grown hgrow5 (Nat.le_refl _) (fun j hj => by cases hj); clear T1 t; have T2 := trivial)
              | (have t := T2; at_builtin; refine app_ents rfl _ _ rfl W2.heap.size _ _ rfl hown5 A2 (more.length - i) C2 (more.drop i) (by simp) rfl (HS2.out.below (HB2.out.trans (hb5.mono HB2.out.size))).ents HS2.out.nil0 (by simp; omega) hb5.size ?_; intro v6 w6 hown6 hgrow6; have hb6 : Below W2.heap.size W2 w6 := hb5.grown hgrow6 hb5.size (fun j hj => (World.ownsRow.lt hown5 j hj).1); clear T2 t))
            go_ret
            exact ⟨_, rfl, by rw [hcm.out.1]; exact (OwnE.mono hown6 HB2.out.size), HB2.out.trans (hb6.mono HB2.out.size)⟩
        · have hcm := Lib.hid (HST.out (.inl (by omega)))
          have j4 : (es.length : Int) ≤ (p : Int) + (i : Int) := by omega
          generalize (more.getD i default).1 = y1 at g1
          go_wp2
          go_quiet (fail)
          have HB2 : Hid (Below w.heap.size w (wr.drewN nq)) := HB.out.trans ((below_drewN' wr nq).mono HB.out.size)
          generalize wr.drewN nq = W2 at *
          have j6 : (p : Int) + (i : Int) ≤ (c : Int) := by have := hcm.out.2; omega
          have j7 := hcm.out.2
          have T1 := trivial
          go_wp2_with (first
            | (have t := T1; at_builtin; refine app_ents rfl _ _ rfl W2.heap.size _ [] rfl (ownE_nil _ _) a (p + i) c (es.take (p + i)) (by simp; omega) rfl ((HL.out.below HB2.out).take _).ents HL.out.nil0 (by simp; omega) (Nat.le_refl _) ?_; intro v5 w5 hown5 hgrow5; have hb5 : Below W2.heap.size W2 w5 := (Below.refl _ W2).grown hgrow5 (Nat.le_refl _) (fun j hj => by cases hj); clear T1 t; have T2 := trivial)
            | (have t := T2; at_builtin; refine app_ents rfl _ _ rfl W2.heap.size _ _ rfl hown5 A2 (more.length - i) C2 (more.drop i) (by simp) rfl (HS2.out.below (HB2.out.trans (hb5.mono HB2.out.size))).ents HS2.out.nil0 (by simp; omega) hb5.size ?_; intro v6 w6 hown6 hgrow6; have hb6 : Below W2.heap.size W2 w6 := hb5.grown hgrow6 hb5.size (fun j hj => (World.ownsRow.lt hown5 j hj).1); clear T2 t))
          go_ret
          exact ⟨_, rfl, by rw [hcm.out.1]; exact (OwnE.mono hown6 HB2.out.size), HB2.out.trans (hb6.mono HB2.out.size)⟩
      · have hcm : com (es.drop p) more = more.length := by have := (com_iff (es.drop p) more (com (es.drop p) more)).1 (Nat.le_refl _); have := HC.out; omega
        have hJ2 : Hid (joinL es (p : Int) more = es) := by rw [Hid, hJ.out, if_pos hcm]
        have HB := Lib.hid hB
        clear hcm hB
        go_wp2_with (at_builtin; refine app_ents rfl _ _ rfl wr.heap.size _ [] rfl (ownE_nil _ _) a es.length c es rfl rfl (HL.out.below HB.out).ents HL.out.nil0 (by simp; omega) (Nat.le_refl _) ?_; intro v' w' hown' hgrow)
        go_ret
        exact ⟨_, rfl, by rw [hJ2.out]; exact OwnE.mono hown' HB.out.size, HB.out.trans (((Below.refl _ wr).grown hgrow (Nat.le_refl _) (fun j hj => by cases hj)).mono HB.out.size)⟩
end Go.Proofs.Ythfchmdfoaiibaa
