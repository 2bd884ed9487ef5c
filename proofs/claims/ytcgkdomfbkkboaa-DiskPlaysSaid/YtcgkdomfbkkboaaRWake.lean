/- The reference wakes. -/
import Derived.Test.YtcgkdomfbkkboaaRFlush
import Derived.Test.YtcgkdomfbkkboaaWakesP
namespace Go.Proofs.Ytcgkdomfbkkboaa
open Go.RowKit Go.Joins Go.ChangeMaps

def mixF (f g : Fn) (k : Nat) : Fn := fun j => if j < (k : Int) then f j else g j
theorem mix_set (f g : Fn) {n : Int} {i : Nat} (h : (i : Int) < n) : (rowOf (mixF f g i) n).set i ((f (i : Int)).getD ByteArray.empty) = rowOf (mixF f g (i + 1)) n := by
  apply List.ext_getElem?
  intro j
  rw [List.getElem?_set, rowOf_length]
  by_cases e : i = j
  · subst e
    have h2 : i < n.toNat := by omega
    have h3 : (i : Int) < ((i + 1 : Nat) : Int) := by omega
    simp [rowOf, h2, mixF]
    rw [if_pos (by omega)]
  · rw [if_neg e]
    by_cases h2 : j < n.toNat
    · by_cases c : j < i
      · have c1 : (j : Int) < (i : Int) := by omega
        have c2 : (j : Int) < (i : Int) + 1 := by omega
        simp [rowOf, h2, mixF, c, c2]
      · have c1 : ¬ (j : Int) < (i : Int) := by omega
        have c2 : ¬ (j : Int) < (i : Int) + 1 := by omega
        simp [rowOf, h2, mixF, c, c2]
    · simp [rowOf, h2]
theorem rowOf_congr {f g : Fn} {n : Int} (h : ∀ i : Nat, (i : Int) < n → f (i : Int) = g (i : Int)) : rowOf f n = rowOf g n := by
  unfold rowOf
  apply List.map_congr_left
  intro i hi
  rw [h i (by have := List.mem_range.1 hi; omega)]
theorem mix_zero (f g : Fn) (n : Int) : rowOf (mixF f g 0) n = rowOf g n := rowOf_congr fun i _ => by unfold mixF; rw [if_neg (by omega)]
theorem mix_all (f g : Fn) {n : Int} {k : Nat} (h : n ≤ (k : Int)) : rowOf (mixF f g k) n = rowOf f n := rowOf_congr fun i hi => by unfold mixF; rw [if_pos (by omega)]
theorem cntN_all {f : Fn} {n : Nat} (hn : n ≤ 1024) (hf : ∀ i x, f i = some x → i < n) : cntN f n = cntF f := (cntN_past (fun i x hx => hf i x hx) 1024 hn).symm
theorem uses_put {f : Fn} {n : Int} {k : Nat} (d : BA) (hn : n ≤ 1024) (hf : ∀ i x, f i = some x → x.size = 32) (hk : (k : Int) < n) : usesOf (cntF f) ((rowOf f n).getD k default) = (cntF (upd f (k : Int) (some d)) : Int) := by
  rw [rowOf_get _ hk, cntF_put (by omega) (by omega)]
  unfold usesOf
  cases hx : f (k : Int) with
  | none => simp
  | some x => have := hf _ x hx; simp [this]
theorem kept_take (ws : List Wr) (ks : List Bool) {i : Nat} (hi : i < ws.length) : kept (ws.take (i + 1)) ks = kept (ws.take i) ks ++ (if i < ks.length ∧ ks.getD i default = true then [ws.getD i default] else []) := by
  rw [take_snoc ws i default hi, kept_snoc, List.length_take, Nat.min_eq_left (by omega)]
set_option maxHeartbeats 4000000 in
set_option maxRecDepth 100000 in
theorem rwake_any {w : World} {base q : Nat} {bv nv mv : Value} {s : St} (ka : Option Addr) (kc : Nat) (ks : List Bool) (h : RD w base q bv nv mv s) (hg : Good s) (hl : s.more.length ≤ 1000000) (hk : Lst encK 1 w ka ks) (hap : 0 < ks.length → ∀ b off, ka = some ⟨b, off, none⟩ → ¬ RF q bv nv mv b) :
    Calls Try.prog 45 #[.pointer (some ⟨q, 0, none⟩), .slice ka ks.length kc] w (Tup0 (RUpd base q bv nv mv (wakeS s ks) w)) := by
  have mixed : Try.prog.follows .mixedOrders = true := by kernel_rfl
  have hP := Lib.hid h
  have HG := Lib.hid hg
  have HK := Lib.hid hk
  have HAP := Lib.hid hap
  have HL := Lib.hid hl
  obtain ⟨⟨-, -, -, -, g4, g5, -, g7⟩, gf⟩ := h.cells
  have f4 := gf 4 (by omega)
  have f5 := gf 5 (by omega)
  simp only [St.fl] at g7
  clear gf hk hap hg hl
  generalize hks : ks.length = nk at *
  have HKS := Lib.hid hks
  clear hks
  unfold wakeS
  by_cases ho : s.off = true
  · rw [if_pos ho]
    rw [ho] at g7
    simp only [Bool.not_true] at g7
    have HNO := Lib.hid h.not_own
    have HOM := Lib.hid h.om
    obtain ⟨ma, mc, hmv, -, -⟩ := h.om.sli EW
    subst hmv
    have hR1 := Lib.hid (h.more (Mod.refl (fun _ => False) w) (fun c => c) (fun _ _ c => c) (fun _ _ c => c) (ownL_nil (enc := encW) (sz := 2) (e := 68) w base))
    have hR2 := Lib.hid (hR1.out.set 4 (.int .i64 0) s.fl 0 rfl)
    have hM2 := Lib.hid ((Mod.cellOf q 5 (.slice none 0 0) : Mod (fun k => k = q) w _).trans (Mod.cellOf q 4 (.int .i64 0)))
    clear h ho
    generalize hm : s.more.length = m at *
    have HM := Lib.hid hm
    clear hm
    go_enter Try.func45, Try.ntmps45
    go_upto_region 5 with fail
    clear g4 g5 g7 f4 f5
    generalize (w.setCell ⟨q, 5, none⟩ (.slice none 0 0)).setCell ⟨q, 4, none⟩ (.int .i64 0) = W1 at *
    go_loopg [5] 1024 (fun gk v5 wr => ∃ i : Nat, i + gk = 1024 ∧ v5 = .int .i64 (i : Int) ∧ (i : Int) ≤ s.len ∧ RR wr base q bv nv (.slice none 0 0) s.fl (cntN s.base i) (rowOf s.base s.len) (rowOf (mixF s.base s.now i) s.len) [] ∧ Mod (fun k => k = q ∨ nv.ownBlock = some k) w wr)
    case atStart => exact ⟨0, by omega, rfl, by have := HG.out.len; omega, by rw [mix_zero]; exact hR2.out, hM2.out.mono (fun k _ hk => .inl hk)⟩
    case round =>
      obtain ⟨i, hik, rfl, hil, hR, hMo⟩ := hrel
      have HR := Lib.hid hR
      have HMo := Lib.hid hMo
      have HIL := Lib.hid hil
      have hlen := HG.out.len
      clear hMo hR1 hR2 hM2
      obtain ⟨⟨k0, -, k2, k3, -⟩, -⟩ := hR.cells
      simp only [St.fl] at k0
      by_cases hlt : (i : Int) < s.len
      · have hin : i < (rowOf s.base s.len).length := by rw [rowOf_length]; omega
        have hin2 : i < (rowOf (mixF s.base s.now i) s.len).length := by rw [rowOf_length]; omega
        obtain ⟨gb, cb, hbv, hc, hf⟩ := ownS_cell hR.ob hin
        subst hbv
        rw [rowOf_get _ hlt] at hc
        have hRd := hR.below (Below.refl _ wr).drew
        obtain ⟨gn, cn, hv4, hR4, hM4⟩ := hRd.setN hin2 ((s.base (i : Int)).getD ByteArray.empty)
        obtain ⟨gg, cc, hv5, hcd, hfd⟩ := ownS_cell hRd.on hin2
        subst hv4
        obtain ⟨rfl, rfl⟩ : gn = gg ∧ cn = cc := by simpa using hv5
        rw [mix_set _ _ hlt] at hR4
        have HR4 := Lib.hid hR4
        have HM4 := Lib.hid ((HMo.out.trans ((Mod.belowAll (Below.refl _ wr).drew).mono (fun _ _ c => c.elim))).trans ((Mod.cellOf gn i (.string ((s.base (i : Int)).getD ByteArray.empty))).mono (S' := fun k => k = q ∨ (Value.slice (some ⟨gn, 0, none⟩) (rowOf (mixF s.base s.now i) s.len).length cn).ownBlock = some k) (fun k _ e => .inr (by rw [e]; rfl))))
        have HC := Lib.hid (cntN_succ s.base i)
        have hil1 : (i : Int) < ((rowOf s.base s.len).length : Int) := by rw [rowOf_length]; omega
        have hil2 : (i : Int) < ((rowOf (mixF s.base s.now i) s.len).length : Int) := by rw [rowOf_length]; omega
        have HX := Lib.hid (HG.out.base (i : Int))
        have HIN := Lib.hid hin
        clear hv5 hRd hR4 hM4 hin hin2 hR HR HMo hil
        generalize hxx : (s.base (i : Int)).getD ByteArray.empty = x at *
        have HXX := Lib.hid hxx
        clear hxx
        go_upto_region 7 with fail
        go_still_tail 13, (by kernel_rfl)
        change wpList _ _ _ _ _ wr.drew
        clear k0 k2 k3 hc hf
        generalize wr.drew = W2 at *
        go_upto_region 8 with fail
        clear hcd hfd
        generalize W2.setCell ⟨gn, i, none⟩ (.string x) = Z at *
        obtain ⟨⟨k0, -, k2, k3, k4, -⟩, kf⟩ := HR4.out.cells
        have f4 := kf 4 (by omega)
        obtain ⟨gg, cc, hv6, hc6, -⟩ := ownS_cell HR4.out.ob HIN.out
        obtain ⟨rfl, rfl⟩ : gb = gg ∧ cb = cc := by simpa using hv6
        rw [rowOf_get _ hlt, HXX.out] at hc6
        have hcl := cntN_le s.base i
        clear hv6 kf k0 k3
        by_cases hz : x.size = 0
        · have hxe : (ByteArray.toList x).isEmpty = true := by rw [emptyB]; simp [hz]
          have hcn : cntN s.base (i + 1) = cntN s.base i := by
            rw [HC.out]
            cases hb : s.base (i : Int) with
            | none => rfl
            | some y =>
              have h1 := HXX.out
              rw [hb] at h1
              have := (HX.out y hb).2.2
              simp only [Option.getD_some] at h1
              rw [h1] at this
              omega
          have HCN := Lib.hid hcn
          clear hcn f4 k4
          go_wp2
          go_roundg (gk - 1)
          case measure => omega
          case rel => exact ⟨i + 1, by omega, by simp, by omega, by rw [HCN.out]; exact HR4.out, HM4.out⟩
        · have hxe : (ByteArray.toList x).isEmpty = false := by rw [emptyB]; simp [hz]
          have hcn : cntN s.base (i + 1) = cntN s.base i + 1 := by
            rw [HC.out]
            cases hb : s.base (i : Int) with
            | some y => rfl
            | none =>
              have h1 := HXX.out
              rw [hb] at h1
              simp only [Option.getD_none] at h1
              rw [← h1] at hz
              exact absurd rfl hz
          have HCN := Lib.hid hcn
          have HR5 := Lib.hid (HR4.out.set 4 (.int .i64 ((cntN s.base i : Int) + 1)) s.fl ((cntN s.base i : Int) + 1) rfl)
          have HM5 := Lib.hid (HM4.out.trans ((Mod.cellOf q 4 (.int .i64 ((cntN s.base i : Int) + 1))).mono (fun k _ e => .inl e)))
          have hcu : (cntN s.base i : Int) ≤ 1024 := by omega
          clear hcn
          go_wp2
          go_roundg (gk - 1)
          case measure => omega
          case rel => exact ⟨i + 1, by omega, by simp, by omega, by rw [HCN.out]; exact HR5.out, HM5.out⟩
      · have hge : s.len ≤ (i : Int) := by omega
        have hR1 := hR
        rw [mix_all _ _ hge, cntN_all (n := i) (by omega) (fun j x hx => by have := (HG.out.base j x hx).2.1; omega)] at hR1
        have HR1 := Lib.hid (show RR wr base q bv nv (.slice none 0 0) s.fl (cntF (apply s.base (kept (s.more.take 0) ks))) (rowOf (apply s.base (kept (s.more.take 0) ks)) s.len) (rowOf (apply s.base (kept (s.more.take 0) ks)) s.len) [] from hR1)
        have HM1 := Lib.hid (HMo.out.mono (S' := RF q bv nv (.slice none 0 0)) (fun k _ hk => hk.elim .inl (fun c => .inr (.inr (.inl c)))))
        clear hR hR1 HR HMo hlt HIL hil k2 k3
        go_upto_region 11 with fail
        clear k0 hge hik
        go_loopg [6] m (fun gk v6 wr => ∃ i : Nat, i + gk = m ∧ v6 = .int .i64 (i : Int) ∧ RR wr base q bv nv (.slice none 0 0) s.fl (cntF (apply s.base (kept (s.more.take i) ks))) (rowOf (apply s.base (kept (s.more.take i) ks)) s.len) (rowOf (apply s.base (kept (s.more.take i) ks)) s.len) [] ∧ Mod (RF q bv nv (.slice none 0 0)) w wr)
        case atStart => exact ⟨0, by omega, rfl, HR1.out, HM1.out⟩
        case round =>
          clear HR1 HM1
          obtain ⟨j, hjk, rfl, hR, hMo⟩ := hrel
          have HR := Lib.hid hR
          have HMo := Lib.hid hMo
          clear hR hMo
          by_cases hlt : j < m
          · have hli : (j : Int) < (m : Int) := by omega
            have hjm : j < s.more.length := by have := HM.out; omega
            have hj6 : (j : Int) ≤ 1000000 := by have := HL.out; omega
            have hkt := kept_take s.more ks hjm
            have HOM1 := Lib.hid (HOM.out.mod HMo.out (fun g hg hs => by
              rcases hs with c | c | c | c
              · exact HNO.out.2.2.1 (c ▸ hg)
              · exact HNO.out.2.2.2.1 g c hg
              · exact HNO.out.2.2.2.2 g c hg
              · simp [Value.ownBlock] at c))
            obtain ⟨n, e1, e2, e3⟩ := good_more HG.out hjm
            obtain ⟨b, off, cap, hmv, c0, c1⟩ := ownW_cell HOM1.out hjm
            obtain ⟨rfl, rfl⟩ : ma = some ⟨b, off, none⟩ ∧ mc = cap := by simpa [HM.out] using hmv
            obtain ⟨d, hd⟩ : ∃ d, d = (s.more.getD j default).2 := ⟨_, rfl⟩
            have hel : s.more.getD j default = ((n : Int), d) := by rw [hd, ← e1]
            have HEL := Lib.hid hel
            rw [hel] at hkt c0 c1
            have E2 := Lib.hid e2
            have hfs := Lib.hid (apply_in (ws := kept (s.more.take j) ks) HG.out.base (fun w' hw' => HG.out.more w' (List.mem_of_mem_take (kept_mem hw'))))
            clear hel hmv e1 e3 hd
            by_cases hkj : j < nk
            · have hkji : (j : Int) < (nk : Int) := by omega
              obtain ⟨b2, off2, hab2, hc2⟩ := HK.out j (by rw [HKS.out]; exact hkj)
              subst hab2
              have ck : wr.cell? ⟨b2, off2 + j, none⟩ = some (.bool (ks.getD j default)) := by
                have tk := HMo.out.cell (hc2 0 _ rfl) (fun c => HAP.out (by omega) b2 off2 rfl (by
                  rcases c with c | c | c | c
                  · exact .inl c
                  · exact .inr (.inl c)
                  · exact .inr (.inr (.inl c))
                  · simp [Value.ownBlock] at c))
                simpa using tk
              clear hc2
              cases hkb : ks.getD j default with
              | true =>
                rw [hkb] at ck
                rw [if_pos ⟨by rw [HKS.out]; exact hkj, hkb⟩] at hkt
                have HKT := Lib.hid hkt
                have hcn := cntF_le (apply s.base (kept (s.more.take j) ks))
                have hnl : n < (rowOf (apply s.base (kept (s.more.take j) ks)) s.len).length := by rw [rowOf_length]; omega
                have HPUT := Lib.hid (rput_any n d HR.out hnl (by omega) (by omega))
                have HU := Lib.hid (uses_put (k := n) d HG.out.len.2 (fun i x hx => (hfs.out i x hx).2.2) E2.out)
                clear hkt hkb hcn hfs
                generalize hff : apply s.base (kept (s.more.take j) ks) = f at *
                have HFF := Lib.hid (show apply s.base (kept (s.more.take (j + 1)) ks) = upd f n (some d) by rw [HKT.out, apply_snoc, hff])
                clear hff
                go_upto_region 15 with (go_at_call 34; refine HPUT.out.mono ?_; rintro e w4 ⟨rfl, hP4, hM4⟩; have N4 := Lib.hid hP4; have M4 := Lib.hid hM4; clear hP4 hM4)
                have hR2 := N4.out.below (Below.refl _ w4).drew
                obtain ⟨⟨-, -, k2, -⟩, -⟩ := N4.out.cells
                obtain ⟨gb, cb, hbv, hR5, hM5⟩ := hR2.setB hnl d
                obtain ⟨gg, cc, hbv2, hcd, hfd⟩ := ownS_cell hR2.ob hnl
                subst hbv
                obtain ⟨rfl, rfl⟩ : gb = gg ∧ cb = cc := by simpa using hbv2
                rw [rowOf_set _ E2.out, HU.out] at hR5
                have HR5 := Lib.hid hR5
                have HM5 := Lib.hid ((HMo.out.trans (M4.out.trans ((Mod.belowAll (Below.refl _ w4).drew).mono (fun _ _ c => c.elim)))).trans hM5)
                have HOM4 := Lib.hid (HOM1.out.mod M4.out (fun g hg hs => by
                  rcases hs with c | c | c | c
                  · exact HNO.out.2.2.1 (c ▸ hg)
                  · exact HNO.out.2.2.2.1 g c hg
                  · exact HNO.out.2.2.2.2 g c hg
                  · simp [Value.ownBlock] at c))
                obtain ⟨b', off', cap', hmv, c0, c1⟩ := ownW_cell HOM4.out hjm
                obtain ⟨rfl, rfl, rfl⟩ : b = b' ∧ off = off' ∧ mc = cap' := by simpa [HM.out, and_assoc] using hmv
                rw [HEL.out] at c0 c1
                simp only at c0 c1
                have hnl2 : (n : Int) < ((rowOf f s.len).length : Int) := by omega
                clear hmv hbv2 hR2 hR5 hM5
                clear ck hnl E2
                generalize (rowOf f s.len).getD n default = old at *
                generalize (rowOf f s.len).length = lf at *
                go_still_tail 15, (by kernel_rfl)
                change wpList _ _ _ _ _ w4.drew
                clear c0 c1 k2
                generalize w4.drew = W2 at *
                go_wp2
                go_roundg (gk - 1)
                case measure => omega
                case rel => exact ⟨j + 1, by omega, by simp, by rw [HFF.out]; exact HR5.out, HM5.out⟩
              | false =>
                rw [hkb] at ck
                rw [if_neg (fun c => by rw [hkb] at c; exact absurd c.2 (by decide)), List.append_nil] at hkt
                have HKT := Lib.hid hkt
                clear hkt hfs c0 c1
                go_wp2
                go_roundg (gk - 1)
                case measure => omega
                case rel => exact ⟨j + 1, by omega, by simp, by rw [HKT.out]; exact HR.out, HMo.out⟩
            · have hkji : (nk : Int) ≤ (j : Int) := by omega
              rw [if_neg (fun c => hkj (by rw [← HKS.out]; exact c.1)), List.append_nil] at hkt
              have HKT := Lib.hid hkt
              clear hkt hfs c0 c1
              go_wp2
              go_roundg (gk - 1)
              case measure => omega
              case rel => exact ⟨j + 1, by omega, by simp, by rw [HKT.out]; exact HR.out, HMo.out⟩
          · obtain rfl : j = m := by omega
            have hge : (j : Int) ≤ (j : Int) := Int.le_refl _
            have hR2 := HR.out
            rw [show s.more.take j = s.more from List.take_of_length_le (by have := HM.out; omega)] at hR2
            obtain ⟨⟨-, -, -, -, -, -, -, k7⟩, kf⟩ := hR2.cells
            have f7 := kf 7 (by omega)
            have HR3 := Lib.hid (hR2.set 7 (.bool true) ⟨s.len, s.room, s.fuse, false⟩ (cntF (apply s.base (kept s.more ks))) rfl)
            clear hR2 HR hlt kf
            go_wp2
            go_end0
            refine ⟨rfl, (show RUpd base q bv nv _ { s with base := apply s.base (kept s.more ks), more := [], off := false } w _ from ?_)⟩
            exact ⟨_, HR3.out, (HMo.out.mono (fun k _ hk => by
              rcases hk with c | c | c | c
              · exact .inl c
              · exact .inr (.inl c)
              · exact .inr (.inr (.inl c))
              · simp [Value.ownBlock] at c)).trans ((Mod.cellOf q 7 _).mono (fun k _ hk => .inl hk)), fun g hg => by simp [Value.ownBlock] at hg⟩
  · rw [if_neg ho]
    have ho2 : s.off = false := by simpa using ho
    rw [ho2] at g7
    simp only [Bool.not_false] at g7
    clear h ho g4 g5 f4 f5
    go_enter Try.func45, Try.ntmps45
    go_wp2
    go_end0
    exact ⟨rfl, RUpd.same hP.out (Below.refl _ _)⟩
end Go.Proofs.Ytcgkdomfbkkboaa
