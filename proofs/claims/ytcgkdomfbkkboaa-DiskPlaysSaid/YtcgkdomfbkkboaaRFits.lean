/- Which sectors still fit: the reference. -/
import Derived.Test.YtcgkdomfbkkboaaRFlush
namespace Go.Proofs.Ytcgkdomfbkkboaa
open Go.RowKit Go.Joins Go.ChangeMaps

abbrev OwnI (w : World) (base : Nat) (v : Value) (xs : List Int) : Prop := OwnL encI 1 3 w base v xs
theorem TI : Tab Try.prog 22 3 1 8 := ⟨Try.underlying22, _, _, rfl, rfl, rfl, rfl, rfl⟩
/-- an element of a row of numbers. -/
theorem ownI_cell {w : World} {base : Nat} {v : Value} {xs : List Int} (h : OwnI w base v xs) {i : Nat} (hi : i < xs.length) : ∃ b off cap, v = .slice (some ⟨b, off, none⟩) xs.length cap ∧ w.cell? ⟨b, off + i, none⟩ = some (.int .i64 (xs.getD i default)) := by
  obtain ⟨a, cap, hv, hs, -⟩ := h.sli EI1
  obtain ⟨b, off, e, hc⟩ := hs.lst i hi
  subst e
  exact ⟨b, off, cap, hv, by have := hc 0 _ rfl; simpa using this⟩
theorem elem_take (r : List Int) (x : Int) {k : Nat} (hk : k < r.length) : decide (x ∈ r.take (k + 1)) = (decide (x ∈ r.take k) || (r.getD k default == x)) := by
  rw [take_snoc r k default hk, Bool.eq_iff_iff]
  simp only [List.mem_append, List.mem_singleton, decide_eq_true_eq, Bool.or_eq_true, beq_iff_eq]
  exact or_congr Iff.rfl eq_comm
set_option maxHeartbeats 8000000 in
set_option maxRecDepth 100000 in
theorem rfits_any {w : World} {base q : Nat} {bv nv mv : Value} {s : St} (a : Option Addr) (cap : Nat) (l : List Int) (h : RD w base q bv nv mv s) (hg : Good s) (hl : Lst encI 1 w a l) (hn : l.length ≤ 1000000) :
    Calls Try.prog 15 #[.pointer (some ⟨q, 0, none⟩), .slice a l.length cap] w (RetB (fitsS s l) w) := by
  have mixed : Try.prog.follows .mixedOrders = true := by kernel_rfl
  have HP := Lib.hid h
  have HG := Lib.hid hg
  have HL := Lib.hid hl
  have HN := Lib.hid hn
  clear h hg hl hn
  generalize hm : l.length = m at *
  have HM := Lib.hid hm
  clear hm
  generalize hff : fitsS s l = ff at *
  have HF := Lib.hid hff
  clear hff
  go_enter Try.func15, Try.ntmps15
  go_wp2
  go_loopg [5, 6, 7, 8] m (fun gk v5 v6 v7 v8 wr => ∃ i : Nat, i + gk = m ∧ v6 = .int .i64 (i : Int) ∧ OwnI wr w.heap.size v5 (fresh s.now (l.take i)) ∧ Below w.heap.size w wr ∧ (l.take i).all (thereS s) = true)
  case atStart => exact ⟨0, by omega, rfl, ownL_nil _ _, Below.refl _ _, rfl⟩
  case round =>
    obtain ⟨i, hik, rfl, hO, hB, hA⟩ := hrel
    have HB := Lib.hid hB
    have HA := Lib.hid hA
    have HO := Lib.hid hO
    have hPr := HP.out.below (hB.mono (Nat.le_refl _))
    obtain ⟨va, vc, hv, -, -⟩ := hO.sli EI1
    subst hv
    have hfl := fresh_length s.now (l.take i)
    rw [List.length_take] at hfl
    have hfl2 : ((fresh s.now (l.take i)).length : Int) ≤ 1000000 := by have := HN.out; have := HM.out; omega
    have hi6 : (i : Int) ≤ 1000000 := by have := HN.out; omega
    obtain ⟨⟨k0, k1, -, k3, k4, -⟩, -⟩ := hPr.cells
    simp only [St.fl] at k0 k1
    by_cases hlt : i < m
    · have hli : (i : Int) < (m : Int) := by omega
      have hil : i < l.length := by have := HM.out; omega
      obtain ⟨b, off, rfl, hc⟩ := HL.out i hil
      have c0 : wr.cell? ⟨b, off + i, none⟩ = some (.int .i64 (l.getD i default)) := by
        have := keepc' (hc 0 _ rfl) hB
        simpa using this
      have HS := Lib.hid (show freshStep s.now (fresh s.now (l.take i)) (l.getD i default) = fresh s.now (l.take (i + 1)) by rw [take_snoc l i default hil, fresh_snoc])
      have HA2 := Lib.hid (all_take (f := thereS s) hil)
      have HMem := Lib.hid (getD_memD hil)
      clear hc hil hO hB hA hfl
      generalize l.getD i default = x at *
      by_cases h0 : x < 0
      · have hx : thereS s x = false := by unfold thereS; exact decide_eq_false (by omega)
        have hff : ff = false := by
          rw [← HF.out]
          unfold fitsS
          rw [show l.all (thereS s) = false from List.all_eq_false.2 ⟨x, HMem.out, by simp [hx]⟩]
          rfl
        subst hff
        clear hx k1 k3 k4 hPr
        go_upto_region 5 with fail
        go_quiet (fail)
        go_wp2
        go_ret
        exact retB rfl (HB.out.trans ((bel_drewN _ _).mono HB.out.size))
      · by_cases h1 : s.len ≤ x
        · have hx : thereS s x = false := by unfold thereS; exact decide_eq_false (by omega)
          have hff : ff = false := by
            rw [← HF.out]
            unfold fitsS
            rw [show l.all (thereS s) = false from List.all_eq_false.2 ⟨x, HMem.out, by simp [hx]⟩]
            rfl
          subst hff
          have h0' : 0 ≤ x := by omega
          clear hx k1 k3 k4 hPr h0
          go_upto_region 5 with fail
          go_quiet (fail)
          go_wp2
          go_ret
          exact retB rfl (HB.out.trans ((bel_drewN _ _).mono HB.out.size))
        · obtain ⟨n, rfl⟩ : ∃ n : Nat, x = n := ⟨x.toNat, by omega⟩
          have hnl : (n : Int) < s.len := by omega
          have hx : thereS s n = true := by unfold thereS; exact decide_eq_true (by omega)
          rw [HA.out, hx] at HA2
          have hll : (n : Int) < ((rowOf s.now s.len).length : Int) := by rw [rowOf_length]; omega
          have hin : n < (rowOf s.now s.len).length := by omega
          obtain ⟨g, cb, hnv, hcn, -⟩ := ownS_cell hPr.on hin
          subst hnv
          rw [rowOf_get _ hnl] at hcn
          have HSZ := Lib.hid (HG.out.sizes n)
          clear h0 h1 hx hin k1 k4 hPr
          generalize (rowOf s.now s.len).length = lf at *
          generalize hyy : (s.now (n : Int)).getD ByteArray.empty = y at *
          have HKE := Lib.hid (show (!(ByteArray.toList y).isEmpty) = (s.now (n : Int)).isSome by
            rw [emptyB]
            have := HSZ.out
            cases hq : s.now (n : Int) with
            | none => rw [hq] at this; simp [this.2 rfl]
            | some z => rw [hq] at this; simp at this; simp [this])
          clear hyy
          go_upto_region 5 with fail
          go_quiet (fail)
          have hB1 := Lib.hid (HB.out.trans ((bel_drewN wr nq).mono HB.out.size))
          have HO1 := Lib.hid (HO.out.below (bel_drewN wr nq))
          have j0 : (wr.drewN nq).cell? ⟨b, off + i, none⟩ = some (.int .i64 (n : Int)) := c0
          have j3 : (wr.drewN nq).cell? ⟨q, 3, none⟩ = some (.slice (some ⟨g, 0, none⟩) lf cb) := k3
          have jc : (wr.drewN nq).cell? ⟨g, n, none⟩ = some (.string y) := hcn
          clear k0 k3 c0 hcn HB HO
          generalize wr.drewN nq = W1 at *
          go_upto_region 7 with fail
          go_quiet (fail)
          have HB := Lib.hid (hB1.out.trans ((bel_drewN W1 nq).mono hB1.out.size))
          have HO := Lib.hid (HO1.out.below (bel_drewN W1 nq))
          have c0 : (W1.drewN nq).cell? ⟨b, off + i, none⟩ = some (.int .i64 (n : Int)) := j0
          clear j0 j3 jc hB1 HO1
          generalize W1.drewN nq = W2 at *
          rw [HKE.out]
          clear HKE HSZ
          generalize hss : (s.now (n : Int)).isSome = kb at *
          have HSS := Lib.hid hss
          clear hss
          have C0 := Lib.hid c0
          have HLI := Lib.hid (And.intro hli hi6)
          generalize fresh s.now (l.take i) = fr at *
          clear c0
          go_upto_region 9 with fail
          go_loopg [7, 8] fr.length (fun gj v7 v8 wr => ∃ k : Nat, k + gj = fr.length ∧ v8 = .int .i64 (k : Int) ∧ v7 = .bool (kb || decide ((n : Int) ∈ fr.take k)) ∧ Below W2.heap.size W2 wr)
          case atStart => exact ⟨0, by omega, rfl, by simp, Below.refl _ _⟩
          case round =>
            obtain ⟨k, hkj, rfl, rfl, hBk⟩ := hrel
            have HBK := Lib.hid hBk
            have c0 := keepc' C0.out hBk
            have HOk := HO.out.below hBk
            clear hBk
            have hk6 : (k : Int) ≤ 1000000 := by omega
            by_cases hkl : k < fr.length
            · have hkli : (k : Int) < (fr.length : Int) := by omega
              have het := Lib.hid (elem_take fr (n : Int) hkl)
              obtain ⟨b2, off2, cc, hv2, ce⟩ := ownI_cell HOk hkl
              obtain ⟨rfl, rfl⟩ : va = some ⟨b2, off2, none⟩ ∧ vc = cc := by simpa using hv2
              generalize fr.getD k default = z at *
              clear hv2 HOk
              cases hkk : (kb || decide ((n : Int) ∈ fr.take k)) with
              | true =>
                have HKK := Lib.hid hkk
                clear hkk
                go_upto_region 11 with fail
                go_quiet (fail)
                go_wp2
                go_roundg (gk - 1)
                case measure => omega
                case rel => exact ⟨k + 1, by omega, by simp, by rw [het.out, ← Bool.or_assoc, HKK.out]; rfl, HBK.out.trans ((bel_drewN _ _).mono HBK.out.size)⟩
              | false =>
                have HKK := Lib.hid hkk
                clear hkk
                go_upto_region 11 with fail
                go_quiet (fail)
                go_wp2
                go_roundg (gk - 1)
                case measure => omega
                case rel => exact ⟨k + 1, by omega, by simp, by rw [het.out, ← Bool.or_assoc, HKK.out]; rfl, HBK.out.trans ((bel_drewN _ _).mono HBK.out.size)⟩
            · obtain rfl : k = fr.length := by omega
              have hge : (fr.length : Int) ≤ (fr.length : Int) := Int.le_refl _
              rw [List.take_length]
              have HBA := Lib.hid (HB.out.trans (HBK.out.mono HB.out.size))
              have HOA := Lib.hid HOk
              clear hkl HOk
              obtain ⟨hli, hi6⟩ := HLI.out
              cases hkk : (kb || decide ((n : Int) ∈ fr)) with
              | true =>
                have hst : freshStep s.now fr n = fr := by
                  unfold freshStep
                  rw [HSS.out, if_pos (by simpa using hkk)]
                have HST := Lib.hid hst
                clear hst hkk
                go_wp2
                go_roundg (m - i - 1)
                case measure => omega
                case rel => exact ⟨i + 1, by omega, by simp, by rw [← HS.out, HST.out]; exact HOA.out, HBA.out, HA2.out⟩
              | false =>
                have hst : freshStep s.now fr n = fr ++ [(n : Int)] := by
                  unfold freshStep
                  rw [HSS.out, if_neg (by simpa using hkk)]
                have HST := Lib.hid hst
                have HXB := Lib.hid (bel1 _ (.cells #[.int .i64 (n : Int)] 3) : Below wr.heap.size wr _)
                have HWZ := Lib.hid HBA.out.size
                clear hst hkk
                go_wp2_with (at_builtin; refine wpList_app (v := .slice va fr.length vc) (base := w.heap.size) EI1 TI rfl _ _ rfl rfl (HOA.out.below HXB.out) (some ⟨_, 0, none⟩) 1 1 [(n : Int)] rfl rfl (sli_lit EI1 wr [(n : Int)] 1 _ 3 rfl rfl (by unfold maxLen; omega)).lst (fun e => by cases e) (by simp; omega) (by unfold maxLen; simp; omega) (by have := HWZ.out; simp; omega) ?_; intro v2 w3 ho hgr hat; have HO3 := Lib.hid ho; have HM3 := Lib.hid (((Mod.belowAll HXB.out).mono (S' := fun k => Value.ownBlock (.slice va fr.length vc) = some k) (fun _ _ c => c.elim)).trans (Mod.grown hgr (fun k hk => hk))); clear ho hgr hat)
                go_roundg (m - i - 1)
                case measure => omega
                case rel => exact ⟨i + 1, by omega, by simp, by rw [← HS.out, HST.out]; exact HO3.out, HBA.out.trans (HM3.out.below HBA.out.size (fun k hk => (World.ownsRow.lt HOA.out k hk).1)), HA2.out⟩
    · obtain rfl : i = m := by omega
      have hge : (i : Int) ≤ (i : Int) := Int.le_refl _
      have ht : l.take i = l := List.take_of_length_le (by have := HM.out; omega)
      have hall := HA.out
      rw [ht] at hall hfl2 HO
      have hcn := cntF_le s.now
      have hrm := HG.out.room
      have hff : ff = decide ((fresh s.now l).length = 0 ∨ ((fresh s.now l).length : Int) ≤ s.room - cntF s.now) := by
        rw [← HF.out]; unfold fitsS; rw [hall]; rfl
      have HFF := Lib.hid hff
      rw [ht]
      clear hff hlt hO hB hA hfl hPr k0 k3 ht HO
      generalize fresh s.now l = fr at *
      by_cases h0 : fr.length = 0
      · have h0b : ((fr.length : Int) == 0) = true := by simp [h0]
        go_upto_region 14 with fail
        go_quiet (fail)
        go_wp2
        go_ret
        exact retB (by rw [HFF.out]; simp [h0]) (HB.out.trans ((bel_drewN _ _).mono HB.out.size))
      · have h0b : ((fr.length : Int) == 0) = false := by simp [h0]
        go_upto_region 14 with fail
        go_quiet (fail)
        go_wp2
        go_ret
        exact retB (by rw [HFF.out]; simp [h0]) (HB.out.trans ((bel_drewN _ _).mono HB.out.size))
end Go.Proofs.Ytcgkdomfbkkboaa
