/- Frames come in order. -/
import Derived.Test.YtmiaifbpepfbnaaOne
import Derived.Test.YtmiaifbpepfbnaaDo
namespace Go.Proofs.Ytmiaifbpepfbnaa
open Go.RowKit Go.Joins Go.ChangeMaps

theorem Sli.mod {α : Type} [Inhabited α] {enc : α → List Value} {sz : Nat} {S : Nat → Prop} {w w' : World} {a : Option Addr} {cap : Nat} {xs : List α} (h : Sli enc sz w a cap xs) (hm : Mod S w w') (hs : ∀ b off, a = some ⟨b, off, none⟩ → ¬ S b) : Sli enc sz w' a cap xs :=
  ⟨fun i hi => by obtain ⟨b, off, e, hc⟩ := h.lst i hi; exact ⟨b, off, e, hc.mod hm (hs b off e)⟩, h.nil0, h.len, h.capm, h.plain⟩
def keepP (a b : Int) (c : Bool) (f : Fr) : Bool := okf 4 f && wantB a b c f
/-- the frames that are wanted, gathered. -/
def Gath (wx : World) (a b : Int) (c : Bool) (l : List Fr) (v : Value) (wr : World) : Prop := OwnF wr wx.heap.size v (l.filter (keepP a b c)) ∧ Below wx.heap.size wx wr
theorem filt_len (a b : Int) (c : Bool) (l : List Fr) (i : Nat) (h : i ≤ 30) : ((l.take i).filter (keepP a b c)).length ≤ 30 := Nat.le_trans (List.length_filter_le _ _) (by simp; omega)
theorem cut_facts {s1 : St} {a b : Int} (h0 : s1.cuts = []) : ∀ t : St, t.cuts = (cutS s1 a b).1.cuts → ∀ f : Fr, cutB t f.1 f.2.1 = !(wantB a b (cutS s1 a b).2 f) := by
  intro t ht f
  have hno : cutB s1 a b = false := by simp [cutB, h0]
  by_cases hw : twoB s1.nodes a b = true
  · have e : cutS s1 a b = ({ s1 with cuts := s1.cuts ++ [lk a b], cnt := s1.cnt + 1 }, true) := by simp [cutS, hw, hno]
    rw [e] at ht ⊢
    simp only [cutB, ht, h0, wantB, List.nil_append, List.mem_singleton, Bool.not_true, Bool.false_or, Bool.not_not]
    rw [Bool.eq_iff_iff, decide_eq_true_eq, lk_betw]
  · have hw' : twoB s1.nodes a b = false := by simpa using hw
    have e : cutS s1 a b = (s1, false) := by simp [cutS, hw']
    rw [e] at ht ⊢
    simp [cutB, ht, h0, wantB]
theorem cut_same (s1 : St) (a b : Int) : (cutS s1 a b).1.fl = s1.fl := by unfold cutS; split <;> rfl
theorem keep_filter (a b : Int) (c : Bool) (l : List Fr) : l.filter (keepP a b c) = (l.filter (okf 4)).filter (wantB a b c) := by
  rw [List.filter_filter]
  congr 1
  funext f
  simp [keepP, Bool.and_comm]
theorem take_head {t : St} {f : Fr} {fs : List Fr} (h : t.fl = f :: fs) : takeS t 0 = ({ t with fl := fs }, if cutB t f.1 f.2.1 = true then (nof, false) else (f, true)) := by
  have hi : inB t 0 = true := by simp [inB, h]
  unfold takeS
  rw [if_pos hi]
  simp [leaveS, h]
theorem Sli.tail {w : World} {bb off cap : Nat} {x : Fr} {xs : List Fr} (h : Sli encF 3 w (some ⟨bb, off, none⟩) cap (x :: xs)) : ∃ A : Nat, (if cap = 1 then (some ⟨bb, off, none⟩ : Option Addr) else some ⟨bb, off + 3, none⟩) = some ⟨bb, A, none⟩ ∧ Sli encF 3 w (some ⟨bb, A, none⟩) (cap - 1) xs := by
  have hl := h.len
  have hc := h.capm
  simp at hl
  by_cases h1 : cap = 1
  · refine ⟨off, by simp [h1], fun i hi => ?_, by simp, by omega, by omega, fun ad e => by simp at e; exact ⟨_, _, e.symm⟩⟩
    omega
  · refine ⟨off + 3, by simp [h1], ?_, by simp, by omega, by omega, fun ad e => by simp at e; exact ⟨_, _, e.symm⟩⟩
    have := h.lst.drop 1
    simpa using this
set_option maxHeartbeats 16000000 in
set_option maxRecDepth 100000 in
theorem lawOrder1 (a0 : Option Addr) (cap0 : Nat) (l0 : List Fr) (a b : Int) (W : World) (hin : Lst encF 3 W a0 l0) : Calls Try.prog 4 #[.slice a0 l0.length cap0, .int .i64 a, .int .i64 b] W (RetB true W) := by
  have hnew := Lib.hid (fun W' => n_new (w0 := W') 4 (by omega) (by omega))
  have hfs := Lib.hid (fun W' (hb : Below W.heap.size W W') => frames_any a0 cap0 l0 W' (hin.below hb))
  generalize hn0 : l0.length = n0 at *
  have hlen := Lib.hid (frs_len l0)
  generalize frs l0 = l at *
  clear hin hn0
  have T1 := trivial
  have hg0 := Lib.hid (good_new (n := 4) (by omega) (by omega))
  have hs1 := Lib.hid (good_send l hg0.out)
  have hcut := fun (V : World) (F : Nat → Prop) (h : NE W V F (W.heap.size + 1) W.heap.size (sendS (newS 4) l)) => n_cut (a := a) (b := b) h hs1.out.1 (by rw [hs1.out.2.2.2]; simp [newS])
  generalize hc : (cutS (sendS (newS 4) l) a b).2 = c at *
  generalize hs2 : (cutS (sendS (newS 4) l) a b).1 = s2 at *
  have HC := Lib.hid hc
  have HS2 := Lib.hid hs2
  have HCUT := Lib.hid hcut
  clear hc hs2 hcut
  go_enter Try.func4, Try.ntmps4
  go_wp2_with (first
    | (have z := T1; go_at_call 8; refine (hnew.out _).mono ?_; rintro e w1 ⟨rfl, hN⟩; have N1 := Lib.hid hN; clear hN z T1; have T2 := trivial)
    | (have z := T2; go_at_call 15; refine (hfs.out _ N1.out.bel).mono ?_; rintro e w2 ⟨v, rfl, ho, hb⟩; obtain ⟨a', c', rfl, hs, hlt⟩ := ho.sli EF; have hS := Lib.hid hs; have hLT := Lib.hid hlt; have hO := Lib.hid ho; have N2 := Lib.hid (N1.out.more hb); clear hs hlt ho hb z T2; have T3 := trivial)
    | (have z := T3; go_at_call 9; refine (n_send N2.out hg0.out hS.out rfl (by have := hlen.out; simp [newS]; omega) (fun b off e => .inr (hLT.out b off e))).mono ?_; rintro e w3 ⟨rfl, hBs, -, hM⟩; have hS3 := Lib.hid (hS.out.mod hM (fun b off e c => c.1 (.inr (hLT.out b off e)))); have N3 := Lib.hid hBs; clear hBs hM hS z T3; have T4 := trivial)
    | (have z := T4; go_at_call 16; refine (HCUT.out _ _ N3.out).mono ?_; rintro e w4 ⟨rfl, hBs, -, hM⟩; have hS4 := Lib.hid (hS3.out.mod hM (fun b off e c => c.1 (.inr (hLT.out b off e)))); have N4 := Lib.hid (hBs.less (F' := fun _ => False) (fun _ c => c.elim)); clear hBs hM hS3 z T4))
  have hb30 := hlen.out
  clear hnew hfs hO N1 N2 N3 HCUT
  obtain ⟨wx, hwx⟩ : ∃ wx, wx = w4 := ⟨_, rfl⟩
  subst hwx
  generalize hm : l.length = m at *
  have HM := Lib.hid hm
  clear hm hlen
  go_loopg [9, 10, 11] m (fun gk v9 v10 v11 wr => ∃ i : Nat, i + gk = m ∧ v10 = .int .i64 (i : Int) ∧ OwnF wr wx.heap.size v9 ((l.take i).filter (keepP a b c)) ∧ Below wx.heap.size wx wr)
  case atStart => exact ⟨0, by omega, rfl, by simpa using ownL_nil _ _, Below.refl _ _⟩
  case round =>
    obtain ⟨i, hik, rfl, hown, hB⟩ := hrel
    have HO := Lib.hid hown
    have HB := Lib.hid hB
    clear hown hB
    by_cases hlt : i < m
    · have hli : (i : Int) < (m : Int) := by omega
      have hsn := Lib.hid (show l.take (i + 1) = l.take i ++ [l.getD i default] from take_snoc l i default (by have := HM.out; omega))
      obtain ⟨bb, off, hab, hcl⟩ := hS4.out.lst i (by have := HM.out; omega)
      subst hab
      obtain ⟨g0', g1', g2'⟩ := fr_cells hcl
      have g0 := keepc' g0' HB.out
      have g1 := keepc' g1' HB.out
      have g2 := keepc' g2' HB.out
      generalize l.getD i default = f at *
      obtain ⟨f0, f1, f2⟩ := f
      have hlenO := Lib.hid (filt_len a b c l i (by omega))
      have hXB := Lib.hid (bel1 wr (.cells #[.int .i64 f0, .int .i64 f1, .string f2] 31))
      clear g0' g1' g2' hcl hlt
      by_cases h1 : f0 < 0
      · have e1 : f0 < 0 := h1
        have hok0 : okf 4 (f0, f1, f2) = false := by simp [okf, twoB]; omega
        have hsk := Lib.hid (show keepP a b c (f0, f1, f2) = false by simp only [keepP, hok0, Bool.false_and])
        clear hok0
        go_wp2
        go_roundg (gk - 1)
        case measure => omega
        case rel => exact ⟨i + 1, by omega, by simp, by rw [hsn.out, List.filter_append]; simp only [List.filter_cons, hsk.out, List.filter_nil, List.append_nil, Bool.false_eq_true, if_false]; exact HO.out.below hXB.out, grew_trans HB.out hXB.out⟩
      have h1' : 0 ≤ f0 := by omega
      clear h1
      by_cases h2 : 3 < f0
      · have e1 : 3 < f0 := h2
        have hok0 : okf 4 (f0, f1, f2) = false := by simp [okf, twoB]; omega
        have hsk := Lib.hid (show keepP a b c (f0, f1, f2) = false by simp only [keepP, hok0, Bool.false_and])
        clear hok0
        go_wp2
        go_roundg (gk - 1)
        case measure => omega
        case rel => exact ⟨i + 1, by omega, by simp, by rw [hsn.out, List.filter_append]; simp only [List.filter_cons, hsk.out, List.filter_nil, List.append_nil, Bool.false_eq_true, if_false]; exact HO.out.below hXB.out, grew_trans HB.out hXB.out⟩
      have h2' : f0 ≤ 3 := by omega
      clear h2
      by_cases h3 : f1 < 0
      · have e1 : f1 < 0 := h3
        have hok0 : okf 4 (f0, f1, f2) = false := by simp [okf, twoB]; omega
        have hsk := Lib.hid (show keepP a b c (f0, f1, f2) = false by simp only [keepP, hok0, Bool.false_and])
        clear hok0
        go_wp2
        go_roundg (gk - 1)
        case measure => omega
        case rel => exact ⟨i + 1, by omega, by simp, by rw [hsn.out, List.filter_append]; simp only [List.filter_cons, hsk.out, List.filter_nil, List.append_nil, Bool.false_eq_true, if_false]; exact HO.out.below hXB.out, grew_trans HB.out hXB.out⟩
      have h3' : 0 ≤ f1 := by omega
      clear h3
      by_cases h4 : 3 < f1
      · have e1 : 3 < f1 := h4
        have hok0 : okf 4 (f0, f1, f2) = false := by simp [okf, twoB]; omega
        have hsk := Lib.hid (show keepP a b c (f0, f1, f2) = false by simp only [keepP, hok0, Bool.false_and])
        clear hok0
        go_wp2
        go_roundg (gk - 1)
        case measure => omega
        case rel => exact ⟨i + 1, by omega, by simp, by rw [hsn.out, List.filter_append]; simp only [List.filter_cons, hsk.out, List.filter_nil, List.append_nil, Bool.false_eq_true, if_false]; exact HO.out.below hXB.out, grew_trans HB.out hXB.out⟩
      have h4' : f1 ≤ 3 := by omega
      clear h4
      by_cases h5 : f0 = f1
      · have e1 : (f0 == f1) = true := by simpa using h5
        have H5 := Lib.hid h5
        clear h5
        have hok0 : okf 4 (f0, f1, f2) = false := by simp [okf, twoB, H5.out]
        have hsk := Lib.hid (show keepP a b c (f0, f1, f2) = false by simp only [keepP, hok0, Bool.false_and])
        clear hok0
        go_wp2
        go_roundg (gk - 1)
        case measure => omega
        case rel => exact ⟨i + 1, by omega, by simp, by rw [hsn.out, List.filter_append]; simp only [List.filter_cons, hsk.out, List.filter_nil, List.append_nil, Bool.false_eq_true, if_false]; exact HO.out.below hXB.out, grew_trans HB.out hXB.out⟩
      have h5' : (f0 == f1) = false := by simpa using h5
      have H5 := Lib.hid h5
      clear h5
      by_cases h6 : f2.size = 0
      · have e1 : f2.toList = [] := (toList_nil f2).2 h6
        have e2 : f2.toList.isEmpty = true := by simpa using e1
        have H6 := Lib.hid h6
        clear h6
        have hok0 : okf 4 (f0, f1, f2) = false := by simp [okf, H6.out]
        have hsk := Lib.hid (show keepP a b c (f0, f1, f2) = false by simp only [keepP, hok0, Bool.false_and])
        clear hok0
        go_wp2
        go_roundg (gk - 1)
        case measure => omega
        case rel => exact ⟨i + 1, by omega, by simp, by rw [hsn.out, List.filter_append]; simp only [List.filter_cons, hsk.out, List.filter_nil, List.append_nil, Bool.false_eq_true, if_false]; exact HO.out.below hXB.out, grew_trans HB.out hXB.out⟩
      have h6' : f2.toList.isEmpty = false := by simpa using fun c => h6 ((toList_nil f2).1 c)
      have H6 := Lib.hid h6
      clear h6
      by_cases h7 : (8192 : Int) < (f2.size : Int)
      · have H7 := Lib.hid h7
        have hok0 : okf 4 (f0, f1, f2) = false := by simp [okf]; intros; have := H7.out; omega
        have hsk := Lib.hid (show keepP a b c (f0, f1, f2) = false by simp only [keepP, hok0, Bool.false_and])
        clear hok0
        go_wp2
        go_roundg (gk - 1)
        case measure => omega
        case rel => exact ⟨i + 1, by omega, by simp, by rw [hsn.out, List.filter_append]; simp only [List.filter_cons, hsk.out, List.filter_nil, List.append_nil, Bool.false_eq_true, if_false]; exact HO.out.below hXB.out, grew_trans HB.out hXB.out⟩
      have h7' : (f2.size : Int) ≤ 8192 := by omega
      have hok := Lib.hid (show okf 4 (f0, f1, f2) = true by simp [okf, twoB]; have := H5.out; have := H6.out; omega)
      clear h7
      cases c
      · have hP := Lib.hid (show keepP a b false (f0, f1, f2) = true by simp [keepP, hok.out, wantB])
        go_wp2_with (at_builtin; refine wpList_app (v := u9) (base := wx.heap.size) EF TF rfl _ _ rfl rfl (HO.out.below (grew_trans hXB.out (bel1 _ _))) (some ⟨_, 0, none⟩) 1 1 [(f0, f1, f2)] rfl rfl (fr_own (f := (f0, f1, f2)) (sizeA _ _)) (fun e => by cases e) (Nat.le_trans (Nat.mul_le_mul_right 32 (Nat.add_le_add_right hlenO.out 1)) (by omega)) (Nat.le_trans (Nat.add_le_add_right hlenO.out 1) (by unfold maxLen; omega)) (Nat.le_trans HB.out.size (Nat.le_trans (bel1 _ _).size (bel1 _ _).size)) ?_; intro v' w' ho hgr hat)
        go_roundg (gk - 1)
        case measure => omega
        case rel => exact ⟨i + 1, by omega, by simp, by rw [hsn.out, List.filter_append]; simp only [List.filter_cons, hP.out, List.filter_nil, if_true]; exact ho, (grew_trans HB.out (grew_trans hXB.out (bel1 _ _))).grown hgr (Nat.le_trans HB.out.size (Nat.le_trans hXB.out.size (bel1 _ _).size)) (fun j hj => (World.ownsRow.lt HO.out j hj).1)⟩
      · cases hA : (f0 == a)
        · cases hC : (f0 == b)
          · have hP := Lib.hid (show keepP a b true (f0, f1, f2) = true by simp [keepP, hok.out, wantB, betw, hA, hC])
            go_wp2_with (at_builtin; refine wpList_app (v := u9) (base := wx.heap.size) EF TF rfl _ _ rfl rfl (HO.out.below (grew_trans hXB.out (bel1 _ _))) (some ⟨_, 0, none⟩) 1 1 [(f0, f1, f2)] rfl rfl (fr_own (f := (f0, f1, f2)) (sizeA _ _)) (fun e => by cases e) (Nat.le_trans (Nat.mul_le_mul_right 32 (Nat.add_le_add_right hlenO.out 1)) (by omega)) (Nat.le_trans (Nat.add_le_add_right hlenO.out 1) (by unfold maxLen; omega)) (Nat.le_trans HB.out.size (Nat.le_trans (bel1 _ _).size (bel1 _ _).size)) ?_; intro v' w' ho hgr hat)
            go_roundg (gk - 1)
            case measure => omega
            case rel => exact ⟨i + 1, by omega, by simp, by rw [hsn.out, List.filter_append]; simp only [List.filter_cons, hP.out, List.filter_nil, if_true]; exact ho, (grew_trans HB.out (grew_trans hXB.out (bel1 _ _))).grown hgr (Nat.le_trans HB.out.size (Nat.le_trans hXB.out.size (bel1 _ _).size)) (fun j hj => (World.ownsRow.lt HO.out j hj).1)⟩
          · cases hD : (f1 == a)
            · have hP := Lib.hid (show keepP a b true (f0, f1, f2) = true by simp [keepP, hok.out, wantB, betw, hA, hC, hD])
              go_wp2_with (at_builtin; refine wpList_app (v := u9) (base := wx.heap.size) EF TF rfl _ _ rfl rfl (HO.out.below (grew_trans hXB.out (bel1 _ _))) (some ⟨_, 0, none⟩) 1 1 [(f0, f1, f2)] rfl rfl (fr_own (f := (f0, f1, f2)) (sizeA _ _)) (fun e => by cases e) (Nat.le_trans (Nat.mul_le_mul_right 32 (Nat.add_le_add_right hlenO.out 1)) (by omega)) (Nat.le_trans (Nat.add_le_add_right hlenO.out 1) (by unfold maxLen; omega)) (Nat.le_trans HB.out.size (Nat.le_trans (bel1 _ _).size (bel1 _ _).size)) ?_; intro v' w' ho hgr hat)
              go_roundg (gk - 1)
              case measure => omega
              case rel => exact ⟨i + 1, by omega, by simp, by rw [hsn.out, List.filter_append]; simp only [List.filter_cons, hP.out, List.filter_nil, if_true]; exact ho, (grew_trans HB.out (grew_trans hXB.out (bel1 _ _))).grown hgr (Nat.le_trans HB.out.size (Nat.le_trans hXB.out.size (bel1 _ _).size)) (fun j hj => (World.ownsRow.lt HO.out j hj).1)⟩
            · have hsk := Lib.hid (show keepP a b true (f0, f1, f2) = false by simp [keepP, wantB, betw, hA, hC, hD])
              go_wp2
              go_roundg (gk - 1)
              case measure => omega
              case rel => exact ⟨i + 1, by omega, by simp, by rw [hsn.out, List.filter_append]; simp only [List.filter_cons, hsk.out, List.filter_nil, List.append_nil, Bool.false_eq_true, if_false]; exact HO.out.below hXB.out, grew_trans HB.out hXB.out⟩
        · cases hB : (f1 == b)
          · cases hC : (f0 == b)
            · have hP := Lib.hid (show keepP a b true (f0, f1, f2) = true by simp [keepP, hok.out, wantB, betw, hA, hB, hC])
              go_wp2_with (at_builtin; refine wpList_app (v := u9) (base := wx.heap.size) EF TF rfl _ _ rfl rfl (HO.out.below (grew_trans hXB.out (bel1 _ _))) (some ⟨_, 0, none⟩) 1 1 [(f0, f1, f2)] rfl rfl (fr_own (f := (f0, f1, f2)) (sizeA _ _)) (fun e => by cases e) (Nat.le_trans (Nat.mul_le_mul_right 32 (Nat.add_le_add_right hlenO.out 1)) (by omega)) (Nat.le_trans (Nat.add_le_add_right hlenO.out 1) (by unfold maxLen; omega)) (Nat.le_trans HB.out.size (Nat.le_trans (bel1 _ _).size (bel1 _ _).size)) ?_; intro v' w' ho hgr hat)
              go_roundg (gk - 1)
              case measure => omega
              case rel => exact ⟨i + 1, by omega, by simp, by rw [hsn.out, List.filter_append]; simp only [List.filter_cons, hP.out, List.filter_nil, if_true]; exact ho, (grew_trans HB.out (grew_trans hXB.out (bel1 _ _))).grown hgr (Nat.le_trans HB.out.size (Nat.le_trans hXB.out.size (bel1 _ _).size)) (fun j hj => (World.ownsRow.lt HO.out j hj).1)⟩
            · cases hD : (f1 == a)
              · have hP := Lib.hid (show keepP a b true (f0, f1, f2) = true by simp [keepP, hok.out, wantB, betw, hA, hB, hC, hD])
                go_wp2_with (at_builtin; refine wpList_app (v := u9) (base := wx.heap.size) EF TF rfl _ _ rfl rfl (HO.out.below (grew_trans hXB.out (bel1 _ _))) (some ⟨_, 0, none⟩) 1 1 [(f0, f1, f2)] rfl rfl (fr_own (f := (f0, f1, f2)) (sizeA _ _)) (fun e => by cases e) (Nat.le_trans (Nat.mul_le_mul_right 32 (Nat.add_le_add_right hlenO.out 1)) (by omega)) (Nat.le_trans (Nat.add_le_add_right hlenO.out 1) (by unfold maxLen; omega)) (Nat.le_trans HB.out.size (Nat.le_trans (bel1 _ _).size (bel1 _ _).size)) ?_; intro v' w' ho hgr hat)
                go_roundg (gk - 1)
                case measure => omega
                case rel => exact ⟨i + 1, by omega, by simp, by rw [hsn.out, List.filter_append]; simp only [List.filter_cons, hP.out, List.filter_nil, if_true]; exact ho, (grew_trans HB.out (grew_trans hXB.out (bel1 _ _))).grown hgr (Nat.le_trans HB.out.size (Nat.le_trans hXB.out.size (bel1 _ _).size)) (fun j hj => (World.ownsRow.lt HO.out j hj).1)⟩
              · have hsk := Lib.hid (show keepP a b true (f0, f1, f2) = false by simp [keepP, wantB, betw, hA, hB, hC, hD])
                go_wp2
                go_roundg (gk - 1)
                case measure => omega
                case rel => exact ⟨i + 1, by omega, by simp, by rw [hsn.out, List.filter_append]; simp only [List.filter_cons, hsk.out, List.filter_nil, List.append_nil, Bool.false_eq_true, if_false]; exact HO.out.below hXB.out, grew_trans HB.out hXB.out⟩
          · have hsk := Lib.hid (show keepP a b true (f0, f1, f2) = false by simp [keepP, wantB, betw, hA, hB])
            go_wp2
            go_roundg (gk - 1)
            case measure => omega
            case rel => exact ⟨i + 1, by omega, by simp, by rw [hsn.out, List.filter_append]; simp only [List.filter_cons, hsk.out, List.filter_nil, List.append_nil, Bool.false_eq_true, if_false]; exact HO.out.below hXB.out, grew_trans HB.out hXB.out⟩
    · have hge : (m : Int) ≤ (i : Int) := by omega
      have hfl := Lib.hid (show ((l.take i).filter (keepP a b c)) = l.filter (keepP a b c) by rw [List.take_of_length_le (by have := HM.out; omega)])
      have hO := HO.out
      rw [hfl.out] at hO
      obtain ⟨aw, cw, rfl, hsw, hltw⟩ := hO.sli EF
      have N5 := Lib.hid (N4.out.more HB.out)
      obtain ⟨F5, hF5⟩ : ∃ F5 : Nat → Prop, F5 = fun k => False ∨ (wx.heap.size ≤ k ∧ k < wr.heap.size) := ⟨_, rfl⟩
      have hFw : ∀ b off, aw = some ⟨b, off, none⟩ → F5 b := fun b off e => by rw [hF5]; exact .inr (hltw b off e)
      rw [← hF5] at N5
      have hfl2 : s2.fl = l.filter (okf 4) := by
        rw [← HS2.out, cut_same]
        have := (send_filter l (newS 4) (by simp [newS]; have := HM.out; omega)).1
        simpa [newS] using this
      have hcf := Lib.hid (fun (t : St) (ht : t.cuts = s2.cuts) (f : Fr) => by have := cut_facts (s1 := sendS (newS 4) l) (a := a) (b := b) (send_cuts l _) t (by rw [HS2.out]; exact ht) f; rw [HC.out] at this; exact this)
      have hgs2 := Lib.hid (show Good s2 by rw [← HS2.out]; exact good_cut hs1.out.1 a b)
      have hst := Lib.hid (show l.filter (keepP a b c) = s2.fl.filter (wantB a b c) by rw [hfl2]; exact keep_filter a b c l)
      have hSW := Lib.hid hsw
      have HFW := Lib.hid hFw
      clear hF5 hO hsw hltw HO hfl2 hFw hlt hs1 HC HS2 hg0
      go_wp2
      simp only [show decide (i < m) = false from by simp; omega]
      go_loopg [9, 12, 13] (s2.fl.length) (fun gk v9 v12 v13 wr => ∃ t aw cw ws, NE W wr F5 (W.heap.size + 1) W.heap.size t ∧ Good t ∧ t.fl.length = gk ∧ t.cuts = s2.cuts ∧ ws = t.fl.filter (wantB a b c) ∧ v9 = .slice aw ws.length cw ∧ Sli encF 3 wr aw cw ws ∧ ∀ b off, aw = some ⟨b, off, none⟩ → F5 b)
      case atStart => exact ⟨s2, aw, cw, _, N5.out, hgs2.out, rfl, rfl, hst.out, rfl, hSW.out, HFW.out⟩
      case round =>
        obtain ⟨t, aw2, cw2, ws, hN, hgt, hlt, hct, hws, rfl, hsl, hF⟩ := hrel
        have N6 := Lib.hid hN
        have HG := Lib.hid hgt
        have HS := Lib.hid hsl
        have HFF := Lib.hid hF
        have hln := Lib.hid (n_len hN)
        rw [hlt] at hln
        have hcb := hcf.out t hct
        have HCT := Lib.hid hct
        clear hN hgt hsl hF hct N5 hSW hst
        cases hfs : t.fl with
        | nil =>
          rw [hfs] at hws hlt
          simp at hws hlt
          subst hws
          subst hlt
          clear hcb
          go_wp2_with (first
            | (go_at_call 13; refine hln.out.mono ?_; rintro e w6 ⟨rfl, rfl⟩)
            | (go_at_call 14; refine (works_any _).mono ?_; rintro e w7 ⟨rfl, hb⟩))
          go_ret
          exact retB rfl (grew_trans N6.out.bel hb)
        | cons f fs =>
          have hgk : (0 : Int) < (gk : Int) := by rw [hfs] at hlt; simp at hlt; omega
          have HGK := Lib.hid (show fs.length = gk - 1 by rw [hfs] at hlt; simp at hlt; omega)
          have hth := take_head hfs
          have hgd := Lib.hid (show Good { t with fl := fs } by have := good_take HG.out 0; rw [hth] at this; exact this)
          rw [hfs, List.filter_cons] at hws
          have htk := n_take (k := 0) N6.out HG.out
          rw [hth] at htk
          obtain ⟨f0, f1, f2⟩ := f
          rw [hcb (f0, f1, f2)] at htk
          clear hcb hth hlt
          cases hw : wantB a b c (f0, f1, f2)
          · rw [hw] at hws htk
            simp only [Bool.not_false, if_true, tkV, frV, nof] at htk
            simp only [Bool.false_eq_true, if_false] at hws
            have HTK := Lib.hid htk
            have HWS := Lib.hid hws
            clear htk hws hw hfs
            go_wp2_with (first
              | (go_at_call 13; refine hln.out.mono ?_; rintro e w6 ⟨rfl, rfl⟩)
              | (go_at_call 17; refine HTK.out.mono ?_; rintro e w7 ⟨rfl, hBs, -, hM⟩; have hS7 := Lib.hid (HS.out.mod hM (fun b off e c => c.1 (HFF.out b off e))); have N7 := Lib.hid hBs; clear hBs hM))
            go_roundg (gk - 1)
            case measure => omega
            case rel => exact ⟨_, aw2, cw2, ws, N7.out.below (bel1 _ _), hgd.out, HGK.out, HCT.out, HWS.out, rfl, hS7.out.below (bel1 _ _), HFF.out⟩
          · rw [hw] at hws htk
            simp only [Bool.not_true, Bool.false_eq_true, if_false, tkV, frV] at htk
            simp only [if_true] at hws
            have HTK := Lib.hid htk
            have HWS := Lib.hid hws
            clear htk hfs
            generalize hwl : fs.filter (wantB a b c) = ws1 at *
            subst hws
            have HWL := Lib.hid hwl
            clear hwl
            obtain ⟨bb, off, hab, hcl⟩ := HS.out.lst 0 (by simp)
            subst hab
            have HFB := Lib.hid (HFF.out bb off rfl)
            have hq : ∀ V, (binOp .neq 31 (.agg #[.int .i64 f0, .int .i64 f1, .string f2]) (.agg #[.int .i64 f0, .int .i64 f1, .string f2])).run Try.prog V = .ok (.bool false) V := fun V => (neq31 V f0 f1 f0 f1 f2 f2).trans (by rw [(eqF_iff _ _).2 rfl]; rfl)
            have hcl2 : CellsAt wr bb off (encF (f0, f1, f2)) := by simpa using hcl
            have HCL := Lib.hid hcl2
            have mixed : Try.prog.follows .mixedOrders = true := by kernel_rfl
            clear hcl hcl2 hw
            go_wp2_with (first
              | (go_at_call 13; refine hln.out.mono ?_; rintro e w6 ⟨rfl, rfl⟩)
              | (go_at_call 17; refine HTK.out.mono ?_; rintro e w7 ⟨rfl, hBs, -, hM⟩; have hS7 := Lib.hid (HS.out.mod hM (fun b off e c => c.1 (HFF.out b off e))); have hC7 := HCL.out.mod hM (fun c => c.1 HFB.out); obtain ⟨g0, g1, g2⟩ := fr_cells hC7; have k0 := fun o => keepc' g0 (bel1 w7 o); have k1 := fun o => keepc' g1 (bel1 w7 o); have k2 := fun o => keepc' g2 (bel1 w7 o); have N7 := Lib.hid hBs; clear hBs hM hC7 g0 g1 g2))
            obtain ⟨A, hA, hSA⟩ := Sli.tail hS7.out
            have HSA := Lib.hid hSA
            have hle1 : (1 : Int) ≤ (ws1.length : Int) + 1 := by omega
            have h01 : ((ws1.length : Int) + 1 == 0) = false := by simp; omega
            clear hSA
            go_region
            all_goals (
              go_wp2
              go_roundg (gk - 1)
              case measure => omega
              case rel => exact ⟨_, _, _, ws1, N7.out.below ((bel1 _ _).drew), hgd.out, HGK.out, HCT.out, HWL.out.symm, rfl, HSA.out.below ((bel1 _ _).drew), fun b2 off2 e => by simp at e; rw [← e.1]; exact HFB.out⟩)
theorem lawOrder (a0 : Option Addr) (cap0 : Nat) (l0 : List Fr) (a b : Int) (W : World) (hin : Lst encF 3 W a0 l0) (_ : l0.length ≤ maxLen) : Calls Try.prog 4 #[.slice a0 l0.length cap0, .int .i64 a, .int .i64 b] W (RetB true W) := lawOrder1 a0 cap0 l0 a b W hin
end Go.Proofs.Ytmiaifbpepfbnaa
