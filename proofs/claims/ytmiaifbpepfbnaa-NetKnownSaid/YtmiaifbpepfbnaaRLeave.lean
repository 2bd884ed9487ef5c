/- A frame leaves the reference. -/
import Derived.Test.YtmiaifbpepfbnaaRSend
namespace Go.Proofs.Ytmiaifbpepfbnaa
open Go.RowKit Go.Joins Go.ChangeMaps

theorem erase_snoc (l : List Fr) (k i : Nat) (h : i < l.length) (hne : i ≠ k) : (l.take (i + 1)).eraseIdx k = (l.take i).eraseIdx k ++ [l.getD i default] := by
  rw [take_snoc l i default h]
  have hl : (l.take i).length = i := by simp; omega
  by_cases hk : k < i
  · rw [List.eraseIdx_append_of_lt_length (by omega)]
  · rw [List.eraseIdx_of_length_le (by simp; omega), List.eraseIdx_of_length_le (by omega)]
theorem erase_same (l : List Fr) (k : Nat) (h : k < l.length) : (l.take (k + 1)).eraseIdx k = (l.take k).eraseIdx k := by
  have hl : (l.take k).length = k := by simp; omega
  rw [take_snoc l k default h, List.eraseIdx_append_of_length_le (by omega), hl, Nat.sub_self, List.eraseIdx_of_length_le (l := l.take k) (by omega)]
  simp
theorem len_erase_le (l : List Fr) (k i : Nat) : ((l.take i).eraseIdx k).length ≤ i := Nat.le_trans (List.length_eraseIdx_le _ _) (by simp; omega)
set_option maxHeartbeats 2000000 in
set_option maxRecDepth 100000 in
theorem rleave_any (base q : Nat) (v c : Value) (s : St) (k : Nat) (w : World) (h : RN w base q v c s) (hl : s.fl.length ≤ 800) (hbase : base ≤ w.heap.size) (hk : k < 1000) :
    Calls Try.prog 38 #[.pointer (some ⟨q, 0, none⟩), .int .i64 (k : Int)] w (Tup0 (RUpd base q v c (leaveS s k) w)) := by
  obtain ⟨a, cap, rfl, hS, -⟩ := h.own.sli EF
  have hP := Lib.hid h
  have hL := Lib.hid hl
  have hSL := Lib.hid hS
  have hKk := Lib.hid hk
  have hcm := hS.capm
  have hln := hS.len
  unfold maxLen at hcm
  clear h hl hS hk
  generalize hn : s.fl.length = n at *
  have hN := Lib.hid hn
  clear hn
  go_enter Try.func38, Try.ntmps38
  go_wp2
  go_loopg [4, 5] n (fun gk v4 v5 wr => ∃ i : Nat, i + gk = n ∧ v5 = .int .i64 (i : Int) ∧ OwnF wr w.heap.size v4 ((s.fl.take i).eraseIdx k) ∧ Below w.heap.size w wr)
  case atStart => exact ⟨0, by omega, rfl, by simpa using ownL_nil _ _, Below.refl _ _⟩
  case round =>
    obtain ⟨i, hik, rfl, hown, hB⟩ := hrel
    have HO := Lib.hid hown
    have HB := Lib.hid hB
    have c1 := keepc' hP.out.c.1.2.1 hB
    have hlenO := Lib.hid (len_erase_le s.fl k i)
    clear hown hB
    by_cases hlt : i < n
    · have hli : (i : Int) < (n : Int) := by omega
      have hn800 := Lib.hid (show i < 800 by have := hL.out; omega)
      by_cases he : i = k
      · have heb : ((i : Int) != (k : Int)) = false := by simp [he]
        have hE := Lib.hid he
        clear he
        go_wp2
        go_roundg (gk - 1)
        case measure => omega
        case rel => exact ⟨i + 1, by omega, by simp, by rw [hE.out, erase_same s.fl k (by have := hN.out; have := hE.out; omega)]; have := HO.out; rw [hE.out] at this; exact this, HB.out⟩
      · have heb : ((i : Int) != (k : Int)) = true := by simp; omega
        have hsn := Lib.hid (erase_snoc s.fl k i (by have := hN.out; omega) he)
        obtain ⟨b, off, hab, hc⟩ := hSL.out.lst i (by have := hN.out; omega)
        subst hab
        obtain ⟨g0', g1', g2'⟩ := fr_cells hc
        have g0 := keepc' g0' HB.out
        have g1 := keepc' g1' HB.out
        have g2 := keepc' g2' HB.out
        generalize s.fl.getD i default = f at *
        obtain ⟨f0, f1, f2⟩ := f
        clear g0' g1' g2' hc he
        go_wp2_with (at_builtin; refine wpList_app EF TF rfl _ _ rfl rfl (HO.out.below (bel1 _ _)) (some ⟨_, 0, none⟩) 1 1 [(f0, f1, f2)] rfl rfl (fr_own (f := (f0, f1, f2)) rfl) (by simp) (by have := hlenO.out; have := hn800.out; simp; omega) (by have := hlenO.out; have := hn800.out; unfold maxLen; simp; omega) (Nat.le_trans HB.out.size (by simp)) ?_; intro v' w' ho hgr hat)
        go_roundg (gk - 1)
        case measure => omega
        case rel => exact ⟨i + 1, by omega, by simp, by rw [hsn.out]; exact ho, (grew_trans HB.out (bel1 _ _)).grown hgr (Nat.le_trans HB.out.size (by simp)) (fun j hj => (World.ownsRow.lt HO.out j hj).1)⟩
    · obtain rfl : i = n := by omega
      have hfin : Hid (OwnF wr w.heap.size u4 (s.fl.eraseIdx k)) := by
        have := HO.out
        rwa [List.take_of_length_le (by have := hN.out; omega)] at this
      have hPw := Lib.hid (hP.out.below HB.out)
      have y1 := hPw.out.c.2 1 (by omega)
      obtain ⟨a', c', e, -, -⟩ := hfin.out.sli EF
      subst e
      go_wp2
      go_end0
      refine ⟨rfl, _, c, hPw.out.put1 (s' := leaveS s k) (Mod.refl (fun _ => False) wr) (fun c => c) (fun _ _ c => c) (hfin.out.mono hbase) ⟨rfl, rfl, rfl, rfl⟩, ((Mod.belowAll HB.out).mono (fun _ _ c => c.elim)).trans ((mod_setCell q 1 wr _).mono fun j _ hj => .inl hj), fun g hg => .inr (World.ownsRow.lt hfin.out g hg).1, fun g hg => .inl hg⟩
end Go.Proofs.Ytmiaifbpepfbnaa
