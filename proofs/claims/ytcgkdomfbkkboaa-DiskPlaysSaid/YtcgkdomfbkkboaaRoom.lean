/- As many sectors as there is room: the walk. -/
import Derived.Test.YtcgkdomfbkkboaaRoomP
namespace Go.Proofs.Ytcgkdomfbkkboaa
open Go.RowKit Go.Joins Go.ChangeMaps

theorem getD_mem {α : Type} [Inhabited α] {l : List α} {i : Nat} (h : i < l.length) : l.getD i default ∈ l := by rw [List.getD_eq_getElem?_getD, List.getElem?_eq_getElem h]; exact List.getElem_mem h
def encU (x : Int) : List Value := [.int .u8 x]
theorem EU : Enc encU 1 := ⟨fun _ => rfl, fun x u hu => by simp [encU] at hu; subst hu; rfl, by omega⟩
theorem Stp.keep {w0 w w' : World} {F : Nat → Prop} {p bm : Nat} {s : St} (h : Stp w0 w F p bm s w') {β : Type} {t e : TypeId} {E : El t e β} {fm n : Nat} {f : Int → Option β} (hF : F fm) (hM : MapAt E w fm n f) : MapAt E w' fm n f := hM.mod h.2.2 (fun c => c.1 hF)
theorem lit1 (w : World) (x : Int) : Lst encI 1 (w.alloc (.cells #[.int .i64 x] 3)) (some ⟨w.heap.size, 0, none⟩) [x] := (sli_lit EI1 w [x] 1 _ 3 rfl rfl (by unfold maxLen; omega)).lst
theorem d_fit1 {w0 w : World} {F : Nat → Prop} {p bm : Nat} {s : St} {x : Int} (h : DE w0 w F p bm s) (h0 : 0 ≤ x) (h1 : x < s.len) : Calls Try.prog 14 #[.pointer (some ⟨p, 0, none⟩), .slice (some ⟨w.heap.size, 0, none⟩) 1 1] (w.alloc (.cells #[.int .i64 x] 3)) (RetB ((s.now x).isSome || decide ((cntF s.now : Int) < s.room)) (w.alloc (.cells #[.int .i64 x] 3))) :=
  d_fits (n := 1) (h.below (bel1 _ _)) (lit1 w x) (fun y hy => by simp at hy; subst hy; have := h.good.len; exact wf64 (by omega) (by omega)) rfl (by omega) (fits_one h0 h1)
set_option maxHeartbeats 16000000 in
set_option maxRecDepth 100000 in
theorem lawRoom (a0 : Int) (a1 : Option Addr) (cap1 : Nat) (l : List Int) (W : World) (h0 : 0 ≤ a0) (h1 : a0 ≤ 255) (hin : Lst encU 1 W a1 l) (hby : ∀ x ∈ l, 0 ≤ x ∧ x ≤ 255) :
    Calls Try.prog 6 #[.int .u8 a0, .slice a1 l.length cap1] W (RetB true W) := by
  have HIn := Lib.hid hin
  have HBy := Lib.hid hby
  clear hin hby
  generalize hla : l.length = n0 at *
  have HN0 := Lib.hid hla
  clear hla
  have hmm := @run_makeMap Try.prog
  go_enter Try.func6, Try.ntmps6
  go_upto_region 4 with (first
    | (go_at_call 16; refine (works_any _).mono ?_; rintro e w1 ⟨rfl, hb⟩; have B := Lib.hid hb; clear hb))
  have hm1 : 0 ≤ a0 % 40 := by omega
  have hm2 : a0 % 40 ≤ 39 := by omega
  generalize a0 % 40 = m at *
  clear h0 h1
  go_upto_region 7 with (first
    | (go_at_call 9; refine (d_new 50 m (by omega) (by omega) hm1 (by omega)).mono ?_; rintro e w2 ⟨rfl, hN⟩; have N := Lib.hid hN; clear hN))
  have M := Lib.hid (map_made EI w2)
  have hq := Lib.hid N.out.bel.size
  have N2 := Lib.hid ((N.out.more (bel1 w2 (.map #[] 0))).less (F' := fun k => k = w2.heap.size) (fun k hk => .inr (by subst hk; simp)))
  generalize w2.alloc (.map #[] 0) = w3 at *
  generalize w2.heap.size = fm at *
  clear hmm N
  generalize hqq : w1.heap.size = q at *
  have HQ := Lib.hid hqq
  clear hqq
  go_loopg [8, 9, 10, 11] 100 (fun gk v8 v9 v10 v11 wr => ∃ i : Nat, i + gk = 100 ∧ i ≤ n0 ∧ v8 = .int .i64 (i : Int) ∧ ∃ s, DE w1 wr (fun k => k = fm) (q + 1) q s ∧ MapAt EI wr fm (cntF s.now) (mk s.now) ∧ Rm m i s)
  case atStart =>
    refine ⟨0, by omega, by omega, rfl, newS 50 m, N2.out, ?_, ⟨rfl, rfl, rfl, rfl, by simp [newS]⟩⟩
    have hc : cntF (newS 50 m).now = 0 := cntF_zero
    rw [hc]
    exact M.out
  case round =>
    obtain ⟨i, hik, hi0, rfl, s, hD, hM, hR⟩ := hrel
    clear N2 M
    have N := Lib.hid hD
    have M := Lib.hid hM
    have R := Lib.hid hR
    clear hD hM hR
    by_cases hlt : i < n0
    · have hli : (i : Int) < (n0 : Int) := by omega
      by_cases h100 : i < 100
      · have h100i : (i : Int) < 100 := by omega
        have hil : i < l.length := by rw [HN0.out]; exact hlt
        obtain ⟨b, off, hab, hc⟩ := HIn.out i hil
        subst hab
        have c0 : wr.cell? ⟨b, off + i, none⟩ = some (.int .u8 (l.getD i default)) := by
          have := keepc' (hc 0 _ rfl) (B.out.trans (N.out.bel.mono B.out.size))
          simpa using this
        obtain ⟨y0, y1⟩ := HBy.out _ (getD_mem hil)
        generalize l.getD i default = y at *
        clear hc hil
        go_upto_region 10 with fail
        have x0 : 0 ≤ y % 50 := by omega
        have x1 : y % 50 < 50 := by omega
        generalize y % 50 = x at *
        clear y0 y1 c0
        have hrm := R.out.room
        cases hx : (s.now x).isSome with
        | true =>
          have HX := Lib.hid hx
          have FB := Lib.hid (show ((s.now x).isSome || decide ((cntF s.now : Int) < s.room)) = true by rw [hx]; rfl)
          have hc : ¬ (s.now x = none ∧ s.room ≤ (cntF s.now : Int)) := fun ⟨c, _⟩ => by rw [c] at hx; cases hx
          clear hx hrm
          have E1 := Lib.hid (write_room (b := wA) R.out.off R.out.fuse x0 (by rw [R.out.len]; exact x1) wA_size hc)
          clear hc
          go_wp2_with (first
            | (go_at_call 14; refine (d_fit1 (x := x) N.out x0 (by rw [R.out.len]; exact x1)).mono ?_; rw [FB.out]; rintro e w4 ⟨rfl, hb⟩; have hb2 := grew_trans (bel1 wr (.cells #[.int .i64 x] 3)) hb; have N' := Lib.hid (N.out.below hb2); have M' := Lib.hid (M.out.below hb2); clear N M hb hb2; have N := N'; have M := M'; clear N' M')
            | (go_at_call 12; refine (d_dA _).mono ?_; rintro e w9 ⟨rfl, hb⟩; have N' := Lib.hid (N.out.below hb); have M' := Lib.hid (M.out.below hb); clear N M hb; have N := N'; have M := M'; clear N' M')
            | (go_at_call 11; refine (d_write N.out (by have := R.out.more; omega) E1.out).mono ?_; rintro e w5 ⟨rfl, hs⟩; have hM5 := hs.keep rfl M.out; have hlk := known_look hM5 x0 (by omega); rw [HX.out] at hlk; simp only [if_true] at hlk; have hln := fun ty => hM5.len ty; obtain ⟨w6, hput, hM6, ht6⟩ := known_put hM5 x0 (by omega) wA; have hln6 := fun ty => hM6.len ty; have N' := Lib.hid (hs.1.mod (mod_turned ht6) (fun k _ hk => hk) (fun k hk => by subst hk; rw [HQ.out]; exact hq.out)); have M' := Lib.hid hM6; clear N M hs hM5 hM6 ht6; have N := N'; have M := M'; clear N' M')
            | (go_at_call 23; refine (d_used N.out).mono ?_; rintro e w9 ⟨rfl, rfl⟩))
          go_roundg (gk - 1)
          case measure => omega
          case rel => exact ⟨i + 1, by omega, by omega, by simp, _, N.out, M.out, R.out.put x wA⟩
        | false =>
          have HX := Lib.hid hx
          by_cases hcm : (cntF s.now : Int) < m
          · have FB := Lib.hid (show ((s.now x).isSome || decide ((cntF s.now : Int) < s.room)) = true by rw [hx, hrm, decide_eq_true hcm]; rfl)
            have hc : ¬ (s.now x = none ∧ s.room ≤ (cntF s.now : Int)) := fun ⟨_, c⟩ => by omega
            clear hx hrm
            have E1 := Lib.hid (write_room (b := wA) R.out.off R.out.fuse x0 (by rw [R.out.len]; exact x1) wA_size hc)
            clear hc
            go_wp2_with (first
              | (go_at_call 14; refine (d_fit1 (x := x) N.out x0 (by rw [R.out.len]; exact x1)).mono ?_; rw [FB.out]; rintro e w4 ⟨rfl, hb⟩; have hb2 := grew_trans (bel1 wr (.cells #[.int .i64 x] 3)) hb; have N' := Lib.hid (N.out.below hb2); have M' := Lib.hid (M.out.below hb2); clear N M hb hb2; have N := N'; have M := M'; clear N' M')
              | (go_at_call 12; refine (d_dA _).mono ?_; rintro e w9 ⟨rfl, hb⟩; have N' := Lib.hid (N.out.below hb); have M' := Lib.hid (M.out.below hb); clear N M hb; have N := N'; have M := M'; clear N' M')
              | (go_at_call 11; refine (d_write N.out (by have := R.out.more; omega) E1.out).mono ?_; rintro e w5 ⟨rfl, hs⟩; have hM5 := hs.keep rfl M.out; have hlk := known_look hM5 x0 (by omega); rw [HX.out] at hlk; simp only [Bool.false_eq_true, if_false] at hlk; have hln := fun ty => hM5.len ty; obtain ⟨w6, hput, hM6, ht6⟩ := known_put hM5 x0 (by omega) wA; have hln6 := fun ty => hM6.len ty; have N' := Lib.hid (hs.1.mod (mod_turned ht6) (fun k _ hk => hk) (fun k hk => by subst hk; rw [HQ.out]; exact hq.out)); have M' := Lib.hid hM6; clear N M hs hM5 hM6 ht6; have N := N'; have M := M'; clear N' M')
              | (go_at_call 23; refine (d_used N.out).mono ?_; rintro e w9 ⟨rfl, rfl⟩))
            go_roundg (gk - 1)
            case measure => omega
            case rel => exact ⟨i + 1, by omega, by omega, by simp, _, N.out, M.out, R.out.put x wA⟩
          · have hge : m ≤ (cntF s.now : Int) := by omega
            have FB := Lib.hid (show ((s.now x).isSome || decide ((cntF s.now : Int) < s.room)) = false by rw [hx, hrm, decide_eq_false hcm]; rfl)
            have E1 := Lib.hid (write_full (b := wA) R.out.off x0 (by rw [R.out.len]; exact x1) wA_size (by simpa using hx) (by rw [hrm]; exact hge))
            clear hx hrm hcm
            go_wp2_with (first
              | (go_at_call 14; refine (d_fit1 (x := x) N.out x0 (by rw [R.out.len]; exact x1)).mono ?_; rw [FB.out]; rintro e w4 ⟨rfl, hb⟩; have hb2 := grew_trans (bel1 wr (.cells #[.int .i64 x] 3)) hb; have N' := Lib.hid (N.out.below hb2); have M' := Lib.hid (M.out.below hb2); clear N M hb hb2; have N := N'; have M := M'; clear N' M')
              | (go_at_call 12; refine (d_dA _).mono ?_; rintro e w9 ⟨rfl, hb⟩; have N' := Lib.hid (N.out.below hb); have M' := Lib.hid (M.out.below hb); clear N M hb; have N := N'; have M := M'; clear N' M')
              | (go_at_call 11; refine (d_write N.out (by have := R.out.more; omega) E1.out).mono ?_; rintro e w5 ⟨rfl, hs⟩; have hM5 := hs.keep rfl M.out; have hlk := known_look hM5 x0 (by omega); rw [HX.out] at hlk; simp only [Bool.false_eq_true, if_false] at hlk; have hln := fun ty => hM5.len ty; have N' := Lib.hid hs.1; have M' := Lib.hid hM5; clear N M hs hM5; have N := N'; have M := M'; clear N' M')
              | (go_at_call 23; refine (d_used N.out).mono ?_; rintro e w9 ⟨rfl, rfl⟩))
            go_roundg (gk - 1)
            case measure => omega
            case rel => exact ⟨i + 1, by omega, by omega, by simp, s, N.out, M.out, R.out.next⟩
      · have hge : (100 : Int) ≤ (i : Int) := by omega
        clear h100
        go_wp2
        go_ret
        exact retB rfl (B.out.trans (N.out.bel.mono B.out.size))
    · have hge : (n0 : Int) ≤ (i : Int) := by omega
      clear hlt
      go_wp2
      go_ret
      exact retB rfl (B.out.trans (N.out.bel.mono B.out.size))
end Go.Proofs.Ytcgkdomfbkkboaa
