/- maps.Copy: what one map holds is put into another. -/
import Derived.Test.YtcgkdomfbkkboaaRead
namespace Go.Proofs.Ytcgkdomfbkkboaa
open Go.RowKit Go.Joins Go.ChangeMaps

/-- what L holds goes first. -/
def join (L f : Fn) : Fn := fun i => if (L i).isSome then L i else f i
theorem join_none (f : Fn) : join (fun _ => none) f = f := by funext i; simp [join]
/-- while it is done: what is left is not there yet. -/
def part (L f : Fn) (left : Lit → Bool) : Fn := fun i => if (L i).isSome && !left (.int .i64 i) then L i else f i
theorem part_step {L f : Fn} {left : Lit → Bool} {x : Int} {c : BA} (hw : (Lit.int .i64 x).wf = true) (hL : L x = some c) : part L f (fun z => left z && !z.sameKey (.int .i64 x)) = updG (part L f left) x (some c) := by
  funext i
  by_cases h : i = x
  · subst h
    have : (Lit.int .i64 i).sameKey (.int .i64 i) = true := WideAt.sameKey_self (keyed3.key (key3 hw))
    simp [part, updG, hL, this]
  · have hne : Lit.int .i64 i ≠ Lit.int .i64 x := fun e => h (by simpa using e)
    simp [part, updG, h, Go.Maps.sameKey_ne hne]
set_option maxHeartbeats 1000000 in
set_option maxRecDepth 100000 in
theorem copy_map {w : World} {bm bl nl : Nat} {f L : Fn} (hne : bm ≠ bl) (hf : MapAt ES w bm (cntF f) f) (hL : MapAt ES w bl nl L) (hin : ∀ i x, L i = some x → 0 ≤ i ∧ i < 1024 ∧ x.size ≤ maxLen) :
    Calls Try.prog 39 #[.map (some bm), .map (some bl)] w (Tup0 (fun w' => MapAt ES w' bm (cntF (join L f)) (join L f) ∧ Mod (fun k => k = bm) w w')) := by
  obtain ⟨D, hD, hsz, hv⟩ := hL
  obtain ⟨w1, hrun, hR, hg1, hs1⟩ := hD.range keyed3 Try.underlying58
  have HR := Lib.hid hR
  have HG1 := Lib.hid hg1
  have HF := Lib.hid hf
  clear hR hg1 hf hD hsz
  go_enter Try.func39, Try.ntmps39
  go_wp2
  have hfit := HF.out.lt
  go_loopg [4, 5] (Go.Maps.size D) (fun gk _ _ wr => ∃ left, wr.ranges Try.prog 3 (plainElem Try.prog 9) bl w.heap.size nl D left gk ∧ MapAt ES wr bm (cntF (part L f left)) (part L f left) ∧ Mod (fun k => k = bm) w wr ∧ ∀ i, (Lit.int .i64 i).wf = true → left (.int .i64 i) = true → (L i).isSome = true)
  case atStart =>
    have he : part L f (Go.Maps.has D) = f := by
      funext i
      unfold part
      by_cases hw : (Lit.int .i64 i).wf = true
      · rw [(hv i hw).1]; cases (L i) <;> simp
      · cases hi : L i with
        | none => simp
        | some x =>
          have := hin i x hi
          exact absurd (wf64 (by omega) (by omega)) hw
    refine ⟨_, HR.out, ?_, ?_, fun i hw h => by rw [← (hv i hw).1]; exact h⟩
    · rw [he]; exact HF.out.mod (S := fun _ => False) (Mod.grown HG1.out (fun k hk => by cases hk)) (fun c => c)
    · exact (Mod.grown (S := fun _ => False) HG1.out (fun k hk => by cases hk)).mono (fun _ _ c => c.elim)
  case round =>
    obtain ⟨left, hr, hm, hM, hlf⟩ := hrel
    have HM := Lib.hid hM
    have HA := Lib.hid hm
    have HLF := Lib.hid hlf
    rcases hr.next keyed3 0 with ⟨h0, hall, hrn⟩ | ⟨key, v, kl, y, w2, c2, hkey, hlk, hy, hat, hrn, hr2, hc2, hg2, hs2, hent⟩
    · have he : part L f left = join L f := by
        funext i
        simp [part, join, hall]
      clear hr hlf hM hm hrun
      go_wp2
      go_end0
      exact ⟨rfl, by rw [← he]; exact HA.out, HM.out⟩
    · obtain ⟨x, rfl, rfl, hw⟩ := Go.Maps.keyOf_int_inv Try.underlying3 hkey
      obtain ⟨c, hc⟩ : ∃ c, L x = some c := Option.isSome_iff_exists.1 (hlf x hw hlk)
      have hyc : y.1 = ES.dat c := (hat (.lit (.bool true))).symm.trans ((hv x hw).2 c hc _)
      have hve : v = .string c := ES.inv v c y.2 (by rw [hy, ← hyc])
      subst hve
      have hcr := hin x c hc
      have hm2 := Mod.grown (S := fun k => k = w.heap.size) hg2 (fun k hk => by cases hk; rfl)
      have HM2 := Lib.hid (HM.out.then hm2 (fun i hi e => by omega))
      obtain ⟨w3, hrun3, hM3, ht3⟩ := (HA.out.mod hm2 (by omega)).put hw (x := c) hcr.2.2 (Nat.lt_of_le_of_lt (cntF_le _) (by unfold maxLen; omega))
      have hrun4 : (Instr.mapUpdate 58 (.map (some bm)) (.int .i64 x) (.string c)).run Try.prog w2 = .ok () w3 := hrun3
      have HR3 := Lib.hid (hr2.kept ht3.grown (by simpa using hne.symm) (by simp; omega))
      have HM3 := Lib.hid (HM2.out.trans (mod_turned ht3))
      have hst := part_step (f := f) (left := left) hw hc
      have HA3 := Lib.hid (show MapAt ES w3 bm (cntF (part L f (fun z => left z && !z.sameKey (.int .i64 x)))) (part L f (fun z => left z && !z.sameKey (.int .i64 x))) by
        rw [hst, upd_eq, cntF_put hcr.1 hcr.2.1]
        exact hM3)
      clear hr hr2 hlf hM hm hrun hrun3 hM3 ht3 hst hkey hy hat hlk hg2 hm2
      go_wp2
      go_roundg c2
      case measure => omega
      case rel => exact ⟨_, HR3.out, HA3.out, HM3.out, fun i hi h => HLF.out i hi (by simp at h; exact h.1)⟩
end Go.Proofs.Ytcgkdomfbkkboaa
