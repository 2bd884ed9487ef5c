/- How many sectors were written, behind one more. -/
import Derived.Test.YtcgkdomfbkkboaaLeaf
namespace Go.Proofs.Ytcgkdomfbkkboaa

theorem filter_set (P Q : Nat → Bool) (k : Nat) (h : ∀ j, j ≠ k → P j = Q j) : ∀ l : List Nat, l.Nodup → (l.filter Q).length + (if k ∈ l then (P k).toNat else 0) = (l.filter P).length + (if k ∈ l then (Q k).toNat else 0)
  | [], _ => by simp
  | a :: l, hn => by
    obtain ⟨ha, hl⟩ := List.nodup_cons.1 hn
    by_cases e : a = k
    · subst e
      have he : l.filter Q = l.filter P := List.filter_congr fun x hx => (h x (fun e => ha (e ▸ hx))).symm
      simp only [List.filter_cons, he, List.mem_cons, true_or, if_true]
      cases P a <;> cases Q a <;> simp
    · have ih := filter_set P Q k h l hl
      have hm : (k ∈ a :: l) ↔ k ∈ l := by simp [Ne.symm e]
      simp only [List.filter_cons, hm, h a e]
      split <;> (try simp only [List.length_cons]) <;> omega
theorem cntF_set {f : Fn} {i : Int} (h0 : 0 ≤ i) (h1 : i < 1024) (x : Option BA) : cntF (upd f i x) + (f i).isSome.toNat = cntF f + x.isSome.toNat := by
  have h := filter_set (fun j => (f (j : Int)).isSome) (fun j => (upd f i x (j : Int)).isSome) i.toNat (fun j hj => by
    show _ = (upd f i x (j : Int)).isSome
    rw [upd_other (by omega)]) (List.range 1024) List.nodup_range
  have hm : i.toNat ∈ List.range 1024 := List.mem_range.2 (by omega)
  have hi : ((i.toNat : Nat) : Int) = i := by omega
  simp only [hm, if_true, hi, upd_same] at h
  exact h
theorem cntF_put {f : Fn} {i : Int} (h0 : 0 ≤ i) (h1 : i < 1024) (x : BA) : cntF (upd f i (some x)) = if (f i).isSome then cntF f else cntF f + 1 := by
  have := cntF_set (f := f) h0 h1 (some x)
  cases h : (f i).isSome <;> simp [h] at this ⊢ <;> omega
theorem cntF_del {f : Fn} {i : Int} (h0 : 0 ≤ i) (h1 : i < 1024) : cntF (upd f i none) = if (f i).isSome then cntF f - 1 else cntF f := by
  have := cntF_set (f := f) h0 h1 none
  cases h : (f i).isSome <;> simp [h] at this ⊢ <;> omega
theorem cntF_zero : cntF (fun _ => none) = 0 := by simp [cntF]
open Go.RowKit Go.Joins Go.ChangeMaps
theorem state_off {w : World} {base p bm : Nat} {v : Value} {s : St} (h : PD w base p bm v s) (ho : s.off = true) : Calls Try.prog 30 #[.pointer (some ⟨p, 0, none⟩)] w (SameI 6 w) := by
  have := state_any h
  rwa [show errF s.fl = 6 from if_pos ho] at this
theorem state_on {w : World} {base p bm : Nat} {v : Value} {s : St} (h : PD w base p bm v s) (ho : s.off = false) : Calls Try.prog 30 #[.pointer (some ⟨p, 0, none⟩)] w (SameI 0 w) := by
  have := state_any h
  rwa [show errF s.fl = 0 from if_neg (show ¬ s.off = true by simp [ho])] at this
theorem burn_off {w : World} {base p bm : Nat} {v : Value} {s : St} (h : PD w base p bm v s) (hg : Good s) (ho : (burnS s).off = true) : Calls Try.prog 32 #[.pointer (some ⟨p, 0, none⟩)] w (TupI 6 (fun w' => PD w' base p bm v (burnS s) ∧ Mod (PF p bm v) w w')) := by
  have := burn_any h hg
  rwa [show errOf (burnS s) = 6 from if_pos ho] at this
theorem burn_on {w : World} {base p bm : Nat} {v : Value} {s : St} (h : PD w base p bm v s) (hg : Good s) (ho : (burnS s).off = false) : Calls Try.prog 32 #[.pointer (some ⟨p, 0, none⟩)] w (TupI 0 (fun w' => PD w' base p bm v (burnS s) ∧ Mod (PF p bm v) w w')) := by
  have := burn_any h hg
  rwa [show errOf (burnS s) = 0 from if_neg (show ¬ (burnS s).off = true by simp [ho])] at this
end Go.Proofs.Ytcgkdomfbkkboaa
