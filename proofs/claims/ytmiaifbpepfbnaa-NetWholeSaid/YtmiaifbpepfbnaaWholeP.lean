/- What is taken was sent: the invariant. -/
import Derived.Test.YtmiaifbpepfbnaaCount
import Derived.Test.YtmiaifbpepfbnaaOrder
namespace Go.Proofs.Ytmiaifbpepfbnaa
open Go.RowKit Go.Joins Go.ChangeMaps

/-! ### Counts -/
theorem cnt_send1 (s : St) (x f : Fr) : cnt (send1 s x).fl f ≤ cnt s.fl f + cnt [x] f := by
  unfold send1
  split
  · simp only [cnt_append]; omega
  · omega
theorem cnt_cons (x : Fr) (l : List Fr) (f : Fr) : cnt (x :: l) f = cnt [x] f + cnt l f := cnt_append [x] l f
theorem cnt_send : ∀ (l : List Fr) (s : St) (f : Fr), cnt (sendS s l).fl f ≤ cnt s.fl f + cnt l f
  | [], s, f => by simp [sendS, cnt]
  | x :: l, s, f => by
    have h1 := cnt_send l (send1 s x) f
    have h2 := cnt_send1 s x f
    rw [show sendS s (x :: l) = sendS (send1 s x) l from rfl, cnt_cons]
    omega
theorem cnt_erase (l : List Fr) (k : Nat) (h : k < l.length) (f : Fr) : cnt (l.eraseIdx k) f + cnt [l.getD k default] f = cnt l f := by
  rw [eraseIdx_eq, cnt_append]
  have e : l = l.take k ++ (l.getD k default :: l.drop (k + 1)) := by
    have h2 : l.getD k default = l[k] := by rw [List.getD_eq_getElem?_getD, List.getElem?_eq_getElem h]; rfl
    rw [h2, List.getElem_cons_drop, List.take_append_drop]
  have h3 : cnt l f = cnt (l.take k) f + (cnt [l.getD k default] f + cnt (l.drop (k + 1)) f) := by
    rw [← cnt_cons, ← cnt_append, ← e]
  omega
theorem cnt_erase_le (l : List Fr) (k : Nat) (f : Fr) : cnt (l.eraseIdx k) f ≤ cnt l f := by
  by_cases h : k < l.length
  · have := cnt_erase l k h f; omega
  · rw [List.eraseIdx_of_length_le (by omega)]; omega
/-- what was taken, and what flies, are no more than what was sent. -/
def Bal (ts ss : List Fr) (t : St) : Prop := ∀ f, cnt ts f + cnt t.fl f ≤ cnt ss f
theorem Bal.send {ts ss : List Fr} {t : St} (h : Bal ts ss t) (l : List Fr) : Bal ts (ss ++ l) (sendS t l) := fun f => by
  have h1 := h f
  have h2 := cnt_send l t f
  rw [cnt_append]; omega
theorem Bal.take {ts ss : List Fr} {t : St} (h : Bal ts ss t) (k : Int) : ((takeS t k).2.2 = true → Bal (ts ++ [(takeS t k).2.1]) ss (takeS t k).1) ∧ Bal ts ss (takeS t k).1 := by
  unfold takeS
  by_cases hi : inB t k = true
  · rw [if_pos hi]
    simp only [inB, Bool.and_eq_true, decide_eq_true_eq] at hi
    have hk : k.toNat < t.fl.length := by omega
    refine ⟨fun hc f => ?_, fun f => ?_⟩
    · have h1 := h f
      have h2 := cnt_erase t.fl k.toNat hk f
      by_cases hcut : cutB t (t.fl.getD k.toNat default).1 (t.fl.getD k.toNat default).2.1 = true
      · simp only [hcut, if_true] at hc; cases hc
      · simp only [hcut, Bool.false_eq_true, if_false, leaveS, cnt_append]; omega
    · have h1 := h f
      have h2 := cnt_erase_le t.fl k.toNat f
      simp only [leaveS]; omega
  · rw [if_neg hi]
    exact ⟨fun hc => (by cases hc), h⟩
theorem Bal.drop {ts ss : List Fr} {t : St} (h : Bal ts ss t) (k : Int) : Bal ts ss (dropS t k).1 := by
  unfold dropS
  split
  · intro f; have h1 := h f; have h2 := cnt_erase_le t.fl k.toNat f; simp only [leaveS]; omega
  · exact h
theorem Bal.cut {ts ss : List Fr} {t : St} (h : Bal ts ss t) (a b : Int) : Bal ts ss (cutS t a b).1 := by unfold cutS; split <;> exact h
theorem Bal.join {ts ss : List Fr} {t : St} (h : Bal ts ss t) (a b : Int) : Bal ts ss (joinS t a b).1 := by unfold joinS; split <;> exact h
/-- what is doubled, and taken again, leaves all as it was. -/
theorem twice_take {t : St} {k : Int} (h : (twiceS t k).2 = true) : (takeS (twiceS t k).1 (((twiceS t k).1.fl.length : Int) - 1)).1 = t := by
  unfold twiceS at h ⊢
  split at h
  · rename_i hc
    rw [if_pos hc]
    have hi : inB { t with fl := t.fl ++ [t.fl.getD k.toNat default] } (((t.fl ++ [t.fl.getD k.toNat default]).length : Int) - 1) = true := by simp [inB]; omega
    unfold takeS
    rw [if_pos hi]
    simp only [leaveS]
    have e : (((t.fl ++ [t.fl.getD k.toNat default]).length : Int) - 1).toNat = t.fl.length := by simp
    rw [e, List.eraseIdx_append_of_length_le (Nat.le_refl _)]
    simp
  · cases h

/-! ### In memory -/
structure WI (W wr : World) (p bm : Nat) (v4 v5 : Value) (t : St) (ss ts : List Fr) : Prop where
  ne : NE W wr (fun k => v4.ownBlock = some k ∨ v5.ownBlock = some k) p bm t
  o4 : OwnF wr W.heap.size v4 ss
  o5 : OwnF wr W.heap.size v5 ts
  ap : ∀ g, v4.ownBlock = some g → v5.ownBlock ≠ some g
variable {W wr wr' : World} {p bm : Nat} {v4 v5 v' : Value} {t t' : St} {ss ts ys : List Fr}
theorem WI.below (h : WI W wr p bm v4 v5 t ss ts) (hb : Below wr.heap.size wr wr') : WI W wr' p bm v4 v5 t ss ts := ⟨h.ne.below hb, h.o4.below hb, h.o5.below hb, h.ap⟩
theorem WI.step {F : Nat → Prop} (h : WI W wr p bm v4 v5 t ss ts) (hF : ∀ k, (v4.ownBlock = some k ∨ v5.ownBlock = some k) → F k) (hs : Stp W wr F p bm t' wr') : WI W wr' p bm v4 v5 t' ss ts :=
  ⟨hs.1.less hF, h.o4.mod hs.2.2 (fun g hg c => c.1 (hF g (.inl hg))), h.o5.mod hs.2.2 (fun g hg c => c.1 (hF g (.inr hg))), h.ap⟩
theorem NE.modMore {w0 w w' : World} {F S : Nat → Prop} {s : St} (h : NE w0 w F p bm s) (hm : Mod S w w') (hS : ∀ k, S k → F k) (hn : ∀ k, S k → w0.heap.size ≤ k) : NE w0 w' (fun k => F k ∨ w.heap.size ≤ k ∧ k < w'.heap.size) p bm s := by
  obtain ⟨v, h1, h2, h5⟩ := h
  refine ⟨v, h1.trans (hm.below h1.size hn), h2.mod hm (fun k hk hs => (h5 k (hS k hs)).1 hk), fun k hk => ?_⟩
  rcases hk with hk | hk
  · exact ⟨(h5 k hk).1, Nat.lt_of_lt_of_le (h5 k hk).2 hm.size⟩
  · exact ⟨fun c => by have := (h2.lt k c).2; omega, hk.2⟩
theorem WI.app4 (h : WI W wr p bm v4 v5 t ss ts) (hg : wr.grownBy wr' v4.ownBlock) (ho : OwnF wr' W.heap.size v' ys) (hat : ∀ g, v'.ownBlock = some g → v4.ownBlock = some g ∨ wr.heap.size ≤ g) : WI W wr' p bm v' v5 t ys ts := by
  have hm : Mod (fun k => v4.ownBlock = some k) wr wr' := Mod.grown hg (fun _ hk => hk)
  refine ⟨(h.ne.modMore hm (fun k hk => .inl hk) (fun k hk => (World.ownsRow.lt h.o4 k hk).1)).less (fun k hk => ?_), ho, h.o5.mod hm (fun g hg c => h.ap g c hg), fun g hg hc => ?_⟩
  · rcases hk with hk | hk
    · rcases hat k hk with c | c
      · exact .inl (.inl c)
      · exact .inr ⟨c, (World.ownsRow.lt ho k hk).2⟩
    · exact .inl (.inr hk)
  · rcases hat g hg with c | c
    · exact h.ap g c hc
    · have := (World.ownsRow.lt h.o5 g hc).2; omega
theorem WI.app5 (h : WI W wr p bm v4 v5 t ss ts) (hg : wr.grownBy wr' v5.ownBlock) (ho : OwnF wr' W.heap.size v' ys) (hat : ∀ g, v'.ownBlock = some g → v5.ownBlock = some g ∨ wr.heap.size ≤ g) : WI W wr' p bm v4 v' t ss ys := by
  have hm : Mod (fun k => v5.ownBlock = some k) wr wr' := Mod.grown hg (fun _ hk => hk)
  refine ⟨(h.ne.modMore hm (fun k hk => .inr hk) (fun k hk => (World.ownsRow.lt h.o5 k hk).1)).less (fun k hk => ?_), h.o4.mod hm (fun g hg c => h.ap g hg c), ho, fun g hg hc => ?_⟩
  · rcases hk with hk | hk
    · exact .inl (.inl hk)
    · rcases hat k hk with c | c
      · exact .inl (.inr c)
      · exact .inr ⟨c, (World.ownsRow.lt ho k hk).2⟩
  · rcases hat g hc with c | c
    · exact h.ap g hg c
    · have := (World.ownsRow.lt h.o4 g hg).2; omega
end Go.Proofs.Ytmiaifbpepfbnaa
