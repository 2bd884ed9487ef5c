/- As Rel, where the region's last operation waits for all the others, and may turn what stood before: its own relation alone is kept. -/
import Derived.Test.YtcgkdomfbkkboaaRel
namespace Go.Proofs.Ytcgkdomfbkkboaa
open Go.RowKit Go.Joins

def lastUpon (P : Program) (R : Value → World → Prop) : Result Next → Prop
  | .ok (.value u) w' => R u w'
  | .ok .skip w' => R undef w'
  | .ok (.enter f args) w' => Calls P f args w' (fun e w'' => ∃ v, e = .returned v ∧ R v w'')
  | _ => False
/-- each operation but the last is waited for by a later one. -/
def closeB (ops : Array Oper) : Bool :=
  (List.range (ops.size - 1)).all fun i => (List.range ops.size).any fun j => decide (i < j) && match ops[j]? with
    | none => false
    | some o => o.after.toList.any fun e => e.on == i && Region.binds .any e
theorem closeB_spec {ops : Array Oper} (h : closeB ops = true) {i : Nat} (hi : i + 1 < ops.size) : ∃ j o e, i < j ∧ ops[j]? = some o ∧ e ∈ o.after ∧ e.on = i ∧ Region.binds .any e = true := by
  unfold closeB at h
  rw [List.all_eq_true] at h
  have h1 := h i (List.mem_range.2 (by omega))
  rw [List.any_eq_true] at h1
  obtain ⟨j, _, h2⟩ := h1
  simp only [Bool.and_eq_true, decide_eq_true_eq] at h2
  obtain ⟨hij, h3⟩ := h2
  cases ho : ops[j]? with
  | none => rw [ho] at h3; cases h3
  | some o =>
    rw [ho] at h3
    simp only [List.any_eq_true, Bool.and_eq_true, beq_iff_eq] at h3
    obtain ⟨e, he, h4, h5⟩ := h3
    exact ⟨j, o, e, hij, ho, by simpa using he, h4, h5⟩
/-- what is listed waits for what is listed. -/
def Downs (ops : Array Oper) (listed : Array Bool) : Prop := ∀ (j : Nat) (o : Oper), ops[j]? = some o → listed.getD j false = true → ∀ e ∈ o.after, Region.binds .any e = true → listed.getD e.on false = true
theorem all_but_last {ops : Array Oper} (hc : closeB ops = true) {listed : Array Bool} (hd : Downs ops listed) {o : Oper} (ho : ops[ops.size - 1]? = some o) (hl : ∀ e ∈ o.after, Region.binds .any e = true → listed.getD e.on false = true) :
    ∀ k i, ops.size - 1 - i = k → i + 1 < ops.size → listed.getD i false = true := by
  intro k
  induction k using Nat.strongRecOn with
  | ind k ih =>
    intro i hk hi
    obtain ⟨j, oj, e, hij, hoj, he, hei, heb⟩ := closeB_spec hc hi
    have hj : j < ops.size := by
      rcases Nat.lt_or_ge j ops.size with h | h
      · exact h
      · rw [Array.getElem?_eq_none h] at hoj; cases hoj
    by_cases hjl : j = ops.size - 1
    · subst hjl
      rw [ho] at hoj
      obtain rfl := Option.some.inj hoj
      rw [← hei]; exact hl e he heb
    · have := ih (ops.size - 1 - j) (by omega) j rfl (by omega)
      rw [← hei]; exact hd j oj hoj this e he heb
theorem getD_set_true (listed : Array Bool) (i : Nat) (h : i < listed.size) : (listed.setIfInBounds i true).getD i false = true := by simp [h]
theorem Downs.set {ops : Array Oper} {listed : Array Bool} (h : Downs ops listed) {i : Nat} {o : Oper} (ho : ops[i]? = some o) (hl : ∀ e ∈ o.after, Region.binds .any e = true → listed.getD e.on false = true) : Downs ops (listed.setIfInBounds i true) := by
  have up : ∀ j, listed.getD j false = true → (listed.setIfInBounds i true).getD j false = true := fun j hj => by
    by_cases e : j = i
    · subst e
      have : j < listed.size := by
        rcases Nat.lt_or_ge j listed.size with h' | h'
        · exact h'
        · simp [Array.getElem?_eq_none h'] at hj
      exact getD_set_true _ _ this
    · rw [getD_set_ne false (Ne.symm e)]; exact hj
  intro j oj hoj hj e he hb
  by_cases ej : j = i
  · subst ej
    rw [ho] at hoj
    obtain rfl := Option.some.inj hoj
    exact up _ (hl e he hb)
  · rw [getD_set_ne false (Ne.symm ej)] at hj
    exact up _ (h j oj hoj hj e he hb)
theorem wpAny_rel_last {P : Program} {ops : Array Oper} {Q : Exit → Act → World → Prop} {R : Nat → Value → World → Prop} {Rk : Value → World → Prop} {a0 : Act} {w0 : World} (hB : relB ops a0.tmps.size = true) (hc : closeB ops = true)
    (hst : ∀ i v W W', R i v W → Below W.heap.size W W' → R i v W')
    (hstep : ∀ (i : Nat) (o : Oper), ops[i]? = some o → i + 1 < ops.size → ∀ a W, Below w0.heap.size w0 W → (∀ (t : Nat), (∀ (i : Nat) (o : Oper), ops[i]? = some o → o.dst ≠ some t) → a.tmps[t]? = a0.tmps[t]?) →
      (∀ e ∈ o.after, Region.binds .any e = true → ∀ (o' : Oper) (d : Tmp), ops[e.on]? = some o' → o'.dst = some d → ∃ v, a.tmps[d]? = some v ∧ R e.on v W) → RelStep P ops o a W (R i))
    (hlast : ∀ (o : Oper), ops[ops.size - 1]? = some o → ∀ (a : Act) (W : World), Below w0.heap.size w0 W → (∀ (t : Nat), (∀ (i : Nat) (o : Oper), ops[i]? = some o → o.dst ≠ some t) → a.tmps[t]? = a0.tmps[t]?) →
      (∀ e ∈ o.after, Region.binds .any e = true → ∀ (o' : Oper) (d : Tmp), ops[e.on]? = some o' → o'.dst = some d → ∃ v, a.tmps[d]? = some v ∧ R e.on v W) → o.guard = none ∧ o.dst ≠ none ∧ lastUpon P Rk ((execOp a.eval o).run P W))
    (hend : ∀ vs W, Rk (vs (ops.size - 1)) W → Q .normal (putsFrom vs ops.toList 0 a0) W) :
    ∀ (fuel : Nat) (listed : Array Bool) (a : Act) (w : World), listed.size = ops.size → unl listed ops.size ≤ fuel → listed.getD (ops.size - 1) false = false → 0 < ops.size → Downs ops listed → RelI ops R a0 w0 listed a w → wpAny P .any ops Q fuel listed a w := by
  have hlt : ∀ {i o}, ops[i]? = some o → i < ops.size := fun {i o} h => by
    rcases Nat.lt_or_ge i ops.size with h' | h'
    · exact h'
    · rw [Array.getElem?_eq_none h'] at h; cases h
  intro fuel
  induction fuel with
  | zero =>
    intro listed a w hsz hu hk h0 hd hI
    exfalso
    have := unl_zero (listed := listed) (n := ops.size) (by omega) (ops.size - 1) (by omega)
    have hlt' : ops.size - 1 < listed.size := by omega
    simp [hlt'] at this hk
    rw [this] at hk; cases hk
  | succ fuel ih =>
    intro listed a w hsz hu hk h0 hd hI
    refine ⟨fun hr => ?_, fun i hi => ?_⟩
    · exfalso
      have := ready_of_first hB hr hsz (ops.size - 1) (by omega)
      rw [this] at hk; cases hk
    · obtain ⟨hi0, o, ho, hall⟩ := mem_ready.1 hi
      have hil := hlt ho
      have hdeps : ∀ e ∈ o.after, Region.binds .any e = true → ∀ (o' : Oper) (d : Tmp), ops[e.on]? = some o' → o'.dst = some d → ∃ v, a.tmps[d]? = some v ∧ R e.on v w := fun e he hb o' d ho' hd' => by
        have := ((relB_spec hB ho').2 d hd').1
        exact ⟨_, eval_get' (by rw [hI.size]; exact this), hI.facts e.on o' d ho' hd' (hall e he hb)⟩
      by_cases hil' : i + 1 < ops.size
      · refine relStep_wpOp ho (hstep i o ho hil' a w hI.world hI.rest hdeps) (fun v w' hb hR => ?_)
        refine ih _ _ _ (by simpa using hsz) ?_ (by rw [getD_set_ne false (by omega)]; exact hk) h0 (hd.set ho hall) (hI.put hB hst ho hb hR)
        have := unl_set hi0 hil
        omega
      · have hie : i = ops.size - 1 := by omega
        subst hie
        obtain ⟨hg, hdn, hu2⟩ := hlast o ho a w hI.world hI.rest hdeps
        have hothers := fun i h => all_but_last hc hd ho hall _ i rfl h
        have hfull : ∀ i, i < ops.size → (listed.setIfInBounds (ops.size - 1) true).getD i false = true := fun i hi => by
          by_cases e : i = ops.size - 1
          · rw [e]; exact getD_set_true _ _ (by omega)
          · rw [getD_set_ne false (Ne.symm e)]; exact hothers i (by omega)
        have hnone : Region.ready .any ops (listed.setIfInBounds (ops.size - 1) true) = [] := by
          apply List.eq_nil_iff_forall_not_mem.2
          intro j hj
          obtain ⟨h0, oj, hoj, _⟩ := mem_ready.1 hj
          have hjl := hlt hoj
          have h1 := hfull j hjl
          have hlt' : j < (listed.setIfInBounds (ops.size - 1) true).size := by simp; omega
          rw [Array.getD_eq_getD_getElem?, Array.getElem?_eq_getElem hlt'] at h0 h1
          simp only [Option.getD_some] at h0 h1
          rw [h1] at h0; cases h0
        have hgo : ∀ v w', Rk v w' → wpAny P .any ops Q fuel (listed.setIfInBounds (ops.size - 1) true) (a.put o.dst v) w' := fun v w' hR => by
          have hq : Q .normal (a.put o.dst v) w' := by
            obtain ⟨d, hdd⟩ := Option.ne_none_iff_exists'.1 hdn
            have hdl := ((relB_spec hB ho).2 d hdd).1
            have hv : (a.put o.dst v).eval (.tmp d) = v := by rw [hdd]; exact eval_get (put_get_eq _ _ _ (by rw [hI.size]; exact hdl))
            have hvs := hend (fun i => match (ops[i]?).bind (·.dst) with | some d => (a.put o.dst v).eval (.tmp d) | none => undef) w' (by
              simp only [ho, Option.bind_some, hdd]
              rw [← hdd, hv]; exact hR)
            rw [puts_eq _ (a.put o.dst v) ops.toList 0 a0 (by rw [put_size]; exact hI.size) (by rw [put_defers]; exact hI.defers) (fun t ht => by
                have ht' : ∀ (i : Nat) (o : Oper), ops[i]? = some o → o.dst ≠ some t := fun i o ho => ht o (by
                  have := List.mem_of_getElem? (l := ops.toList) (i := i) (a := o) (by simpa using ho)
                  exact this)
                rw [put_get_ne _ _ _ _ (ht' _ o ho)]
                exact hI.rest t ht') (fun i o d ho hd => by
                have ho' : ops[i]? = some o := by simpa using ho
                refine ⟨((relB_spec hB ho').2 d hd).1, ?_⟩
                simp only [Nat.zero_add, ho', Option.bind_some, hd])] at hvs
            exact hvs
          cases fuel with
          | zero => exact ⟨hnone, hq⟩
          | succ f => exact ⟨fun _ => hq, fun j hj => by rw [hnone] at hj; cases hj⟩
        unfold wpOp
        have hw : Region.wanted o (yielded ops a.tmps) = true := by unfold Region.wanted; rw [hg]
        simp only [ho, hw, if_true]
        left
        unfold Oper.wp
        generalize (execOp a.eval o).run P w = r at *
        cases r with
        | ok n w' =>
          cases n <;> simp only [lastUpon] at hu2 <;> simp only [Oper.upon]
          case value u => exact hgo _ _ hu2
          case skip => exact hgo _ _ hu2
          case enter f args => exact hu2.mono fun e w'' ⟨v, he, hr⟩ => by subst he; exact hgo _ _ hr
        | halt x w' => simp only [lastUpon] at hu2
/-- THE LAW. -/
theorem wp_region_rel_last {P : Program} {id : Nat} {l : List Oper} {Q : Exit → Act → World → Prop} {a : Act} {w : World} (R : Nat → Value → World → Prop) (Rk : Value → World → Prop) (hm : P.follows .mixedOrders = true) (hB : relB l.toArray a.tmps.size = true) (hc : closeB l.toArray = true) (h0 : 0 < l.length)
    (hst : ∀ i v W W', R i v W → Below W.heap.size W W' → R i v W')
    (hstep : ∀ (i : Nat) (o : Oper), l[i]? = some o → i + 1 < l.length → ∀ a' W, Below w.heap.size w W → (∀ (t : Nat), (∀ (i : Nat) (o : Oper), l[i]? = some o → o.dst ≠ some t) → a'.tmps[t]? = a.tmps[t]?) →
      (∀ e ∈ o.after, Region.binds .any e = true → ∀ (o' : Oper) (d : Tmp), l[e.on]? = some o' → o'.dst = some d → ∃ v, a'.tmps[d]? = some v ∧ R e.on v W) → RelStep P l.toArray o a' W (R i))
    (hlast : ∀ (o : Oper), l[l.length - 1]? = some o → ∀ (a' : Act) (W : World), Below w.heap.size w W → (∀ (t : Nat), (∀ (i : Nat) (o : Oper), l[i]? = some o → o.dst ≠ some t) → a'.tmps[t]? = a.tmps[t]?) →
      (∀ e ∈ o.after, Region.binds .any e = true → ∀ (o' : Oper) (d : Tmp), l[e.on]? = some o' → o'.dst = some d → ∃ v, a'.tmps[d]? = some v ∧ R e.on v W) → o.guard = none ∧ o.dst ≠ none ∧ lastUpon P Rk ((execOp a'.eval o).run P W))
    (hend : ∀ vs W, Rk (vs (l.length - 1)) W → Q .normal (putsFrom vs l 0 a) W) :
    (Code.region id l.toArray true).wp P Q a w := by
  refine wp_region_any hm ?_
  refine wpAny_rel_last (R := R) (Rk := Rk) (a0 := a) (w0 := w) hB hc hst (by simpa using hstep) (by simpa using hlast) (by simpa using hend) _ _ _ _ (by simp) (by rw [unl_all _ _ (Nat.le_refl _)]; exact Nat.le_refl _) ?_ (by simpa using h0) ?_ ⟨rfl, rfl, fun _ _ => rfl, (Below.refl _ w).drew, fun i o d _ _ hl => ?_⟩
  all_goals (
    have hno : ∀ i, (Array.replicate l.toArray.size false).getD i false = false := fun i => by
      rw [Array.getD_eq_getD_getElem?]
      by_cases h : i < l.toArray.size
      · rw [Array.getElem?_replicate, if_pos h]; rfl
      · rw [Array.getElem?_replicate, if_neg h]; rfl)
  · exact hno _
  · intro j o _ hl
    rw [hno] at hl; cases hl
  · exfalso
    rw [hno] at hl; cases hl
end Go.Proofs.Ytcgkdomfbkkboaa
