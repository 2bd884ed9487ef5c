/- A region that draws its order and makes memory: of each operation ONE RELATION between what it yields and the world, which lasts while the world only grows. Then no order is walked: each operation is met once, alone. -/
import Derived.Test.YtcgkdomfbkkboaaBase
namespace Go.Proofs.Ytcgkdomfbkkboaa
open Go.RowKit Go.Joins

/-- what one operation, carried out in the world w, has yielded, stands in R to the world behind it. -/
def relUpon (P : Program) (w : World) (R : Value → World → Prop) : Result Next → Prop
  | .ok (.value u) w' => Below w.heap.size w w' ∧ R u w'
  | .ok .skip w' => Below w.heap.size w w' ∧ R undef w'
  | .ok (.enter f args) w' => Calls P f args w' (fun e w'' => ∃ v, e = .returned v ∧ Below w.heap.size w w'' ∧ R v w'')
  | _ => False
/-- operation o in the state a and the world w. -/
def RelStep (P : Program) (ops : Array Oper) (o : Oper) (a : Act) (w : World) (R : Value → World → Prop) : Prop :=
  if Region.wanted o (yielded ops a.tmps) = true then relUpon P w R ((execOp a.eval o).run P w) else R undef w
/-- the temporaries are written once each, and lie in the frame; each operation waits for earlier ones only. -/
def relB (ops : Array Oper) (n : Nat) : Bool :=
  (List.range ops.size).all fun i => match ops[i]? with
    | none => true
    | some o => (o.after.all fun e => decide (e.on < i)) && match o.dst with
      | none => true
      | some d => decide (d < n) && (List.range ops.size).all fun j => j == i || (ops[j]?).bind (·.dst) != some d
theorem relB_spec {ops : Array Oper} {n : Nat} (h : relB ops n = true) {i : Nat} {o : Oper} (ho : ops[i]? = some o) :
    (∀ e ∈ o.after, e.on < i) ∧ ∀ d, o.dst = some d → d < n ∧ ∀ j o', ops[j]? = some o' → o'.dst = some d → j = i := by
  have hi : i < ops.size := by
    rcases Nat.lt_or_ge i ops.size with h | h
    · exact h
    · rw [Array.getElem?_eq_none h] at ho; cases ho
  unfold relB at h
  rw [List.all_eq_true] at h
  have h1 := h i (List.mem_range.2 hi)
  simp only [ho, Bool.and_eq_true, Array.all_eq_true', decide_eq_true_eq] at h1
  refine ⟨fun e he => h1.1 e he, fun d hd => ?_⟩
  have h2 := h1.2
  simp only [hd, Bool.and_eq_true, decide_eq_true_eq, List.all_eq_true, List.mem_range] at h2
  refine ⟨h2.1, fun j o' hj hd' => ?_⟩
  have hjl : j < ops.size := by
    rcases Nat.lt_or_ge j ops.size with h | h
    · exact h
    · rw [Array.getElem?_eq_none h] at hj; cases hj
  have h3 := h2.2 j hjl
  simp [hj, hd'] at h3
  exact h3
/-- how many of the first n are not listed. -/
def unl (listed : Array Bool) : Nat → Nat
  | 0 => 0
  | n + 1 => unl listed n + if listed.getD n true = true then 0 else 1
theorem unl_zero {listed : Array Bool} : ∀ {n : Nat}, unl listed n = 0 → ∀ i, i < n → listed.getD i true = true
  | 0, _, _, hi => by omega
  | n + 1, h, i, hi => by
    unfold unl at h
    by_cases e : i = n
    · subst e
      by_cases h2 : listed.getD i true = true
      · exact h2
      · rw [if_neg h2] at h; omega
    · exact unl_zero (n := n) (by omega) i (by omega)
theorem unl_same {listed : Array Bool} {i : Nat} : ∀ {n : Nat}, n ≤ i → unl (listed.setIfInBounds i true) n = unl listed n
  | 0, _ => rfl
  | n + 1, h => by
    unfold unl
    rw [unl_same (by omega), getD_set_ne true (by omega)]
theorem unl_set {listed : Array Bool} {i : Nat} (hi : listed.getD i true = false) : ∀ {n : Nat}, i < n → unl (listed.setIfInBounds i true) n + 1 = unl listed n
  | 0, h => by omega
  | n + 1, h => by
    unfold unl
    by_cases e : i = n
    · subst e
      rw [unl_same (Nat.le_refl _), hi]
      have hlt : i < listed.size := by
        rcases Nat.lt_or_ge i listed.size with h' | h'
        · exact h'
        · simp [Array.getElem?_eq_none h'] at hi
      have : (listed.setIfInBounds i true).getD i true = true := by simp [hlt]
      rw [this]
      simp
    · rw [getD_set_ne true e]
      have := unl_set hi (n := n) (by omega)
      omega
theorem unl_all : ∀ n m, n ≤ m → unl (Array.replicate m false) n = n
  | 0, _, _ => rfl
  | n + 1, m, h => by
    unfold unl
    rw [unl_all n m (by omega)]
    simp [show n < m by omega]

/-- the temporaries are written, one behind the other. -/
def putsFrom (vs : Nat → Value) : List Oper → Nat → Act → Act
  | [], _, a => a
  | o :: l, k, a => putsFrom vs l (k + 1) (a.put o.dst (vs k))
theorem put_size (a : Act) (d : Option Tmp) (v : Value) : (a.put d v).tmps.size = a.tmps.size := by cases d <;> simp [Act.put]
theorem put_defers (a : Act) (d : Option Tmp) (v : Value) : (a.put d v).defers = a.defers := by cases d <;> rfl
theorem put_get_ne (a : Act) (d : Option Tmp) (v : Value) (t : Nat) (h : d ≠ some t) : (a.put d v).tmps[t]? = a.tmps[t]? := by
  cases d with
  | none => rfl
  | some d => simp [Act.put]; rw [Array.getElem?_setIfInBounds_ne (fun e => h (by rw [e]))]
theorem put_get_eq (a : Act) (d : Tmp) (v : Value) (h : d < a.tmps.size) : (a.put (some d) v).tmps[d]? = some v := by simp [Act.put, h]
theorem eval_get {a : Act} {d : Nat} {v : Value} (h : a.tmps[d]? = some v) : a.eval (.tmp d) = v := by simp [Act.eval, h]
theorem eval_get' {a : Act} {d : Nat} (h : d < a.tmps.size) : a.tmps[d]? = some (a.eval (.tmp d)) := by simp [Act.eval, h]
theorem puts_eq (vs : Nat → Value) (a' : Act) : ∀ (l : List Oper) (k : Nat) (a : Act), a'.tmps.size = a.tmps.size → a'.defers = a.defers →
    (∀ (t : Nat), (∀ o ∈ l, o.dst ≠ some t) → a'.tmps[t]? = a.tmps[t]?) → (∀ (i : Nat) (o : Oper) (d : Tmp), l[i]? = some o → o.dst = some d → d < a.tmps.size ∧ vs (k + i) = a'.eval (.tmp d)) → putsFrom vs l k a = a'
  | [], _, a, hs, hd, hf, _ => by
    obtain ⟨t, df⟩ := a
    obtain ⟨t', df'⟩ := a'
    simp only at hs hd hf
    simp only [putsFrom, Act.mk.injEq]
    refine ⟨?_, hd.symm⟩
    apply Array.ext_getElem?
    intro i
    exact (hf i (by simp)).symm
  | o :: l, k, a, hs, hd, hf, hv => by
    unfold putsFrom
    apply puts_eq vs a' l (k + 1) _ (by rw [put_size]; exact hs) (by rw [put_defers]; exact hd)
    · intro t ht
      by_cases e : o.dst = some t
      · obtain ⟨h1, h2⟩ := hv 0 o t rfl e
        rw [e, put_get_eq _ _ _ h1, show k = k + 0 from rfl, h2, eval_get' (by rw [hs]; exact h1)]
      · rw [put_get_ne _ _ _ _ e]
        refine hf t (fun o' ho' => ?_)
        rcases List.mem_cons.1 ho' with rfl | h
        · exact e
        · exact ht o' h
    · intro i o' d ho' hd'
      obtain ⟨h1, h2⟩ := hv (i + 1) o' d (by simpa using ho') hd'
      exact ⟨by rw [put_size]; exact h1, by rw [← h2]; congr 1; omega⟩

/-- what holds on the way. -/
structure RelI (ops : Array Oper) (R : Nat → Value → World → Prop) (a0 : Act) (w0 : World) (listed : Array Bool) (a : Act) (w : World) : Prop where
  size : a.tmps.size = a0.tmps.size
  defers : a.defers = a0.defers
  rest : ∀ (t : Nat), (∀ (i : Nat) (o : Oper), ops[i]? = some o → o.dst ≠ some t) → a.tmps[t]? = a0.tmps[t]?
  world : Below w0.heap.size w0 w
  facts : ∀ (i : Nat) (o : Oper) (d : Tmp), ops[i]? = some o → o.dst = some d → listed.getD i false = true → R i (a.eval (.tmp d)) w
theorem RelI.put {ops : Array Oper} {R : Nat → Value → World → Prop} {a0 : Act} {w0 : World} {listed : Array Bool} {a : Act} {w : World} (h : RelI ops R a0 w0 listed a w) (hB : relB ops a0.tmps.size = true)
    (hst : ∀ i v W W', R i v W → Below W.heap.size W W' → R i v W') {i : Nat} {o : Oper} (ho : ops[i]? = some o) {v : Value} {w' : World} (hb : Below w.heap.size w w') (hR : R i v w') :
    RelI ops R a0 w0 (listed.setIfInBounds i true) (a.put o.dst v) w' := by
  refine ⟨by rw [put_size]; exact h.size, by rw [put_defers]; exact h.defers, fun t ht => ?_, grew_trans h.world hb, fun j oj d hj hd hl => ?_⟩
  · rw [put_get_ne _ _ _ _ (ht i o ho)]; exact h.rest t ht
  · by_cases e : j = i
    · subst e
      rw [ho] at hj
      obtain rfl := Option.some.inj hj
      have := ((relB_spec hB ho).2 d hd).1
      rw [hd, eval_get (put_get_eq _ _ _ (by rw [h.size]; exact this))]
      exact hR
    · have hne : o.dst ≠ some d := fun ed => e (((relB_spec hB ho).2 d ed).2 j oj hj hd)
      have hl' : listed.getD j false = true := by rw [getD_set_ne false (Ne.symm e)] at hl; exact hl
      rw [Act.eval_put (fun d' hd' => by intro e2; injection e2 with e2; exact hne (by rw [hd', e2]))]
      exact hst _ _ _ _ (h.facts j oj d hj hd hl') hb
theorem relStep_wpOp {P : Program} {ops : Array Oper} {Q : Exit → Act → World → Prop} {i : Nat} {o : Oper} (ho : ops[i]? = some o) {a : Act} {w : World} {R : Value → World → Prop} (h : RelStep P ops o a w R) {K : Act → World → Prop}
    (hK : ∀ v w', Below w.heap.size w w' → R v w' → K (a.put o.dst v) w') : wpOp P ops Q i K a w := by
  unfold wpOp
  simp only [ho]
  unfold RelStep at h
  by_cases hw : Region.wanted o (yielded ops a.tmps) = true
  · rw [if_pos hw] at h
    simp only [hw, if_true]
    left
    unfold Oper.wp
    generalize (execOp a.eval o).run P w = r at *
    cases r with
    | ok n w' =>
      cases n <;> simp only [relUpon] at h <;> simp only [Oper.upon]
      case value u => exact hK _ _ h.1 h.2
      case skip => exact hK _ _ h.1 h.2
      case enter f args => exact h.mono fun e w'' ⟨v, he, hb, hr⟩ => by subst he; exact hK _ _ hb hr
    | halt x w' => simp only [relUpon] at h
  · rw [if_neg hw] at h
    simp only [hw]
    exact hK _ _ (Below.refl _ _) h
theorem relStep_free {P : Program} {ops : Array Oper} {o : Oper} {a : Act} {w : World} {R : Value → World → Prop} (hg : o.guard = none) (h : relUpon P w R ((execOp a.eval o).run P w)) : RelStep P ops o a w R := by
  unfold RelStep
  rw [if_pos (by unfold Region.wanted; rw [hg])]
  exact h
theorem dst_not {l : List Oper} {t : Nat} (h : (l.all fun o => o.dst != some t) = true) (i : Nat) (o : Oper) (ho : l[i]? = some o) : o.dst ≠ some t := by
  have := List.all_eq_true.1 h o (List.mem_of_getElem? ho)
  simpa using this
theorem ready_of_first {ops : Array Oper} {n : Nat} (hB : relB ops n = true) {listed : Array Bool} (hr : Region.ready .any ops listed = []) (hsz : listed.size = ops.size) : ∀ i, i < ops.size → listed.getD i false = true := by
  intro i
  induction i using Nat.strongRecOn with
  | ind i ih =>
    intro hi
    rcases Bool.eq_false_or_eq_true (listed.getD i false) with h | h
    · exact h
    · exfalso
      have hm : i ∈ Region.ready .any ops listed := by
        rw [mem_ready]
        refine ⟨?_, ops[i], Array.getElem?_eq_getElem hi, fun e he _ => ?_⟩
        · simp [hsz, hi] at h ⊢; exact h
        · have h1 := (relB_spec hB (Array.getElem?_eq_getElem hi)).1 e he
          exact ih e.on h1 (by omega)
      rw [hr] at hm
      cases hm
theorem wpAny_rel {P : Program} {ops : Array Oper} {Q : Exit → Act → World → Prop} {R : Nat → Value → World → Prop} {a0 : Act} {w0 : World} (hB : relB ops a0.tmps.size = true)
    (hst : ∀ i v W W', R i v W → Below W.heap.size W W' → R i v W')
    (hstep : ∀ (i : Nat) (o : Oper), ops[i]? = some o → ∀ a W, Below w0.heap.size w0 W → (∀ (t : Nat), (∀ (i : Nat) (o : Oper), ops[i]? = some o → o.dst ≠ some t) → a.tmps[t]? = a0.tmps[t]?) →
      (∀ e ∈ o.after, Region.binds .any e = true → ∀ (o' : Oper) (d : Tmp), ops[e.on]? = some o' → o'.dst = some d → ∃ v, a.tmps[d]? = some v ∧ R e.on v W) → RelStep P ops o a W (R i))
    (hend : ∀ vs W, Below w0.heap.size w0 W → (∀ (i : Nat) (o : Oper) (d : Tmp), ops[i]? = some o → o.dst = some d → R i (vs i) W) → Q .normal (putsFrom vs ops.toList 0 a0) W) :
    ∀ (fuel : Nat) (listed : Array Bool) (a : Act) (w : World), listed.size = ops.size → unl listed ops.size ≤ fuel → RelI ops R a0 w0 listed a w → wpAny P .any ops Q fuel listed a w := by
  have fin : ∀ (listed : Array Bool) (a : Act) (w : World), listed.size = ops.size → Region.ready .any ops listed = [] → RelI ops R a0 w0 listed a w → Q .normal a w := fun listed a w hsz hr hI => by
    have hall := ready_of_first hB hr hsz
    have hlt : ∀ {i o}, ops[i]? = some o → i < ops.size := fun {i o} h => by
      rcases Nat.lt_or_ge i ops.size with h' | h'
      · exact h'
      · rw [Array.getElem?_eq_none h'] at h; cases h
    have hvs := hend (fun i => match (ops[i]?).bind (·.dst) with | some d => a.eval (.tmp d) | none => undef) w hI.world (fun i o d ho hd => by
      simp only [ho, Option.bind_some, hd]
      exact hI.facts i o d ho hd (hall i (hlt ho)))
    rw [puts_eq _ a ops.toList 0 a0 hI.size hI.defers (fun t ht => hI.rest t (fun i o ho => ht o (by
        have := List.mem_of_getElem? (l := ops.toList) (i := i) (a := o) (by simpa using ho)
        exact this))) (fun i o d ho hd => by
        have ho' : ops[i]? = some o := by simpa using ho
        refine ⟨((relB_spec hB ho').2 d hd).1, ?_⟩
        simp only [Nat.zero_add, ho', Option.bind_some, hd])] at hvs
    exact hvs
  intro fuel
  induction fuel with
  | zero =>
    intro listed a w hsz hu hI
    have hr : Region.ready .any ops listed = [] := by
      apply List.eq_nil_iff_forall_not_mem.2
      intro i hi
      obtain ⟨h0, o, ho, _⟩ := mem_ready.1 hi
      have hlt : i < ops.size := by
        rcases Nat.lt_or_ge i ops.size with h' | h'
        · exact h'
        · rw [Array.getElem?_eq_none h'] at ho; cases ho
      have := unl_zero (listed := listed) (n := ops.size) (by omega) i hlt
      rw [this] at h0
      cases h0
    exact ⟨hr, fin _ _ _ hsz hr hI⟩
  | succ fuel ih =>
    intro listed a w hsz hu hI
    refine ⟨fun hr => fin _ _ _ hsz hr hI, fun i hi => ?_⟩
    obtain ⟨h0, o, ho, hall⟩ := mem_ready.1 hi
    have hlt : i < ops.size := by
      rcases Nat.lt_or_ge i ops.size with h' | h'
      · exact h'
      · rw [Array.getElem?_eq_none h'] at ho; cases ho
    refine relStep_wpOp ho (hstep i o ho a w hI.world hI.rest (fun e he hb o' d ho' hd' => ?_)) (fun v w' hb hR => ?_)
    · have := ((relB_spec hB ho').2 d hd').1
      exact ⟨_, eval_get' (by rw [hI.size]; exact this), hI.facts e.on o' d ho' hd' (hall e he hb)⟩
    · refine ih _ _ _ (by simpa using hsz) ?_ (hI.put hB hst ho hb hR)
      have := unl_set h0 hlt
      omega
/-- THE LAW. -/
theorem wp_region_rel {P : Program} {id : Nat} {l : List Oper} {Q : Exit → Act → World → Prop} {a : Act} {w : World} (R : Nat → Value → World → Prop) (hm : P.follows .mixedOrders = true) (hB : relB l.toArray a.tmps.size = true)
    (hst : ∀ i v W W', R i v W → Below W.heap.size W W' → R i v W')
    (hstep : ∀ (i : Nat) (o : Oper), l[i]? = some o → ∀ a' W, Below w.heap.size w W → (∀ (t : Nat), (∀ (i : Nat) (o : Oper), l[i]? = some o → o.dst ≠ some t) → a'.tmps[t]? = a.tmps[t]?) →
      (∀ e ∈ o.after, Region.binds .any e = true → ∀ (o' : Oper) (d : Tmp), l[e.on]? = some o' → o'.dst = some d → ∃ v, a'.tmps[d]? = some v ∧ R e.on v W) → RelStep P l.toArray o a' W (R i))
    (hend : ∀ vs W, Below w.heap.size w W → (∀ (i : Nat) (o : Oper) (d : Tmp), l[i]? = some o → o.dst = some d → R i (vs i) W) → Q .normal (putsFrom vs l 0 a) W) :
    (Code.region id l.toArray true).wp P Q a w := by
  refine wp_region_any hm ?_
  have hst' := hst
  refine wpAny_rel (R := R) (a0 := a) (w0 := w) hB hst (by simpa using hstep) (by simpa using hend) _ _ _ _ (by simp) (by rw [unl_all _ _ (Nat.le_refl _)]; exact Nat.le_refl _) ⟨rfl, rfl, fun _ _ => rfl, (Below.refl _ w).drew, fun i o d _ _ hl => ?_⟩
  exfalso
  have : (Array.replicate l.toArray.size false).getD i false = false := by
    rw [Array.getD_eq_getD_getElem?]
    by_cases h : i < l.toArray.size
    · rw [Array.getElem?_replicate, if_pos h]; rfl
    · rw [Array.getElem?_replicate, if_neg h]; rfl
  rw [this] at hl
  cases hl
end Go.Proofs.Ytcgkdomfbkkboaa
