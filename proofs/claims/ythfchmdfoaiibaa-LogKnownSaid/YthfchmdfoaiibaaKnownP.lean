/- The chapter's examples: the ten logs. -/
import Derived.Test.YthfchmdfoaiibaaRel
import Derived.Test.YthfchmdfoaiibaaLaws
import Derived.Deep.DeepAppendRoom
import Derived.ArgAppend
namespace Go.Proofs.Ythfchmdfoaiibaa
open Go.RowKit Go.Joins

def kn : List (List Ent) := [[(1, 1, 0, 0), (1, 2, 0, 0), (1, 3, 1, 1), (2, 1, 0, 0)], [], [(1, 1, 0, 0), (1, 1, 0, 0)], [(2, 1, 0, 0), (1, 2, 0, 0)], [(0, 1, 0, 0)], [(1, 1, 1, 1)], [(1, 3, 0, 1)], [(1, 0, 0, 0)], [(1, 4, 0, 0)], [(1, 3, 1, 0)]]
def entV (e : Ent) : Value := .agg #[.int .u64 e.1, .int .i64 e.2.1, .int .u64 e.2.2.1, .int .u64 e.2.2.2]
/-- a slice that holds these, wherever. -/
def SlV (es : List Ent) (v : Value) (W : World) : Prop := ∃ a c, v = .slice a es.length c ∧ Sl W a c es
theorem slV_lit {W : World} (es : List Ent) (n : Nat) (hn : es.length = n) (hm : n ≤ maxLen) : SlV es (.slice (some ⟨W.heap.size, 0, none⟩) n n) (W.alloc (.cells (flat es).toArray 33)) := by
  subst hn; exact ⟨_, _, rfl, sl_lit W es _ _ rfl rfl hm⟩
/-- a slice of such. -/
def Sls (v : Value) (W : World) : Prop := ∃ b, v = .slice (some ⟨b, 0, none⟩) 10 10 ∧ ∀ i, i < 10 → ∃ u, W.cell? ⟨b, i, none⟩ = some u ∧ SlV (kn.getD i []) u W
theorem SlV.below {es : List Ent} {v : Value} {W W' : World} (h : SlV es v W) (hb : Below W.heap.size W W') : SlV es v W' := by
  obtain ⟨a, c, e, hs⟩ := h; exact ⟨a, c, e, hs.below hb⟩
theorem keepc' {w w' : World} {p : Addr} {v : Value} (h : w.cell? p = some v) (hb : Below w.heap.size w w') : w'.cell? p = some v := (hb.cell (World.block_lt_of_cell? _ _ h)).trans h
theorem Sls.below {v : Value} {W W' : World} (h : Sls v W) (hb : Below W.heap.size W W') : Sls v W' := by
  obtain ⟨b, e, hs⟩ := h
  exact ⟨b, e, fun i hi => by obtain ⟨u, h1, h2⟩ := hs i hi; exact ⟨u, keepc' h1 hb, h2.below hb⟩⟩
def RK : Nat → Value → World → Prop
  | 0, v, _ => v = entV (1, 1, 0, 0)
  | 1, v, _ => v = entV (1, 2, 0, 0)
  | 2, v, _ => v = entV (1, 3, 1, 1)
  | 3, v, _ => v = entV (2, 1, 0, 0)
  | 4, v, W => SlV (kn.getD 0 []) v W
  | 5, v, _ => v = entV (1, 1, 0, 0)
  | 6, v, _ => v = entV (1, 1, 0, 0)
  | 7, v, W => SlV (kn.getD 2 []) v W
  | 8, v, _ => v = entV (2, 1, 0, 0)
  | 9, v, _ => v = entV (1, 2, 0, 0)
  | 10, v, W => SlV (kn.getD 3 []) v W
  | 11, v, _ => v = entV (0, 1, 0, 0)
  | 12, v, W => SlV (kn.getD 4 []) v W
  | 13, v, _ => v = entV (1, 1, 1, 1)
  | 14, v, W => SlV (kn.getD 5 []) v W
  | 15, v, _ => v = entV (1, 3, 0, 1)
  | 16, v, W => SlV (kn.getD 6 []) v W
  | 17, v, _ => v = entV (1, 0, 0, 0)
  | 18, v, W => SlV (kn.getD 7 []) v W
  | 19, v, _ => v = entV (1, 4, 0, 0)
  | 20, v, W => SlV (kn.getD 8 []) v W
  | 21, v, _ => v = .agg #[.int .u64 1, .int .u64 0]
  | 22, v, _ => v = entV (1, 3, 1, 0)
  | 23, v, W => SlV (kn.getD 9 []) v W
  | 24, v, W => Sls v W
  | 25, v, _ => v = .int .i64 10
  | 26, v, _ => v = .int .i64 0
  | _, _, _ => True
theorem RK_keep : ∀ i v W W', RK i v W → Below W.heap.size W W' → RK i v W' := by
  intro i v W W' h hb
  unfold RK at h ⊢
  split at h <;> first | exact h | exact h.below hb
instance (e : Ent) : Decidable (wfE e) := by unfold wfE; infer_instance
theorem kn_wf : ∀ i, i < 10 → ∀ j, j < (kn.getD i []).length → wfE ((kn.getD i []).getD j default) := by decide +kernel
theorem kn_ck : ∀ i, i < 10 → checkE (kn.getD i []) = if 2 < i then 2 else 0 := by decide +kernel
def lg : List Ent := List.replicate 300 (1, 1, 0, 0)
theorem lg_wf (n : Nat) : ∀ j, j < (List.replicate n ((1, 1, 0, 0) : Ent)).length → wfE ((List.replicate n ((1, 1, 0, 0) : Ent)).getD j default) := by
  intro j hj
  simp at hj
  simp [List.getD_eq_getElem?_getD, hj]
  exact ⟨by decide, by decide, by decide⟩
theorem lg_ck : checkE (List.replicate 300 (1, 1, 0, 0)) = 0 := by decide +kernel
theorem own_some {w : World} {base : Nat} {v : Value} {es : List Ent} (h : OwnE w base v es) (h0 : 0 < es.length) : ∃ g cap, v = .slice (some ⟨g, 0, none⟩) es.length cap := by
  rcases h.2 with ⟨_, e⟩ | ⟨g, cap, cur, e, _⟩
  · omega
  · exact ⟨g, cap, e⟩
theorem own_slx {w : World} {base n c : Nat} {a : Option Addr} {es : List Ent} (h : OwnE w base (.slice a n c) es) : Sl w a c es := by
  obtain ⟨a', c', e, hs, _⟩ := own_sl h
  simp at e
  obtain ⟨rfl, _, rfl⟩ := e
  exact hs
/-- what the call owned stays owned where a list that lies upon it grew in place. -/
theorem own_back {w' : World} {base g n m cap : Nat} {xs ys : List Value} (hx : xs.length = n * 4) (h : w'.ownsRow base 33 4 (.slice (some ⟨g, 0, none⟩) (n + m) cap) (n + m) (xs ++ ys)) :
    w'.ownsRow base 33 4 (.slice (some ⟨g, 0, none⟩) n cap) n xs := by
  refine ⟨hx, .inr ?_⟩
  rcases h.2 with ⟨e, _⟩ | ⟨g', cap', cur, e, hb, hg, h1, h2, h3, h4⟩
  · cases e
  · simp at e
    obtain ⟨rfl, rfl⟩ := e
    refine ⟨g, cap, cur, rfl, hb, hg, by omega, h2, h3, ?_⟩
    have := congrArg (List.take (n * 4)) h4
    rw [List.take_take, List.take_append_of_le_length (by omega), List.take_of_length_le (l := xs) (by omega), Nat.min_eq_left (Nat.mul_le_mul_right 4 (by omega))] at this
    exact this
theorem own_grown_none {w w' : World} {base : Nat} {v : Value} {n : Nat} {xs : List Value} (h : w.ownsRow base 33 4 v n xs) (hg : w.grownBy w' none) : w'.ownsRow base 33 4 v n xs := by
  refine ⟨h.1, ?_⟩
  rcases h.2 with e | ⟨g, cap, cur, e, hb, hh, r⟩
  · exact .inl e
  · exact .inr ⟨g, cap, cur, e, hb, (hg.block g (Array.getElem?_eq_some_iff.1 hh).1 (by simp)).trans hh, r⟩
/-- append upon a row that the call owns and keeps. -/
theorem wp_app_keep {w : World} {o : Oper} {a : Act} {K : Act → World → Prop} {Q : Exit → Act → World → Prop} (s x : Operand)
    (ho : o.op = .call { callee := .builtin .append, args := #[s, x], argTypes := #[22, 22] }) (base g n cap : Nat) (xs : List Ent) (hs : a.eval s = .slice (some ⟨g, 0, none⟩) n cap) (hxs : xs.length = n) (hown : OwnE w base (.slice (some ⟨g, 0, none⟩) n cap) xs)
    (sa : Addr) (m c : Nat) (ys : List Ent) (hn : ys.length = m) (hx : a.eval x = .slice (some sa) m c) (hE : Ents w (some sa) ys) (k : Nat) (hk : n + m = k)
    (hb : (xs.length + ys.length) * 32 ≤ 140737488355328)
    (h : ∀ a' c' w', Sl w' a' c' (xs ++ ys) → OwnE w' base (.slice (some ⟨g, 0, none⟩) n cap) xs → w.grownBy w' (some g) → K (a.put o.dst (.slice a' k c')) w') : o.wp Try.prog a w K Q := by
  obtain ⟨i, z, hi, hz, h1, h2, h3⟩ := zero33
  subst hn hk hxs
  have fx : (flat xs).length = xs.length * 4 := flat_length xs
  by_cases hr : xs.length + ys.length ≤ cap
  · refine wp_append_own_spare w s x 22 ho base 33 i 4 Try.underlying22 hi h1 g xs.length cap (flat xs) hs hown sa ys.length c (flat ys) hx (flat_length ys) (ents_news hE) (flat_one ys) hr ?_
    intro w' ho' hg
    refine h _ _ w' (own_slx (base := base) (n := xs.length + ys.length) ?_) (own_back fx ho') hg
    unfold OwnE
    rw [List.length_append, flat_append]
    exact ho'
  · obtain ⟨v', w', hrun, ho', hg⟩ := run_append_arg_grows (P := Try.prog) w 22 o.type 33 i z 4 32 Try.underlying22 hi hz h1 h2 h3 (by decide) ⟨g, 0, none⟩ xs.length cap (flat xs) fx (fun j u hu => hown.cells (g := g) rfl j u hu) sa ys.length c (flat ys) (flat_length ys) (ents_news hE) (by omega) (by unfold maxLen; omega) (by omega)
    unfold Oper.wp
    simp [execOp, ho, resolve, invoke, builtin, hs, hx, hrun, Result.andThen]
    have ho2 : OwnE w' w.heap.size v' (xs ++ ys) := by unfold OwnE; rw [List.length_append, flat_append]; exact ho'
    obtain ⟨a', c', e, hs', _⟩ := own_sl ho2
    rw [List.length_append] at e
    subst e
    exact h _ _ w' hs' (own_grown_none hown hg) ⟨hg.os, hg.tape, hg.output, hg.size, fun j hj _ => hg.block j hj (by simp)⟩
theorem lg_ck1 : checkE (List.replicate 300 (1, 1, 0, 0) ++ [(1, 1, 0, 0)]) = 3 := by decide +kernel
theorem lg_ck2 : checkE (List.replicate 300 (1, 1, 0, 0) ++ [(0, 1, 0, 0)]) = 3 := by decide +kernel
theorem lg_wf1 (t : Int) (ht : t = 0 ∨ t = 1) : ∀ j, j < (List.replicate 300 ((1, 1, 0, 0) : Ent) ++ [(t, 1, 0, 0)]).length → wfE ((List.replicate 300 ((1, 1, 0, 0) : Ent) ++ [(t, 1, 0, 0)]).getD j default) := by
  intro j hj
  have hm : (List.replicate 300 ((1, 1, 0, 0) : Ent) ++ [(t, 1, 0, 0)]).getD j default ∈ (List.replicate 300 ((1, 1, 0, 0) : Ent) ++ [(t, 1, 0, 0)]) := by
    rw [List.getD_eq_getElem?_getD, List.getElem?_eq_getElem hj]
    exact List.getElem_mem hj
  generalize (List.replicate 300 ((1, 1, 0, 0) : Ent) ++ [(t, 1, 0, 0)]).getD j default = e at hm
  rcases List.mem_append.1 hm with h | h
  · rw [List.eq_of_mem_replicate h]; exact ⟨by decide, by decide, by decide⟩
  · simp at h; subst h; rcases ht with rfl | rfl <;> exact ⟨by decide, by decide, by decide⟩
end Go.Proofs.Ythfchmdfoaiibaa
