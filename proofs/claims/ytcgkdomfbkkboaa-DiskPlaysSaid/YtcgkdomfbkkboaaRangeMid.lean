/- A range over a function whose iterator turns the world as T says (between two rounds), and whose body never leaves. -/
import Derived.Test.YtcgkdomfbkkboaaObj
import Derived.RangeFuncNested
import Derived.RangeFuncWrites
import Derived.RangeFuncBound
import Derived.RangeFuncCalls
import Derived.RangeFuncLeaves
import Derived.Shelf.Abstract
import Derived.OwnWalkIn
import Derived.TacticsInMore
import Derived.LoopNIn
import Derived.LoopIn
namespace Go.Proofs.Ytcgkdomfbkkboaa
open Go.RowKit

/-- what the body owes a round. -/
def BodyP {α : Type} (B : Nat) (S0 : Nat → Prop) (I : List α → World → Prop) (xs : List α) (W : World) : Exit → Act → World → Prop
  | .normal, _, W' => KeepsFrom B W W' ∧ Mod S0 W W' ∧ I xs W'
  | _, _, _ => False
theorem Mod.putObj {S : Nat → Prop} {W : World} {l : Nat} (hl : S l) (o : Obj) : Mod S W (W.putObj l o) := Mod.grown (grownBy_putObj' W l o) (fun k hk => by cases hk; exact hl)
theorem range_over {F : Fence} {n : Nat} {P : Program} {α : Type} {g : Operand} {ps : Array Tmp} {assign body : Code} {Q : Exit → Act → World → Prop} {a : Act} {w : World}
    (hro : F.round = none) (h1 : 1 ≤ n) {gf : Nat} {lb : Array Value} (hg : a.eval g = .func (.func gf) #[] lb) (hFg : F.fn gf) (eg : ∀ args w, (callFunc gf args).run P w = .ok (.enter gf args) w)
    {encs : α → Array Value} (T : World → World → Prop) (hT : ∀ A B k x, T A B → w.heap.size ≤ k → A.heap[k]? = some x → B.heap[k]? = some x) (S0 : Nat → Prop) (hn0 : ∀ k, w.heap.size ≤ k → S0 k) {S : List α → World → Prop} {N : Nat} (Ok : α → Prop)
    (hseq : ∀ (l : Nat) (J : List α → World → Prop) (W : World), Below w.heap.size w W → (∀ s A B, J s A → T A B → J s B) →
      (∀ pre x W1, J pre W1 → pre.length < N → Ok x → YieldAt F (n - 1 - 1) P l (encs x) W1 fun e W' => e = .returned (.bool true) ∧ J (pre ++ [x]) W' ∧ Mod S0 W1 W') → J [] W →
      CallsIn F (n - 1) P gf (#[.func (.yield l) #[] #[]] ++ lb) W fun e W' => (∃ v, e = .returned v) ∧ ∃ xs, S xs W' ∧ J xs W')
    (hS : ∀ xs W l o o', w.heap.size ≤ l → W.heap[l]? = some o → o.isCells = false → S xs W → S xs (W.putObj l o'))
    (hps : ∀ x, (encs x).size = ps.size)
    (I : List α → World → Prop) (hI : ∀ s W l o o', w.heap.size ≤ l → W.heap[l]? = some o → o.isCells = false → I s W → I s (W.putObj l o')) (hIp : ∀ s A B, I s A → T A B → I s B)
    (h0 : ∀ o, I [] ((w.alloc (.deferred (some []))).alloc o))
    (hround : ∀ (l : Nat) (pre : List α) (x : α) (W : World), w.heap.size ≤ l → (∃ o, W.heap[l]? = some o ∧ o.isCells = false) → I pre W → pre.length < N → Ok x →
      assign.wpIn (F.inRound l) (n - 1 - 1) P (Exit.then (fun a' W' => Below W.heap.size W W' ∧ ∀ o, body.wpIn (F.inRound l) (n - 1 - 1) P (BodyP w.heap.size S0 I (pre ++ [x]) (W'.putObj l o)) a' (W'.putObj l o)) (fun _ _ _ => False))
        { tmps := (ps.zip (encs x)).foldl (fun t (p, v) => t.setIfInBounds p v) a.tmps, defers := [] } W)
    (hdone : ∀ (D : Nat) (xs : List α) (W : World), w.heap.size ≤ D → S xs W → I xs W → W.heap[D]? = some (.deferred (some [])) → Q .normal { a with defers := { target := .collected D, args := #[] } :: a.defers } W) :
    (Code.rangeFunc g ps assign body).wpIn F n P Q a w := by
  refine wpIn_rangeFunc ?_
  intro fn hfn
  rw [hro]
  obtain ⟨rec, hrec⟩ : ∃ rec : LoopState → Option Code → Loop, rec = fun st pe => { state := st, pending := pe, fn, tmps := a.tmps, params := ps, assign, body, defers := w.heap.size } := ⟨_, rfl⟩
  obtain ⟨W1, hW1⟩ : ∃ W1, (w.alloc (.deferred (some []))).alloc (.loop (rec .ready none)) = W1 := ⟨_, rfl⟩
  have hL1 : W1.heap[w.heap.size + 1]? = some (.loop (rec .ready none)) := by
    rw [← hW1]; have := World.alloc_heap_new (w.alloc (.deferred (some []))) (.loop (rec .ready none)); rwa [World.size_alloc] at this
  have hK1 : W1.heap[w.heap.size]? = some (.deferred (some [])) := by
    rw [← hW1]; exact (Below.heap_alloc _ _ _ (by simp)).trans (World.alloc_heap_new w _)
  have hb1 : Below w.heap.size w W1 := by
    rw [← hW1]; exact ((Below.refl _ w).alloc (Nat.le_refl _) _).alloc (by simp) _
  refine ⟨w.heap.size + 1, [{ target := .collected w.heap.size, args := #[] }], W1, { target := .fn (.func gf) lb, args := #[.func (.yield (w.heap.size + 1)) #[] #[]] }, W1, gf,
    #[.func (.yield (w.heap.size + 1)) #[] #[]] ++ lb, W1, ?_, ?_, ?_, ?_, fun _ => h1, ?_⟩
  · rw [← hW1, hrec]; exact run_enterLoop_outer _ _ _ _ _
  · simp only [resolve, hg]
    simp [go_sem]
  · intro f' hf'; simp [Target.leads] at hf'; subst hf'; exact hFg
  · simp [invoke, go_sem, eg]
  · refine (hseq (w.heap.size + 1) (fun pre W => I pre W ∧ W.heap[w.heap.size + 1]? = some (.loop (rec .ready none)) ∧ W.heap[w.heap.size]? = some (.deferred (some []))) W1 hb1
      (fun s A B hs ht => ⟨hIp s A B hs.1 ht, hT _ _ _ _ ht (by omega) hs.2.1, hT _ _ _ _ ht (by omega) hs.2.2⟩) ?_ ⟨by rw [← hW1]; exact h0 _, hL1, hK1⟩).mono ?_
    · rintro pre x W ⟨hi, hl, hk⟩ hlen hok
      have hlt : w.heap.size + 1 < W.heap.size := (Array.getElem?_eq_some_iff.1 hl).1
      have hy := run_yield (P := P) (args := encs x) hl (by rw [hrec]; exact hps x)
      rw [hrec] at hy
      refine ⟨fn, _, assign, body, hy, roundIn_of_wpIn hfn (wpIn_mono (hround _ pre x W (by omega) ⟨_, hl, rfl⟩ hi hlen hok) ?_)⟩
      rintro e0 a0 W0 h00
      cases e0 with
      | normal => ?_
      | ret => exact h00.elim
      | exit id => exact h00.elim
      | goto t => exact h00.elim
      | panic ch => exact h00.elim
      | outgrown => exact h00.elim
      obtain ⟨hB0, hgo⟩ := h00
      have hl0 : W0.heap[w.heap.size + 1]? = some (.loop (rec .ready none)) := (hB0.block _ hlt).trans hl
      have hk0 : W0.heap[w.heap.size]? = some (.deferred (some [])) := (hB0.block _ (by omega)).trans hk
      refine ⟨_, run_beginRound (by rw [hrec] at hl0; exact hl0) rfl, ?_⟩
      have hl2 : (W0.putObj (w.heap.size + 1) (.loop { rec .ready none with state := .busy })).heap[w.heap.size + 1]? = some (.loop { rec .ready none with state := .busy }) := World.putObj_heap_same (Array.getElem?_eq_some_iff.1 hl0).1
      have hk2 : (W0.putObj (w.heap.size + 1) (.loop { rec .ready none with state := .busy })).heap[w.heap.size]? = some (.deferred (some [])) := (World.putObj_heap_other (by omega)).trans hk0
      have hw2 : Mod S0 W (W0.putObj (w.heap.size + 1) (.loop { rec .ready none with state := .busy })) := (Mod.of_below hB0 (Nat.le_refl _) _).trans (Mod.putObj (hn0 _ (by omega)) _)
      rw [hrec] at hl2 hk2 hw2
      refine wpIn_mono (hgo _) ?_
      rintro e a3 W3 hp3
      cases e with
      | normal =>
        obtain ⟨hk3, hb3, hi3⟩ := hp3
        have hl3 := hk3.same _ _ (by omega) hl2 rfl
        have hr := run_endRound (P := P) (none : Option Code) hl3
        have hk4 := hk3.same _ _ (Nat.le_refl _) hk2 rfl
        refine ⟨_, _, hr, rfl, ⟨hI _ _ _ _ _ (by omega) hl3 rfl hi3, ?_, (World.putObj_heap_other (by omega)).trans hk4⟩, (hw2.trans hb3).trans (Mod.putObj (hn0 _ (by omega)) _)⟩
        rw [hrec]
        exact World.putObj_heap_same (Array.getElem?_eq_some_iff.1 hl3).1
      | ret => exact hp3.elim
      | exit id => exact hp3.elim
      | goto t => exact hp3.elim
      | panic ch => exact hp3.elim
      | outgrown => exact hp3.elim
    · rintro e W2 ⟨⟨v, rfl⟩, xs, hS2, hi, hl, hk⟩
      exact ⟨none, _, by have := run_endLoop (P := P) hl (by rw [hrec]; simp); rw [hrec] at this; exact this, hdone _ xs _ (Nat.le_refl _) (hS _ _ _ _ _ (by omega) hl rfl hS2) (hI _ _ _ _ _ (by omega) hl rfl hi) ((World.putObj_heap_other (by omega)).trans hk)⟩
end Go.Proofs.Ytcgkdomfbkkboaa
