/- What a wake makes: plain laws. -/
import Derived.Test.YtcgkdomfbkkboaaMerge
import Derived.Test.YtcgkdomfbkkboaaBack
namespace Go.Proofs.Ytcgkdomfbkkboaa
open Go.RowKit Go.Joins Go.ChangeMaps

def encK (x : Bool) : List Value := [.bool x]
theorem EK : Enc encK 1 := ⟨fun _ => rfl, fun x u hu => by simp [encK] at hu; subst hu; rfl, by omega⟩
def none0 : Fn := fun _ => none
theorem join_upd (g f : Fn) (a : Int) (d : BA) : join (upd g a (some d)) f = upd (join g f) a (some d) := by
  funext i
  by_cases h : i = a
  · subst h; simp [join, upd]
  · simp [join, upd, h]
theorem join_apply (g f : Fn) (ws : List Wr) : join (apply g ws) f = apply (join g f) ws := by
  induction ws generalizing g with
  | nil => rfl
  | cons w ws ih => rw [apply, apply, ih, join_upd]
theorem join_kept (f : Fn) (ws : List Wr) : join (apply none0 ws) f = apply f ws := by
  rw [join_apply, show join none0 f = f from join_none f]
/-- one sector is put back. -/
def restB (g : Fn) (b : Bf) : Fn := upd g b.1 (if b.2.2 then some b.2.1 else none)
def restF (g : Fn) (us : List Bf) : Fn := us.foldl restB g
theorem restF_snoc (g : Fn) (us : List Bf) (b : Bf) : restF g (us ++ [b]) = restB (restF g us) b := by simp [restF]
theorem restF_undo (f : Fn) (ws : List Wr) : restF (apply f ws) (undoOf f ws).reverse = f := by
  induction ws generalizing f with
  | nil => rfl
  | cons w ws ih =>
    rw [undoOf, List.reverse_cons, restF_snoc, apply, ih]
    funext i
    unfold restB
    by_cases h : i = w.1
    · subst h
      simp only [upd_same]
      cases f w.1 <;> simp
    · rw [upd_other h, upd_other h]
theorem backs_snd (us : List Bf) : ∀ k, k ≤ us.length → (backs us k).map (·.2) = us.reverse.take k
  | 0, _ => rfl
  | k + 1, h => by
    rw [backs, List.map_append, backs_snd us k (by omega), take_snoc us.reverse k default (by simp; omega)]
    congr 1
    simp only [List.map_cons, List.map_nil, List.getD_eq_getElem?_getD]
    rw [List.getElem?_reverse (by omega)]
theorem restF_backs (f : Fn) (ws : List Wr) : restF (apply f ws) ((backs (undoOf f ws) (undoOf f ws).length).map (·.2)) = f := by
  rw [backs_snd _ _ (Nat.le_refl _), List.take_of_length_le (by simp), restF_undo]
theorem kept_yes : ∀ (ws : List Wr) (ks : List Bool) (i : Nat), i < ws.length → i < ks.length → ks.getD i false = true → kept (ws.take (i + 1)) ks = kept (ws.take i) ks ++ [ws.getD i default]
  | [], _, _, h, _, _ => by simp at h
  | _ :: _, [], _, _, h, _ => by simp at h
  | w :: ws, k :: ks, 0, _, _, hk => by
    simp at hk
    subst hk
    cases ws <;> simp [kept]
  | w :: ws, k :: ks, i + 1, h1, h2, hk => by
    have ih := kept_yes ws ks i (by simpa using h1) (by simpa using h2) (by simpa using hk)
    simp only [List.take_succ_cons, kept] at ih ⊢
    rw [ih]
    split <;> simp
theorem kept_no : ∀ (ws : List Wr) (ks : List Bool) (i : Nat), i < ws.length → ¬ (i < ks.length ∧ ks.getD i false = true) → kept (ws.take (i + 1)) ks = kept (ws.take i) ks
  | [], _, _, h, _ => by simp at h
  | w :: ws, [], i, _, _ => by cases i <;> simp [kept]
  | w :: ws, k :: ks, 0, _, hk => by
    have : k = false := by simpa using hk
    subst this
    cases ws <;> simp [kept]
  | w :: ws, k :: ks, i + 1, h1, hk => by
    have ih := kept_no ws ks i (by simpa using h1) (by simpa using hk)
    simp only [List.take_succ_cons, kept] at ih ⊢
    rw [ih]
theorem apply_none_in {n : Int} {ws : List Wr} (h : ∀ w ∈ ws, 0 ≤ w.1 ∧ w.1 < n ∧ w.2.size = 32) : ∀ i x, apply none0 ws i = some x → 0 ≤ i ∧ i < n ∧ x.size = 32 := apply_in (fun i x h => by cases h) h
end Go.Proofs.Ytcgkdomfbkkboaa
