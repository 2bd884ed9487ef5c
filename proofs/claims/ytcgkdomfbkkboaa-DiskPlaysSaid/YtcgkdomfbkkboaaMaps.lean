/- A map keyed by an int, in memory: what it holds, and how many. -/
import Derived.Test.YtcgkdomfbkkboaaMod
import Derived.Test.YtcgkdomfbkkboaaProg
import Derived.Maps.OwnOps
import Derived.Maps.OwnSet
import Derived.Maps.Range
import Derived.Maps.RangeWalk
namespace Go.Proofs.Ytcgkdomfbkkboaa
open Go.RowKit Go.Joins Go.ChangeMaps

/-- how the elements of a map lie. -/
structure El (t e : TypeId) (β : Type) where
  enc : β → Value
  dat : β → DataW Unit
  ok : β → Prop
  zero : β
  und : Try.prog.underlying t = some (.map 3 e)
  emb : ∀ x, ok x → plainElem (H := Unit) Try.prog e (enc x) = some (dat x, [])
  inv : ∀ v x ps, plainElem (H := Unit) Try.prog e v = some (dat x, ps) → v = enc x
  z : ∀ w, (zeroValue e).run Try.prog w = .ok (enc zero) w
  zok : ok zero
theorem keyed3 : Go.Maps.Keyed Try.prog 3 := Go.Maps.int_keyed Try.underlying3
theorem key3 {i : Int} (hw : (Lit.int .i64 i).wf = true) : keyOf Try.prog 3 (.int .i64 i) = some (.int .i64 i) := Go.Maps.keyOf_int_mk Try.underlying3 hw
theorem ba_lit {x y : BA} (h : x.data.toList = y.data.toList) : x = y := by
  have h2 := Array.toList_inj.1 h
  cases x; cases y; cases h2; rfl
def ES : El 58 9 BA where
  enc := .string
  dat := fun x => .lit (.string x.data.toList)
  ok := fun x => x.size ≤ maxLen
  zero := ByteArray.empty
  und := Try.underlying58
  emb := fun x hx => plainElem_string Try.underlying9 hx
  inv := fun v x ps h => by
    unfold plainElem at h
    rw [Try.underlying9] at h
    cases v <;> simp at h
    obtain ⟨h1, h2⟩ := h
    rw [ba_lit (congrArg Array.toList h2.1)]
  z := fun w => by kernel_rfl
  zok := by unfold maxLen; decide
def EI : El 46 3 Int where
  enc := .int .i64
  dat := fun x => .lit (.int .i64 x)
  ok := fun x => (Lit.int .i64 x).wf = true
  zero := 0
  und := Try.underlying46
  emb := fun x hx => plainElem_int Try.underlying3 hx
  inv := fun v x ps h => by
    obtain ⟨a, rfl, hz, -⟩ := plainElem_int_inv Try.underlying3 h
    simp at hz
    rw [hz.1]
  z := fun w => by kernel_rfl
  zok := by decide
section
variable {t e : TypeId} {β : Type} (E : El t e β)
def updG (f : Int → Option β) (i : Int) (x : Option β) : Int → Option β := fun j => if j = i then x else f j
theorem upd_eq (f : Fn) (i : Int) (x : Option BA) : updG f i x = upd f i x := rfl
/-- block b is a map of just n entries, that holds f. -/
def MapAt (w : World) (b n : Nat) (f : Int → Option β) : Prop := ∃ D : DataW Unit, w.ownsMap Try.prog 3 (plainElem Try.prog e) b n D ∧ Go.Maps.size D = n ∧
  ∀ i, (Lit.int .i64 i).wf = true → Go.Maps.has D (.int .i64 i) = (f i).isSome ∧ ∀ x, f i = some x → ∀ z, D.atKey (.int .i64 i) z = E.dat x
variable {E} {w : World} {b n : Nat} {f : Int → Option β}
theorem MapAt.mod {S : Nat → Prop} {w' : World} (h : MapAt E w b n f) (hm : Mod S w w') (hs : ¬ S b) : MapAt E w' b n f := by
  obtain ⟨D, ⟨es, clock, hb, r⟩, hd⟩ := h
  exact ⟨D, ⟨es, clock, hm.heap hb hs, r⟩, hd⟩
theorem MapAt.below {w' : World} (h : MapAt E w b n f) (hb : Below w.heap.size w w') : MapAt E w' b n f := h.mod (S := fun _ => False) (Mod.of_below hb (Nat.le_refl _) _) (fun c => c)
theorem MapAt.blk (h : MapAt E w b n f) : ∃ es clock, w.heap[b]? = some (.map es clock) := by
  obtain ⟨D, ⟨es, clock, hb, r⟩, hd⟩ := h
  exact ⟨es, clock, hb⟩
theorem MapAt.lt (h : MapAt E w b n f) : b < w.heap.size := by
  obtain ⟨es, clock, hb⟩ := h.blk
  exact (Array.getElem?_eq_some_iff.1 hb).1
theorem map_made (E : El t e β) (w : World) : MapAt E (w.alloc (.map #[] 0)) w.heap.size 0 (fun _ => none) :=
  ⟨.map [], World.ownsMap_made w Try.prog 3 _, rfl, fun i hi => ⟨rfl, fun x h => by cases h⟩⟩
theorem MapAt.len (h : MapAt E w b n f) (ty : TypeId) : (Builtin.len_ #[t] ty #[.map (some b)]).run Try.prog w = .ok (.int .i64 n) w := by
  obtain ⟨D, hD, hs, -⟩ := h
  rw [hD.len E.und ty, hs]
theorem at_val {D : DataW Unit} {i : Int} (hw : (Lit.int .i64 i).wf = true) (h : ∀ i, (Lit.int .i64 i).wf = true → Go.Maps.has D (.int .i64 i) = (f i).isSome ∧ ∀ x, f i = some x → ∀ z, D.atKey (.int .i64 i) z = E.dat x) : D.atKey (.int .i64 i) (E.dat E.zero) = E.dat ((f i).getD E.zero) := by
  obtain ⟨h1, h2⟩ := h i hw
  cases hf : f i with
  | none => rw [hf] at h1; exact Go.Maps.atKey_of_not_has h1 _
  | some x => exact h2 x hf _
theorem MapAt.look (h : MapAt E w b n f) {i : Int} (hw : (Lit.int .i64 i).wf = true) : (Instr.lookup t (.map (some b)) (.int .i64 i) false).run Try.prog w = .ok (E.enc ((f i).getD E.zero)) w := by
  obtain ⟨D, hD, -, hf⟩ := h
  obtain ⟨v, ps, hrun, hv⟩ := hD.lookup keyed3 E.und (E.z w) (E.emb _ E.zok) (key3 hw)
  rw [at_val hw hf] at hv
  rw [hrun, E.inv _ _ _ hv]
theorem MapAt.look_ok (h : MapAt E w b n f) {i : Int} (hw : (Lit.int .i64 i).wf = true) : (Instr.lookup t (.map (some b)) (.int .i64 i) true).run Try.prog w = .ok (.tuple #[E.enc ((f i).getD E.zero), .bool (f i).isSome]) w := by
  obtain ⟨D, hD, -, hf⟩ := h
  obtain ⟨v, ps, hrun, hv⟩ := hD.look_ok keyed3 E.und (E.z w) (E.emb _ E.zok) (key3 hw)
  rw [at_val hw hf] at hv
  rw [hrun, E.inv _ _ _ hv, (hf i hw).1]
theorem MapAt.put (h : MapAt E w b n f) {i : Int} (hw : (Lit.int .i64 i).wf = true) {x : β} (hx : E.ok x) (hn : n < maxLen) :
    ∃ w', (Instr.mapUpdate t (.map (some b)) (.int .i64 i) (E.enc x)).run Try.prog w = .ok () w' ∧ MapAt E w' b (if (f i).isSome then n else n + 1) (updG f i (some x)) ∧ w.mapTurned w' b := by
  obtain ⟨D, hD, hs, hf⟩ := h
  obtain ⟨w', hrun, h1, h2⟩ := hD.store keyed3 E.und hn (key3 hw) (E.emb _ hx)
  have hT := hD.tidy keyed3
  have hsz := Go.Maps.size_put (k := .int .i64 i) hT (E.dat x)
  rw [(hf i hw).1, hs] at hsz
  obtain ⟨es, clock, hb, F, -, hD2⟩ := h1
  refine ⟨w', hrun, ⟨_, ⟨es, clock, hb, F, ?_, hD2⟩, hsz, fun j hj => ?_⟩, h2⟩
  · rw [← hsz, hD2]; simp [Go.Maps.size, length_sorted]
  · by_cases e' : j = i
    · subst e'
      refine ⟨by rw [Go.Maps.has_put_same hT.isMap (keyed3.key (key3 hw))]; simp [updG], fun y hy z => ?_⟩
      rw [Go.Maps.atKey_put_same hT.isMap (keyed3.key (key3 hw))]
      simp [updG] at hy
      rw [hy]
    · have hne : Lit.int .i64 j ≠ Lit.int .i64 i := fun h => e' (by simpa using h)
      refine ⟨by rw [Go.Maps.has_put_other hne, (hf j hj).1]; simp [updG, e'], fun y hy z => ?_⟩
      rw [Go.Maps.atKey_put_other hne]
      exact (hf j hj).2 y (by simpa [updG, e'] using hy) z
theorem MapAt.del (h : MapAt E w b n f) {i : Int} (hw : (Lit.int .i64 i).wf = true) (ty : TypeId) :
    ∃ w', (Builtin.delete_ #[t, 3] ty #[.map (some b), .int .i64 i]).run Try.prog w = .ok (.tuple #[]) w' ∧ MapAt E w' b (if (f i).isSome then n - 1 else n) (updG f i none) ∧ w.mapTurned w' b := by
  obtain ⟨D, hD, hs, hf⟩ := h
  obtain ⟨w', hrun, h1, h2⟩ := hD.drop keyed3 E.und (key3 hw) ty
  have hT := hD.tidy keyed3
  have hsz := Go.Maps.size_del (k := .int .i64 i) hT
  rw [(hf i hw).1, hs] at hsz
  have hsz2 : Go.Maps.size (D.del (.int .i64 i)) = if (f i).isSome then n - 1 else n := by split at hsz <;> simp_all <;> omega
  obtain ⟨es, clock, hb, F, -, hD2⟩ := h1
  refine ⟨w', hrun, ⟨_, ⟨es, clock, hb, F, ?_, hD2⟩, hsz2, fun j hj => ?_⟩, h2⟩
  · rw [← hsz2, hD2]; simp [Go.Maps.size, length_sorted]
  · by_cases e' : j = i
    · subst e'
      refine ⟨by rw [Go.Maps.has_del_same]; simp [updG], fun y hy z => ?_⟩
      simp [updG] at hy
    · have hne : Lit.int .i64 j ≠ Lit.int .i64 i := fun h => e' (by simpa using h)
      refine ⟨by rw [Go.Maps.has_del_other hne, (hf j hj).1]; simp [updG, e'], fun y hy z => ?_⟩
      rw [Go.Maps.atKey_del_other hne]
      exact (hf j hj).2 y (by simpa [updG, e'] using hy) z
end
end Go.Proofs.Ytcgkdomfbkkboaa
