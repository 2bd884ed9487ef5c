/- Opening what came in, by the type's shape: of whatever program. 'Opens P t p': whatever value of type t reads as data, its cells are as p says. -/
import Derived.WalkKit
import Derived.ProofKit
import Derived.OpenShut
import Derived.ChangeOld
import Derived.Below
import Derived.Deep.Slices
namespace Go.Proofs.Ytcgkdomfbkkboaa
open Go.ChangeShapes Go.WideShapes Go.RowKit

def CellsP : Type := World → List Value → Prop

def Opens (P : Program) (t : TypeId) (p : CellsP) : Prop :=
  ∀ (H : Type) (enc : TypeId × Value → H) (w : World) (base : Nat) (spare : Nat → Bool) (held : Bool) (fuel : Nat) (cs : List Value) (x : DataW H × List MemPlace),
    DataW.trod enc P w base spare held fuel t cs = some x → (∀ q ∈ x.2, q.block < w.heap.size) → p w cs

/-- one integer of a kind. -/
def pInt (k : IntKind) : CellsP := fun _ cs => ∃ n, cs = [.int k n] ∧ (Lit.int k n).wf = true
def pBool : CellsP := fun _ cs => ∃ b, cs = [.bool b]
def pStr : CellsP := fun _ cs => ∃ s : ByteArray, cs = [.string s] ∧ s.size ≤ maxLen
/-- a slice, whose elements take so many cells and are as p says (all up to the length). -/
def pSlice (size : Nat) (p : CellsP) : CellsP := fun w cs =>
  ∃ a len cap, cs = [.slice a len cap] ∧ len ≤ cap ∧ cap ≤ maxLen ∧ (a = none → cap = 0) ∧
    ∀ i, i < len → ∃ b off, a = some ⟨b, off, none⟩ ∧ b < w.heap.size ∧ ∃ es : List Value, es.length = size ∧ (∀ j, j < size → w.cell? ⟨b, off + (i * size + j), none⟩ = es[j]?) ∧ p w es
/-- so many of one shape, one behind the other. -/
def pArray (n size : Nat) (p : CellsP) : CellsP := fun w cs => cs.length = n * size ∧ ∀ i, i < n → p w ((cs.drop (i * size)).take size)
/-- fields, each at its offset, of its size. -/
def pFields (total : Nat) (fs : List (Nat × Nat × CellsP)) : CellsP := fun w cs => cs.length = total ∧ ∀ f ∈ fs, f.2.2 w ((cs.drop f.1).take f.2.1)

theorem opens_int {P : Program} {t : TypeId} {k : IntKind} (ht : P.underlying t = some (.int k)) : Opens P t (pInt k) := by
  intro H enc w base spare held fuel cs x h _
  obtain ⟨n, hc, _, hw⟩ := DataW.trod_int ht h
  exact ⟨n, hc, hw⟩
theorem opens_bool {P : Program} {t : TypeId} (ht : P.underlying t = some .bool) : Opens P t pBool := by
  intro H enc w base spare held fuel cs x h _
  obtain ⟨b, hc, _⟩ := DataW.trod_bool ht h
  exact ⟨b, hc⟩
theorem opens_str {P : Program} {t : TypeId} (ht : P.underlying t = some .string) : Opens P t pStr := by
  intro H enc w base spare held fuel cs x h _
  obtain ⟨s, hc, _, hs⟩ := DataW.trod_string ht h
  exact ⟨s, hc, hs⟩

theorem row_mem {a : Addr} {n i : Nat} (h : i < n) : ∃ q ∈ MemPlace.row a n, q.block = a.block := by
  unfold MemPlace.row
  cases n with
  | zero => omega
  | succ n => exact ⟨_, List.mem_map.2 ⟨0, by simp, rfl⟩, by simp [MemPlace.block]⟩

theorem opens_slice {P : Program} {t e : TypeId} {size : Nat} {p : CellsP} (ht : P.underlying t = some (.slice e)) (hsz : P.cellsOf e = size) (hpos : 0 < size) (he : Opens P e p) : Opens P t (pSlice size p) := by
  intro H enc w base spare held fuel cs x h hx
  rcases DataW.trod_slice ht h with ⟨rfl, _⟩ | ⟨a, len, cap, elems, rest, n, _, rfl, rfl, hb, hl, hm, hlen, hel, _, _⟩
  · exact ⟨none, 0, 0, rfl, Nat.le_refl _, Nat.zero_le _, fun _ => rfl, fun i hi => absurd hi (Nat.not_lt_zero _)⟩
  · refine ⟨some a, len, cap, rfl, hl, hm, by simp, fun i hi => ?_⟩
    have hk := hel i hi
    rw [hsz] at hk
    have hi' : i < elems.length := by omega
    rw [List.getElem?_eq_getElem hi'] at hk
    obtain ⟨es, h1, h2⟩ := Option.bind_eq_some_iff.1 hk
    obtain ⟨_, hesl, hcell⟩ := World.cells?_some h1
    have hsp : a.spot = none := by
      have hk0 := hel 0 (by omega)
      rw [hsz, List.getElem?_eq_getElem (show 0 < elems.length by omega)] at hk0
      obtain ⟨es0, h10, _⟩ := Option.bind_eq_some_iff.1 hk0
      obtain ⟨_, hesl0, hcell0⟩ := World.cells?_some h10
      have h0 := hcell0 0 hpos
      rw [show (a.add (0 * size)).add 0 = a by simp [Addr.add]] at h0
      have hsome : ∃ v, w.cell? a = some v := ⟨es0[0]'(by omega), by rw [h0]; simp⟩
      obtain ⟨v, hv⟩ := hsome
      exact World.cell?_spot hv
    obtain ⟨b, off, sp⟩ := a
    simp only at hsp
    subst hsp
    refine ⟨b, off, rfl, ?_, es, hesl, fun j hj => ?_, ?_⟩
    · obtain ⟨q, hq, hqb⟩ := row_mem (a := ⟨b, off, none⟩) (n := (elems.length + rest.length) * P.cellsOf e) (i := 0) (by rw [hsz]; exact Nat.mul_pos (by omega) hpos)
      have := hx q (List.mem_append_left _ hq)
      rw [hqb] at this
      exact this
    · have := hcell j hj
      rw [add_plain, add_plain, Nat.add_assoc] at this
      exact this
    · refine he H enc w base spare held n es _ h2 (fun q hq => hx q (List.mem_append_right _ ?_))
      exact List.mem_flatMap.2 ⟨elems[i], List.mem_append_left _ (List.getElem_mem hi'), hq⟩

theorem opens_array {P : Program} {t e : TypeId} {n size : Nat} {p : CellsP} (ht : P.underlying t = some (.array n e)) (hsz : P.cellsOf e = size) (htot : P.cellsOf t = n * size) (he : Opens P e p) : Opens P t (pArray n size p) := by
  intro H enc w base spare held fuel cs x h hx
  obtain ⟨xs, m, _, rfl, hl, hxs, hel⟩ := DataW.trod_array ht h
  refine ⟨by rw [hl, htot], fun i hi => ?_⟩
  have hk := hel i hi
  rw [hsz, List.getElem?_eq_getElem (by omega)] at hk
  exact he H enc w base spare held m _ _ hk (fun q hq => hx q (List.mem_flatMap.2 ⟨xs[i], List.getElem_mem _, hq⟩))

theorem opens_struct {P : Program} {t : TypeId} {fs : Array Field} {total : Nat} {ps : List (Nat × Nat × CellsP)} (ht : P.underlying t = some (.struct fs)) (htot : P.cellsOf t = total)
    (hfs : ∀ q ∈ ps, ∃ (i : Nat) (f : Field), fs[i]? = some f ∧ f.offset = q.1 ∧ P.cellsOf f.type = q.2.1 ∧ Opens P f.type q.2.2) : Opens P t (pFields total ps) := by
  intro H enc w base spare held fuel cs x h hx
  obtain ⟨xs, m, _, rfl, hl, hxs, hel⟩ := DataW.trod_struct ht h
  refine ⟨by rw [hl, htot], fun q hq => ?_⟩
  obtain ⟨i, f, hf, ho, hc, hop⟩ := hfs q hq
  have hk := hel i f hf
  have hi : i < fs.size := (Array.getElem?_eq_some_iff.1 hf).1
  rw [List.getElem?_eq_getElem (by omega), ho, hc] at hk
  exact hop H enc w base spare held m _ _ hk (fun q' hq' => hx q' (List.mem_flatMap.2 ⟨xs[i], List.getElem_mem _, hq'⟩))

/-- An argument that is a struct or an array by value is its cells. -/
theorem agg_form {P : Program} {w : World} {r : Reach} {base : Nat} {t : TypeId} {v : Value} (ht : (∃ fs, P.underlying t = some (.struct fs)) ∨ ∃ n e, P.underlying t = some (.array n e)) (h : Value.okWide P w r base t v) : ∃ cs : List Value, v = .agg cs.toArray := by
  rcases ht with ⟨fs, ht⟩ | ⟨n, e, ht⟩
  all_goals
    unfold Value.okWide at h
    rw [ht] at h
    obtain ⟨cs, rfl, _⟩ := h
    exact ⟨cs.toList, by simp⟩

theorem opened {H : Type} {enc : TypeId × Value → H} {P : Program} {w : World} {base : Nat} {spare : Nat → Bool} {held : Bool} {t : TypeId} {v : Value} {d : DataW H} {ps : List MemPlace} {p : CellsP}
    (ho : Opens P t p) (hd : DataW.Trod enc P w base spare held t v d ps) : p w v.cells.toList := by
  obtain ⟨fuel, hf⟩ := hd
  exact ho H enc w base spare held fuel _ _ hf (DataW.trod_lt fuel _ _ _ hf)

/-- a list of integers, as an array of them holds it. -/
theorem ints_of_array {k : IntKind} {n : Nat} {w : World} {cs : List Value} (h : pArray n 1 (pInt k) w cs) : ∃ zs : List Int, cs = zs.map (Value.int k) ∧ zs.length = n ∧ ∀ z ∈ zs, (Lit.int k z).wf = true := by
  obtain ⟨hl, he⟩ := h
  simp only [Nat.mul_one] at hl
  induction n generalizing cs with
  | zero => exact ⟨[], by simpa using hl, rfl, by simp⟩
  | succ n ih =>
    cases cs with
    | nil => simp at hl
    | cons c cs =>
      obtain ⟨z, hz, hw⟩ := he 0 (by omega)
      simp only [Nat.zero_mul, List.drop_zero, List.take_succ_cons, List.take_zero, List.cons.injEq, and_true] at hz
      obtain ⟨zs, h1, h2, h3⟩ := ih (cs := cs) (fun i hi => by
        have := he (i + 1) (by omega)
        simpa using this) (by simpa using hl)
      refine ⟨z :: zs, by rw [hz, h1]; rfl, by simp [h2], fun y hy => ?_⟩
      rcases List.mem_cons.1 hy with rfl | hy
      · exact hw
      · exact h3 y hy

/-- a list of integers, as a slice that came in holds it: its elements. -/
theorem ints_of_slice {k : IntKind} {w : World} {cs : List Value} (h : pSlice 1 (pInt k) w cs) : ∃ a len cap, ∃ xs : List Int, cs = [.slice a len cap] ∧ xs.length = len ∧ len ≤ cap ∧ cap ≤ maxLen ∧ (a = none → cap = 0) ∧
    (∀ i, i < xs.length → ∃ b off, a = some ⟨b, off, none⟩ ∧ w.cell? ⟨b, off + i, none⟩ = some (.int k (xs.getD i 0))) ∧ (∀ x ∈ xs, (Lit.int k x).wf = true) ∧ (∀ b off, a = some ⟨b, off, none⟩ → xs ≠ [] → b < w.heap.size) := by
  obtain ⟨a, len, cap, rfl, hl, hm, hn, he⟩ := h
  have key : ∀ m, m ≤ len → ∃ xs : List Int, xs.length = m ∧ (∀ i, i < xs.length → ∃ b off, a = some ⟨b, off, none⟩ ∧ w.cell? ⟨b, off + i, none⟩ = some (.int k (xs.getD i 0))) ∧ (∀ x ∈ xs, (Lit.int k x).wf = true) := by
    intro m
    induction m with
    | zero => intro _; exact ⟨[], rfl, fun i hi => absurd hi (Nat.not_lt_zero _), by simp⟩
    | succ m ih =>
      intro hm
      obtain ⟨xs, h1, h2, h3⟩ := ih (by omega)
      obtain ⟨b, off, ha, hb, es, hes, hc, n, rfl, hw⟩ := he m (by omega)
      refine ⟨xs ++ [n], by simp [h1], fun i hi => ?_, fun x hx => ?_⟩
      · by_cases c : i < xs.length
        · obtain ⟨b', off', e1, e2⟩ := h2 i c
          exact ⟨b', off', e1, by rw [e2]; simp [List.getD, List.getElem?_append_left c]⟩
        · obtain rfl : i = m := by simp at hi; omega
          refine ⟨b, off, ha, ?_⟩
          have := hc 0 (by omega)
          simp only [Nat.mul_one, Nat.add_zero] at this
          rw [this, ← h1]
          simp
      · rcases List.mem_append.1 hx with h | h
        · exact h3 x h
        · simp at h; subst h; exact hw
  obtain ⟨xs, h1, h2, h3⟩ := key len (Nat.le_refl _)
  refine ⟨a, len, cap, xs, rfl, h1, hl, hm, hn, h2, h3, fun b off ha hne => ?_⟩
  have hpos : 0 < len := by
    cases xs with
    | nil => exact absurd rfl hne
    | cons => simp at h1; omega
  obtain ⟨b', off', ha', hb', _⟩ := he 0 hpos
  rw [ha] at ha'
  simp at ha'
  obtain ⟨rfl, rfl⟩ := ha'
  exact hb'

/-- a slice that came in, as a list of what its elements are. -/
theorem list_of_slice {α : Type} [Inhabited α] {size : Nat} {p : CellsP} {w : World} {cs : List Value} (enc : α → List Value) (ok : α → Prop) (hp : ∀ es, p w es → ∃ x : α, es = enc x ∧ ok x) (h : pSlice size p w cs) :
    ∃ a len cap, ∃ l : List α, cs = [.slice a len cap] ∧ l.length = len ∧ len ≤ cap ∧ cap ≤ maxLen ∧ (a = none → cap = 0) ∧
      (∀ i, i < l.length → ∃ b off, a = some ⟨b, off, none⟩ ∧ b < w.heap.size ∧ ∀ j, j < size → w.cell? ⟨b, off + (i * size + j), none⟩ = (enc (l.getD i default))[j]?) ∧ ∀ x ∈ l, ok x := by
  obtain ⟨a, len, cap, rfl, hl, hm, hn, he⟩ := h
  obtain ⟨f, hf⟩ := Go.Deep.choose_lt (n := len) (p := fun i (x : α) => ∃ b off, a = some ⟨b, off, none⟩ ∧ b < w.heap.size ∧ (∀ j, j < size → w.cell? ⟨b, off + (i * size + j), none⟩ = (enc x)[j]?) ∧ ok x) (fun i hi => by
    obtain ⟨b, off, ha, hb, es, _, hc, hpe⟩ := he i hi
    obtain ⟨x, rfl, hx⟩ := hp es hpe
    exact ⟨x, b, off, ha, hb, hc, hx⟩)
  refine ⟨a, len, cap, (List.range len).map f, rfl, by simp, hl, hm, hn, fun i hi => ?_, fun x hx => ?_⟩
  · have hi' : i < len := by simpa using hi
    obtain ⟨b, off, ha, hb, hc, _⟩ := hf i hi'
    refine ⟨b, off, ha, hb, fun j hj => ?_⟩
    rw [hc j hj]
    simp [List.getD, hi']
  · obtain ⟨i, hi, rfl⟩ := List.mem_map.1 hx
    exact (hf i (List.mem_range.1 hi)).choose_spec.choose_spec.2.2.2

theorem list2 {α : Type} {l : List α} (h : l.length = 2) : ∃ a b, l = [a, b] := by
  match l, h with
  | [a, b], _ => exact ⟨a, b, rfl⟩
theorem list3 {α : Type} {l : List α} (h : l.length = 3) : ∃ a b c, l = [a, b, c] := by
  match l, h with
  | [a, b, c], _ => exact ⟨a, b, c, rfl⟩
theorem list4 {α : Type} {l : List α} (h : l.length = 4) : ∃ a b c d, l = [a, b, c, d] := by
  match l, h with
  | [a, b, c, d], _ => exact ⟨a, b, c, d, rfl⟩
end Go.Proofs.Ytcgkdomfbkkboaa
