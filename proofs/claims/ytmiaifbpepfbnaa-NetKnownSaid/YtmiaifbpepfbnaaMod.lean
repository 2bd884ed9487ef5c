/- The plain model of a net; frames, nets and references in memory. -/
import Derived.Test.YtmiaifbpepfbnaaElem
import Derived.Test.YtmiaifbpepfbnaaProg
import Derived.Maps.OwnOps
import Derived.Maps.OwnSet
import Derived.DeepKeys4
namespace Go.Proofs.Ytmiaifbpepfbnaa
open Go.RowKit Go.Joins Go.ChangeMaps

/-! ### The plain model -/
abbrev Fr := Int × Int × ByteArray
abbrev Pr := Int × Int
structure St where
  nodes : Int
  fl : List Fr
  cuts : List Pr
  fr : Int
  bt : Int
  cnt : Nat
def twoB (n a b : Int) : Bool := decide (a ≠ b) && decide (0 ≤ min a b) && decide (max a b < n)
def okF (n : Int) (len : Nat) (f : Fr) : Bool := twoB n f.1 f.2.1 && decide (0 < f.2.2.size) && decide (f.2.2.size ≤ 8192) && decide (len < 400)
def send1 (s : St) (f : Fr) : St := if okF s.nodes s.fl.length f = true then { s with fl := s.fl ++ [f], fr := s.fr + 1, bt := s.bt + f.2.2.size } else s
def sendS (s : St) (l : List Fr) : St := l.foldl send1 s
def lk (a b : Int) : Pr := (min a b, max a b)
def cutB (s : St) (a b : Int) : Bool := decide (lk a b ∈ s.cuts)
def inB (s : St) (k : Int) : Bool := decide (0 ≤ k) && decide (k < s.fl.length)
def nof : Fr := (0, 0, ⟨#[]⟩)
def leaveS (s : St) (k : Nat) : St := { s with fl := s.fl.eraseIdx k }
def takeS (s : St) (k : Int) : St × Fr × Bool :=
  if inB s k = true then let f := s.fl.getD k.toNat default; (leaveS s k.toNat, if cutB s f.1 f.2.1 = true then (nof, false) else (f, true)) else (s, nof, false)
def dropS (s : St) (k : Int) : St × Bool := if inB s k = true then (leaveS s k.toNat, true) else (s, false)
def twiceS (s : St) (k : Int) : St × Bool := if inB s k = true ∧ s.fl.length < 800 then ({ s with fl := s.fl ++ [s.fl.getD k.toNat default] }, true) else (s, false)
def cutS (s : St) (a b : Int) : St × Bool := if twoB s.nodes a b = true ∧ cutB s a b = false then ({ s with cuts := s.cuts ++ [lk a b], cnt := s.cnt + 1 }, true) else (s, false)
def joinS (s : St) (a b : Int) : St × Bool := if cutB s a b = true then ({ s with cuts := s.cuts.erase (lk a b) }, true) else (s, false)
def healS (s : St) : St := { s with cuts := [] }
/-- what holds of every net. -/
structure Good (s : St) : Prop where
  n6 : 1 ≤ s.nodes ∧ s.nodes ≤ 6
  fl : ∀ f ∈ s.fl, twoB s.nodes f.1 f.2.1 = true ∧ 0 < f.2.2.size ∧ f.2.2.size ≤ 8192
  len : s.fl.length ≤ 800
  cuts : ∀ c ∈ s.cuts, 0 ≤ c.1 ∧ c.1 < c.2 ∧ c.2 < s.nodes
  nodup : s.cuts.Nodup
  frs : 0 ≤ s.fr ∧ 0 ≤ s.bt ∧ s.bt ≤ 8192 * s.fr
theorem twoB_spec {n a b : Int} : twoB n a b = true ↔ (a ≠ b ∧ 0 ≤ min a b ∧ max a b < n) := by simp [twoB, and_assoc]
theorem lk_range {n a b : Int} (h : twoB n a b = true) : 0 ≤ (lk a b).1 ∧ (lk a b).1 < (lk a b).2 ∧ (lk a b).2 < n := by
  rw [twoB_spec] at h
  obtain ⟨h1, h2, h3⟩ := h
  simp only [lk]
  omega
theorem twoB_of_lk {n a b : Int} (h : 0 ≤ (lk a b).1 ∧ (lk a b).1 < (lk a b).2 ∧ (lk a b).2 < n) : twoB n a b = true := by
  rw [twoB_spec]
  simp only [lk] at h
  omega
theorem good_send1 {s : St} (h : Good s) (f : Fr) : Good (send1 s f) ∧ (send1 s f).fr ≤ s.fr + 1 ∧ (send1 s f).nodes = s.nodes ∧ (send1 s f).cnt = s.cnt := by
  unfold send1
  split
  · rename_i hk
    simp [okF] at hk
    obtain ⟨⟨⟨h1, h2⟩, h3⟩, h4⟩ := hk
    refine ⟨⟨h.n6, ?_, by simp; omega, h.cuts, h.nodup, ?_⟩, by simp, rfl, rfl⟩
    · intro g hg
      rcases List.mem_append.1 hg with hg | hg
      · exact h.fl g hg
      · simp at hg; subst hg; exact ⟨h1, h2, h3⟩
    · have := h.frs
      simp
      omega
  · exact ⟨h, by omega, rfl, rfl⟩
theorem good_send : ∀ (l : List Fr) {s : St}, Good s → Good (sendS s l) ∧ (sendS s l).fr ≤ s.fr + l.length ∧ (sendS s l).nodes = s.nodes ∧ (sendS s l).cnt = s.cnt
  | [], s, h => ⟨h, by simp [sendS], rfl, rfl⟩
  | f :: l, s, h => by
    obtain ⟨h1, h2, h3, h4⟩ := good_send1 h f
    obtain ⟨k1, k2, k3, k4⟩ := good_send l h1
    refine ⟨k1, ?_, by rw [← h3]; exact k3, by rw [← h4]; exact k4⟩
    simp [sendS] at k2 ⊢
    omega
theorem good_leave {s : St} (h : Good s) (k : Nat) : Good (leaveS s k) :=
  ⟨h.n6, fun f hf => h.fl f (List.mem_of_mem_eraseIdx hf), Nat.le_trans (List.length_eraseIdx_le _ _) h.len, h.cuts, h.nodup, h.frs⟩
theorem good_take {s : St} (h : Good s) (k : Int) : Good (takeS s k).1 := by unfold takeS; split; exact good_leave h _; exact h
theorem good_drop {s : St} (h : Good s) (k : Int) : Good (dropS s k).1 := by unfold dropS; split; exact good_leave h _; exact h
theorem getD_mem {α : Type} [Inhabited α] {l : List α} {i : Nat} (h : i < l.length) : l.getD i default ∈ l := by
  rw [List.getD_eq_getElem?_getD, List.getElem?_eq_getElem h]; exact List.getElem_mem h
theorem good_twice {s : St} (h : Good s) (k : Int) : Good (twiceS s k).1 := by
  unfold twiceS
  split
  · rename_i hk
    simp [inB] at hk
    refine ⟨h.n6, ?_, by simp; omega, h.cuts, h.nodup, h.frs⟩
    intro g hg
    rcases List.mem_append.1 hg with hg | hg
    · exact h.fl g hg
    · simp at hg; subst hg
      exact h.fl _ (by
        have := getD_mem (l := s.fl) (i := k.toNat) (by omega)
        rwa [List.getD_eq_getElem?_getD] at this)
  · exact h
theorem good_cut {s : St} (h : Good s) (a b : Int) : Good (cutS s a b).1 := by
  unfold cutS
  split
  · rename_i hk
    obtain ⟨h1, h2⟩ := hk
    simp [cutB] at h2
    refine ⟨h.n6, h.fl, h.len, ?_, ?_, h.frs⟩
    · intro c hc
      rcases List.mem_append.1 hc with hc | hc
      · exact h.cuts c hc
      · simp at hc; subst hc; exact lk_range h1
    · exact List.nodup_append.2 ⟨h.nodup, by simp, fun x hx y hy => by simp at hy; subst hy; exact fun e => h2 (e ▸ hx)⟩
  · exact h
theorem good_join {s : St} (h : Good s) (a b : Int) : Good (joinS s a b).1 := by
  unfold joinS
  split
  · exact ⟨h.n6, h.fl, h.len, fun c hc => h.cuts c (List.mem_of_mem_erase hc), h.nodup.erase _, h.frs⟩
  · exact h
theorem good_heal {s : St} (h : Good s) : Good (healS s) := ⟨h.n6, h.fl, h.len, by simp [healS], by simp [healS], h.frs⟩

/-! ### Frames in memory -/
def encF (x : Fr) : List Value := [.int .i64 x.1, .int .i64 x.2.1, .string x.2.2]
def encP (x : Pr) : List Value := [.int .i64 x.1, .int .i64 x.2]
theorem EF : Enc encF 3 := ⟨fun _ => rfl, fun x u hu => by simp [encF] at hu; rcases hu with rfl | rfl | rfl <;> rfl, by omega⟩
theorem EP : Enc encP 2 := ⟨fun _ => rfl, fun x u hu => by simp [encP] at hu; rcases hu with rfl | rfl <;> rfl, by omega⟩
theorem TF : Tab Try.prog 25 31 3 32 := ⟨Try.underlying25, _, _, rfl, rfl, rfl, rfl, rfl⟩
theorem TP : Tab Try.prog 26 60 2 16 := ⟨Try.underlying26, _, _, rfl, rfl, rfl, rfl, rfl⟩
def frV (x : Fr) : Value := .agg #[.int .i64 x.1, .int .i64 x.2.1, .string x.2.2]
theorem fr_cells {w : World} {b o : Nat} {x : Fr} (h : CellsAt w b o (encF x)) : w.cell? ⟨b, o, none⟩ = some (.int .i64 x.1) ∧ w.cell? ⟨b, o + 1, none⟩ = some (.int .i64 x.2.1) ∧ w.cell? ⟨b, o + 1 + 1, none⟩ = some (.string x.2.2) :=
  ⟨h 0 _ rfl, h 1 _ rfl, h 2 _ rfl⟩
theorem pr_cells {w : World} {b o : Nat} {x : Pr} (h : CellsAt w b o (encP x)) : w.cell? ⟨b, o, none⟩ = some (.int .i64 x.1) ∧ w.cell? ⟨b, o + 1, none⟩ = some (.int .i64 x.2) := ⟨h 0 _ rfl, h 1 _ rfl⟩

/-! ### The keys of the map of cuts -/
theorem laidOut0 : laidOutB Try.prog = true := by kernel_rfl
theorem row60 : (60 : TypeId) < Try.prog.types.size := of_decide_eq_true (by kernel_rfl)
theorem wide60 : (match Try.prog.underlying 60 with | some (.array _ _) | some (.struct _) => true | _ => false) = true := by rw [Try.underlying60]
theorem keyed60 : Go.Maps.Keyed Try.prog 60 := Go.Maps.Keyed.of_law (deep_law_laid laidOut0 (m := 2) (by omega) row60 (by kernel_rfl) wide60)
def prV (c : Pr) : Value := .agg #[.int .i64 c.1, .int .i64 c.2]
theorem kl_some (c : Pr) (h : 0 ≤ c.1 ∧ c.1 < c.2 ∧ c.2 < 6) : ∃ l, keyOf Try.prog 60 (prV c) = some l := by
  obtain ⟨a, b⟩ := c
  obtain ⟨h1, h2, h3⟩ := h
  have ha : a = 0 ∨ a = 1 ∨ a = 2 ∨ a = 3 ∨ a = 4 := by simp at h1 h2 h3; omega
  have hb : b = 1 ∨ b = 2 ∨ b = 3 ∨ b = 4 ∨ b = 5 := by simp at h1 h2 h3; omega
  rcases ha with rfl | rfl | rfl | rfl | rfl <;> rcases hb with rfl | rfl | rfl | rfl | rfl <;> exact ⟨_, rfl⟩
end Go.Proofs.Ytmiaifbpepfbnaa
