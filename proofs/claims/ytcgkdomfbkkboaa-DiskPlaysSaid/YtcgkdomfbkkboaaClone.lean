/- A map is cloned; a row is cloned. -/
import Derived.Test.YtcgkdomfbkkboaaBoth
import Derived.Shelf.SlMaps.Clone
import Derived.Lib.SliceRun
namespace Go.Proofs.Ytcgkdomfbkkboaa
open Go.RowKit Go.Joins Go.ChangeMaps

theorem mapAt_copy {β : Type} {t e : TypeId} {E : El t e β} {w : World} {b n : Nat} {f : Int → Option β} (h : MapAt E w b n f) : ∃ es clock, w.heap[b]? = some (.map es clock) ∧ MapAt E (w.alloc (.map es clock)) w.heap.size n f := by
  obtain ⟨D, ⟨es, clock, hb, F, hs, hD⟩, hd⟩ := h
  exact ⟨es, clock, hb, D, ⟨es, clock, heap_alloc_new w _, F, hs, hD⟩, hd⟩
set_option maxHeartbeats 2000000 in
set_option maxRecDepth 100000 in
theorem mclone_any (b n : Nat) (f : Fn) (w : World) (h : MapAt ES w b n f) : Calls Try.prog 40 #[.map (some b)] w (fun e w' => e = .returned (.map (some w.heap.size)) ∧ MapAt ES w' w.heap.size n f ∧ Below w.heap.size w w') := by
  obtain ⟨es, clock, hb, hM⟩ := mapAt_copy h
  have HM := Lib.hid hM
  have hq := eql58 b w
  clear h hM
  go_enter Try.func40, Try.ntmps40
  go_wp2
  rw [run_callFunc_extern Try.func51 (by kernel_rfl) (by kernel_rfl) (by kernel_rfl) (e := Extern.MapsClone.clone) (by kernel_rfl), run_maps_clone_sl w 58 hb]
  simp only [Result.andThen]
  rw [Oper.upon_value]
  go_wp2
  rw [run_typeAssert_map_sl _ 58 20 _ _ _ Try.underlying58]
  simp only [Result.andThen]
  rw [Oper.upon_value]
  go_wp2
  go_ret
  exact ⟨rfl, HM.out, bel1 _ _⟩
def OwnPostB (xs : List Bf) (w : World) (e : Ending) (w' : World) : Prop := ∃ v, e = .returned v ∧ OwnB w' w.heap.size v xs ∧ Below w.heap.size w w'
set_option maxHeartbeats 2000000 in
set_option maxRecDepth 100000 in
theorem sclone_any (a : Option Addr) (cap : Nat) (xs : List Bf) (w : World) (h : Sli encB 3 w a cap xs) (hn : xs.length ≤ 1000000) : Calls Try.prog 41 #[.slice a xs.length cap] w (OwnPostB xs w) := by
  have qT : ∀ (w : World) (a : Option Addr) (n c : Nat), (binOp .eql 59 (.slice a n c) (.slice none 0 0)).run Try.prog w = .ok (.bool a.isNone) w := fun w a n c => Lib.run_eql_slice_nil w 59 70 a n c 0 0 Try.underlying59
  cases a with
  | none =>
    obtain ⟨rfl, rfl⟩ := h.empty
    go_enter Try.func41, Try.ntmps41
    go_wp2
    go_ret
    exact ⟨_, rfl, ownL_nil _ _, Below.refl _ _⟩
  | some ad =>
    have HS := Lib.hid h
    clear h
    have hown0 : Hid (OwnB (w.alloc (.cells #[] 70)) w.heap.size (.slice (some ⟨w.heap.size, 0, none⟩) 0 0) []) := World.ownsRow_made w #[] 0 (Nat.le_refl _) (Nat.zero_le _) rfl
    have hE1 : Hid (Lst encB 3 (w.alloc (.cells #[] 70)) (some ad) xs) := HS.out.lst.below (bel1 _ _)
    go_enter Try.func41, Try.ntmps41
    go_wp2_with (at_builtin; refine wpList_app (v := .slice (some ⟨w.heap.size, 0, none⟩) 0 0) (base := w.heap.size) EB TB rfl _ _ rfl rfl hown0.out (some ad) xs.length cap xs rfl rfl hE1.out HS.out.nil0 (by simp; omega) (by simp; unfold maxLen; omega) (by simp) ?_; intro v' w' ho hgr hat; have HO := Lib.hid ho; have HG := Lib.hid hgr; clear ho hgr hat)
    go_ret
    exact ⟨_, rfl, HO.out, ((Below.refl _ w).alloc (Nat.le_refl _) _).grown HG.out (by simp) (fun j hj => (World.ownsRow.lt hown0.out j hj).1)⟩
end Go.Proofs.Ytcgkdomfbkkboaa
