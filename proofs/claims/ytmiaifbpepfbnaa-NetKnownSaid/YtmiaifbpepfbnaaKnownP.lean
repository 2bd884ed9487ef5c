/- The chapter's examples: the states on the way. -/
import Derived.Test.YtmiaifbpepfbnaaNil
import Derived.Test.YtmiaifbpepfbnaaRelLast
import Derived.Laws.BytesArg
import Derived.Laws.MakeOwn
namespace Go.Proofs.Ytmiaifbpepfbnaa
open Go.RowKit Go.Joins Go.ChangeMaps

/-! ### 8193 noughts -/
theorem info5 : ∃ i, Try.prog.info? 5 = some i ∧ i.zero = some (.int .u8 0) ∧ i.size = 1 ∧ i.bytes = 1 := ⟨_, rfl, rfl, rfl, rfl⟩
def Noughts (v : Value) (W : World) : Prop := ∃ b, v = .slice (some ⟨b, 0, none⟩) 8193 8193 ∧ ∀ i, i < 8193 → W.cell? ⟨b, i, none⟩ = some (.int .u8 0)
theorem Noughts.below {v : Value} {W W' : World} (h : Noughts v W) (hb : Below W.heap.size W W') : Noughts v W' := by
  obtain ⟨b, e, hc⟩ := h
  exact ⟨b, e, fun i hi => keepc' (hc i hi) hb⟩
theorem made_get (n i : Nat) (h : i < n) : (madeCells (Value.int IntKind.u8 0).cells (n * 1))[i]? = some (.int .u8 0) := by
  simp [madeCells, h, Value.cells, Nat.mod_one]
theorem made_noughts (W : World) : ∃ v W', (Instr.makeSlice 29 (.int .i64 8193) (.int .i64 8193)).run Try.prog W = .ok v W' ∧ Below W.heap.size W W' ∧ Noughts v W' := by
  obtain ⟨i, h1, h2, h3, h4⟩ := info5
  have h := run_makeSlice (P := Try.prog) (w := W) 29 5 i _ Try.underlying29 h1 h2 .i64 .i64 8193 8193 (by omega) (by omega) (by rw [h3]; decide) (by rw [h4]; omega) (by omega)
  rw [h3] at h
  exact ⟨_, _, h, bel1 W _, _, rfl, fun j hj => (World.cell?_alloc_at _ _ _ _ rfl).trans (made_get 8193 j hj)⟩
theorem conv_n (n b : Nat) (W : World) (hc : ∀ i, i < n → W.cell? ⟨b, i, none⟩ = some (.int .u8 0)) : ∃ z : ByteArray, (convert 29 9 (.slice (some ⟨b, 0, none⟩) n n)).run Try.prog W = .ok (.string z) W ∧ z.size = n := by
  refine ⟨_, run_convert_bytes_arg (P := Try.prog) W 29 5 Try.underlying29 (by kernel_rfl) b 0 n n (List.replicate n 0) (by simp) (fun i hi => ?_) 9 (by kernel_rfl), by rw [strOfNums_size]; simp⟩
  rw [Nat.zero_add, hc i hi]
  simp [List.getD_eq_getElem?_getD, hi]
theorem conv_noughts {v : Value} {W : World} (h : Noughts v W) : ∃ z : ByteArray, (convert 29 9 v).run Try.prog W = .ok (.string z) W ∧ z.size = 8193 := by
  obtain ⟨b, rfl, hc⟩ := h
  exact conv_n 8193 b W hc

/-! ### What is sent first -/
def L7 (z : ByteArray) : List Fr := [fa, fb, (0, 0, ⟨#[99]⟩), (0, 3, ⟨#[100]⟩), (2, 0, ⟨#[]⟩), (-1, 0, ⟨#[101]⟩), (0, 1, z)]
theorem send7 {z : ByteArray} (hz : z.size = 8193) : sendS (newS 3) (L7 z) = wk1 := by
  have h : sendS (newS 3) (L7 z) = send1 wk1 (0, 1, z) := rfl
  rw [h]
  simp [send1, okF, hz]
def RK (p n : Nat) : Nat → Value → World → Prop
  | 0, v, _ => v = .pointer (some ⟨p, 0, none⟩)
  | 1, v, _ => v = frV fa
  | 2, v, _ => v = frV fb
  | 3, v, _ => v = frV (0, 0, ⟨#[99]⟩)
  | 4, v, _ => v = frV (0, 3, ⟨#[100]⟩)
  | 5, v, _ => v = frV (2, 0, ⟨#[]⟩)
  | 6, v, _ => v = frV (-1, 0, ⟨#[101]⟩)
  | 7, v, W => Noughts v W
  | 8, v, _ => ∃ z : ByteArray, v = .string z ∧ z.size = 8193
  | 9, v, _ => ∃ z : ByteArray, v = frV (0, 1, z) ∧ z.size = 8193
  | 10, v, W => ∃ (z : ByteArray) (b : Nat), v = .slice (some ⟨b, 0, none⟩) 7 7 ∧ z.size = 8193 ∧ n ≤ b ∧ b < W.heap.size ∧ Sli encF 3 W (some ⟨b, 0, none⟩) 7 (L7 z)
  | _, _, _ => True
theorem RK_keep (p n : Nat) : ∀ i v W W', RK p n i v W → Below W.heap.size W W' → RK p n i v W' := by
  intro i v W W' h hb
  unfold RK at h ⊢
  split at h <;> first | exact h | exact h.below hb | skip
  obtain ⟨z, b, e, h1, h2, h3, h4⟩ := h
  exact ⟨z, b, e, h1, h2, Nat.lt_of_lt_of_le h3 hb.size, h4.below hb⟩

/-! ### The states -/
def k1 : St := (cutS wk1 1 0).1
def k2 : St := (takeS k1 0).1
def k3 : St := (joinS k2 0 1).1
def k4 : St := (takeS k3 0).1
def k5 : St := sendS k4 [fa, (2, 1, ⟨#[98]⟩)]
def k6 : St := (cutS k5 0 1).1
def k7 : St := (cutS k6 2 1).1
def k8 : St := healS k7
def k9 : St := (takeS k8 1).1
def k10 : St := (dropS k9 0).1
theorem gk1 : Good k1 := good_cut good1 1 0
theorem gk2 : Good k2 := good_take gk1 0
theorem gk3 : Good k3 := good_join gk2 0 1
theorem gk4 : Good k4 := good_take gk3 0
theorem gk5 : Good k5 := (good_send _ gk4).1
theorem gk6 : Good k6 := good_cut gk5 0 1
theorem gk7 : Good k7 := good_cut gk6 2 1
theorem gk8 : Good k8 := good_heal gk7
theorem gk9 : Good k9 := good_take gk8 1
variable {w0 w : World} {F : Nat → Prop} {p bm : Nat}
def nofV : Value := .agg #[.int .i64 0, .int .i64 0, .string ⟨#[]⟩]
theorem c_sent (h : NE w0 w F p bm wk1) : Calls Try.prog 22 #[.pointer (some ⟨p, 0, none⟩)] w (RetV (.tuple #[.int .i64 2, .int .i64 2]) w) := n_sent h
theorem c_len1 (h : NE w0 w F p bm wk1) : Calls Try.prog 13 #[.pointer (some ⟨p, 0, none⟩)] w (SameI 2 w) := n_len h
theorem c_cut1 (h : NE w0 w F p bm wk1) : Calls Try.prog 16 #[.pointer (some ⟨p, 0, none⟩), .int .i64 1, .int .i64 0] w (RB true (Stp w0 w F p bm k1)) := n_cut h good1 (by decide)
theorem c_cut2 (h : NE w0 w F p bm k1) : Calls Try.prog 16 #[.pointer (some ⟨p, 0, none⟩), .int .i64 0, .int .i64 1] w (RB false (Stp w0 w F p bm k1)) := n_cut h gk1 (by decide)
theorem c_take1 (h : NE w0 w F p bm k1) : Calls Try.prog 17 #[.pointer (some ⟨p, 0, none⟩), .int .i64 0] w (RT (.tuple #[.agg #[.int .i64 0, .int .i64 0, .string ⟨#[]⟩], .bool false]) (Stp w0 w F p bm k2)) := n_take h gk1
theorem c_join1 (h : NE w0 w F p bm k2) : Calls Try.prog 19 #[.pointer (some ⟨p, 0, none⟩), .int .i64 0, .int .i64 1] w (RB true (Stp w0 w F p bm k3)) := n_join h gk2
theorem c_join2 (h : NE w0 w F p bm k3) : Calls Try.prog 19 #[.pointer (some ⟨p, 0, none⟩), .int .i64 0, .int .i64 1] w (RB false (Stp w0 w F p bm k3)) := n_join h gk3
theorem c_take2 (h : NE w0 w F p bm k3) : Calls Try.prog 17 #[.pointer (some ⟨p, 0, none⟩), .int .i64 0] w (RT (.tuple #[.agg #[.int .i64 1, .int .i64 2, .string ⟨#[98]⟩], .bool true]) (Stp w0 w F p bm k4)) := n_take h gk3
theorem c_take3 (h : NE w0 w F p bm k4) : Calls Try.prog 17 #[.pointer (some ⟨p, 0, none⟩), .int .i64 0] w (RT (.tuple #[.agg #[.int .i64 0, .int .i64 0, .string ⟨#[]⟩], .bool false]) (Stp w0 w F p bm k4)) := n_take h gk4
theorem c_len4 (h : NE w0 w F p bm k4) : Calls Try.prog 13 #[.pointer (some ⟨p, 0, none⟩)] w (SameI 0 w) := n_len h
theorem c_drop4 (h : NE w0 w F p bm k4) : Calls Try.prog 18 #[.pointer (some ⟨p, 0, none⟩), .int .i64 0] w (RetB false w) := drop_no h rfl
theorem c_drop4m (h : NE w0 w F p bm k4) : Calls Try.prog 18 #[.pointer (some ⟨p, 0, none⟩), .int .i64 (-1)] w (RetB false w) := drop_no h rfl
theorem c_twice4 (h : NE w0 w F p bm k4) : Calls Try.prog 11 #[.pointer (some ⟨p, 0, none⟩), .int .i64 0] w (RetB false w) := twice_no h rfl
theorem c_cut5 (h : NE w0 w F p bm k5) : Calls Try.prog 16 #[.pointer (some ⟨p, 0, none⟩), .int .i64 0, .int .i64 1] w (RB true (Stp w0 w F p bm k6)) := n_cut h gk5 (by decide)
theorem c_cut6 (h : NE w0 w F p bm k6) : Calls Try.prog 16 #[.pointer (some ⟨p, 0, none⟩), .int .i64 2, .int .i64 1] w (RB true (Stp w0 w F p bm k7)) := n_cut h gk6 (by decide)
theorem c_take8 (h : NE w0 w F p bm k8) : Calls Try.prog 17 #[.pointer (some ⟨p, 0, none⟩), .int .i64 1] w (RT (.tuple #[.agg #[.int .i64 2, .int .i64 1, .string ⟨#[98]⟩], .bool true]) (Stp w0 w F p bm k9)) := n_take h gk8
theorem c_cut9a (h : NE w0 w F p bm k9) : Calls Try.prog 16 #[.pointer (some ⟨p, 0, none⟩), .int .i64 1, .int .i64 1] w (RB false (Stp w0 w F p bm k9)) := n_cut h gk9 (by decide)
theorem c_cut9b (h : NE w0 w F p bm k9) : Calls Try.prog 16 #[.pointer (some ⟨p, 0, none⟩), .int .i64 0, .int .i64 3] w (RB false (Stp w0 w F p bm k9)) := n_cut h gk9 (by decide)
theorem c_cut9c (h : NE w0 w F p bm k9) : Calls Try.prog 16 #[.pointer (some ⟨p, 0, none⟩), .int .i64 (-1), .int .i64 0] w (RB false (Stp w0 w F p bm k9)) := n_cut h gk9 (by decide)
theorem c_join9 (h : NE w0 w F p bm k9) : Calls Try.prog 19 #[.pointer (some ⟨p, 0, none⟩), .int .i64 0, .int .i64 1] w (RB false (Stp w0 w F p bm k9)) := n_join h gk9
theorem c_drop9 (h : NE w0 w F p bm k9) : Calls Try.prog 18 #[.pointer (some ⟨p, 0, none⟩), .int .i64 0] w (RB true (Stp w0 w F p bm k10)) := n_drop h
theorem c_len10 (h : NE w0 w F p bm k10) : Calls Try.prog 13 #[.pointer (some ⟨p, 0, none⟩)] w (SameI 0 w) := n_len h
end Go.Proofs.Ytmiaifbpepfbnaa
