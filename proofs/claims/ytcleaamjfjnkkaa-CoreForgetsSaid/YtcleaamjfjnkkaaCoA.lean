/- CoA: small texts laid together. -/
import Derived.Test.YtcleaamjfjnkkaaCo31
import Derived.Laws.Tables
/- Messages that came in, opened. -/
namespace Go.Proofs.Ytcleaamjfjnkkaa
open Go.RowKit
/-- one cell of whatever it is. -/
def pOne : CellsP := fun _ cs => ∃ v : Value, cs = [v] ∧ v.oneCell' = true
theorem opens_mono {P : Program} {t : TypeId} {p q : CellsP} (h : Opens P t p) (hpq : ∀ w cs, p w cs → q w cs) : Opens P t q := fun H enc w base spare held fuel cs x hx hlt => hpq w cs (h H enc w base spare held fuel cs x hx hlt)
theorem one_int {k : IntKind} (w : World) (cs : List Value) (h : pInt k w cs) : pOne w cs := by obtain ⟨n, rfl, -⟩ := h; exact ⟨_, rfl, rfl⟩
theorem one_bool (w : World) (cs : List Value) (h : pBool w cs) : pOne w cs := by obtain ⟨b, rfl⟩ := h; exact ⟨_, rfl, rfl⟩
theorem one_slice {s : Nat} {p : CellsP} (w : World) (cs : List Value) (h : pSlice s p w cs) : pOne w cs := by obtain ⟨a, l, c, rfl, -⟩ := h; exact ⟨_, rfl, rfl⟩
def pGid1 : CellsP := pFields 2 [(0, 1, pOne), (1, 1, pOne)]
def pLine1 : CellsP := pFields 4 [(0, 1, pOne), (1, 1, pOne), (2, 1, pOne), (3, 1, pOne)]
def pPart1 : CellsP := pFields 7 [(0, 2, pGid1), (2, 2, pGid1), (4, 1, pOne), (5, 1, pOne), (6, 1, pOne)]
def pMsg : CellsP := pFields 26 [(0, 1, pInt .i64), (1, 1, pInt .u64), (2, 1, pInt .i64), (3, 1, pInt .u64), (4, 1, pSlice 4 pEnt), (5, 1, pInt .i64), (6, 1, pBool), (7, 1, pInt .i64), (8, 1, pInt .i64), (9, 4, pLine1), (13, 1, pOne), (14, 2, pGid1), (16, 2, pGid1), (18, 1, pOne), (19, 7, pPart1)]
theorem o64 : Opens Try.prog 24 pOne := opens_mono (opens_int Try.underlying24) one_int
theorem oint : Opens Try.prog 3 pOne := opens_mono (opens_int Try.underlying3) one_int
theorem opensGid1 : Opens Try.prog 28 pGid1 := by
  refine opens_struct Try.underlying28 (by kernel_rfl) ?_
  intro q hq
  simp only [List.mem_cons, List.not_mem_nil, or_false] at hq
  rcases hq with rfl | rfl
  · exact ⟨0, _, rfl, rfl, by kernel_rfl, o64⟩
  · exact ⟨1, _, rfl, rfl, by kernel_rfl, o64⟩
theorem opensLine1 : Opens Try.prog 41 pLine1 := by
  refine opens_struct Try.underlying41 (by kernel_rfl) ?_
  intro q hq
  simp only [List.mem_cons, List.not_mem_nil, or_false] at hq
  rcases hq with rfl | rfl | rfl | rfl
  · exact ⟨0, _, rfl, rfl, by kernel_rfl, o64⟩
  · exact ⟨1, _, rfl, rfl, by kernel_rfl, oint⟩
  · exact ⟨2, _, rfl, rfl, by kernel_rfl, opens_mono (opens_bool Try.underlying4) one_bool⟩
  · exact ⟨3, _, rfl, rfl, by kernel_rfl, opens_mono (opens_slice (size := 2) Try.underlying39 (by kernel_rfl) (by decide) opensGid) one_slice⟩
theorem opensChg : Opens Try.prog 156 (pFields 2 []) := by
  refine opens_struct Try.underlying156 (by kernel_rfl) ?_
  intro q hq
  cases hq
theorem opensPart1 : Opens Try.prog 44 pPart1 := by
  refine opens_struct Try.underlying44 (by kernel_rfl) ?_
  intro q hq
  simp only [List.mem_cons, List.not_mem_nil, or_false] at hq
  rcases hq with rfl | rfl | rfl | rfl | rfl
  · exact ⟨0, _, rfl, rfl, by kernel_rfl, opensGid1⟩
  · exact ⟨1, _, rfl, rfl, by kernel_rfl, opensGid1⟩
  · exact ⟨2, _, rfl, rfl, by kernel_rfl, oint⟩
  · exact ⟨3, _, rfl, rfl, by kernel_rfl, oint⟩
  · exact ⟨4, _, rfl, rfl, by kernel_rfl, opens_mono (opens_slice (size := 2) Try.underlying42 (by kernel_rfl) (by decide) opensChg) one_slice⟩
theorem opensMsg : Opens Try.prog 46 pMsg := by
  refine opens_struct Try.underlying46 (by kernel_rfl) ?_
  intro q hq
  simp only [List.mem_cons, List.not_mem_nil, or_false] at hq
  rcases hq with rfl | rfl | rfl | rfl | rfl | rfl | rfl | rfl | rfl | rfl | rfl | rfl | rfl | rfl | rfl
  · exact ⟨0, _, rfl, rfl, by kernel_rfl, opens_int Try.underlying3⟩
  · exact ⟨1, _, rfl, rfl, by kernel_rfl, opens_int Try.underlying24⟩
  · exact ⟨2, _, rfl, rfl, by kernel_rfl, opens_int Try.underlying3⟩
  · exact ⟨3, _, rfl, rfl, by kernel_rfl, opens_int Try.underlying24⟩
  · exact ⟨4, _, rfl, rfl, by kernel_rfl, opensEnts⟩
  · exact ⟨5, _, rfl, rfl, by kernel_rfl, opens_int Try.underlying3⟩
  · exact ⟨6, _, rfl, rfl, by kernel_rfl, opens_bool Try.underlying4⟩
  · exact ⟨7, _, rfl, rfl, by kernel_rfl, opens_int Try.underlying3⟩
  · exact ⟨8, _, rfl, rfl, by kernel_rfl, opens_int Try.underlying2⟩
  · exact ⟨9, _, rfl, rfl, by kernel_rfl, opensLine1⟩
  · exact ⟨10, _, rfl, rfl, by kernel_rfl, oint⟩
  · exact ⟨11, _, rfl, rfl, by kernel_rfl, opensGid1⟩
  · exact ⟨12, _, rfl, rfl, by kernel_rfl, opensGid1⟩
  · exact ⟨13, _, rfl, rfl, by kernel_rfl, oint⟩
  · exact ⟨14, _, rfl, rfl, by kernel_rfl, opensPart1⟩
theorem opensMsgs : Opens Try.prog 36 (pSlice 26 pMsg) := opens_slice Try.underlying36 (by kernel_rfl) (by decide) opensMsg
/-- a message that came in: its numbers, where its entries lie, its other cells. -/
structure IM where
  x : RM
  r : List Value
instance : Inhabited IM := ⟨⟨default, List.replicate 17 (.int .u64 0)⟩⟩
def encIM (y : IM) : List Value := mHead y.x ++ y.r
structure OkIM (w : World) (y : IM) : Prop where
  ents : InE w y.x.ea y.x.ec y.x.m.ents
  term : 0 ≤ y.x.m.term ∧ y.x.m.term ≤ 18446744073709551615
  prev : I64 y.x.m.prev
  commit : I64 y.x.m.commit
  mat : I64 y.x.m.mat
  stamp : I64 y.x.m.stamp
  len : y.r.length = 17
  one : ∀ v ∈ y.r, v.oneCell' = true
theorem list26 {α : Type} {l : List α} (h : l.length = 26) : ∃ a0 a1 a2 a3 a4 a5 a6 a7 a8 t, l = a0 :: a1 :: a2 :: a3 :: a4 :: a5 :: a6 :: a7 :: a8 :: t ∧ t.length = 17 := by
  match l, h with
  | a0 :: a1 :: a2 :: a3 :: a4 :: a5 :: a6 :: a7 :: a8 :: t, h => exact ⟨a0, a1, a2, a3, a4, a5, a6, a7, a8, t, rfl, by simpa using h⟩
theorem list17 {α : Type} {l : List α} (h : l.length = 17) : ∃ b0 b1 b2 b3 b4 b5 b6 b7 b8 b9 b10 b11 b12 b13 b14 b15 b16, l = [b0, b1, b2, b3, b4, b5, b6, b7, b8, b9, b10, b11, b12, b13, b14, b15, b16] := by
  match l, h with
  | [b0, b1, b2, b3, b4, b5, b6, b7, b8, b9, b10, b11, b12, b13, b14, b15, b16], _ => exact ⟨b0, b1, b2, b3, b4, b5, b6, b7, b8, b9, b10, b11, b12, b13, b14, b15, b16, rfl⟩
theorem gid1_of {w : World} {a b : Value} (h : pGid1 w [a, b]) : a.oneCell' = true ∧ b.oneCell' = true := by
  obtain ⟨_, hf⟩ := h
  obtain ⟨v0, e0, o0⟩ := hf (0, 1, pOne) (by simp)
  obtain ⟨v1, e1, o1⟩ := hf (1, 1, pOne) (by simp)
  simp at e0 e1
  subst e0 e1
  exact ⟨o0, o1⟩
theorem msg_of (w : World) (es : List Value) (h : pMsg w es) : ∃ y : IM, es = encIM y ∧ OkIM w y := by
  obtain ⟨hl, hf⟩ := h
  obtain ⟨a0, a1, a2, a3, a4, a5, a6, a7, a8, t, rfl, ht⟩ := list26 hl
  obtain ⟨b0, b1, b2, b3, b4, b5, b6, b7, b8, b9, b10, b11, b12, b13, b14, b15, b16, rfl⟩ := list17 ht
  obtain ⟨n0, h0, _⟩ := hf (0, 1, pInt .i64) (by simp)
  obtain ⟨n1, h1, w1⟩ := hf (1, 1, pInt .u64) (by simp)
  obtain ⟨n2, h2, w2⟩ := hf (2, 1, pInt .i64) (by simp)
  obtain ⟨n3, h3, _⟩ := hf (3, 1, pInt .u64) (by simp)
  have h4 := hf (4, 1, pSlice 4 pEnt) (by simp)
  obtain ⟨n5, h5, w5⟩ := hf (5, 1, pInt .i64) (by simp)
  obtain ⟨n6, h6⟩ := hf (6, 1, pBool) (by simp)
  obtain ⟨n7, h7, w7⟩ := hf (7, 1, pInt .i64) (by simp)
  obtain ⟨n8, h8, w8⟩ := hf (8, 1, pInt .i64) (by simp)
  obtain ⟨_, hL⟩ := hf (9, 4, pLine1) (by simp)
  obtain ⟨v13, h13, o13⟩ := hf (13, 1, pOne) (by simp)
  have hG1 := gid1_of (show pGid1 w [b5, b6] from hf (14, 2, pGid1) (by simp))
  have hG2 := gid1_of (show pGid1 w [b7, b8] from hf (16, 2, pGid1) (by simp))
  obtain ⟨v18, h18, o18⟩ := hf (18, 1, pOne) (by simp)
  obtain ⟨_, hP⟩ := hf (19, 7, pPart1) (by simp)
  obtain ⟨l0, g0, q0⟩ := hL (0, 1, pOne) (by simp)
  obtain ⟨l1, g1, q1⟩ := hL (1, 1, pOne) (by simp)
  obtain ⟨l2, g2, q2⟩ := hL (2, 1, pOne) (by simp)
  obtain ⟨l3, g3, q3⟩ := hL (3, 1, pOne) (by simp)
  have hP1 := gid1_of (show pGid1 w [b10, b11] from hP (0, 2, pGid1) (by simp))
  have hP2 := gid1_of (show pGid1 w [b12, b13] from hP (2, 2, pGid1) (by simp))
  obtain ⟨p4, g4, q4⟩ := hP (4, 1, pOne) (by simp)
  obtain ⟨p5, g5, q5⟩ := hP (5, 1, pOne) (by simp)
  obtain ⟨p6, g6, q6⟩ := hP (6, 1, pOne) (by simp)
  obtain ⟨ea, len, cap, l, hc, hll, hin⟩ := ents_of (show pSlice 4 pEnt w [a4] from h4)
  simp at h0 h1 h2 h3 h5 h6 h7 h8 h13 h18 g0 g1 g2 g3 g4 g5 g6 hc
  subst h0 h1 h2 h3 h5 h6 h7 h8 h13 h18 g0 g1 g2 g3 g4 g5 g6 hc hll
  refine ⟨⟨⟨ea, cap, ⟨n0, n1, n2, n3, l, n5, n6, n7, n8⟩⟩, [b0, b1, b2, b3, b4, b5, b6, b7, b8, b9, b10, b11, b12, b13, b14, b15, b16]⟩, rfl, ⟨hin, wf_u64 w1, wf_i64 w2, wf_i64 w5, wf_i64 w7, wf_i64 w8, rfl, ?_⟩⟩
  intro v hv
  simp only [List.mem_cons, List.not_mem_nil, or_false] at hv
  rcases hv with rfl | rfl | rfl | rfl | rfl | rfl | rfl | rfl | rfl | rfl | rfl | rfl | rfl | rfl | rfl | rfl | rfl
  · exact q0
  · exact q1
  · exact q2
  · exact q3
  · exact o13
  · exact hG1.1
  · exact hG1.2
  · exact hG2.1
  · exact hG2.2
  · exact o18
  · exact hP1.1
  · exact hP1.2
  · exact hP2.1
  · exact hP2.2
  · exact q4
  · exact q5
  · exact q6
/-- messages that came in. -/
structure InM (w : World) (a : Option Addr) (cap : Nat) (ms : List IM) : Prop where
  cells : ∀ i, i < ms.length → ∃ b off, a = some ⟨b, off, none⟩ ∧ ∀ j, j < 26 → w.cell? ⟨b, off + (i * 26 + j), none⟩ = (encIM (ms.getD i default))[j]?
  len : ms.length ≤ cap
  capm : cap ≤ maxLen
  ok : ∀ i, i < ms.length → OkIM w (ms.getD i default)
theorem msgs_of {w : World} {cs : List Value} (h : pSlice 26 pMsg w cs) : ∃ a len cap, ∃ l : List IM, cs = [.slice a len cap] ∧ l.length = len ∧ InM w a cap l := by
  obtain ⟨a, len, cap, l, hcs, hl, hlc, hcm, hn, he, hk⟩ := list_of_slice encIM (OkIM w) (msg_of w) h
  refine ⟨a, len, cap, l, hcs, hl, fun i hi => ?_, by omega, hcm, fun i hi => hk _ (by simp [hi])⟩
  obtain ⟨b, off, ha, hb, hc⟩ := he i hi
  exact ⟨b, off, ha, hc⟩
end Go.Proofs.Ytcleaamjfjnkkaa
/- A message of its own. -/
namespace Go.Proofs.Ytcleaamjfjnkkaa
open Go.RowKit Go.Joins

/-- a message, its entries cut and cloned. -/
def ShortP (m : Mg) (k : Nat) (r : Nat → Value) (w : World) (e : Ending) (w' : World) : Prop := ∃ a2 c2, e = .returned (.agg (mArr m a2 k c2 r)) ∧ OwnE w' w.heap.size (.slice a2 k c2) (m.ents.take 20) ∧ Below w.heap.size w w'
set_option maxRecDepth 100000 in
theorem resM (tmps : Array Value) (w : World) (R : Nat) (cs : Array Value) (hs : cs.size = 26) (h2 : tmps.getD 2 undef = .pointer (some ⟨R, 0, none⟩)) (hR : w.heap[R]? = some (.cells cs 46 (0, 0))) :
    (results Try.f16 tmps).run Try.prog w = .ok (.agg cs) w :=
  results_cell_row (P := Try.prog) (p := 2) (ty := 46) rfl tmps w R 46 cs (0, 0) _ h2 hR Try.underlying46 rfl (by rw [hs]; kernel_rfl)
theorem marr_one {m : Mg} {a : Option Addr} {k c : Nat} {r : Nat → Value} (hr : ∀ i, i < 17 → (r i).oneCell' = true) : (mArr m a k c r).all (·.oneCell') = true := by
  rw [Array.all_eq_true_iff_forall_mem]
  intro v hv
  simp only [mArr, List.mem_toArray, List.mem_cons, List.not_mem_nil, or_false] at hv
  rcases hv with rfl | rfl | rfl | rfl | rfl | rfl | rfl | rfl | rfl | rfl | rfl | rfl | rfl | rfl | rfl | rfl | rfl | rfl | rfl | rfl | rfl | rfl | rfl | rfl | rfl | rfl
  all_goals first | rfl | exact hr _ (by omega)
set_option linter.unusedSimpArgs false in
set_option linter.unusedVariables false in
set_option maxHeartbeats 8000000 in
set_option maxRecDepth 100000 in
theorem shortA {w : World} (m : Mg) (ea : Option Addr) (n ec : Nat) (r : Nat → Value) (hne : m.ents.length = n) (hin : InE w ea ec m.ents) (hr : ∀ i, i < 17 → (r i).oneCell' = true) (hn : 20 < n) :
    Calls Try.prog 16 #[.agg #[.int .i64 m.kind, .int .u64 m.term, .int .i64 m.prev, .int .u64 m.pterm, .slice ea n ec, .int .i64 m.commit, .bool m.yes, .int .i64 m.mat, .int .i64 m.stamp, r 0, r 1, r 2, r 3, r 4, r 5, r 6, r 7, r 8, r 9, r 10, r 11, r 12, r 13, r 14, r 15, r 16]] w (ShortP m 20 r w) := by
  have hni : 20 < (n : Int) := by omega
  have hk : (m.ents.take 20).length = 20 := by simp; omega
  have hkc : 20 ≤ ec := by have := hin.len; omega
  have hnm : (n : Int) ≤ 9223372036854775807 := by have h5 := hin.len; have h6 := hin.capm; unfold maxLen at h6; omega
  have HK := Lib.hid hk
  have HB1 := Lib.hid (bel1 w (.cells (mArr m ea n ec r) 46))
  have HB3 := Lib.hid (show Below w.heap.size w (((w.alloc (.cells (mArr m ea n ec r) 46)).alloc (.cells #[.int .i64 0, .int .u64 0, .int .i64 0, .int .u64 0, .slice none 0 0, .int .i64 0, .bool false, .int .i64 0, .int .i64 0, .int .u64 0, .int .i64 0, .bool false, .slice none 0 0, .int .i64 0, .int .u64 0, .int .u64 0, .int .u64 0, .int .u64 0, .int .i64 0, .int .u64 0, .int .u64 0, .int .u64 0, .int .u64 0, .int .i64 0, .int .i64 0, .slice none 0 0] 46)).alloc (.cells #[] 30)) from (bel1 w _).trans (((bel1 _ _).trans ((bel1 _ _).mono (by simp))).mono (by simp)))
  have HBM := Lib.hid (show (((w.alloc (.cells (mArr m ea n ec r) 46)).alloc (.cells #[.int .i64 0, .int .u64 0, .int .i64 0, .int .u64 0, .slice none 0 0, .int .i64 0, .bool false, .int .i64 0, .int .i64 0, .int .u64 0, .int .i64 0, .bool false, .slice none 0 0, .int .i64 0, .int .u64 0, .int .u64 0, .int .u64 0, .int .u64 0, .int .i64 0, .int .u64 0, .int .u64 0, .int .u64 0, .int .u64 0, .int .i64 0, .int .i64 0, .slice none 0 0] 46)).alloc (.cells #[] 30)).heap[w.heap.size]? = some (.cells (mArr m ea n ec r) 46) from blk_below (blk_below (heap_alloc_new w (.cells (mArr m ea n ec r) 46)) (bel1 _ (.cells #[.int .i64 0, .int .u64 0, .int .i64 0, .int .u64 0, .slice none 0 0, .int .i64 0, .bool false, .int .i64 0, .int .i64 0, .int .u64 0, .int .i64 0, .bool false, .slice none 0 0, .int .i64 0, .int .u64 0, .int .u64 0, .int .u64 0, .int .u64 0, .int .i64 0, .int .u64 0, .int .u64 0, .int .u64 0, .int .u64 0, .int .i64 0, .int .i64 0, .slice none 0 0] 46))) (bel1 _ (.cells #[] 30)))
  have HBZ := Lib.hid (show (((w.alloc (.cells (mArr m ea n ec r) 46)).alloc (.cells #[.int .i64 0, .int .u64 0, .int .i64 0, .int .u64 0, .slice none 0 0, .int .i64 0, .bool false, .int .i64 0, .int .i64 0, .int .u64 0, .int .i64 0, .bool false, .slice none 0 0, .int .i64 0, .int .u64 0, .int .u64 0, .int .u64 0, .int .u64 0, .int .i64 0, .int .u64 0, .int .u64 0, .int .u64 0, .int .u64 0, .int .i64 0, .int .i64 0, .slice none 0 0] 46)).alloc (.cells #[] 30)).heap[w.heap.size + 1]? = some (.cells #[.int .i64 0, .int .u64 0, .int .i64 0, .int .u64 0, .slice none 0 0, .int .i64 0, .bool false, .int .i64 0, .int .i64 0, .int .u64 0, .int .i64 0, .bool false, .slice none 0 0, .int .i64 0, .int .u64 0, .int .u64 0, .int .u64 0, .int .u64 0, .int .i64 0, .int .u64 0, .int .u64 0, .int .u64 0, .int .u64 0, .int .i64 0, .int .i64 0, .slice none 0 0] 46) from blk_below (heap_alloc2_new w (.cells (mArr m ea n ec r) 46) (.cells #[.int .i64 0, .int .u64 0, .int .i64 0, .int .u64 0, .slice none 0 0, .int .i64 0, .bool false, .int .i64 0, .int .i64 0, .int .u64 0, .int .i64 0, .bool false, .slice none 0 0, .int .i64 0, .int .u64 0, .int .u64 0, .int .u64 0, .int .u64 0, .int .i64 0, .int .u64 0, .int .u64 0, .int .u64 0, .int .u64 0, .int .i64 0, .int .i64 0, .slice none 0 0] 46)) (bel1 _ (.cells #[] 30)))
  have HSZ := Lib.hid (show ((w.alloc (.cells (mArr m ea n ec r) 46)).alloc (.cells #[.int .i64 0, .int .u64 0, .int .i64 0, .int .u64 0, .slice none 0 0, .int .i64 0, .bool false, .int .i64 0, .int .i64 0, .int .u64 0, .int .i64 0, .bool false, .slice none 0 0, .int .i64 0, .int .u64 0, .int .u64 0, .int .u64 0, .int .u64 0, .int .i64 0, .int .u64 0, .int .u64 0, .int .u64 0, .int .u64 0, .int .i64 0, .int .i64 0, .slice none 0 0] 46)).heap.size = w.heap.size + 2 by simp)
  have hown0 := Lib.hid (show OwnE (((w.alloc (.cells (mArr m ea n ec r) 46)).alloc (.cells #[.int .i64 0, .int .u64 0, .int .i64 0, .int .u64 0, .slice none 0 0, .int .i64 0, .bool false, .int .i64 0, .int .i64 0, .int .u64 0, .int .i64 0, .bool false, .slice none 0 0, .int .i64 0, .int .u64 0, .int .u64 0, .int .u64 0, .int .u64 0, .int .i64 0, .int .u64 0, .int .u64 0, .int .u64 0, .int .u64 0, .int .i64 0, .int .i64 0, .slice none 0 0] 46)).alloc (.cells #[] 30)) ((w.alloc (.cells (mArr m ea n ec r) 46)).alloc (.cells #[.int .i64 0, .int .u64 0, .int .i64 0, .int .u64 0, .slice none 0 0, .int .i64 0, .bool false, .int .i64 0, .int .i64 0, .int .u64 0, .int .i64 0, .bool false, .slice none 0 0, .int .i64 0, .int .u64 0, .int .u64 0, .int .u64 0, .int .u64 0, .int .i64 0, .int .u64 0, .int .u64 0, .int .u64 0, .int .u64 0, .int .i64 0, .int .i64 0, .slice none 0 0] 46)).heap.size (.slice (some ⟨((w.alloc (.cells (mArr m ea n ec r) 46)).alloc (.cells #[.int .i64 0, .int .u64 0, .int .i64 0, .int .u64 0, .slice none 0 0, .int .i64 0, .bool false, .int .i64 0, .int .i64 0, .int .u64 0, .int .i64 0, .bool false, .slice none 0 0, .int .i64 0, .int .u64 0, .int .u64 0, .int .u64 0, .int .u64 0, .int .i64 0, .int .u64 0, .int .u64 0, .int .u64 0, .int .u64 0, .int .i64 0, .int .i64 0, .slice none 0 0] 46)).heap.size, 0, none⟩) 0 0) [] from World.ownsRow_made ((w.alloc (.cells (mArr m ea n ec r) 46)).alloc (.cells #[.int .i64 0, .int .u64 0, .int .i64 0, .int .u64 0, .slice none 0 0, .int .i64 0, .bool false, .int .i64 0, .int .i64 0, .int .u64 0, .int .i64 0, .bool false, .slice none 0 0, .int .i64 0, .int .u64 0, .int .u64 0, .int .u64 0, .int .u64 0, .int .i64 0, .int .u64 0, .int .u64 0, .int .u64 0, .int .u64 0, .int .i64 0, .int .i64 0, .slice none 0 0] 46)) #[] 0 (Nat.le_refl _) (Nat.zero_le _) rfl)
  have HEN := Lib.hid (ents_below (ents_take hin.ents 20) HB3.out)
  have HN0 := Lib.hid hin.nil0
  have b4 := (cell_of HBM.out 4 (v := .slice ea n ec) rfl).1
  have HR := Lib.hid hr
  rw [HSZ.out] at hown0
  clear hne hin hr hk hn
  go_enter Try.func16, Try.ntmps16
  go_upto_region 2 with (at_builtin; (refine app_ents rfl _ _ rfl (w.heap.size + 2) _ [] rfl hown0.out ea 20 ec (m.ents.take 20) HK.out rfl HEN.out HN0.out (by have h5 := HK.out; simp only [List.length_nil]; omega) (by simp) ?_); intro v' w' hown' hgrow; obtain ⟨a', c', hv', -, -⟩ := own_sl hown'; rw [List.nil_append, HK.out] at hv'; subst hv'; have HO := Lib.hid (show OwnE w' (w.heap.size + 2) (.slice a' 20 c') (m.ents.take 20) from hown'); have hbm := (hgrow.block w.heap.size (blk_lt HBM.out) (fun e => absurd (Option.some.inj e) (by show ¬ _ = w.heap.size + 2; omega))).trans HBM.out; have hbz := (hgrow.block (w.heap.size + 1) (blk_lt HBZ.out) (fun e => absurd (Option.some.inj e) (by show ¬ _ = w.heap.size + 2; omega))).trans HBZ.out; have HG := Lib.hid (show Below w.heap.size w w' from HB3.out.grown hgrow HB3.out.size (fun j hj => by have := (World.ownsRow.lt hown0.out j hj).1; omega)); obtain ⟨k4, k4f⟩ := cell_of hbm 4 (v := .slice ea n ec) rfl; have HM := Lib.hid hbm; have HZ := Lib.hid hbz; clear hown' hgrow hbm hbz)
  have hm1 : Mod (fun k => k = w.heap.size) w' (w'.setCell ⟨w.heap.size, 4, none⟩ (.slice a' 20 c')) := Mod.cellOf _ 4 _
  have HX := Lib.hid (show (w'.setCell ⟨w.heap.size, 4, none⟩ (.slice a' 20 c')).heap[w.heap.size]? = some (.cells (mArr m a' 20 c' r) 46 (0, 0)) by rw [setCell_blk HM.out]; rfl)
  have HXZ := Lib.hid (hm1.heap HZ.out (by omega))
  have HOX := Lib.hid (show OwnE _ (w.heap.size + 2) (.slice a' 20 c') (m.ents.take 20) from hm1.own HO.out (fun g hg e => by have := (World.ownsRow.lt HO.out g hg).1; omega))
  have HGX := Lib.hid (HG.out.trans (hm1.below HG.out.size (fun k e => by omega)))
  have H1 := Lib.hid (marr_one (m := m) (a := a') (k := 20) (c := c') HR.out)
  clear hm1 k4 k4f b4
  generalize w'.setCell ⟨w.heap.size, 4, none⟩ (.slice a' 20 c') = X at *
  go_wp2_with (first
    | (with_reducible refine wpList_load_row rfl 46 (.tmp 1) rfl w.heap.size rfl 46 _ (0, 0) _ HX.out Try.underlying46 rfl (by kernel_rfl) ?_)
    | (with_reducible refine wpList_store_row rfl 46 (.tmp 2) (.tmp 13) rfl (w.heap.size + 1) _ rfl rfl 46 _ HXZ.out (by kernel_rfl) (by kernel_rfl) H1.out ?_))
  have hms : Mod (fun k => k = w.heap.size + 1) X (X.setRow (w.heap.size + 1) (mArr m a' 20 c' r)) := ⟨rfl, rfl, rfl, by simp [World.setRow], fun k _ hk => setRow_other _ _ _ _ hk⟩
  refine bodyPost_ret (resM _ _ _ (mArr m a' 20 c' r) rfl rfl (setRow_heap X _ _ _ _ _ HXZ.out)) rfl ?_
  exact ⟨a', c', rfl, OwnE.mono (hms.own HOX.out (fun g hg e => by have := (World.ownsRow.lt HOX.out g hg).1; omega)) (by omega), HGX.out.trans (hms.below HGX.out.size (fun k e => by omega))⟩
set_option linter.unusedSimpArgs false in
set_option linter.unusedVariables false in
set_option maxHeartbeats 8000000 in
set_option maxRecDepth 100000 in
theorem shortB {w : World} (m : Mg) (ea : Option Addr) (n ec : Nat) (r : Nat → Value) (hne : m.ents.length = n) (hin : InE w ea ec m.ents) (hr : ∀ i, i < 17 → (r i).oneCell' = true) (hn : n ≤ 20) :
    Calls Try.prog 16 #[.agg #[.int .i64 m.kind, .int .u64 m.term, .int .i64 m.prev, .int .u64 m.pterm, .slice ea n ec, .int .i64 m.commit, .bool m.yes, .int .i64 m.mat, .int .i64 m.stamp, r 0, r 1, r 2, r 3, r 4, r 5, r 6, r 7, r 8, r 9, r 10, r 11, r 12, r 13, r 14, r 15, r 16]] w (ShortP m n r w) := by
  have hni : (n : Int) ≤ 20 := by omega
  have hk : (m.ents.take 20).length = n := by simp; omega
  have hkc : n ≤ ec := by have := hin.len; omega
  have hnm : (n : Int) ≤ 9223372036854775807 := by have h5 := hin.len; have h6 := hin.capm; unfold maxLen at h6; omega
  have HK := Lib.hid hk
  have HB1 := Lib.hid (bel1 w (.cells (mArr m ea n ec r) 46))
  have HB3 := Lib.hid (show Below w.heap.size w (((w.alloc (.cells (mArr m ea n ec r) 46)).alloc (.cells #[.int .i64 0, .int .u64 0, .int .i64 0, .int .u64 0, .slice none 0 0, .int .i64 0, .bool false, .int .i64 0, .int .i64 0, .int .u64 0, .int .i64 0, .bool false, .slice none 0 0, .int .i64 0, .int .u64 0, .int .u64 0, .int .u64 0, .int .u64 0, .int .i64 0, .int .u64 0, .int .u64 0, .int .u64 0, .int .u64 0, .int .i64 0, .int .i64 0, .slice none 0 0] 46)).alloc (.cells #[] 30)) from (bel1 w _).trans (((bel1 _ _).trans ((bel1 _ _).mono (by simp))).mono (by simp)))
  have HBM := Lib.hid (show (((w.alloc (.cells (mArr m ea n ec r) 46)).alloc (.cells #[.int .i64 0, .int .u64 0, .int .i64 0, .int .u64 0, .slice none 0 0, .int .i64 0, .bool false, .int .i64 0, .int .i64 0, .int .u64 0, .int .i64 0, .bool false, .slice none 0 0, .int .i64 0, .int .u64 0, .int .u64 0, .int .u64 0, .int .u64 0, .int .i64 0, .int .u64 0, .int .u64 0, .int .u64 0, .int .u64 0, .int .i64 0, .int .i64 0, .slice none 0 0] 46)).alloc (.cells #[] 30)).heap[w.heap.size]? = some (.cells (mArr m ea n ec r) 46) from blk_below (blk_below (heap_alloc_new w (.cells (mArr m ea n ec r) 46)) (bel1 _ (.cells #[.int .i64 0, .int .u64 0, .int .i64 0, .int .u64 0, .slice none 0 0, .int .i64 0, .bool false, .int .i64 0, .int .i64 0, .int .u64 0, .int .i64 0, .bool false, .slice none 0 0, .int .i64 0, .int .u64 0, .int .u64 0, .int .u64 0, .int .u64 0, .int .i64 0, .int .u64 0, .int .u64 0, .int .u64 0, .int .u64 0, .int .i64 0, .int .i64 0, .slice none 0 0] 46))) (bel1 _ (.cells #[] 30)))
  have HBZ := Lib.hid (show (((w.alloc (.cells (mArr m ea n ec r) 46)).alloc (.cells #[.int .i64 0, .int .u64 0, .int .i64 0, .int .u64 0, .slice none 0 0, .int .i64 0, .bool false, .int .i64 0, .int .i64 0, .int .u64 0, .int .i64 0, .bool false, .slice none 0 0, .int .i64 0, .int .u64 0, .int .u64 0, .int .u64 0, .int .u64 0, .int .i64 0, .int .u64 0, .int .u64 0, .int .u64 0, .int .u64 0, .int .i64 0, .int .i64 0, .slice none 0 0] 46)).alloc (.cells #[] 30)).heap[w.heap.size + 1]? = some (.cells #[.int .i64 0, .int .u64 0, .int .i64 0, .int .u64 0, .slice none 0 0, .int .i64 0, .bool false, .int .i64 0, .int .i64 0, .int .u64 0, .int .i64 0, .bool false, .slice none 0 0, .int .i64 0, .int .u64 0, .int .u64 0, .int .u64 0, .int .u64 0, .int .i64 0, .int .u64 0, .int .u64 0, .int .u64 0, .int .u64 0, .int .i64 0, .int .i64 0, .slice none 0 0] 46) from blk_below (heap_alloc2_new w (.cells (mArr m ea n ec r) 46) (.cells #[.int .i64 0, .int .u64 0, .int .i64 0, .int .u64 0, .slice none 0 0, .int .i64 0, .bool false, .int .i64 0, .int .i64 0, .int .u64 0, .int .i64 0, .bool false, .slice none 0 0, .int .i64 0, .int .u64 0, .int .u64 0, .int .u64 0, .int .u64 0, .int .i64 0, .int .u64 0, .int .u64 0, .int .u64 0, .int .u64 0, .int .i64 0, .int .i64 0, .slice none 0 0] 46)) (bel1 _ (.cells #[] 30)))
  have HSZ := Lib.hid (show ((w.alloc (.cells (mArr m ea n ec r) 46)).alloc (.cells #[.int .i64 0, .int .u64 0, .int .i64 0, .int .u64 0, .slice none 0 0, .int .i64 0, .bool false, .int .i64 0, .int .i64 0, .int .u64 0, .int .i64 0, .bool false, .slice none 0 0, .int .i64 0, .int .u64 0, .int .u64 0, .int .u64 0, .int .u64 0, .int .i64 0, .int .u64 0, .int .u64 0, .int .u64 0, .int .u64 0, .int .i64 0, .int .i64 0, .slice none 0 0] 46)).heap.size = w.heap.size + 2 by simp)
  have hown0 := Lib.hid (show OwnE (((w.alloc (.cells (mArr m ea n ec r) 46)).alloc (.cells #[.int .i64 0, .int .u64 0, .int .i64 0, .int .u64 0, .slice none 0 0, .int .i64 0, .bool false, .int .i64 0, .int .i64 0, .int .u64 0, .int .i64 0, .bool false, .slice none 0 0, .int .i64 0, .int .u64 0, .int .u64 0, .int .u64 0, .int .u64 0, .int .i64 0, .int .u64 0, .int .u64 0, .int .u64 0, .int .u64 0, .int .i64 0, .int .i64 0, .slice none 0 0] 46)).alloc (.cells #[] 30)) ((w.alloc (.cells (mArr m ea n ec r) 46)).alloc (.cells #[.int .i64 0, .int .u64 0, .int .i64 0, .int .u64 0, .slice none 0 0, .int .i64 0, .bool false, .int .i64 0, .int .i64 0, .int .u64 0, .int .i64 0, .bool false, .slice none 0 0, .int .i64 0, .int .u64 0, .int .u64 0, .int .u64 0, .int .u64 0, .int .i64 0, .int .u64 0, .int .u64 0, .int .u64 0, .int .u64 0, .int .i64 0, .int .i64 0, .slice none 0 0] 46)).heap.size (.slice (some ⟨((w.alloc (.cells (mArr m ea n ec r) 46)).alloc (.cells #[.int .i64 0, .int .u64 0, .int .i64 0, .int .u64 0, .slice none 0 0, .int .i64 0, .bool false, .int .i64 0, .int .i64 0, .int .u64 0, .int .i64 0, .bool false, .slice none 0 0, .int .i64 0, .int .u64 0, .int .u64 0, .int .u64 0, .int .u64 0, .int .i64 0, .int .u64 0, .int .u64 0, .int .u64 0, .int .u64 0, .int .i64 0, .int .i64 0, .slice none 0 0] 46)).heap.size, 0, none⟩) 0 0) [] from World.ownsRow_made ((w.alloc (.cells (mArr m ea n ec r) 46)).alloc (.cells #[.int .i64 0, .int .u64 0, .int .i64 0, .int .u64 0, .slice none 0 0, .int .i64 0, .bool false, .int .i64 0, .int .i64 0, .int .u64 0, .int .i64 0, .bool false, .slice none 0 0, .int .i64 0, .int .u64 0, .int .u64 0, .int .u64 0, .int .u64 0, .int .i64 0, .int .u64 0, .int .u64 0, .int .u64 0, .int .u64 0, .int .i64 0, .int .i64 0, .slice none 0 0] 46)) #[] 0 (Nat.le_refl _) (Nat.zero_le _) rfl)
  have HEN := Lib.hid (ents_below (ents_take hin.ents 20) HB3.out)
  have HN0 := Lib.hid hin.nil0
  have b4 := (cell_of HBM.out 4 (v := .slice ea n ec) rfl).1
  have HR := Lib.hid hr
  rw [HSZ.out] at hown0
  clear hne hin hr hk hn
  go_enter Try.func16, Try.ntmps16
  go_upto_region 2 with (at_builtin; (refine app_ents rfl _ _ rfl (w.heap.size + 2) _ [] rfl hown0.out ea n ec (m.ents.take 20) HK.out rfl HEN.out HN0.out (by have h5 := HK.out; simp only [List.length_nil]; omega) (by simp) ?_); intro v' w' hown' hgrow; obtain ⟨a', c', hv', -, -⟩ := own_sl hown'; rw [List.nil_append, HK.out] at hv'; subst hv'; have HO := Lib.hid (show OwnE w' (w.heap.size + 2) (.slice a' n c') (m.ents.take 20) from hown'); have hbm := (hgrow.block w.heap.size (blk_lt HBM.out) (fun e => absurd (Option.some.inj e) (by show ¬ _ = w.heap.size + 2; omega))).trans HBM.out; have hbz := (hgrow.block (w.heap.size + 1) (blk_lt HBZ.out) (fun e => absurd (Option.some.inj e) (by show ¬ _ = w.heap.size + 2; omega))).trans HBZ.out; have HG := Lib.hid (show Below w.heap.size w w' from HB3.out.grown hgrow HB3.out.size (fun j hj => by have := (World.ownsRow.lt hown0.out j hj).1; omega)); obtain ⟨k4, k4f⟩ := cell_of hbm 4 (v := .slice ea n ec) rfl; have HM := Lib.hid hbm; have HZ := Lib.hid hbz; clear hown' hgrow hbm hbz)
  have hm1 : Mod (fun k => k = w.heap.size) w' (w'.setCell ⟨w.heap.size, 4, none⟩ (.slice a' n c')) := Mod.cellOf _ 4 _
  have HX := Lib.hid (show (w'.setCell ⟨w.heap.size, 4, none⟩ (.slice a' n c')).heap[w.heap.size]? = some (.cells (mArr m a' n c' r) 46 (0, 0)) by rw [setCell_blk HM.out]; rfl)
  have HXZ := Lib.hid (hm1.heap HZ.out (by omega))
  have HOX := Lib.hid (show OwnE _ (w.heap.size + 2) (.slice a' n c') (m.ents.take 20) from hm1.own HO.out (fun g hg e => by have := (World.ownsRow.lt HO.out g hg).1; omega))
  have HGX := Lib.hid (HG.out.trans (hm1.below HG.out.size (fun k e => by omega)))
  have H1 := Lib.hid (marr_one (m := m) (a := a') (k := n) (c := c') HR.out)
  clear hm1 k4 k4f b4
  generalize w'.setCell ⟨w.heap.size, 4, none⟩ (.slice a' n c') = X at *
  go_wp2_with (first
    | (with_reducible refine wpList_load_row rfl 46 (.tmp 1) rfl w.heap.size rfl 46 _ (0, 0) _ HX.out Try.underlying46 rfl (by kernel_rfl) ?_)
    | (with_reducible refine wpList_store_row rfl 46 (.tmp 2) (.tmp 13) rfl (w.heap.size + 1) _ rfl rfl 46 _ HXZ.out (by kernel_rfl) (by kernel_rfl) H1.out ?_))
  have hms : Mod (fun k => k = w.heap.size + 1) X (X.setRow (w.heap.size + 1) (mArr m a' n c' r)) := ⟨rfl, rfl, rfl, by simp [World.setRow], fun k _ hk => setRow_other _ _ _ _ hk⟩
  refine bodyPost_ret (resM _ _ _ (mArr m a' n c' r) rfl rfl (setRow_heap X _ _ _ _ _ HXZ.out)) rfl ?_
  exact ⟨a', c', rfl, OwnE.mono (hms.own HOX.out (fun g hg e => by have := (World.ownsRow.lt HOX.out g hg).1; omega)) (by omega), HGX.out.trans (hms.below HGX.out.size (fun k e => by omega))⟩
end Go.Proofs.Ytcleaamjfjnkkaa
