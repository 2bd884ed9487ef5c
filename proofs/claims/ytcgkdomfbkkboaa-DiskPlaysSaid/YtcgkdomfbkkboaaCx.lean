/- A disk that is copied, and the copy that goes on: what lies where. -/
import Derived.Test.YtcgkdomfbkkboaaDo
import Derived.Test.YtcgkdomfbkkboaaIns
namespace Go.Proofs.Ytcgkdomfbkkboaa
open Go.RowKit Go.Joins Go.ChangeMaps

section
variable {W w V V' : World} {p bm p' bm' q : Nat} {v' bv nv mv : Value} {s s0 s1 : St}
/-- the old disk, whatever it is; its copy; the reference. -/
def Cx (W : World) (p bm p' bm' : Nat) (v' : Value) (q : Nat) (bv nv mv : Value) (s0 s : St) (V : World) : Prop :=
  ∃ F : Nat → Prop, DE W V F p bm s0 ∧ PD V W.heap.size p' bm' v' s ∧ RD V W.heap.size q bv nv mv s ∧ Good s ∧ (∀ k, PF p' bm' v' k → F k) ∧ (∀ k, RF q bv nv mv k → F k)
theorem Cx.below (h : Cx W p bm p' bm' v' q bv nv mv s0 s V) (hb : Below V.heap.size V V') : Cx W p bm p' bm' v' q bv nv mv s0 s V' := by
  obtain ⟨F, h1, h2, h3, h4, h5, h6⟩ := h
  exact ⟨F, h1.below hb, h2.below hb, h3.below hb, h4, h5, h6⟩
theorem Cx.step {F : Nat → Prop} (_ : DE W V F p bm s0) (h2 : PD V W.heap.size p' bm' v' s) (h3 : RD V W.heap.size q bv nv mv s) (h4 : Good s) (h5 : ∀ k, PF p' bm' v' k → F k) (h6 : ∀ k, RF q bv nv mv k → F k) (hs : Stp W V F p bm s1 V') : Cx W p bm p' bm' v' q bv nv mv s1 s V' :=
  ⟨F, hs.1, h2.mod hs.2.2 (fun k hk c => c.1 (h5 k hk)), h3.mod hs.2.2 (fun k hk c => c.1 (h6 k hk)), h4, h5, h6⟩
def CopP (W : World) (p bm q : Nat) (bv nv : Value) (s : St) (e : Ending) (w' : World) : Prop := ∃ p' bm' v' mv, e = .returned (.pointer (some ⟨p', 0, none⟩)) ∧ Cx W p bm p' bm' v' q bv nv mv s s w'
theorem cx_copy (h : BE W w (fun _ => False) p bm q bv nv s s) (hn : s.more.length ≤ 1000000) : Calls Try.prog 24 #[.pointer (some ⟨p, 0, none⟩)] w (CopP W p bm q bv nv s) := by
  obtain ⟨v, mv, h1, h2, h3, h4, h5, h6, h7⟩ := h
  refine (copy_any h2 hn).mono ?_
  rintro e w1 ⟨p', bm', v', he, hP, hb⟩
  refine ⟨p', bm', v', mv, he, fun k => RF q bv nv mv k ∨ (w.heap.size ≤ k ∧ k < w1.heap.size), ⟨v, grew_trans h1 hb, h2.below hb, fun k hk => ?_, h6⟩, hP.mono h1.size, h3.below hb, h6, fun k hk => .inr (hP.lt k hk), fun k hk => .inl hk⟩
  rcases hk with hk | hk
  · exact ⟨fun c => h4 k c hk, Nat.lt_of_lt_of_le (h3.lt k hk).2 hb.size⟩
  · exact ⟨fun c => by have := (h2.lt k c).2; omega, hk.2⟩
theorem cx_off (h : Cx W p bm p' bm' v' q bv nv mv s0 s V) : Calls Try.prog 19 #[.pointer (some ⟨p, 0, none⟩)] V (Tup0 (Cx W p bm p' bm' v' q bv nv mv (offS s0) s)) := by
  obtain ⟨F, h1, h2, h3, h4, h5, h6⟩ := h
  exact (d_off h1).mono fun _ _ ⟨he, hs⟩ => ⟨he, Cx.step h1 h2 h3 h4 h5 h6 hs⟩
theorem cx_wake (h : Cx W p bm p' bm' v' q bv nv mv s0 s V) (hn : s0.more.length ≤ 1000000) : Calls Try.prog 20 #[.pointer (some ⟨p, 0, none⟩), .slice none 0 0] V (Tup0 (Cx W p bm p' bm' v' q bv nv mv (wakeS s0 []) s)) := by
  obtain ⟨F, h1, h2, h3, h4, h5, h6⟩ := h
  exact (d_wake h1 hn (ks := []) (fun i hi => by simp at hi) rfl rfl).mono fun _ _ ⟨he, hs⟩ => ⟨he, Cx.step h1 h2 h3 h4 h5 h6 hs⟩
theorem cx_write {i : Int} {b : BA} (h : Cx W p bm p' bm' v' q bv nv mv s0 s V) (hn : s0.more.length ≤ 1000000) : Calls Try.prog 11 #[.pointer (some ⟨p, 0, none⟩), .int .i64 i, .string b] V (TupI (writeR s0 i b).1 (Cx W p bm p' bm' v' q bv nv mv (writeR s0 i b).2 s)) := by
  obtain ⟨F, h1, h2, h3, h4, h5, h6⟩ := h
  exact (d_write h1 hn rfl).mono fun _ _ ⟨he, hs⟩ => ⟨he, Cx.step h1 h2 h3 h4 h5 h6 hs⟩
theorem cx_room {n : Int} (h : Cx W p bm p' bm' v' q bv nv mv s0 s V) (hn : n ≤ 9223372036854775807) : Calls Try.prog 25 #[.pointer (some ⟨p, 0, none⟩), .int .i64 n] V (Tup0 (Cx W p bm p' bm' v' q bv nv mv (roomS s0 n) s)) := by
  obtain ⟨F, h1, h2, h3, h4, h5, h6⟩ := h
  exact (d_room h1 hn).mono fun _ _ ⟨he, hs⟩ => ⟨he, Cx.step h1 h2 h3 h4 h5 h6 hs⟩
def RCopQ (W : World) (p' bm' : Nat) (s : St) (e : Ending) (w' : World) : Prop := ∃ q' bv' nv', e = .returned (.pointer (some ⟨q', 0, none⟩)) ∧ BE W w' (fun _ => False) p' bm' q' bv' nv' s s
theorem cx_rcopy (h : Cx W p bm p' bm' v' q bv nv mv s0 s V) (hn : s.more.length ≤ 1000000) : Calls Try.prog 26 #[.pointer (some ⟨q, 0, none⟩)] V (RCopQ W p' bm' s) := by
  obtain ⟨F, ⟨_, hb1, -⟩, h2, h3, h4, h5, h6⟩ := h
  refine (rcopy_any h3 h4 hn).mono ?_
  rintro e w6 ⟨q', bv', nv', mv', he, hR, hb⟩
  exact ⟨q', bv', nv', he, v', mv', grew_trans hb1 hb, h2.below hb, ⟨hR.blk, Nat.le_trans hb1.size hR.bq, hR.ob.mono hb1.size, hR.on.mono hb1.size, hR.om.mono hb1.size, hR.ap⟩, fun k c d => by have := (h2.lt k c).2; have := (hR.lt k d).1; omega, fun _ c => c.elim, h4, h4⟩
/-- both are made, in either order. -/
theorem be_pr {n room : Int} {q : Nat} {bv nv : Value} {w1 w2 : World} (h1 : 1 ≤ n) (h2 : n ≤ 1024) (h3 : 0 ≤ room) (h4 : room ≤ 9223372036854775807) {v : Value} (hb : Below W.heap.size W w) (hb1 : Below w.heap.size w w1) (hb2 : Below w1.heap.size w1 w2) (hR : RD w1 w.heap.size q bv nv (.slice none 0 0) (newS n room)) (hP : PD w2 w1.heap.size p bm v (newS n room)) : BE W w2 (fun _ => False) p bm q bv nv (newS n room) (newS n room) := by
  have hg := good_new h1 h2 h3 h4
  have hW := grew_trans hb hb1
  exact ⟨v, _, grew_trans hW hb2, hP.mono hW.size, ⟨(hR.below hb2).blk, Nat.le_trans hb.size hR.bq, (hR.below hb2).ob.mono hb.size, (hR.below hb2).on.mono hb.size, (hR.below hb2).om.mono hb.size, hR.ap⟩, fun k c d => by have := (hP.lt k c).1; have := (hR.lt k d).2; omega, fun _ c => c.elim, hg, hg⟩
theorem be_rp {n room : Int} {q : Nat} {bv nv : Value} {w1 w2 : World} (h1 : 1 ≤ n) (h2 : n ≤ 1024) (h3 : 0 ≤ room) (h4 : room ≤ 9223372036854775807) {v : Value} (hb : Below W.heap.size W w) (hb1 : Below w.heap.size w w1) (hb2 : Below w1.heap.size w1 w2) (hP : PD w1 w.heap.size p bm v (newS n room)) (hR : RD w2 w1.heap.size q bv nv (.slice none 0 0) (newS n room)) : BE W w2 (fun _ => False) p bm q bv nv (newS n room) (newS n room) := by
  have hg := good_new h1 h2 h3 h4
  have hW := grew_trans hb hb1
  exact ⟨v, _, grew_trans hW hb2, (hP.below hb2).mono hb.size, ⟨hR.blk, Nat.le_trans hW.size hR.bq, hR.ob.mono hW.size, hR.on.mono hW.size, hR.om.mono hW.size, hR.ap⟩, fun k c d => by have := (hP.lt k c).2; have := (hR.lt k d).1; omega, fun _ c => c.elim, hg, hg⟩
end
/-! ### The acts -/
/-- what a disk is behind an act. -/
def doS (s : St) (what x c : Int) (ks : List Bool) : St :=
  if 0 ≤ what ∧ what ≤ 3 then (writeR s x (dataB c)).2 else if what = 4 then (flushR s).2 else if what = 5 then armS s x else if what = 6 then offS s
  else if what = 7 ∨ what = 8 then wakeS s ks else if what = 9 then roomS s x else s
theorem do_more (s : St) (what x c : Int) (ks : List Bool) : (doS s what x c ks).more.length ≤ s.more.length + 1 := by
  unfold doS
  split
  · exact write_more s x _
  · split
    · unfold flushR; split
      · simp
      · split
        · unfold burnS; split <;> simp
        · simp
    · split
      · simp [armS]
      · split
        · simp [offS]
        · split
          · have := wake_more s ks; omega
          · split
            · simp [roomS]
            · simp
variable {w0 w : World} {p bm q : Nat} {bv nv : Value} {s : St}
theorem do_any (what x c : Int) (ka : Option Addr) (n kc : Nat) (ks : List Bool) (h0 : 0 ≤ c) (h1 : c ≤ 255) (hx : x ≤ 9223372036854775807) (h : BE w0 w (fun _ => False) p bm q bv nv s s) (hn : s.more.length ≤ 1000000) (hks : Lst encK 1 w0 ka ks) (hkn : ks.length = n) :
    Calls Try.prog 27 #[.pointer (some ⟨p, 0, none⟩), .pointer (some ⟨q, 0, none⟩), .agg #[.int .i64 what, .int .i64 x, .int .u8 c, .slice ka n kc]] w (DoPost w0 p bm q bv nv (doS s what x c ks)) := by
  by_cases e0 : what = 0
  · rw [show doS s what x c ks = (writeR s x (dataB c)).2 by unfold doS; rw [if_pos (by omega)]]
    exact do_write0 what x c ka n kc ks e0 h0 h1 hx h hn hks hkn
  by_cases e1 : what = 1
  · rw [show doS s what x c ks = (writeR s x (dataB c)).2 by unfold doS; rw [if_pos (by omega)]]
    exact do_write1 what x c ka n kc ks e1 h0 h1 hx h hn hks hkn
  by_cases e2 : what = 2
  · rw [show doS s what x c ks = (writeR s x (dataB c)).2 by unfold doS; rw [if_pos (by omega)]]
    exact do_write2 what x c ka n kc ks e2 h0 h1 hx h hn hks hkn
  by_cases e3 : what = 3
  · rw [show doS s what x c ks = (writeR s x (dataB c)).2 by unfold doS; rw [if_pos (by omega)]]
    exact do_write3 what x c ka n kc ks e3 h0 h1 hx h hn hks hkn
  have en : ¬ (0 ≤ what ∧ what ≤ 3) := by omega
  by_cases e4 : what = 4
  · rw [show doS s what x c ks = (flushR s).2 by unfold doS; rw [if_neg en, if_pos e4]]
    exact do_flush what x c ka n kc ks e4 h0 h1 hx h hn hks hkn
  by_cases e5 : what = 5
  · rw [show doS s what x c ks = armS s x by unfold doS; rw [if_neg en, if_neg e4, if_pos e5]]
    exact do_arm what x c ka n kc ks e5 h0 h1 hx h hn hks hkn
  by_cases e6 : what = 6
  · rw [show doS s what x c ks = offS s by unfold doS; rw [if_neg en, if_neg e4, if_neg e5, if_pos e6]]
    exact do_off what x c ka n kc ks e6 h0 h1 hx h hn hks hkn
  by_cases e7 : what = 7
  · rw [show doS s what x c ks = wakeS s ks by unfold doS; rw [if_neg en, if_neg e4, if_neg e5, if_neg e6, if_pos (.inl e7)]]
    exact do_wake7 what x c ka n kc ks e7 h0 h1 hx h hn hks hkn
  by_cases e8 : what = 8
  · rw [show doS s what x c ks = wakeS s ks by unfold doS; rw [if_neg en, if_neg e4, if_neg e5, if_neg e6, if_pos (.inr e8)]]
    exact do_wake8 what x c ka n kc ks e8 h0 h1 hx h hn hks hkn
  by_cases e9 : what = 9
  · rw [show doS s what x c ks = roomS s x by unfold doS; rw [if_neg en, if_neg e4, if_neg e5, if_neg e6, if_neg (by omega), if_pos e9]]
    exact do_room what x c ka n kc ks e9 h0 h1 hx h hn hks hkn
  · rw [show doS s what x c ks = s by unfold doS; rw [if_neg en, if_neg e4, if_neg e5, if_neg e6, if_neg (by omega), if_neg e9]]
    exact do_none what x c ka n kc ks (by omega) h0 h1 hx h hn hks hkn
/-- an act, as it came in. -/
abbrev Ac := Int × Int × Int × List Bool
def Acts (W : World) (a : Option Addr) (acts : List Ac) : Prop :=
  ∀ i, i < acts.length → ∃ b off ka kc, a = some ⟨b, off, none⟩ ∧ W.cell? ⟨b, off + i * 4, none⟩ = some (.int .i64 (acts.getD i default).1) ∧ W.cell? ⟨b, off + i * 4 + 1, none⟩ = some (.int .i64 (acts.getD i default).2.1) ∧ W.cell? ⟨b, off + i * 4 + 1 + 1, none⟩ = some (.int .u8 (acts.getD i default).2.2.1) ∧
    W.cell? ⟨b, off + i * 4 + 1 + 1 + 1, none⟩ = some (.slice ka (acts.getD i default).2.2.2.length kc) ∧ Lst encK 1 W ka (acts.getD i default).2.2.2 ∧ (Lit.int .i64 (acts.getD i default).2.1).wf = true ∧ 0 ≤ (acts.getD i default).2.2.1 ∧ (acts.getD i default).2.2.1 ≤ 255
def pAc : CellsP := pFields 4 [(0, 1, pInt .i64), (1, 1, pInt .i64), (2, 1, pInt .u8), (3, 1, pSlice 1 pBool)]
theorem opensAc : Opens Try.prog 55 pAc := by
  refine opens_struct Try.underlying55 (by kernel_rfl) ?_
  intro q hq
  simp only [List.mem_cons, List.not_mem_nil, or_false] at hq
  rcases hq with rfl | rfl | rfl | rfl
  · exact ⟨0, _, rfl, rfl, by kernel_rfl, opens_int Try.underlying3⟩
  · exact ⟨1, _, rfl, rfl, by kernel_rfl, opens_int Try.underlying3⟩
  · exact ⟨2, _, rfl, rfl, by kernel_rfl, opens_int Try.underlying5⟩
  · exact ⟨3, _, rfl, rfl, by kernel_rfl, opensBools⟩
theorem opensActs : Opens Try.prog 49 (pSlice 4 pAc) := opens_slice Try.underlying49 (by kernel_rfl) (by decide) opensAc
theorem opensSz : Opens Try.prog 50 (pArray 2 1 (pInt .i64)) := opens_array Try.underlying50 (by kernel_rfl) (by kernel_rfl) (opens_int Try.underlying3)
theorem sz_of {w : World} {cs : List Value} (h : pArray 2 1 (pInt .i64) w cs) : ∃ x y : Int, cs = [.int .i64 x, .int .i64 y] ∧ (Lit.int .i64 x).wf = true ∧ (Lit.int .i64 y).wf = true := by
  obtain ⟨hl, hf⟩ := h
  obtain ⟨c0, c1, rfl⟩ := list2 hl
  obtain ⟨x, h0, w0⟩ := hf 0 (by omega)
  obtain ⟨y, h1, w1⟩ := hf 1 (by omega)
  simp at h0 h1
  subst h0 h1
  exact ⟨x, y, rfl, w0, w1⟩
abbrev Raw := Int × Int × Int × Option Addr × Nat × List Bool
def encR (x : Raw) : List Value := [.int .i64 x.1, .int .i64 x.2.1, .int .u8 x.2.2.1, .slice x.2.2.2.1 x.2.2.2.2.2.length x.2.2.2.2.1]
def okR (w : World) (x : Raw) : Prop := Lst encK 1 w x.2.2.2.1 x.2.2.2.2.2 ∧ (Lit.int .i64 x.2.1).wf = true ∧ 0 ≤ x.2.2.1 ∧ x.2.2.1 ≤ 255
theorem raw_of (w : World) (es : List Value) (h : pAc w es) : ∃ x : Raw, es = encR x ∧ okR w x := by
  obtain ⟨hl, hf⟩ := h
  obtain ⟨c0, c1, c2, c3, rfl⟩ := list4 hl
  obtain ⟨n0, h0, -⟩ := hf (0, 1, pInt .i64) (by simp)
  obtain ⟨n1, h1, w1⟩ := hf (1, 1, pInt .i64) (by simp)
  obtain ⟨n2, h2, w2⟩ := hf (2, 1, pInt .u8) (by simp)
  obtain ⟨a, len, cap, l, h3, hl3, hL⟩ := bools_of (hf (3, 1, pSlice 1 pBool) (by simp))
  simp at h0 h1 h2 h3
  subst h0 h1 h2 h3 hl3
  exact ⟨(n0, n1, n2, a, cap, l), rfl, hL, w1, wf8 w2⟩
def rawA (x : Raw) : Ac := (x.1, x.2.1, x.2.2.1, x.2.2.2.2.2)
theorem acts_of {w : World} {cs : List Value} (h : pSlice 4 pAc w cs) : ∃ a len cap, ∃ l : List Ac, cs = [.slice a len cap] ∧ l.length = len ∧ len ≤ maxLen ∧ Acts w a l := by
  obtain ⟨a, len, cap, l, hcs, hl, hlc, hcm, hn, he, hk⟩ := list_of_slice encR (okR w) (raw_of w) h
  refine ⟨a, len, cap, l.map rawA, hcs, by simpa using hl, Nat.le_trans hlc hcm, fun i hi => ?_⟩
  have hi' : i < l.length := by simpa using hi
  obtain ⟨b, off, ha, hb, hc⟩ := he i hi'
  have hg : (l.map rawA).getD i default = rawA (l.getD i default) := by simp [List.getD_eq_getElem?_getD, hi']
  have hx := hk _ (getD_mem hi')
  rw [hg]
  generalize l.getD i default = x at *
  have h0 := hc 0 (by omega)
  have h1 := hc 1 (by omega)
  have h2 := hc 2 (by omega)
  have h3 := hc 3 (by omega)
  exact ⟨b, off, _, _, ha, h0, h1, h2, h3, hx.1, hx.2⟩
end Go.Proofs.Ytcgkdomfbkkboaa
