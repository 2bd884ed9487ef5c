/- As many sectors as there is room, in plain words. -/
import Derived.Test.YtcgkdomfbkkboaaFusesP
namespace Go.Proofs.Ytcgkdomfbkkboaa
open Go.RowKit Go.Joins Go.ChangeMaps

theorem fits_one {s : St} {x : Int} (h0 : 0 ≤ x) (h1 : x < s.len) : fitsS s [x] = ((s.now x).isSome || decide ((cntF s.now : Int) < s.room)) := by
  unfold fitsS
  have ht : thereS s x = true := by unfold thereS; exact decide_eq_true ⟨h0, h1⟩
  cases hx : (s.now x).isSome with
  | true =>
    have : fresh s.now [x] = [] := by simp [fresh, freshStep, hx]
    simp [ht, this]
  | false =>
    have : fresh s.now [x] = [x] := by simp [fresh, freshStep, hx]
    simp only [List.all_cons, ht, List.all_nil, this, List.length_cons, List.length_nil, Bool.true_and, Bool.and_true, Bool.false_or]
    rw [decide_eq_decide]
    omega
theorem burn_none {s : St} (h : s.fuse = 0) : burnS s = s := by
  unfold burnS
  rw [if_neg (by omega), h]
  cases s
  simp at h ⊢
  omega
theorem write_room {s : St} {i : Int} {b : BA} (ho : s.off = false) (hf : s.fuse = 0) (h0 : 0 ≤ i) (h1 : i < s.len) (hb : b.size = 32) (hc : ¬ (s.now i = none ∧ s.room ≤ (cntF s.now : Int))) : writeR s i b = (0, putS s i b) := by
  unfold writeR
  rw [if_neg (by simp [ho]), if_neg (by simp [hb]; omega), if_neg hc, burn_none hf, if_neg (by simp [ho])]
theorem write_full {s : St} {i : Int} {b : BA} (ho : s.off = false) (h0 : 0 ≤ i) (h1 : i < s.len) (hb : b.size = 32) (hc : s.now i = none) (hr : s.room ≤ (cntF s.now : Int)) : writeR s i b = (7, s) := by
  unfold writeR
  rw [if_neg (by simp [ho]), if_neg (by simp [hb]; omega), if_pos ⟨hc, hr⟩]
theorem put_now (s : St) (i : Int) (b : BA) : (putS s i b).now = upd s.now i (some b) := apply_snoc s.base s.more (i, b)
def mk (f : Fn) : Int → Option Int := fun i => if (f i).isSome then some 1 else none
theorem mk_upd (f : Fn) (i : Int) (b : BA) : updG (mk f) i (some 1) = mk (upd f i (some b)) := by
  funext j
  unfold updG mk upd
  by_cases e : j = i
  · subst e; simp
  · simp [e]
structure Rm (m : Int) (i : Nat) (s : St) : Prop where
  off : s.off = false
  fuse : s.fuse = 0
  len : s.len = 50
  room : s.room = m
  more : s.more.length ≤ i
theorem Rm.put {m : Int} {i : Nat} {s : St} (h : Rm m i s) (x : Int) (b : BA) : Rm m (i + 1) (putS s x b) :=
  ⟨h.off, h.fuse, h.len, h.room, by have := h.more; simp [putS]; omega⟩
theorem Rm.next {m : Int} {i : Nat} {s : St} (h : Rm m i s) : Rm m (i + 1) s := ⟨h.off, h.fuse, h.len, h.room, Nat.le_succ_of_le h.more⟩
/-- the map, behind one more. -/
theorem known_put {w : World} {fm : Nat} {s : St} {x : Int} (h : MapAt EI w fm (cntF s.now) (mk s.now)) (h0 : 0 ≤ x) (h1 : x < 1024) (b : BA) :
    ∃ w', (Instr.mapUpdate 46 (.map (some fm)) (.int .i64 x) (.int .i64 1)).run Try.prog w = .ok () w' ∧ MapAt EI w' fm (cntF (putS s x b).now) (mk (putS s x b).now) ∧ w.mapTurned w' fm := by
  obtain ⟨w', h2, h3, h4⟩ := h.put (wf64 (i := x) (by omega) (by omega)) (x := 1) (wf64 (by omega) (by omega)) (Nat.lt_of_le_of_lt (cntF_le _) (by unfold maxLen; omega))
  refine ⟨w', h2, ?_, h4⟩
  rw [put_now, cntF_put h0 h1, ← mk_upd]
  have e : (mk s.now x).isSome = (s.now x).isSome := by unfold mk; split <;> simp_all
  rw [e] at h3
  exact h3
theorem known_look {w : World} {fm : Nat} {s : St} {x : Int} (h : MapAt EI w fm (cntF s.now) (mk s.now)) (h0 : 0 ≤ x) (h1 : x < 1024) : (Instr.lookup 46 (.map (some fm)) (.int .i64 x) false).run Try.prog w = .ok (.int .i64 (if (s.now x).isSome then 1 else 0)) w := by
  have := h.look (wf64 (i := x) (by omega) (by omega))
  rw [this]
  unfold mk
  split <;> rfl
end Go.Proofs.Ytcgkdomfbkkboaa
