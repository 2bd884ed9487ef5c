/- A disk and its reference, side by side. -/
import Derived.Test.YtcgkdomfbkkboaaRWake
import Derived.Test.YtcgkdomfbkkboaaRNew
namespace Go.Proofs.Ytcgkdomfbkkboaa
open Go.RowKit Go.Joins Go.ChangeMaps

/-- both lie in w, made since w0; the blocks F are none of theirs. -/
def BE (w0 w : World) (F : Nat → Prop) (p bm q : Nat) (bv nv : Value) (s r : St) : Prop :=
  ∃ v mv, Below w0.heap.size w0 w ∧ PD w w0.heap.size p bm v s ∧ RD w w0.heap.size q bv nv mv r ∧ (∀ k, PF p bm v k → ¬ RF q bv nv mv k) ∧ (∀ k, F k → ¬ PF p bm v k ∧ ¬ RF q bv nv mv k ∧ k < w.heap.size) ∧ Good s ∧ Good r
variable {w0 w w' : World} {F F' : Nat → Prop} {p bm q : Nat} {bv nv : Value} {s r s' r' : St}
theorem BE.bel (h : BE w0 w F p bm q bv nv s r) : Below w0.heap.size w0 w := by obtain ⟨_, _, h, _⟩ := h; exact h
theorem BE.goods (h : BE w0 w F p bm q bv nv s r) : Good s ∧ Good r := by obtain ⟨_, _, _, _, _, _, _, h⟩ := h; exact h
theorem BE.below (h : BE w0 w F p bm q bv nv s r) (hb : Below w.heap.size w w') : BE w0 w' F p bm q bv nv s r := by
  obtain ⟨v, mv, h1, h2, h3, h4, h5, h6⟩ := h
  exact ⟨v, mv, grew_trans h1 hb, h2.below hb, h3.below hb, h4, fun k hk => ⟨(h5 k hk).1, (h5 k hk).2.1, Nat.lt_of_lt_of_le (h5 k hk).2.2 hb.size⟩, h6⟩
theorem BE.less (h : BE w0 w F p bm q bv nv s r) (hF : ∀ k, F' k → F k) : BE w0 w F' p bm q bv nv s r := by
  obtain ⟨v, mv, h1, h2, h3, h4, h5, h6⟩ := h
  exact ⟨v, mv, h1, h2, h3, h4, fun k hk => h5 k (hF k hk), h6⟩
theorem BE.more (h : BE w0 w F p bm q bv nv s r) (hb : Below w.heap.size w w') : BE w0 w' (fun k => F k ∨ (w.heap.size ≤ k ∧ k < w'.heap.size)) p bm q bv nv s r := by
  obtain ⟨v, mv, h1, h2, h3, h4, h5, h6⟩ := h
  refine ⟨v, mv, grew_trans h1 hb, h2.below hb, h3.below hb, h4, fun k hk => ?_, h6⟩
  rcases hk with hk | hk
  · exact ⟨(h5 k hk).1, (h5 k hk).2.1, Nat.lt_of_lt_of_le (h5 k hk).2.2 hb.size⟩
  · exact ⟨fun c => by have := (h2.lt k c).2; omega, fun c => by have := (h3.lt k c).2; omega, hk.2⟩
/-- behind a method: the one has turned; what is not theirs is as it was. -/
def Step (w0 w : World) (F : Nat → Prop) (p bm q : Nat) (bv nv : Value) (s r : St) (w' : World) : Prop := BE w0 w' F p bm q bv nv s r ∧ (∀ k o, F k → w.heap[k]? = some o → w'.heap[k]? = some o)
theorem BE.pstep {v mv : Value} (h1 : Below w0.heap.size w0 w) (h2 : PD w w0.heap.size p bm v s) (h3 : RD w w0.heap.size q bv nv mv r) (h4 : ∀ k, PF p bm v k → ¬ RF q bv nv mv k) (h5 : ∀ k, F k → ¬ PF p bm v k ∧ ¬ RF q bv nv mv k ∧ k < w.heap.size) (hg : Good s') (hr : Good r)
    (hU : PUpd w0.heap.size p bm v s' w w') : Step w0 w F p bm q bv nv s' r w' := by
  obtain ⟨v', k1, k2, k3⟩ := hU
  refine ⟨⟨v', mv, h1.trans (k2.below h1.size (fun k hk => (h2.lt k hk).1)), k1, h3.mod k2 (fun k hk hs => h4 k hs hk), fun k hp hr => ?_, fun k hk => ⟨fun c => ?_, (h5 k hk).2.1, Nat.lt_of_lt_of_le (h5 k hk).2.2 k2.size⟩, hg, hr⟩, fun k o hk ho => k2.heap ho (h5 k hk).1⟩
  · rcases hp with c | c | c
    · exact h4 k (.inl c) hr
    · exact h4 k (.inr (.inl c)) hr
    · rcases k3 k c with hc | hc
      · exact h4 k (.inr (.inr hc)) hr
      · have := (h3.lt k hr).2; omega
  · rcases c with rfl | rfl | c
    · exact (h5 _ hk).1 (.inl rfl)
    · exact (h5 _ hk).1 (.inr (.inl rfl))
    · rcases k3 k c with hc | hc
      · exact (h5 k hk).1 (.inr (.inr hc))
      · have := (h5 k hk).2.2; omega
theorem BE.rstep {v mv : Value} (h1 : Below w0.heap.size w0 w) (h2 : PD w w0.heap.size p bm v s) (h3 : RD w w0.heap.size q bv nv mv r) (h4 : ∀ k, PF p bm v k → ¬ RF q bv nv mv k) (h5 : ∀ k, F k → ¬ PF p bm v k ∧ ¬ RF q bv nv mv k ∧ k < w.heap.size) (hg : Good s) (hr : Good r')
    (hU : RUpd w0.heap.size q bv nv mv r' w w') : Step w0 w F p bm q bv nv s r' w' := by
  obtain ⟨mv', k1, k2, k3⟩ := hU
  have key : ∀ k, RF q bv nv mv' k → RF q bv nv mv k ∨ w.heap.size ≤ k := by
    intro k c
    rcases c with c | c | c | c
    · exact .inl (.inl c)
    · exact .inl (.inr (.inl c))
    · exact .inl (.inr (.inr (.inl c)))
    · exact (k3 k c).imp (fun d => .inr (.inr (.inr d))) id
  refine ⟨⟨v, mv', h1.trans (k2.below h1.size (fun k hk => (h3.lt k hk).1)), h2.mod k2 (fun k hk hs => h4 k hk hs), k1, fun k hp hr => ?_, fun k hk => ⟨(h5 k hk).1, fun c => ?_, Nat.lt_of_lt_of_le (h5 k hk).2.2 k2.size⟩, hg, hr⟩, fun k o hk ho => k2.heap ho (h5 k hk).2.1⟩
  · rcases key k hr with c | c
    · exact h4 k hp c
    · have := (h2.lt k hp).2; omega
  · rcases key k c with d | d
    · exact (h5 k hk).2.1 d
    · have := (h5 k hk).2.2; omega
theorem b_both {v : Value} {n room : Int} (h1 : 1 ≤ n) (h2 : n ≤ 1024) (h3 : 0 ≤ room) (h4 : room ≤ 9223372036854775807) (hb : Below w0.heap.size w0 w) (hP : PD w w0.heap.size p bm v (newS n room)) : Calls Try.prog 10 #[.int .i64 n, .int .i64 room] w (fun e w' => ∃ q bv nv, e = .returned (.pointer (some ⟨q, 0, none⟩)) ∧ BE w0 w' (fun _ => False) p bm q bv nv (newS n room) (newS n room)) := by
  obtain ⟨m, rfl⟩ : ∃ m : Nat, n = m := ⟨n.toNat, by omega⟩
  refine (rnew_any m room w (by omega) (by omega) h3).mono ?_
  rintro e w' ⟨q, bv, nv, he, hR, hb'⟩
  have hgood := good_new h1 h2 h3 h4
  exact ⟨q, bv, nv, he, v, _, grew_trans hb hb', hP.below hb', ⟨hR.blk, Nat.le_trans hb.size hR.bq, hR.ob.mono hb.size, hR.on.mono hb.size, hR.om.mono hb.size, hR.ap⟩, fun k hp hr => by have := (hP.lt k hp).2; have := (hR.lt k hr).1; omega, fun _ c => c.elim, hgood, hgood⟩
/-! ### The methods -/
theorem b_write {i : Int} {b : BA} (h : BE w0 w F p bm q bv nv s r) (hn : s.more.length ≤ 1000000) : Calls Try.prog 11 #[.pointer (some ⟨p, 0, none⟩), .int .i64 i, .string b] w (TupI (writeR s i b).1 (Step w0 w F p bm q bv nv (writeR s i b).2 r)) := by
  obtain ⟨v, mv, h1, h2, h3, h4, h5, h6, h7⟩ := h
  exact (write_any i b h2 h6 hn h1.size).mono fun _ w' ⟨he, hU⟩ => ⟨he, BE.pstep h1 h2 h3 h4 h5 (good_write h6) h7 hU⟩
theorem b_rwrite {i : Int} {b : BA} (h : BE w0 w F p bm q bv nv s r) (hn : r.more.length ≤ 1000000) : Calls Try.prog 13 #[.pointer (some ⟨q, 0, none⟩), .int .i64 i, .string b] w (TupI (writeR r i b).1 (Step w0 w F p bm q bv nv s (writeR r i b).2)) := by
  obtain ⟨v, mv, h1, h2, h3, h4, h5, h6, h7⟩ := h
  exact (rwrite_any i b h3 h7 hn h1.size).mono fun _ w' ⟨he, hU⟩ => ⟨he, BE.rstep h1 h2 h3 h4 h5 h6 (good_write h7) hU⟩
theorem b_flush (h : BE w0 w F p bm q bv nv s r) : Calls Try.prog 17 #[.pointer (some ⟨p, 0, none⟩)] w (TupI (flushR s).1 (Step w0 w F p bm q bv nv (flushR s).2 r)) := by
  obtain ⟨v, mv, h1, h2, h3, h4, h5, h6, h7⟩ := h
  exact (flush_any h2 h6).mono fun _ w' ⟨he, hU⟩ => ⟨he, BE.pstep h1 h2 h3 h4 h5 (good_flush h6) h7 hU⟩
theorem b_rflush (h : BE w0 w F p bm q bv nv s r) (hn : r.more.length ≤ 1000000) : Calls Try.prog 42 #[.pointer (some ⟨q, 0, none⟩)] w (TupI (flushR r).1 (Step w0 w F p bm q bv nv s (flushR r).2)) := by
  obtain ⟨v, mv, h1, h2, h3, h4, h5, h6, h7⟩ := h
  exact (rflush_any h3 h7 hn).mono fun _ w' ⟨he, hU⟩ => ⟨he, BE.rstep h1 h2 h3 h4 h5 h6 (good_flush h7) hU⟩
theorem b_arm {n : Int} (h : BE w0 w F p bm q bv nv s r) (hn : n ≤ 9223372036854775807) : Calls Try.prog 22 #[.pointer (some ⟨p, 0, none⟩), .int .i64 n] w (Tup0 (Step w0 w F p bm q bv nv (armS s n) r)) := by
  obtain ⟨v, mv, h1, h2, h3, h4, h5, h6, h7⟩ := h
  exact (arm_any n h2).mono fun _ w' ⟨he, hP, hM⟩ => ⟨he, BE.pstep h1 h2 h3 h4 h5 (good_arm h6 hn) h7 ⟨v, hP, hM, fun _ h => .inl h⟩⟩
theorem b_rarm {n : Int} (h : BE w0 w F p bm q bv nv s r) (hn : n ≤ 9223372036854775807) : Calls Try.prog 43 #[.pointer (some ⟨q, 0, none⟩), .int .i64 n] w (Tup0 (Step w0 w F p bm q bv nv s (armS r n))) := by
  obtain ⟨v, mv, h1, h2, h3, h4, h5, h6, h7⟩ := h
  exact (rarm_any n h3).mono fun _ w' ⟨he, hU⟩ => ⟨he, BE.rstep h1 h2 h3 h4 h5 h6 (good_arm h7 hn) hU⟩
theorem b_room {n : Int} (h : BE w0 w F p bm q bv nv s r) (hn : n ≤ 9223372036854775807) : Calls Try.prog 25 #[.pointer (some ⟨p, 0, none⟩), .int .i64 n] w (Tup0 (Step w0 w F p bm q bv nv (roomS s n) r)) := by
  obtain ⟨v, mv, h1, h2, h3, h4, h5, h6, h7⟩ := h
  exact (room_any n h2).mono fun _ w' ⟨he, hP, hM⟩ => ⟨he, BE.pstep h1 h2 h3 h4 h5 (good_room h6 hn) h7 ⟨v, hP, hM, fun _ h => .inl h⟩⟩
theorem b_rroom {n : Int} (h : BE w0 w F p bm q bv nv s r) (hn : n ≤ 9223372036854775807) : Calls Try.prog 46 #[.pointer (some ⟨q, 0, none⟩), .int .i64 n] w (Tup0 (Step w0 w F p bm q bv nv s (roomS r n))) := by
  obtain ⟨v, mv, h1, h2, h3, h4, h5, h6, h7⟩ := h
  exact (rroom_any n h3).mono fun _ w' ⟨he, hU⟩ => ⟨he, BE.rstep h1 h2 h3 h4 h5 h6 (good_room h7 hn) hU⟩
theorem b_off (h : BE w0 w F p bm q bv nv s r) : Calls Try.prog 19 #[.pointer (some ⟨p, 0, none⟩)] w (Tup0 (Step w0 w F p bm q bv nv (offS s) r)) := by
  obtain ⟨v, mv, h1, h2, h3, h4, h5, h6, h7⟩ := h
  exact (off_any h2).mono fun _ w' ⟨he, hP, hM⟩ => ⟨he, BE.pstep h1 h2 h3 h4 h5 (good_off h6) h7 ⟨v, hP, hM, fun _ h => .inl h⟩⟩
theorem b_roff (h : BE w0 w F p bm q bv nv s r) : Calls Try.prog 44 #[.pointer (some ⟨q, 0, none⟩)] w (Tup0 (Step w0 w F p bm q bv nv s (offS r))) := by
  obtain ⟨v, mv, h1, h2, h3, h4, h5, h6, h7⟩ := h
  exact (roff_any h3).mono fun _ w' ⟨he, hU⟩ => ⟨he, BE.rstep h1 h2 h3 h4 h5 h6 (good_off h7) hU⟩
theorem b_wake {ka : Option Addr} {kc n : Nat} {ks : List Bool} (h : BE w0 w F p bm q bv nv s r) (hl : s.more.length ≤ 1000000) (hk : Lst encK 1 w ka ks) (hn : ks.length = n) : Calls Try.prog 20 #[.pointer (some ⟨p, 0, none⟩), .slice ka n kc] w (Tup0 (Step w0 w F p bm q bv nv (wakeS s ks) r)) := by
  obtain ⟨v, mv, h1, h2, h3, h4, h5, h6, h7⟩ := h
  subst hn
  exact (wake_any ka kc ks h2 h6 hl hk).mono fun _ w' ⟨he, hU⟩ => ⟨he, BE.pstep h1 h2 h3 h4 h5 (good_wake h6) h7 hU⟩
theorem b_rwake {ka : Option Addr} {kc n : Nat} {ks : List Bool} (h : BE w0 w F p bm q bv nv s r) (hl : r.more.length ≤ 1000000) (hk : Lst encK 1 w ka ks) (hn : ks.length = n) (hap : 0 < ks.length → ∀ b off, ka = some ⟨b, off, none⟩ → F b ∨ b < w0.heap.size) : Calls Try.prog 45 #[.pointer (some ⟨q, 0, none⟩), .slice ka n kc] w (Tup0 (Step w0 w F p bm q bv nv s (wakeS r ks))) := by
  obtain ⟨v, mv, h1, h2, h3, h4, h5, h6, h7⟩ := h
  subst hn
  exact (rwake_any ka kc ks h3 h7 hl hk (fun h0 b off e c => by rcases hap h0 b off e with d | d; exact (h5 b d).2.1 c; have := (h3.lt b c).1; omega)).mono fun _ w' ⟨he, hU⟩ => ⟨he, BE.rstep h1 h2 h3 h4 h5 h6 (good_wake h7) hU⟩
theorem b_read {i : Int} (h : BE w0 w F p bm q bv nv s r) : Calls Try.prog 18 #[.pointer (some ⟨p, 0, none⟩), .int .i64 i] w (RetSI (readR s i).1 (readR s i).2 w) := by
  obtain ⟨v, mv, h1, h2, h3, h4, h5, h6, h7⟩ := h
  exact read_any i h2 h6
theorem b_rread {i : Int} (h : BE w0 w F p bm q bv nv s r) : Calls Try.prog 47 #[.pointer (some ⟨q, 0, none⟩), .int .i64 i] w (RetSI (readR r i).1 (readR r i).2 w) := by
  obtain ⟨v, mv, h1, h2, h3, h4, h5, h6, h7⟩ := h
  exact rread_any i h3 h7
theorem b_fits {a : Option Addr} {cap n : Nat} {l : List Int} (h : BE w0 w F p bm q bv nv s r) (hl : Lst encI 1 w a l) (hw : WfI l) (hn : l.length = n) (hm : n ≤ 1000000) : Calls Try.prog 14 #[.pointer (some ⟨p, 0, none⟩), .slice a n cap] w (RetB (fitsS s l) w) := by
  obtain ⟨v, mv, h1, h2, h3, h4, h5, h6, h7⟩ := h
  subst hn
  exact fits_any a cap l h2 h6 hl hw hm
theorem b_rfits {a : Option Addr} {cap n : Nat} {l : List Int} (h : BE w0 w F p bm q bv nv s r) (hl : Lst encI 1 w a l) (hn : l.length = n) (hm : n ≤ 1000000) : Calls Try.prog 15 #[.pointer (some ⟨q, 0, none⟩), .slice a n cap] w (RetB (fitsS r l) w) := by
  obtain ⟨v, mv, h1, h2, h3, h4, h5, h6, h7⟩ := h
  subst hn
  exact rfits_any a cap l h3 h7 hl hm
theorem b_used (h : BE w0 w F p bm q bv nv s r) : Calls Try.prog 23 #[.pointer (some ⟨p, 0, none⟩)] w (SameI (cntF s.now) w) := by
  obtain ⟨v, mv, h1, h2, h3, h4, h5, h6, h7⟩ := h
  exact used_any h2
theorem b_rused (h : BE w0 w F p bm q bv nv s r) : Calls Try.prog 48 #[.pointer (some ⟨q, 0, none⟩)] w (SameI (cntF r.now) w) := by
  obtain ⟨v, mv, h1, h2, h3, h4, h5, h6, h7⟩ := h
  exact rused_any h3
theorem b_len (h : BE w0 w F p bm q bv nv s r) : Calls Try.prog 29 #[.pointer (some ⟨p, 0, none⟩)] w (SameI s.len w) := by
  obtain ⟨v, mv, h1, h2, h3, h4, h5, h6, h7⟩ := h
  exact len_any h2
theorem b_on (h : BE w0 w F p bm q bv nv s r) : Calls Try.prog 21 #[.pointer (some ⟨p, 0, none⟩)] w (SameB (!s.off) w) := by
  obtain ⟨v, mv, h1, h2, h3, h4, h5, h6, h7⟩ := h
  exact on_any h2
/-- what the reference's fields hold. -/
theorem b_ref (h : BE w0 w F p bm q bv nv s r) : w.cell? ⟨q, 0, none⟩ = some (.int .i64 r.len) ∧ w.cell? ⟨q, 7, none⟩ = some (.bool (!r.off)) := by
  obtain ⟨v, mv, h1, h2, h3, h4, h5, h6, h7⟩ := h
  obtain ⟨⟨g0, -, -, -, -, -, -, g7⟩, -⟩ := h3.cells
  exact ⟨g0, g7⟩
end Go.Proofs.Ytcgkdomfbkkboaa
