/- A disk alone. -/
import Derived.Test.YtcgkdomfbkkboaaFit14
import Derived.Test.YtcgkdomfbkkboaaWake
namespace Go.Proofs.Ytcgkdomfbkkboaa
open Go.RowKit Go.Joins Go.ChangeMaps

/-- a disk in w, made since w0; the blocks F are none of its. -/
def DE (w0 w : World) (F : Nat → Prop) (p bm : Nat) (s : St) : Prop :=
  ∃ v, Below w0.heap.size w0 w ∧ PD w w0.heap.size p bm v s ∧ (∀ k, F k → ¬ PF p bm v k ∧ k < w.heap.size) ∧ Good s
variable {w0 w w' : World} {F F' : Nat → Prop} {p bm : Nat} {s s' : St}
theorem DE.bel (h : DE w0 w F p bm s) : Below w0.heap.size w0 w := by obtain ⟨_, h, _⟩ := h; exact h
theorem DE.good (h : DE w0 w F p bm s) : Good s := by obtain ⟨_, _, _, _, h⟩ := h; exact h
theorem DE.below (h : DE w0 w F p bm s) (hb : Below w.heap.size w w') : DE w0 w' F p bm s := by
  obtain ⟨v, h1, h2, h5, h6⟩ := h
  exact ⟨v, grew_trans h1 hb, h2.below hb, fun k hk => ⟨(h5 k hk).1, Nat.lt_of_lt_of_le (h5 k hk).2 hb.size⟩, h6⟩
theorem DE.less (h : DE w0 w F p bm s) (hF : ∀ k, F' k → F k) : DE w0 w F' p bm s := by
  obtain ⟨v, h1, h2, h5, h6⟩ := h
  exact ⟨v, h1, h2, fun k hk => h5 k (hF k hk), h6⟩
theorem DE.more (h : DE w0 w F p bm s) (hb : Below w.heap.size w w') : DE w0 w' (fun k => F k ∨ (w.heap.size ≤ k ∧ k < w'.heap.size)) p bm s := by
  obtain ⟨v, h1, h2, h5, h6⟩ := h
  refine ⟨v, grew_trans h1 hb, h2.below hb, fun k hk => ?_, h6⟩
  rcases hk with hk | hk
  · exact ⟨(h5 k hk).1, Nat.lt_of_lt_of_le (h5 k hk).2 hb.size⟩
  · exact ⟨fun c => by have := (h2.lt k c).2; omega, hk.2⟩
theorem DE.mod {S : Nat → Prop} (h : DE w0 w F p bm s) (hm : Mod S w w') (hS : ∀ k, k < w.heap.size → S k → F k) (hn : ∀ k, S k → w0.heap.size ≤ k) : DE w0 w' F p bm s := by
  obtain ⟨v, h1, h2, h5, h6⟩ := h
  have hm' : Mod (fun k => S k ∧ k < w.heap.size) w w' := ⟨hm.os, hm.tape, hm.output, hm.size, fun k hk hs => hm.block k hk (fun c => hs ⟨c, hk⟩)⟩
  exact ⟨v, h1.trans (hm.below h1.size hn), h2.mod hm' (fun k hk hs => (h5 k (hS k hs.2 hs.1)).1 hk), fun k hk => ⟨(h5 k hk).1, Nat.lt_of_lt_of_le (h5 k hk).2 hm.size⟩, h6⟩
def Stp (w0 w : World) (F : Nat → Prop) (p bm : Nat) (s : St) (w' : World) : Prop := DE w0 w' F p bm s ∧ (∀ k o, F k → w.heap[k]? = some o → w'.heap[k]? = some o) ∧ Mod (fun k => ¬ F k ∧ w0.heap.size ≤ k) w w'
theorem DE.step {v : Value} (h1 : Below w0.heap.size w0 w) (h2 : PD w w0.heap.size p bm v s) (h5 : ∀ k, F k → ¬ PF p bm v k ∧ k < w.heap.size) (hg : Good s') (hU : PUpd w0.heap.size p bm v s' w w') : Stp w0 w F p bm s' w' := by
  obtain ⟨v', k1, k2, k3⟩ := hU
  refine ⟨⟨v', h1.trans (k2.below h1.size (fun k hk => (h2.lt k hk).1)), k1, fun k hk => ⟨fun c => ?_, Nat.lt_of_lt_of_le (h5 k hk).2 k2.size⟩, hg⟩, fun k o hk ho => k2.heap ho (h5 k hk).1, k2.mono fun k _ hk => ⟨fun c => (h5 k c).1 hk, (h2.lt k hk).1⟩⟩
  rcases c with rfl | rfl | c
  · exact (h5 _ hk).1 (.inl rfl)
  · exact (h5 _ hk).1 (.inr (.inl rfl))
  · rcases k3 k c with hc | hc
    · exact (h5 k hk).1 (.inr (.inr hc))
    · have := (h5 k hk).2; omega
theorem d_new (n room : Int) (h1 : 1 ≤ n) (h2 : n ≤ 1024) (h3 : 0 ≤ room) (h4 : room ≤ 9223372036854775807) : Calls Try.prog 9 #[.int .i64 n, .int .i64 room] w0 (fun e w' => e = .returned (.pointer (some ⟨w0.heap.size + 1, 0, none⟩)) ∧ DE w0 w' (fun _ => False) (w0.heap.size + 1) w0.heap.size (newS n room)) :=
  (new_any n room w0 h1 h2 h3).mono fun _ _ ⟨he, h, hb⟩ => ⟨he, _, hb, h, fun _ c => c.elim, good_new h1 h2 h3 h4⟩
theorem d_write {i : Int} {b : BA} {r : Int} (h : DE w0 w F p bm s) (hn : s.more.length ≤ 1000000) (e : writeR s i b = (r, s')) :
    Calls Try.prog 11 #[.pointer (some ⟨p, 0, none⟩), .int .i64 i, .string b] w (TupI r (Stp w0 w F p bm s')) := by
  obtain ⟨v, h1, h2, h5, h6⟩ := h
  have hw := write_any i b h2 h6 hn h1.size
  have hg := good_write (i := i) (b := b) h6
  rw [e] at hw hg
  exact hw.mono fun _ w' ⟨he, hU⟩ => ⟨he, DE.step h1 h2 h5 hg hU⟩
theorem d_flush {r : Int} (h : DE w0 w F p bm s) (e : flushR s = (r, s')) : Calls Try.prog 17 #[.pointer (some ⟨p, 0, none⟩)] w (TupI r (Stp w0 w F p bm s')) := by
  obtain ⟨v, h1, h2, h5, h6⟩ := h
  have hw := flush_any h2 h6
  have hg := good_flush h6
  rw [e] at hw hg
  exact hw.mono fun _ w' ⟨he, hU⟩ => ⟨he, DE.step h1 h2 h5 hg hU⟩
theorem d_read {i : Int} {b : BA} {r : Int} (h : DE w0 w F p bm s) (e : readR s i = (b, r)) : Calls Try.prog 18 #[.pointer (some ⟨p, 0, none⟩), .int .i64 i] w (RetSI b r w) := by
  obtain ⟨v, h1, h2, h5, h6⟩ := h
  have hw := read_any i h2 h6
  rwa [e] at hw
theorem d_off (h : DE w0 w F p bm s) : Calls Try.prog 19 #[.pointer (some ⟨p, 0, none⟩)] w (Tup0 (Stp w0 w F p bm (offS s))) := by
  obtain ⟨v, h1, h2, h5, h6⟩ := h
  exact (off_any h2).mono fun _ w' ⟨he, hP, hM⟩ => ⟨he, DE.step h1 h2 h5 (good_off h6) ⟨v, hP, hM, fun _ h => .inl h⟩⟩
theorem d_arm {n : Int} (h : DE w0 w F p bm s) (hn : n ≤ 9223372036854775807) : Calls Try.prog 22 #[.pointer (some ⟨p, 0, none⟩), .int .i64 n] w (Tup0 (Stp w0 w F p bm (armS s n))) := by
  obtain ⟨v, h1, h2, h5, h6⟩ := h
  exact (arm_any n h2).mono fun _ w' ⟨he, hP, hM⟩ => ⟨he, DE.step h1 h2 h5 (good_arm h6 hn) ⟨v, hP, hM, fun _ h => .inl h⟩⟩
theorem d_room {n : Int} (h : DE w0 w F p bm s) (hn : n ≤ 9223372036854775807) : Calls Try.prog 25 #[.pointer (some ⟨p, 0, none⟩), .int .i64 n] w (Tup0 (Stp w0 w F p bm (roomS s n))) := by
  obtain ⟨v, h1, h2, h5, h6⟩ := h
  exact (room_any n h2).mono fun _ w' ⟨he, hP, hM⟩ => ⟨he, DE.step h1 h2 h5 (good_room h6 hn) ⟨v, hP, hM, fun _ h => .inl h⟩⟩
theorem d_wake {ka : Option Addr} {kc n : Nat} {ks : List Bool} (h : DE w0 w F p bm s) (hl : s.more.length ≤ 1000000) (hk : Lst encK 1 w ka ks) (hn : ks.length = n) (e : wakeS s ks = s') :
    Calls Try.prog 20 #[.pointer (some ⟨p, 0, none⟩), .slice ka n kc] w (Tup0 (Stp w0 w F p bm s')) := by
  obtain ⟨v, h1, h2, h5, h6⟩ := h
  subst hn
  have hw := wake_any ka kc ks h2 h6 hl hk
  have hg := good_wake (ks := ks) h6
  rw [e] at hw hg
  exact hw.mono fun _ w' ⟨he, hU⟩ => ⟨he, DE.step h1 h2 h5 hg hU⟩
theorem d_fits {a : Option Addr} {cap n : Nat} {l : List Int} {b : Bool} (h : DE w0 w F p bm s) (hl : Lst encI 1 w a l) (hw : WfI l) (hn : l.length = n) (hm : n ≤ 1000000) (e : fitsS s l = b) :
    Calls Try.prog 14 #[.pointer (some ⟨p, 0, none⟩), .slice a n cap] w (RetB b w) := by
  obtain ⟨v, h1, h2, h5, h6⟩ := h
  subst hn
  have := fits_any a cap l h2 h6 hl hw hm
  rwa [e] at this
theorem d_used (h : DE w0 w F p bm s) : Calls Try.prog 23 #[.pointer (some ⟨p, 0, none⟩)] w (SameI (cntF s.now) w) := by
  obtain ⟨v, h1, h2, h5, h6⟩ := h
  exact used_any h2
theorem d_len (h : DE w0 w F p bm s) : Calls Try.prog 29 #[.pointer (some ⟨p, 0, none⟩)] w (SameI s.len w) := by
  obtain ⟨v, h1, h2, h5, h6⟩ := h
  exact len_any h2
theorem d_on (h : DE w0 w F p bm s) : Calls Try.prog 21 #[.pointer (some ⟨p, 0, none⟩)] w (SameB (!s.off) w) := by
  obtain ⟨v, h1, h2, h5, h6⟩ := h
  exact on_any h2
end Go.Proofs.Ytcgkdomfbkkboaa
