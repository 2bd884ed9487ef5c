/- The fuse, in plain words. -/
import Derived.Test.YtcgkdomfbkkboaaWorks
namespace Go.Proofs.Ytcgkdomfbkkboaa
open Go.RowKit Go.Joins Go.ChangeMaps

def cntN (f : Fn) (m : Nat) : Nat := ((List.range m).filter (fun (i : Nat) => (f (i : Int)).isSome)).length
theorem cntN_succ (f : Fn) (m : Nat) : cntN f (m + 1) = cntN f m + (f (m : Int)).isSome.toNat := by
  unfold cntN
  rw [List.range_succ, List.filter_append, List.length_append]
  congr 1
  by_cases h : (f (m : Int)).isSome = true
  · simp [h]
  · have h : (f (m : Int)).isSome = false := by simpa using h
    simp [h]
theorem cntN_le (f : Fn) (m : Nat) : cntN f m ≤ m := by
  have := List.length_filter_le (fun (i : Nat) => (f (i : Int)).isSome) (List.range m)
  rw [List.length_range] at this
  exact this
theorem cntN_past {f : Fn} {L : Nat} (hf : ∀ i x, f i = some x → i < L) : ∀ m, L ≤ m → cntN f m = cntN f L := by
  intro m hm
  induction m with
  | zero => obtain rfl : L = 0 := by omega
            rfl
  | succ m ih =>
    by_cases e : L = m + 1
    · rw [e]
    · rw [cntN_succ, ih (by omega)]
      have : f (m : Int) = none := by
        cases h : f (m : Int) with
        | none => rfl
        | some x => have := hf _ _ h; omega
      simp [this]
theorem cntN_hole {f : Fn} {i : Nat} (h : f (i : Int) = none) : ∀ m, i < m → cntN f m < m := by
  intro m hm
  induction m with
  | zero => omega
  | succ m ih =>
    rw [cntN_succ]
    by_cases e : i = m
    · subst e; have := cntN_le f i; simp [h]; omega
    · have := ih (by omega)
      have h2 : (f (m : Int)).isSome.toNat ≤ 1 := by cases (f (m : Int)).isSome <;> decide
      omega
/-- where one was not written there is room. -/
theorem cntF_lt {f : Fn} {L i : Int} (hL : L ≤ 1024) (hf : ∀ i x, f i = some x → i < L) (h0 : 0 ≤ i) (h1 : i < L) (h : f i = none) : (cntF f : Int) < L := by
  obtain ⟨n, rfl⟩ : ∃ n : Nat, i = n := ⟨i.toNat, by omega⟩
  obtain ⟨l, rfl⟩ : ∃ l : Nat, L = l := ⟨L.toNat, by omega⟩
  have h2 : cntF f = cntN f l := cntN_past (fun i x hx => hf i x hx) 1024 (by omega)
  have := cntN_hole h l (by omega)
  omega
theorem Good.rooms {s : St} (h : Good s) {i : Int} (h0 : 0 ≤ i) (h1 : i < s.len) (hi : s.now i = none) : (cntF s.now : Int) < s.len :=
  cntF_lt h.len.2 (fun i x hx => (h.now i x hx).2.1) h0 h1 hi
/-- a write that is done. -/
theorem write_ok {s : St} (hg : Good s) {i : Int} {b : BA} (ho : s.off = false) (h0 : 0 ≤ i) (h1 : i < s.len) (hr : s.len ≤ s.room) (hb : b.size = 32) (hf : s.fuse ≠ 1) : writeR s i b = (0, putS (burnS s) i b) := by
  have hb2 : (burnS s).off = false := by unfold burnS; rw [if_neg hf]; exact ho
  have hc : ¬ (s.now i = none ∧ s.room ≤ (cntF s.now : Int)) := fun ⟨c1, c2⟩ => by have := hg.rooms h0 h1 c1; omega
  unfold writeR
  rw [if_neg (by simp [ho]), if_neg (by simp [hb]; omega), if_neg hc, if_neg (by simp [hb2])]
theorem write_burnt {s : St} (hg : Good s) {i : Int} {b : BA} (ho : s.off = false) (h0 : 0 ≤ i) (h1 : i < s.len) (hr : s.len ≤ s.room) (hb : b.size = 32) (hf : s.fuse = 1) : writeR s i b = (6, { s with off := true, fuse := 0 }) := by
  have hb2 : burnS s = { s with off := true, fuse := 0 } := by unfold burnS; rw [if_pos hf]
  have hc : ¬ (s.now i = none ∧ s.room ≤ (cntF s.now : Int)) := fun ⟨c1, c2⟩ => by have := hg.rooms h0 h1 c1; omega
  unfold writeR
  rw [if_neg (by simp [ho]), if_neg (by simp [hb]; omega), if_neg hc, hb2, if_pos rfl]
theorem flush_ok {s : St} (ho : s.off = false) (hf : s.fuse ≠ 1) : flushR s = (0, { burnS s with base := s.now, more := [] }) := by
  have hb2 : (burnS s).off = false := by unfold burnS; rw [if_neg hf]; exact ho
  unfold flushR
  rw [if_neg (by simp [ho]), if_neg (by simp [hb2])]
theorem flush_burnt {s : St} (ho : s.off = false) (hf : s.fuse = 1) : flushR s = (6, { s with off := true, fuse := 0 }) := by
  have hb2 : burnS s = { s with off := true, fuse := 0 } := by unfold burnS; rw [if_pos hf]
  unfold flushR
  rw [if_neg (by simp [ho]), hb2, if_pos rfl]
theorem write_dark {s : St} {i : Int} {b : BA} (ho : s.off = true) : writeR s i b = (6, s) := by unfold writeR; rw [if_pos ho]
theorem flush_dark {s : St} (ho : s.off = true) : flushR s = (6, s) := by unfold flushR; rw [if_pos ho]
theorem wA_size : wA.size = 32 := data_len (by omega)
theorem wA_wZ : (ByteArray.toList wZ == ByteArray.toList wA) = false := by rw [← Go.beq_toListBytes]; kernel_rfl

def odd (x : Int) : Bool := x % 2 == 1
def upto (j : Int) : Fn := fun x => if x % 2 = 1 ∧ 1 ≤ x ∧ x ≤ j then some wA else none
/-- j operations of n are over. -/
structure Fz (n j : Int) (s : St) : Prop where
  off : s.off = false
  fuse : s.fuse = n - j
  len : s.len = 64
  room : s.room = 64
  more : (s.more.length : Int) ≤ j
  base : s.base = upto (j - 1)
  now : s.now = upto j
theorem upto_even {j : Int} (h : j % 2 = 0) : upto j = upto (j - 1) := by
  funext x
  unfold upto
  have : (x % 2 = 1 ∧ 1 ≤ x ∧ x ≤ j) ↔ (x % 2 = 1 ∧ 1 ≤ x ∧ x ≤ j - 1) := by
    constructor <;> rintro ⟨a, b, c⟩ <;> refine ⟨a, b, ?_⟩ <;> omega
  simp only [this]
theorem upto_odd {j : Int} (h : j % 2 = 1) (h1 : 1 ≤ j) : upto j = upd (upto (j - 1)) j (some wA) := by
  funext x
  unfold upto upd
  by_cases e : x = j
  · subst e; rw [if_pos ⟨h, h1, Int.le_refl _⟩, if_pos rfl]
  · rw [if_neg e]
    have : (x % 2 = 1 ∧ 1 ≤ x ∧ x ≤ j) ↔ (x % 2 = 1 ∧ 1 ≤ x ∧ x ≤ j - 1) := by
      constructor <;> rintro ⟨a, b, c⟩ <;> refine ⟨a, b, ?_⟩ <;> omega
    simp only [this]
theorem burn_fz {n j : Int} {s : St} (h : Fz n j s) (hlt : j + 1 < n) : burnS s = { s with fuse := n - (j + 1) } := by
  unfold burnS
  rw [if_neg (by rw [h.fuse]; omega), h.fuse]
  congr 1
  omega
theorem fz_write {n j : Int} {s : St} (hg : Good s) (h : Fz n j s) (h0 : 0 ≤ j) (hlt : j + 1 < n) (hn : n ≤ 60) (hj : (j + 1) % 2 = 1) : ∃ s', writeR s (j + 1) wA = (0, s') ∧ Fz n (j + 1) s' := by
  refine ⟨_, write_ok hg h.off (by omega) (by rw [h.len]; omega) (by rw [h.len, h.room]; omega) wA_size (by rw [h.fuse]; omega), ?_⟩
  rw [burn_fz h hlt]
  refine ⟨h.off, rfl, h.len, h.room, ?_, ?_, ?_⟩
  · have := h.more; simp [putS]; omega
  · show s.base = _
    rw [h.base, show j + 1 - 1 = j by omega, ← upto_even (by omega)]
  · show apply s.base (s.more ++ [(j + 1, wA)]) = _
    rw [apply_snoc, upto_odd hj (by omega), show j + 1 - 1 = j by omega, ← h.now]
    rfl
theorem fz_flush {n j : Int} {s : St} (h : Fz n j s) (h0 : 0 ≤ j) (hlt : j + 1 < n) (hj : (j + 1) % 2 = 0) : ∃ s', flushR s = (0, s') ∧ Fz n (j + 1) s' := by
  refine ⟨_, flush_ok h.off (by rw [h.fuse]; omega), ?_⟩
  rw [burn_fz h hlt]
  have e : s.now = upto (j + 1) := by rw [h.now, upto_even hj, show j + 1 - 1 = j by omega]
  refine ⟨h.off, rfl, h.len, h.room, by simp; omega, ?_, e⟩
  show s.now = _
  rw [h.now, show j + 1 - 1 = j by omega]
theorem fz_start (n : Int) (h : 1 ≤ n) : Fz n 0 (armS (newS 64 64) n) := by
  refine ⟨rfl, ?_, rfl, rfl, Int.le_refl _, ?_, ?_⟩
  · show max n 0 = n - 0; omega
  · funext x; show none = _; unfold upto; rw [if_neg (by omega)]
  · funext x; show none = _; unfold upto; rw [if_neg (by omega)]
/-- the power went, at the n-th operation. -/
structure Gone (n : Int) (s : St) : Prop where
  off : s.off = true
  len : s.len = 64
  room : s.room = 64
  fuse : s.fuse = 0
  more : (s.more.length : Int) ≤ 60
  base : s.base = upto (n - 2)
theorem gone_of {n : Int} {s : St} (h : Fz n (n - 1) s) (hn : n ≤ 60) : Gone n { s with off := true, fuse := 0 } :=
  ⟨rfl, h.len, h.room, rfl, by have := h.more; show (s.more.length : Int) ≤ 60; omega, by show s.base = _; rw [h.base]; congr 1; omega⟩
theorem fz_write_end {n : Int} {s : St} (hg : Good s) (h : Fz n (n - 1) s) (h0 : 1 ≤ n) (hn : n ≤ 60) : ∃ s', writeR s n wA = (6, s') ∧ Gone n s' :=
  ⟨_, write_burnt hg h.off (by omega) (by rw [h.len]; omega) (by rw [h.len, h.room]; omega) wA_size (by rw [h.fuse]; omega), gone_of h hn⟩
theorem fz_flush_end {n : Int} {s : St} (h : Fz n (n - 1) s) (hn : n ≤ 60) : ∃ s', flushR s = (6, s') ∧ Gone n s' :=
  ⟨_, flush_burnt h.off (by rw [h.fuse]; omega), gone_of h hn⟩
/-- the power is back. -/
structure Back (n : Int) (s : St) : Prop where
  off : s.off = false
  len : s.len = 64
  room : s.room = 64
  fuse : s.fuse = 0
  more : s.more = []
  now : s.now = upto (n - 2)
theorem back_of {n : Int} {s : St} (h : Gone n s) : Back n (wakeS s []) := by
  have e : kept s.more [] = [] := by cases s.more <;> rfl
  unfold wakeS
  rw [if_pos h.off, e]
  exact ⟨rfl, h.len, h.room, h.fuse, rfl, h.base⟩
theorem back_read {n i : Int} {s : St} (h : Back n s) (h0 : 0 ≤ i) (h1 : i < 64) (hi : i % 2 = 1) : readR s i = (if i + 1 < n then wA else wZ, 0) := by
  unfold readR
  rw [if_neg (by simp [h.off]), if_neg (by rw [h.len]; omega), h.now]
  unfold upto
  by_cases hc : i + 1 < n
  · rw [if_pos ⟨hi, by omega, by omega⟩, if_pos hc]; rfl
  · rw [if_neg (by omega), if_neg hc]; rfl
theorem back_write {n : Int} {s : St} (hg : Good s) (h : Back n s) : ∃ s', writeR s 0 wA = (0, s') ∧ s'.off = false ∧ s'.fuse = 0 := by
  have hf : s.fuse ≠ 1 := by rw [h.fuse]; omega
  refine ⟨_, write_ok hg h.off (by omega) (by rw [h.len]; omega) (by rw [h.len, h.room]; omega) wA_size hf, ?_⟩
  unfold burnS putS
  rw [if_neg hf, h.fuse]
  exact ⟨h.off, rfl⟩
theorem back_flush {s : St} (ho : s.off = false) (hf : s.fuse = 0) : ∃ s', flushR s = (0, s') ∧ (!s'.off) = true := by
  have hf2 : s.fuse ≠ 1 := by rw [hf]; omega
  refine ⟨_, flush_ok ho hf2, ?_⟩
  unfold burnS
  rw [if_neg hf2]
  simp [ho]
theorem d_onF {w0 w : World} {F : Nat → Prop} {p bm : Nat} {s : St} (h : DE w0 w F p bm s) (ho : s.off = false) : Calls Try.prog 21 #[.pointer (some ⟨p, 0, none⟩)] w (SameB true w) := by have := d_on h; rwa [ho] at this
theorem d_onT {w0 w : World} {F : Nat → Prop} {p bm : Nat} {s : St} (h : DE w0 w F p bm s) (ho : s.off = true) : Calls Try.prog 21 #[.pointer (some ⟨p, 0, none⟩)] w (SameB false w) := by have := d_on h; rwa [ho] at this
end Go.Proofs.Ytcgkdomfbkkboaa
