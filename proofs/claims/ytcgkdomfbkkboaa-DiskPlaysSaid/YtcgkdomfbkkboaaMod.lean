/- A disk in plain words: what was flushed, and the writes behind it. -/
import Derived.Test.YtcgkdomfbkkboaaDel
import Derived.Test.YtcgkdomfbkkboaaLater
namespace Go.Proofs.Ytcgkdomfbkkboaa
open Go.RowKit Go.Joins

abbrev BA := ByteArray
/-- a write. -/
abbrev Wr := Int × BA
/-- what a sector was ahead of a write. -/
abbrev Bf := Int × BA × Bool
abbrev Fn := Int → Option BA
def upd (f : Fn) (i : Int) (x : Option BA) : Fn := fun j => if j = i then x else f j
theorem upd_same (f : Fn) (i : Int) (x : Option BA) : upd f i x i = x := by simp [upd]
theorem upd_other {f : Fn} {i j : Int} {x : Option BA} (h : j ≠ i) : upd f i x j = f j := by simp [upd, h]
/-- what writes make. -/
def apply (f : Fn) : List Wr → Fn
  | [] => f
  | w :: ws => apply (upd f w.1 (some w.2)) ws
theorem apply_append (f : Fn) (xs ys : List Wr) : apply f (xs ++ ys) = apply (apply f xs) ys := by
  induction xs generalizing f with
  | nil => rfl
  | cons x xs ih => simpa [apply] using ih (upd f x.1 (some x.2))
theorem apply_snoc (f : Fn) (xs : List Wr) (x : Wr) : apply f (xs ++ [x]) = upd (apply f xs) x.1 (some x.2) := by rw [apply_append]; rfl
/-- how many sectors were written. -/
def cntF (f : Fn) : Nat := ((List.range 1024).filter (fun (i : Nat) => (f (i : Int)).isSome)).length
theorem cntF_le (f : Fn) : cntF f ≤ 1024 := by
  have := List.length_filter_le (fun (i : Nat) => (f (i : Int)).isSome) (List.range 1024)
  rw [List.length_range] at this
  exact this
/-- what the program keeps of writes that are not flushed. -/
def undoOf (f : Fn) : List Wr → List Bf
  | [] => []
  | w :: ws => (w.1, (f w.1).getD ByteArray.empty, (f w.1).isSome) :: undoOf (upd f w.1 (some w.2)) ws
theorem undoOf_length (f : Fn) (ws : List Wr) : (undoOf f ws).length = ws.length := by
  induction ws generalizing f with
  | nil => rfl
  | cons x xs ih => simp [undoOf, ih]
theorem undoOf_append (f : Fn) (xs ys : List Wr) : undoOf f (xs ++ ys) = undoOf f xs ++ undoOf (apply f xs) ys := by
  induction xs generalizing f with
  | nil => rfl
  | cons x xs ih => simpa [undoOf, apply] using ih (upd f x.1 (some x.2))
theorem undoOf_snoc (f : Fn) (xs : List Wr) (x : Wr) : undoOf f (xs ++ [x]) = undoOf f xs ++ [(x.1, (apply f xs x.1).getD ByteArray.empty, (apply f xs x.1).isSome)] := by rw [undoOf_append]; rfl
theorem undoOf_getD (f : Fn) (ws : List Wr) (i : Nat) (h : i < ws.length) : (undoOf f ws).getD i default = ((ws.getD i default).1, (apply f (ws.take i) (ws.getD i default).1).getD ByteArray.empty, (apply f (ws.take i) (ws.getD i default).1).isSome) := by
  induction ws generalizing f i with
  | nil => simp at h
  | cons x xs ih =>
    cases i with
    | zero => simp [undoOf, apply]
    | succ i => simpa [undoOf, apply] using ih (upd f x.1 (some x.2)) i (by simpa using h)

structure St where
  base : Fn
  more : List Wr
  len : Int
  room : Int
  fuse : Int
  off : Bool
def St.now (s : St) : Fn := apply s.base s.more
def St.undo (s : St) : List Bf := undoOf s.base s.more
def newS (n room : Int) : St := ⟨fun _ => none, [], n, room, 0, false⟩
def errOf (s : St) : Int := if s.off then 6 else 0
def burnS (s : St) : St := if s.fuse = 1 then { s with off := true, fuse := 0 } else { s with fuse := max (s.fuse - 1) 0 }
def thereS (s : St) (i : Int) : Bool := decide (0 ≤ i ∧ i < s.len)
def putS (s : St) (i : Int) (b : BA) : St := { s with more := s.more ++ [(i, b)] }
def writeR (s : St) (i : Int) (b : BA) : Int × St :=
  if s.off then (6, s)
  else if ¬ (0 ≤ i ∧ i < s.len) ∨ b.size ≠ 32 then (2, s)
  else if s.now i = none ∧ s.room ≤ cntF s.now then (7, s)
  else if (burnS s).off then (6, burnS s)
  else (0, putS (burnS s) i b)
def flushR (s : St) : Int × St :=
  if s.off then (6, s)
  else if (burnS s).off then (6, burnS s)
  else (0, { burnS s with base := s.now, more := [] })
def zeros : BA := ⟨Array.replicate 32 0⟩
def readR (s : St) (i : Int) : BA × Int :=
  if s.off then (ByteArray.empty, 6)
  else if ¬ (0 ≤ i ∧ i < s.len) then (ByteArray.empty, 2)
  else ((s.now i).getD zeros, 0)
/-- the different places that were not written. -/
def freshStep (f : Fn) (r : List Int) (i : Int) : List Int := if (f i).isSome ∨ i ∈ r then r else r ++ [i]
def fresh (f : Fn) (l : List Int) : List Int := l.foldl (freshStep f) []
theorem fresh_snoc (f : Fn) (l : List Int) (i : Int) : fresh f (l ++ [i]) = freshStep f (fresh f l) i := by simp [fresh]
theorem fresh_length (f : Fn) (l : List Int) : (fresh f l).length ≤ l.length := by
  suffices h : ∀ (l : List Int) (r : List Int), (l.foldl (freshStep f) r).length ≤ r.length + l.length by have h2 := h l []; rw [List.length_nil, Nat.zero_add] at h2; exact h2
  intro l
  induction l with
  | nil => intro r; simp
  | cons i l ih =>
    intro r
    have h1 := ih (freshStep f r i)
    have h2 : (freshStep f r i).length ≤ r.length + 1 := by unfold freshStep; split <;> simp
    simp only [List.foldl_cons, List.length_cons]
    omega
def fitsS (s : St) (l : List Int) : Bool := l.all (thereS s) && decide ((fresh s.now l).length = 0 ∨ ((fresh s.now l).length : Int) ≤ s.room - cntF s.now)
def kept : List Wr → List Bool → List Wr
  | w :: ws, k :: ks => if k then w :: kept ws ks else kept ws ks
  | _, _ => []
def wakeS (s : St) (keep : List Bool) : St := if s.off then { s with base := apply s.base (kept s.more keep), more := [], off := false } else s
def offS (s : St) : St := { s with off := true, fuse := 0 }
def armS (s : St) (n : Int) : St := { s with fuse := max n 0 }
def roomS (s : St) (n : Int) : St := { s with room := max n 0 }

structure Good (s : St) : Prop where
  len : 1 ≤ s.len ∧ s.len ≤ 1024
  room : 0 ≤ s.room ∧ s.room ≤ 9223372036854775807
  fuse : 0 ≤ s.fuse ∧ s.fuse ≤ 9223372036854775807
  base : ∀ i x, s.base i = some x → 0 ≤ i ∧ i < s.len ∧ x.size = 32
  more : ∀ w ∈ s.more, 0 ≤ w.1 ∧ w.1 < s.len ∧ w.2.size = 32
theorem apply_in {f : Fn} {n : Int} {ws : List Wr} (hf : ∀ i x, f i = some x → 0 ≤ i ∧ i < n ∧ x.size = 32) (hw : ∀ w ∈ ws, 0 ≤ w.1 ∧ w.1 < n ∧ w.2.size = 32) : ∀ i x, apply f ws i = some x → 0 ≤ i ∧ i < n ∧ x.size = 32 := by
  induction ws generalizing f with
  | nil => exact hf
  | cons w ws ih =>
    refine ih (fun i x h => ?_) (fun v hv => hw v (List.mem_cons_of_mem _ hv))
    by_cases e : i = w.1
    · subst e; rw [upd_same] at h; cases h; exact hw w (List.mem_cons_self ..)
    · rw [upd_other e] at h; exact hf i x h
theorem Good.now {s : St} (h : Good s) : ∀ i x, s.now i = some x → 0 ≤ i ∧ i < s.len ∧ x.size = 32 := apply_in h.base h.more
theorem good_new {n room : Int} (h1 : 1 ≤ n) (h2 : n ≤ 1024) (h3 : 0 ≤ room) (h4 : room ≤ 9223372036854775807) : Good (newS n room) := ⟨⟨h1, h2⟩, ⟨h3, h4⟩, ⟨Int.le_refl _, by simp [newS]⟩, fun i x h => by simp [newS] at h, fun w h => by simp [newS] at h⟩
theorem good_burn {s : St} (h : Good s) : Good (burnS s) := by
  unfold burnS
  have := h.fuse
  split
  · exact ⟨h.len, h.room, ⟨Int.le_refl _, by simp⟩, h.base, h.more⟩
  · exact ⟨h.len, h.room, ⟨by simp only; omega, by simp only; omega⟩, h.base, h.more⟩
theorem burn_now (s : St) : (burnS s).now = s.now ∧ (burnS s).base = s.base ∧ (burnS s).more = s.more ∧ (burnS s).len = s.len ∧ (burnS s).room = s.room := by unfold burnS St.now; split <;> exact ⟨rfl, rfl, rfl, rfl, rfl⟩
theorem good_put {s : St} {i : Int} {b : BA} (h : Good s) (h1 : 0 ≤ i ∧ i < s.len) (h2 : b.size = 32) : Good (putS s i b) :=
  ⟨h.len, h.room, h.fuse, h.base, fun w hw => by
    rcases List.mem_append.1 hw with hw | hw
    · exact h.more w hw
    · simp at hw; subst hw; exact ⟨h1.1, h1.2, h2⟩⟩
theorem good_write {s : St} {i : Int} {b : BA} (h : Good s) : Good (writeR s i b).2 := by
  unfold writeR
  split
  · exact h
  · split
    · exact h
    · rename_i h1 h2
      split
      · exact h
      · split
        · exact good_burn h
        · exact good_put (good_burn h) (by rw [(burn_now s).2.2.2.1]; omega) (by omega)
theorem good_flush {s : St} (h : Good s) : Good (flushR s).2 := by
  unfold flushR
  have hb := good_burn h
  split
  · exact h
  · split
    · exact hb
    · exact ⟨hb.len, hb.room, hb.fuse, fun i x hx => by rw [(burn_now s).2.2.2.1]; exact h.now i x hx, fun w hw => by simp at hw⟩
theorem kept_mem {w : Wr} : ∀ {ws : List Wr} {ks : List Bool}, w ∈ kept ws ks → w ∈ ws
  | [], _, h => by simp [kept] at h
  | _ :: _, [], h => by simp [kept] at h
  | x :: ws, k :: ks, h => by
    simp only [kept] at h
    split at h
    · rcases List.mem_cons.1 h with rfl | h
      · exact List.mem_cons_self ..
      · exact List.mem_cons_of_mem _ (kept_mem h)
    · exact List.mem_cons_of_mem _ (kept_mem h)
theorem good_wake {s : St} {ks : List Bool} (h : Good s) : Good (wakeS s ks) := by
  unfold wakeS
  split
  · exact ⟨h.len, h.room, h.fuse, apply_in h.base (fun w hw => h.more w (kept_mem hw)), fun w hw => by simp at hw⟩
  · exact h
theorem good_off {s : St} (h : Good s) : Good (offS s) := ⟨h.len, h.room, ⟨Int.le_refl _, by simp [offS]⟩, h.base, h.more⟩
theorem good_arm {s : St} {n : Int} (h : Good s) (hn : n ≤ 9223372036854775807) : Good (armS s n) := ⟨h.len, h.room, ⟨by simp only [armS]; omega, by simp only [armS]; omega⟩, h.base, h.more⟩
theorem good_room {s : St} {n : Int} (h : Good s) (hn : n ≤ 9223372036854775807) : Good (roomS s n) := ⟨h.len, ⟨by simp only [roomS]; omega, by simp only [roomS]; omega⟩, h.fuse, h.base, h.more⟩
theorem write_more (s : St) (i : Int) (b : BA) : (writeR s i b).2.more.length ≤ s.more.length + 1 := by
  unfold writeR putS
  have hb := (burn_now s).2.2.1
  split
  · exact Nat.le_succ _
  · split
    · exact Nat.le_succ _
    · split
      · exact Nat.le_succ _
      · split
        · rw [hb]; exact Nat.le_succ _
        · simp [hb]
theorem flush_more (s : St) : (flushR s).2.more.length ≤ s.more.length := by
  unfold flushR
  split
  · exact Nat.le_refl _
  · split
    · rw [(burn_now s).2.2.1]; exact Nat.le_refl _
    · simp
theorem wake_more (s : St) (ks : List Bool) : (wakeS s ks).more.length ≤ s.more.length := by unfold wakeS; split <;> simp
/-- what a write that is not flushed made of its sector: the program's way. -/
def later (f : Fn) (ws : List Wr) (i : Int) : Option BA := match ws with
  | [] => f i
  | w :: r => if w.1 = i then f i else later (upd f w.1 (some w.2)) r i
theorem later_self (f : Fn) (ws : List Wr) (i : Int) : later f ws i = f i := by
  induction ws generalizing f with
  | nil => rfl
  | cons w r ih =>
    simp only [later]
    split
    · rfl
    · rename_i h; rw [ih, upd_other (fun e => h e.symm)]
end Go.Proofs.Ytcgkdomfbkkboaa
