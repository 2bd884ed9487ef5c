/- How often sectors are held. -/
import Derived.Test.YtbpbbggbjnjocaaFree
import Derived.Laws.MakeOwn
namespace Go.Proofs.Ytbpbbggbjnjocaa
open Go.RowKit Go.Shelf Go.Joins
attribute [local go_sem] Oper.semAt_some

/-! ### Plain -/
def bump (o : List Int) (x : Int) : List Int := o.set x.toNat (wrap64 (o.getD x.toNat 0 + 1))
def cstep (n : Nat) : Option (List Int) → Int → Option (List Int)
  | none, _ => none
  | some o, x => if x < 193 ∨ (n : Int) ≤ x then none else some (bump o x)
def cnt (n : Nat) (xs : List Int) : Option (List Int) := xs.foldl (cstep n) (some (List.replicate n 0))
theorem cnt_snoc (n : Nat) (xs : List Int) (x : Int) : cnt n (xs ++ [x]) = cstep n (cnt n xs) x := by simp [cnt]
theorem cstep_none (n : Nat) (xs : List Int) : xs.foldl (cstep n) none = none := by
  induction xs with
  | nil => rfl
  | cons x xs ih => simpa [cstep] using ih
theorem cnt_pre {n : Nat} {xs ys : List Int} (h : xs <+: ys) (hn : cnt n xs = none) : cnt n ys = none := by
  obtain ⟨t, rfl⟩ := h
  rw [cnt, List.foldl_append, show List.foldl (cstep n) (some (List.replicate n 0)) xs = none from hn, cstep_none]
theorem bump_len (o : List Int) (x : Int) : (bump o x).length = o.length := by simp [bump]
theorem cnt_len {n : Nat} (xs : List Int) : ∀ o, cnt n xs = some o → o.length = n := by
  suffices h : ∀ (xs : List Int) (a : List Int), a.length = n → ∀ o, xs.foldl (cstep n) (some a) = some o → o.length = n from fun o ho => h xs _ (by simp) o ho
  intro xs
  induction xs with
  | nil => intro a ha o ho; simp at ho; rw [← ho]; exact ha
  | cons x xs ih =>
    intro a ha o ho
    rw [List.foldl_cons, cstep] at ho
    split at ho
    · rw [cstep_none] at ho; cases ho
    · exact ih _ (by rw [bump_len]; exact ha) o ho
def counts (ls : List (List Int)) (n : Int) : List Int := if n < 0 ∨ 1024 < n then [] else (cnt n.toNat (places ls)).getD []
def countsE (ls : List (List Int)) (n : Int) : Int := if n < 0 ∨ 1024 < n then 2 else if (cnt n.toNat (places ls)).isSome then 0 else 2

/-! ### A row of noughts -/
theorem made_zeros (m : Nat) : madeCells (Value.int .i64 0).cells (m * 1) = ((List.replicate m (0 : Int)).map (Value.int .i64)).toArray := by
  apply Array.ext
  · simp [madeCells]
  · intro i h1 h2; simp [madeCells, Value.cells, Nat.mod_one]
theorem run_make_zeros (w : World) (m : Nat) (hm : m ≤ 1024) :
    (Instr.makeSlice 23 (.int .i64 (m : Int)) (.int .i64 (m : Int))).run Try.prog w = .ok (.slice (some ⟨w.heap.size, 0, none⟩) m m) (w.alloc (.cells ((List.replicate m (0 : Int)).map (Value.int .i64)).toArray 3)) := by
  obtain ⟨i0, hi, hz0, hz1, hz2⟩ := info_parts info3
  have := run_make (P := Try.prog) w 23 3 i0 (.int .i64 0) Try.underlying23 hi hz0 .i64 .i64 (m : Int) (m : Int) (by omega) (by omega) (by rw [hz2]; omega) (by omega)
  rw [Int.toNat_natCast, hz1, made_zeros] at this
  exact this

theorem cells_own {β : Type} (B : Nat) (t : TypeId) (f : β → Array Value) : Own (fun s W => W.heap[B]? = some (.cells (f s) t (0, 0))) := fun _ X Y row hs hg hrow =>
  (hg.block B (Array.getElem?_eq_some_iff.1 hs).1 (fun e' => by obtain ⟨o, ho, hc⟩ := hrow B e'.symm; rw [hs] at ho; cases ho; cases hc)).trans hs

theorem results8 (tmps : Array Value) (w : World) (b1 b2 : Nat) (v : Value) (er : Int) (h4 : tmps.getD 4 undef = .pointer (some ⟨b1, 0, none⟩)) (h5 : tmps.getD 5 undef = .pointer (some ⟨b2, 0, none⟩))
    (c1 : w.cell? ⟨b1, 0, none⟩ = some v) (c2 : w.cell? ⟨b2, 0, none⟩ = some (.int .i64 er)) : (results Try.f8 tmps).run Try.prog w = .ok (.tuple #[v, .int .i64 er]) w := by
  have h4' : tmps[4]?.getD undef = .pointer (some ⟨b1, 0, none⟩) := by simpa using h4
  have h5' : tmps[5]?.getD undef = .pointer (some ⟨b2, 0, none⟩) := by simpa using h5
  simp [results, h4', h5', asAddr, loadVar, c1, c2, go_sem]

/-- the blocks of a call of Counts: n, the two results, the row, the variable that holds it. -/
structure CS (h n : Nat) (o : List Int) (v : Value) (er : Int) (W : World) : Prop where
  bn : Boxed W h 3 (.int .i64 n)
  r1 : Boxed W (h + 1) 23 v
  r2 : Boxed W (h + 1 + 1) 24 (.int .i64 er)
  row : W.heap[h + 1 + 1 + 1]? = some (.cells (o.map (Value.int .i64)).toArray 3 (0, 0))
  out : Boxed W (h + 1 + 1 + 1 + 1) 23 (.slice (some ⟨h + 1 + 1 + 1, 0, none⟩) n n)

theorem Boxed.apart {W : World} {B : Nat} {t : TypeId} {v : Value} (h : Boxed W B t v) {p : Addr} (hp : B ≠ p.block) (u : Value) : Boxed (W.setCell p u) B t v := (Below.heap_setCell _ _ _ _ hp).trans h
theorem CS.bump {h n : Nat} {o : List Int} {v : Value} {er : Int} {W : World} (H : CS h n o v er W) (k : Nat) : CS h n (bump o (k : Int)) v er (W.setCell ⟨h + 1 + 1 + 1, k, none⟩ (.int .i64 (wrap64 (o[k]?.getD 0 + 1)))) := by
  refine ⟨Boxed.apart H.bn (show h ≠ h + 1 + 1 + 1 by omega) _, Boxed.apart H.r1 (show h + 1 ≠ h + 1 + 1 + 1 by omega) _, Boxed.apart H.r2 (show h + 1 + 1 ≠ h + 1 + 1 + 1 by omega) _, ?_, Boxed.apart H.out (show h + 1 + 1 + 1 + 1 ≠ h + 1 + 1 + 1 by omega) _⟩
  rw [block_setCell H.row]
  simp [Ytbpbbggbjnjocaa.bump, List.map_set]
theorem CS.tell {h n : Nat} {o : List Int} {v : Value} {er : Int} {W : World} (H : CS h n o v er W) (v' : Value) (er' : Int) : CS h n o v' er' ((W.setCell ⟨h + 1, 0, none⟩ v').setCell ⟨h + 1 + 1, 0, none⟩ (.int .i64 er')) :=
  ⟨Boxed.apart (Boxed.apart H.bn (show h ≠ h + 1 by omega) _) (show h ≠ h + 1 + 1 by omega) _, Boxed.apart (H.r1.set v') (show h + 1 ≠ h + 1 + 1 by omega) _, (Boxed.apart H.r2 (show h + 1 + 1 ≠ h + 1 by omega) _).set _,
   (Below.heap_setCell _ _ _ _ (show h + 1 + 1 + 1 ≠ h + 1 + 1 by omega)).trans ((Below.heap_setCell _ _ _ _ (show h + 1 + 1 + 1 ≠ h + 1 by omega)).trans H.row), Boxed.apart (Boxed.apart H.out (show h + 1 + 1 + 1 + 1 ≠ h + 1 by omega) _) (show h + 1 + 1 + 1 + 1 ≠ h + 1 + 1 by omega) _⟩
theorem below_tell {b h : Nat} (hb : b ≤ h) (W : World) (v' u' : Value) : Below b W ((W.setCell ⟨h + 1, 0, none⟩ v').setCell ⟨h + 1 + 1, 0, none⟩ u') :=
  ((Below.refl b W).setCell (p := ⟨h + 1, 0, none⟩) (show b ≤ h + 1 by omega) _).setCell (p := ⟨h + 1 + 1, 0, none⟩) (show b ≤ h + 1 + 1 by omega) _

theorem cs_own {β : Type} (B h n : Nat) (f : β → List Int) (v : Value) (er : Int) : OwnFrom B (fun (s : β) W => CS h n (f s) v er W) := fun _ X Y row hs hg hr =>
  ⟨(Own.from (cells_own (β := Unit) h 3 (fun _ => _)) B) () X Y row hs.bn hg hr, (Own.from (cells_own (β := Unit) (h + 1) 23 (fun _ => _)) B) () X Y row hs.r1 hg hr,
   (Own.from (cells_own (β := Unit) (h + 1 + 1) 24 (fun _ => _)) B) () X Y row hs.r2 hg hr, (Own.from (cells_own (β := Unit) (h + 1 + 1 + 1) 3 (fun _ => _)) B) () X Y row hs.row hg hr,
   (Own.from (cells_own (β := Unit) (h + 1 + 1 + 1 + 1) 23 (fun _ => _)) B) () X Y row hs.out hg hr⟩

theorem csx_own {B h n : Nat} : OwnFrom B (fun (pre : List Int) W => ∃ o, cnt n pre = some o ∧ CS h n o (.slice none 0 0) 0 W) := by
  rintro s X Y row ⟨o, ho, hs⟩ hg hr
  exact ⟨o, ho, cs_own B h n (fun _ : Unit => o) _ _ () X Y row hs hg hr⟩
theorem csy_own {B h n : Nat} : OwnFrom B (fun (pre : List Int) W => cnt n pre = none ∧ ∃ o, CS h n o (.slice none 0 0) 2 W) := by
  rintro s X Y row ⟨hn, o, hs⟩ hg hr
  exact ⟨hn, o, cs_own B h n (fun _ : Unit => o) _ _ () X Y row hs hg hr⟩

set_option maxRecDepth 100000 in
set_option maxHeartbeats 2000000 in
theorem counts_any (a : Option Addr) (cap : Nat) (ls : List (List Int)) (n : Int) (w : World) (him : Imgs w a ls) (hlen : ls.length ≤ maxLen) (hls : ∀ i, (ls.getD i []).length ≤ maxLen) :
    Calls Try.prog 8 #[.slice a ls.length cap, .int .i64 n] w (LPost (counts ls n) (countsE ls n) w) := by
  refine callsIn_wide (n := 3) |>.1 ?_
  refine callsIn_of_wp_marks Try.func8 rfl trivial ?_ rfl
  simp only [Try.ntmps8, List.size_toArray, List.length_cons, List.length_nil, Nat.reduceAdd, Nat.reduceSub, Array.replicate_succ, Array.replicate_zero, List.push_toArray, List.append_toArray, List.nil_append, List.cons_append]
  by_cases hbad : n < 0 ∨ 1024 < n
  · have e1 : Hid (counts ls n = [] ∧ countsE ls n = 2) := ⟨if_pos hbad, if_pos hbad⟩
    gi_wp2
    all_goals
      have b1 := Boxed.new (w.alloc (Obj.cells #[Value.int IntKind.i64 n] 3)) 23 (.slice none 0 0)
      have b2 := Boxed.new ((w.alloc (Obj.cells #[Value.int IntKind.i64 n] 3)).alloc (Obj.cells #[Value.slice none 0 0] 23)) 24 (.int .i64 2)
      rw [World.size_alloc] at b1
      rw [World.size_alloc, World.size_alloc] at b2
      refine ⟨_, results8 _ _ _ _ _ 2 rfl rfl (b1.alloc _).cell b2.cell, ?_⟩
      rw [e1.out.1, e1.out.2]
      exact ⟨_, rfl, World.ownsRow_nil _ _ _ _, (((Below.refl _ w).alloc (Nat.le_refl _) _).alloc (by simp) _).alloc (by simp; omega) _⟩
  · obtain ⟨m, rfl⟩ := Int.eq_ofNat_of_zero_le (show 0 ≤ n by omega)
    have hm : m ≤ 1024 := by omega
    have hm2 : (m : Int) ≤ 1024 := by omega
    have hmk := fun w => run_make_zeros w m hm
    gi_wp2_with (refine ⟨trivial, ?_⟩; gi_at_call 16; refine (places_in Fence.wide 2 trivial rfl _ _ _ _).mono ?_; rintro e w' ⟨rfl, rfl⟩)
    have hB0 : ∀ (o1 o2 o3 o4 o5 : Obj), Below w.heap.size w (((((w.alloc o1).alloc o2).alloc o3).alloc o4).alloc o5) := fun _ _ _ _ _ => ((((Below.refl _ w).alloc (Nat.le_refl _) _).alloc (by simp) _).alloc (by simp; omega) _).alloc (by simp; omega) _ |>.alloc (by simp; omega) _
    obtain ⟨W5, hW5⟩ : ∃ W5, W5 = (((((w.alloc (Obj.cells #[Value.int IntKind.i64 ↑m] 3)).alloc (Obj.cells #[Value.slice none 0 0] 23)).alloc (Obj.cells #[Value.int IntKind.i64 0] 24)).alloc (Obj.cells (Array.replicate m (Value.int IntKind.i64 0)) 3)).alloc (Obj.cells #[Value.slice (some { block := w.heap.size + 1 + 1 + 1, off := 0 }) m m] 23)) := ⟨_, rfl⟩
    have hs5 : W5.heap.size = w.heap.size + 1 + 1 + 1 + 1 + 1 := by rw [hW5]; simp
    have hB5 : Below w.heap.size w W5 := by rw [hW5]; exact hB0 _ _ _ _ _
    have hC5 : CS w.heap.size m (List.replicate m 0) (.slice none 0 0) 0 W5 := by
      rw [hW5]
      refine ⟨(((((Boxed.new w 3 _).alloc _).alloc _).alloc _).alloc _), ?_, ?_, ?_, ?_⟩
      · have := Boxed.new (w.alloc (Obj.cells #[Value.int IntKind.i64 ↑m] 3)) 23 (.slice none 0 0)
        rw [World.size_alloc] at this
        exact ((this.alloc _).alloc _).alloc _
      · have := Boxed.new ((w.alloc (Obj.cells #[Value.int IntKind.i64 ↑m] 3)).alloc (Obj.cells #[Value.slice none 0 0] 23)) 24 (.int .i64 0)
        rw [World.size_alloc, World.size_alloc] at this
        exact (this.alloc _).alloc _
      · have := World.alloc_heap_new (((w.alloc (Obj.cells #[Value.int IntKind.i64 ↑m] 3)).alloc (Obj.cells #[Value.slice none 0 0] 23)).alloc (Obj.cells #[Value.int IntKind.i64 0] 24)) (Obj.cells (Array.replicate m (Value.int IntKind.i64 0)) 3)
        rw [World.size_alloc, World.size_alloc, World.size_alloc] at this
        refine (Below.heap_alloc _ _ _ (by simp)).trans (this.trans ?_)
        simp
      · have := Boxed.new ((((w.alloc (Obj.cells #[Value.int IntKind.i64 ↑m] 3)).alloc (Obj.cells #[Value.slice none 0 0] 23)).alloc (Obj.cells #[Value.int IntKind.i64 0] 24)).alloc (Obj.cells (Array.replicate m (Value.int IntKind.i64 0)) 3)) 23 (Value.slice (some { block := w.heap.size + 1 + 1 + 1, off := 0 }) m m)
        rw [World.size_alloc, World.size_alloc, World.size_alloc, World.size_alloc] at this
        exact this
    rw [← hW5]
    have bS := Boxed.new W5 22 (.slice a ls.length cap)
    have hB6 : Below w.heap.size w (W5.alloc (.cells #[.slice a ls.length cap] 22)) := hB5.alloc hB5.size _
    have hC6 : CS w.heap.size m (List.replicate m 0) (.slice none 0 0) 0 (W5.alloc (.cells #[.slice a ls.length cap] 22)) := ⟨hC5.bn.alloc _, hC5.r1.alloc _, hC5.r2.alloc _, (Below.heap_alloc _ _ _ (by omega)).trans hC5.row, hC5.out.alloc _⟩
    clear hW5 hB0 hC5
    refine wpIn_rangeFunc_ownG rfl (by decide) (gf := 18) (lb := #[.pointer (some ⟨w.heap.size + 1 + 1 + 1 + 1 + 1, 0, none⟩)]) rfl trivial (enters_of Try.func18 (by kernel_rfl) rfl)
      (places_stops Fence.wide (3 - 1) trivial rfl (by omega) (w.heap.size + 1 + 1 + 1 + 1 + 1) w a cap ls him hlen hls _ hB6 (by rw [← hs5]; simp) (by rw [← hs5]; exact bS.cell)) belowK_t (belowK_b hB6.size) (Below.refl _ _) (fun _ => rfl)
      (fun pre W => (∃ o, cnt m pre = some o ∧ CS w.heap.size m o (.slice none 0 0) 0 W) ∧ Below w.heap.size w W)
      (fun c pre W => ((cnt m pre = none ∧ ∃ o, CS w.heap.size m o (.slice none 0 0) 2 W) ∧ Below w.heap.size w W) ∧ c = .ret)
      (OwnFrom.and csx_own (ownFrom_below (Nat.le_refl _) hB6.size))
      (fun c => OwnFrom.and (OwnFrom.and csy_own (ownFrom_below (Nat.le_refl _) hB6.size)) (ownFrom_pure _ _))
      ⟨⟨_, rfl, hC6⟩, hB6⟩
      (fun x => { tmps := #[Value.slice a ls.length cap, Value.int IntKind.i64 ↑m, undef,
          Value.pointer (some { block := w.heap.size, off := 0 }),
          Value.pointer (some { block := w.heap.size + 1, off := 0 }),
          Value.pointer (some { block := w.heap.size + 1 + 1, off := 0 }),
          Value.pointer (some { block := w.heap.size + 1 + 1 + 1 + 1, off := 0 }), .int .i64 x, Value.int IntKind.i64 ↑m,
          Value.bool (decide ((m : Int) < 0)), Value.bool (decide ((m : Int) < 0)), Value.int IntKind.i64 ↑m, Value.bool (decide (1024 < (m : Int))), Value.bool (decide ((m : Int) < 0) || decide (1024 < (m : Int))),
          Value.int IntKind.i64 ↑m, Value.slice (some { block := w.heap.size + 1 + 1 + 1, off := 0 }) m m,
          Value.slice a ls.length cap,
          Value.func (Fn.func 18) #[] #[Value.pointer (some { block := w.heap.size + 1 + 1 + 1 + 1 + 1, off := 0 })],
          .int .i64 x, undef, undef, undef, undef, undef, undef, undef, undef, undef, undef, undef, undef, undef, undef], defers := [] }) ?assign ?body ?done ?stop
    case assign =>
      intro l x W K hK
      gi_wp2
      exact hK
    case body =>
      rintro l pre x W ⟨⟨o, ho, hC⟩, hB⟩ hlt
      have c0 := hC.bn.cell
      have c1 := hC.r1.cell
      have c2 := hC.r2.cell
      have c4 := hC.out.cell
      have f1 := hC.r1.frozen
      have f2 := hC.r2.frozen
      have hol := cnt_len pre o ho
      by_cases hx : x < 193 ∨ (m : Int) ≤ x
      · have hn : Hid (cnt m (pre ++ [x]) = none) := by rw [Hid, cnt_snoc, ho, cstep, if_pos hx]
        have HC := Lib.hid hC
        clear hC
        gi_wp2
        all_goals exact ⟨((KeepsOthers.setCell _ _ _).trans (KeepsOthers.setCell _ _ _)).from _, ⟨⟨hn.out, _, HC.out.tell _ 2⟩, hB.trans (below_tell (Nat.le_refl _) W _ _)⟩, rfl⟩
      · have hn : Hid (cnt m (pre ++ [x]) = some (bump o x)) := by rw [Hid, cnt_snoc, ho, cstep, if_neg hx]
        obtain ⟨k, rfl⟩ := Int.eq_ofNat_of_zero_le (show 0 ≤ x by omega)
        have hk : (193 : Int) ≤ (k : Int) := by omega
        have hk2 : (k : Int) < (m : Int) := by omega
        have hk3 : k < o.length := by omega
        have c3 := (cell_of_block hC.row k).trans (by simp [hk3] : _ = some (Value.int .i64 (o.getD k 0)))
        have f3 := unfrozen_of_block hC.row k
        have HC := Lib.hid hC
        clear hC hx
        gi_wp2
        exact ⟨(KeepsOthers.setCell _ _ _).from _, (Below.refl w.heap.size W).setCell (p := ⟨w.heap.size + 1 + 1 + 1, k, none⟩) (by simp; omega) _, ⟨_, hn.out, HC.out.bump k⟩, hB.setCell (p := ⟨w.heap.size + 1 + 1 + 1, k, none⟩) (by simp; omega) _⟩
    case done =>
      rintro D ys W hD rfl ⟨⟨o, ho, hC⟩, hB⟩ hK
      have c1 := hC.r1.cell
      have c2 := hC.r2.cell
      have c4 := hC.out.cell
      have f1 := hC.r1.frozen
      have f2 := hC.r2.frozen
      have HC := Lib.hid hC
      have f4 := hC.out.frozen
      clear hC
      have hcl : Hid (counts ls (m : Int) = o ∧ countsE ls (m : Int) = 0 ∧ o.length = m) := ⟨by rw [counts, if_neg hbad, Int.toNat_natCast, ho]; rfl, by rw [countsE, if_neg hbad, Int.toNat_natCast, ho]; rfl, cnt_len _ _ ho⟩
      have hbad' := Lib.hid hbad
      clear hbad
      gi_wp2
      have hT := HC.out.tell (Value.slice (some { block := w.heap.size + 1 + 1 + 1, off := 0 }) m m) 0
      have hK2 := ((KeepsOthers.setCell W ⟨w.heap.size + 1, 0, none⟩ (Value.slice (some { block := w.heap.size + 1 + 1 + 1, off := 0 }) m m)).trans (KeepsOthers.setCell _ ⟨w.heap.size + 1 + 1, 0, none⟩ (Value.int .i64 0))).same D _ hK rfl
      have hB2 := hB.trans (below_tell (Nat.le_refl _) W (Value.slice (some { block := w.heap.size + 1 + 1 + 1, off := 0 }) m m) (Value.int .i64 0))
      generalize (W.setCell _ _).setCell _ _ = W2 at hT hK2 hB2 ⊢
      refine ⟨by simp, .inl ⟨_, _, rfl, run_takeDeferred hK2, ?_⟩⟩
      have hne : ∀ {B : Nat} {t : TypeId} {v : Value}, Boxed W2 B t v → Boxed (W2.putObj D (.deferred none)) B t v := fun {B t v} hb => (World.putObj_heap_other (fun e => by subst e; rw [show W2.heap[B]? = _ from hb] at hK2; cases hK2)).trans hb
      refine ⟨_, results8 _ _ _ _ _ 0 rfl rfl (hne hT.r1).cell (hne hT.r2).cell, ?_⟩
      rw [hcl.out.1, hcl.out.2.1]
      refine ⟨_, rfl, ?_, hB2.trans (belowK_b hB6.size W2 D _ _ hD hK2 rfl rfl)⟩
      have hr : (W2.putObj D (.deferred none)).heap[w.heap.size + 1 + 1 + 1]? = some (.cells (o.map (Value.int .i64)).toArray 3 (0, 0)) := (World.putObj_heap_other (fun e => by subst e; rw [hT.row] at hK2; cases hK2)).trans hT.row
      exact ⟨by simp, .inr ⟨_, m, _, by rw [hcl.out.2.2], by omega, hr, by rw [hcl.out.2.2]; exact Nat.le_refl _, by unfold maxLen; omega, by simp [hcl.out.2.2], by simp only [Nat.mul_one]; exact List.take_of_length_le (by simp)⟩⟩
    case stop =>
      rintro D c pre W hD hpre ⟨⟨⟨hn, o, hC⟩, hB⟩, rfl⟩ hK
      gi_wp2
      refine ⟨by simp, .inl ⟨_, _, rfl, run_takeDeferred hK, ?_⟩⟩
      have hne : ∀ {B : Nat} {t : TypeId} {v : Value}, Boxed W B t v → Boxed (W.putObj D (.deferred none)) B t v := fun {B t v} hb => (World.putObj_heap_other (fun e => by subst e; rw [show W.heap[B]? = _ from hb] at hK; cases hK)).trans hb
      refine ⟨_, results8 _ _ _ _ _ 2 rfl rfl (hne hC.r1).cell (hne hC.r2).cell, ?_⟩
      have hno := cnt_pre hpre hn
      rw [show counts ls (m : Int) = [] by rw [counts, if_neg hbad, Int.toNat_natCast, hno]; rfl, show countsE ls (m : Int) = 2 by rw [countsE, if_neg hbad, Int.toNat_natCast, hno]; rfl]
      exact ⟨_, rfl, World.ownsRow_nil _ _ _ _, hB.trans (belowK_b hB6.size W D _ _ hD hK rfl rfl)⟩
end Go.Proofs.Ytbpbbggbjnjocaa
