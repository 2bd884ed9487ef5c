/- What is taken is held by no image, rises, and is the lowest that is. -/
import Derived.Test.YtbpbbggbjnjocaaSums
import Derived.Laws.AppendOwnNone
import Derived.IntWalk
namespace Go.Proofs.Ytbpbbggbjnjocaa
open Go.RowKit Go.Joins

/-! ### Plain -/
theorem frees_mem {cs : List Int} {i : Nat} (h : i < (frees cs).length) : ∃ m : Nat, (frees cs).getD i 0 = (m : Int) ∧ 193 ≤ m ∧ m < cs.length ∧ cs.getD m 0 = 0 := by
  have hm : (frees cs).getD i 0 ∈ frees cs := by simp [h]
  generalize (frees cs).getD i 0 = z at hm ⊢
  rw [frees, freesTo, List.mem_map] at hm
  obtain ⟨m, h1, h2⟩ := hm
  rw [List.mem_filter] at h1
  obtain ⟨h3, h4⟩ := h1
  simp only [Bool.and_eq_true, decide_eq_true_eq, List.mem_range] at h3 h4
  exact ⟨m, h2.symm, h4.1, h3, h4.2⟩
theorem freesTo_sorted (cs : List Int) (m : Nat) : (freesTo cs m).Pairwise (· < ·) := by
  rw [freesTo, List.pairwise_map]
  refine List.Pairwise.filter _ ?_
  have := @List.pairwise_lt_range m
  exact this.imp (fun h => by omega)
theorem frees_rise {cs : List Int} {i j : Nat} (hij : i < j) (h : j < (frees cs).length) : (frees cs).getD i 0 < (frees cs).getD j 0 := by
  have := List.pairwise_iff_getElem.1 (freesTo_sorted cs cs.length) i j (by unfold frees at h; omega) h hij
  have h1 : i < (frees cs).length := by omega
  simp only [List.getD_eq_getElem?_getD, List.getElem?_eq_getElem h, List.getElem?_eq_getElem h1, Option.getD_some]
  exact this
theorem frees_next {cs : List Int} {m : Nat} (h1 : 193 ≤ m) (h2 : m < cs.length) (h3 : cs.getD m 0 = 0) : (freesTo cs m).length < (frees cs).length ∧ (frees cs).getD (freesTo cs m).length 0 = (m : Int) := by
  obtain ⟨t, ht⟩ := freesTo_pre cs (show m + 1 ≤ cs.length by omega)
  rw [freesTo_yes h1 h3] at ht
  rw [frees, ← ht]
  simp
theorem bump_get (o : List Int) (k j : Nat) (hk : k < o.length) (h0 : o.getD k 0 = 0) : (bump o (k : Int)).getD j 0 = if j = k then 1 else o.getD j 0 := by
  unfold bump
  rw [Int.toNat_natCast, h0]
  by_cases h : j = k
  · subst h; rw [if_pos rfl]; simp [hk]; exact IntWalk.wrap64_in 1 ⟨by omega, by omega⟩
  · rw [if_neg h]
    simp only [List.getD_eq_getElem?_getD]
    rw [List.getElem?_set_ne (by omega)]
theorem bump_frees (o : List Int) (k : Nat) (hk : k < o.length) (h1 : 193 ≤ k) (h0 : o.getD k 0 = 0) (m : Nat) : (freesTo (bump o (k : Int)) m).length + (if k < m then 1 else 0) = (freesTo o m).length := by
  induction m with
  | zero => simp [freesTo]
  | succ m ih =>
    have hb := bump_get o k m hk h0
    by_cases h2 : 193 ≤ m
    · by_cases h3 : m = k
      · subst h3
        rw [if_pos rfl] at hb
        rw [freesTo_no (by rw [hb]; decide), freesTo_yes h1 h0, if_pos (by omega), List.length_append, ← ih, if_neg (by omega)]
        simp
      · rw [if_neg h3] at hb
        by_cases h4 : o.getD m 0 = 0
        · rw [freesTo_yes h2 (by rw [hb]; exact h4), freesTo_yes h2 h4, List.length_append, List.length_append, ← ih]
          by_cases h5 : k < m
          · rw [if_pos h5, if_pos (by omega)]; simp
          · rw [if_neg h5, if_neg (by omega)]; simp
        · rw [freesTo_no (by rw [hb]; exact h4), freesTo_no h4, ← ih]
          by_cases h5 : k < m
          · rw [if_pos h5, if_pos (by omega)]
          · rw [if_neg h5, if_neg (by omega)]
    · have e : ∀ cs : List Int, freesTo cs (m + 1) = [] := fun cs => by
        rw [freesTo, List.filter_eq_nil_iff.2]
        · rfl
        · intro i hi; simp at hi ⊢; omega
      rw [e, e, if_neg (by omega)]; rfl
theorem bump_all {n : Nat} (l : List Nat) : ∀ o : List Int, o.length = n → l.Pairwise (· < ·) → (∀ x ∈ l, 193 ≤ x ∧ x < n ∧ o.getD x 0 = 0) →
    ∃ d, (l.map (fun (x : Nat) => (x : Int))).foldl (cstep n) (some o) = some d ∧ d.length = n ∧ (frees d).length + l.length = (frees o).length := by
  induction l with
  | nil => intro o ho _ _; exact ⟨o, rfl, ho, by simp⟩
  | cons x l ih =>
    intro o ho hp hx
    obtain ⟨h1, h2, h3⟩ := hx x (by simp)
    rw [List.pairwise_cons] at hp
    have hk : x < o.length := by omega
    obtain ⟨d, e1, e2, e3⟩ := ih (bump o (x : Int)) (by rw [bump_len]; exact ho) hp.2 (fun y hy => by
      obtain ⟨g1, g2, g3⟩ := hx y (List.mem_cons_of_mem _ hy)
      refine ⟨g1, g2, ?_⟩
      have := hp.1 y hy
      rw [bump_get o x y hk h3, if_neg (by omega)]; exact g3)
    refine ⟨d, ?_, e2, ?_⟩
    · rw [List.map_cons, List.foldl_cons, cstep, if_neg (by omega)]; exact e1
    · have := bump_frees o x hk h1 h3 o.length
      rw [if_pos hk] at this
      have hf : frees (bump o (x : Int)) = freesTo (bump o (x : Int)) o.length := by rw [frees, bump_len]
      rw [hf] at e3
      rw [List.length_cons, show (frees o).length = (freesTo o o.length).length from rfl, ← this]
      omega
/-- with one image more that holds just what was taken. -/
theorem more_counts {ls : List (List Int)} {C : List Int} (N : Nat) (hN : N ≤ (frees C).length) (hc : cnt 400 (places ls) = some C) :
    ∃ D, counts (ls ++ [(frees C).take N]) 400 = D ∧ countsE (ls ++ [(frees C).take N]) 400 = 0 ∧ D.length = 400 ∧ (frees D).length = (frees C).length - N := by
  have hl := cnt_len _ _ hc
  obtain ⟨F, hF⟩ : ∃ F : List Nat, F = (List.range C.length).filter (fun i => decide (193 ≤ i) && decide (C.getD i 0 = 0)) := ⟨_, rfl⟩
  have hfr : frees C = F.map (fun (x : Nat) => (x : Int)) := by rw [hF]; rfl
  have hFl : F.length = (frees C).length := by rw [hfr, List.length_map]
  have hmem : ∀ x ∈ F, 193 ≤ x ∧ x < 400 ∧ C.getD x 0 = 0 := fun x hx => by
    rw [hF, List.mem_filter] at hx
    simp only [Bool.and_eq_true, decide_eq_true_eq, List.mem_range] at hx
    exact ⟨hx.2.1, by omega, hx.2.2⟩
  obtain ⟨D, e1, e2, e3⟩ := bump_all (n := 400) (F.take N) C hl ((List.pairwise_lt_range.filter _ |>.sublist (List.take_sublist N _) : _) |> fun (h : List.Pairwise (· < ·) ((List.filter (fun i => decide (193 ≤ i) && decide (C.getD i 0 = 0)) (List.range C.length)).take N)) => by rw [hF]; exact h) (fun x hx => hmem x (List.mem_of_mem_take hx))
  have hp : places (ls ++ [(frees C).take N]) = places ls ++ (F.take N).map (fun (x : Nat) => (x : Int)) := by
    rw [places, List.flatten_append, nz_append, places, hfr, ← List.map_take]
    congr 1
    simp only [List.flatten_cons, List.flatten_nil, List.append_nil]
    rw [nz, List.filter_eq_self]
    intro x hx
    obtain ⟨y, hy, rfl⟩ := List.mem_map.1 hx
    have := hmem y (List.mem_of_mem_take hy)
    simp; omega
  have hcd : cnt 400 (places (ls ++ [(frees C).take N])) = some D := by
    rw [hp, cnt, List.foldl_append, show List.foldl (cstep 400) (some (List.replicate 400 0)) (places ls) = some C from hc]
    exact e1
  refine ⟨D, ?_, ?_, e2, ?_⟩
  · rw [counts, if_neg (by omega), show (400 : Int).toNat = 400 from rfl, hcd]; rfl
  · rw [countsE, if_neg (by omega), show (400 : Int).toNat = 400 from rfl, hcd]; rfl
  · rw [List.length_take] at e3; omega
theorem lpost_len {xs : List Int} {er : Int} {n : Nat} {w w' : World} {e : Ending} (h : LPost xs er w e w') (hl : xs.length = n) : ∃ a cap, e = .returned (.tuple #[.slice a n cap, .int .i64 er]) ∧ Row w' a xs ∧ Below w.heap.size w w' := by
  subst hl; exact lpost_form h
theorem counts_cases (ls : List (List Int)) : (counts ls 400 = [] ∧ countsE ls 400 = 2) ∨ ∃ C, cnt 400 (places ls) = some C ∧ counts ls 400 = C ∧ countsE ls 400 = 0 := by
  rw [counts, countsE, if_neg (by omega), if_neg (by omega), show (400 : Int).toNat = 400 from rfl]
  cases h : cnt 400 (places ls) with
  | none => exact .inl ⟨rfl, rfl⟩
  | some C => exact .inr ⟨C, rfl, rfl, rfl⟩

theorem info23 : (Try.prog.info? 23).map (fun i => (i.zero, i.size, i.bytes)) = some (some (.slice none 0 0), 1, 24) := by kernel_rfl
/-- the headers of images. -/
theorem imgs_heads {w : World} {a : Option Addr} {ls : List (List Int)} (h : Imgs w a ls) : ∃ vs : List Value, vs.length = ls.length ∧ (∀ u ∈ vs, u.oneCell' = true) ∧
    (∀ i, i < ls.length → ∃ b off a' cap, a = some ⟨b, off, none⟩ ∧ w.cell? ⟨b, off + i, none⟩ = vs[i]? ∧ vs[i]? = some (.slice a' (ls.getD i []).length cap) ∧ Row w a' (ls.getD i [])) := by
  obtain ⟨f, hf⟩ := Go.Deep.choose_lt (n := ls.length) (p := fun i (x : Option Addr × Nat) => ∃ b off, a = some ⟨b, off, none⟩ ∧ w.cell? ⟨b, off + i, none⟩ = some (.slice x.1 (ls.getD i []).length x.2) ∧ Row w x.1 (ls.getD i [])) (fun i hi => by
    obtain ⟨b, off, a', cap, e, hc, hr⟩ := h i hi
    exact ⟨(a', cap), b, off, e, hc, hr⟩)
  refine ⟨(List.range ls.length).map (fun i => .slice (f i).1 (ls.getD i []).length (f i).2), by simp, fun u hu => ?_, fun i hi => ?_⟩
  · obtain ⟨i, _, rfl⟩ := List.mem_map.1 hu; rfl
  · obtain ⟨b, off, e, hc, hr⟩ := hf i hi
    have hv : ((List.range ls.length).map (fun i => Value.slice (f i).1 (ls.getD i []).length (f i).2))[i]? = some (.slice (f i).1 (ls.getD i []).length (f i).2) := by simp [hi]
    exact ⟨b, off, (f i).1, (f i).2, e, hc.trans hv.symm, hv, hr⟩
/-- images out of a row of headers. -/
theorem imgs_own {w : World} {base n : Nat} {v : Value} {vs : List Value} (hown : w.ownsRow base 23 1 v n vs) (ls : List (List Int)) (hl : ls.length = n)
    (hv : ∀ i, i < ls.length → ∃ a' cap, vs[i]? = some (.slice a' (ls.getD i []).length cap) ∧ Row w a' (ls.getD i [])) : ∃ a cap, v = .slice a n cap ∧ Imgs w a ls := by
  rcases hown.2 with ⟨rfl, rfl⟩ | ⟨g, cap, cur, rfl, hb, hg, h1, h2, _⟩
  · exact ⟨none, 0, rfl, fun i hi => by omega⟩
  · refine ⟨some ⟨g, 0, none⟩, cap, rfl, fun i hi => ?_⟩
    obtain ⟨a', cap', e, hr⟩ := hv i hi
    refine ⟨g, 0, a', cap', rfl, ?_, hr⟩
    rw [Nat.zero_add, hown.cellAt i (by omega)]
    exact e

set_option maxRecDepth 100000 in
set_option maxHeartbeats 1000000 in
theorem once_no (a : Option Addr) (cap : Nat) (ls : List (List Int)) (n : Int) (w : World) (him : Imgs w a ls) (hlen : ls.length ≤ maxLen) (hls : ∀ i, (ls.getD i []).length ≤ maxLen) (h : counts ls 400 = [] ∧ countsE ls 400 = 2) :
    Calls Try.prog 5 #[.slice a ls.length cap, .int .i64 n] w (RetB true w) := by
  have hc8 : Hid (∀ w1, Imgs w1 a ls → Calls Try.prog 8 #[.slice a ls.length cap, .int .i64 400] w1 (LPost [] 2 w1)) := fun w1 hi => by have := counts_any a cap ls 400 w1 hi hlen hls; rw [h.1, h.2] at this; exact this
  clear h
  go_enter Try.func5, Try.ntmps5
  go_wp2_with (first
    | (go_at_call 11; refine (works_any _).mono ?_; rintro e w1 ⟨rfl, hb1⟩; have him1 := imgs_below him hb1)
    | (go_at_call 8; refine (hc8.out _ him1).mono ?_; intro e w2 hp; obtain ⟨a2, c2, rfl, hr2, hb2⟩ := lpost_len hp rfl; clear hp))
  go_ret
  exact retB rfl (grew_trans hb1 hb2)

set_option maxRecDepth 100000 in
set_option maxHeartbeats 1000000 in
theorem once_few (a : Option Addr) (cap : Nat) (ls : List (List Int)) (n : Int) (w : World) (him : Imgs w a ls) (hlen : ls.length ≤ maxLen) (hls : ∀ i, (ls.getD i []).length ≤ maxLen) (C : List Int) (hC : counts ls 400 = C) (hE : countsE ls 400 = 0) (hCl : C.length = 400)
    (er : Int) (hT : takes C n = []) (hTE : takesE C n = er) (her : (er != 0) = true) (heq : decide (n < 0) = (er == 2)) :
    Calls Try.prog 5 #[.slice a ls.length cap, .int .i64 n] w (RetB true w) := by
  have hc8 : Hid (∀ w1, Imgs w1 a ls → Calls Try.prog 8 #[.slice a ls.length cap, .int .i64 400] w1 (LPost C 0 w1)) := fun w1 hi => by have := counts_any a cap ls 400 w1 hi hlen hls; rw [hC, hE] at this; exact this
  have hc12 : Hid (∀ w1 a2 c2, Row w1 a2 C → Calls Try.prog 12 #[.slice a2 400 c2, .int .i64 n] w1 (LPost [] er w1)) := fun w1 a2 c2 hr => by have := take_len a2 c2 400 C hCl n w1 hr (by rw [hCl]; unfold maxLen; omega) (by rw [hCl]; omega); rw [hT, hTE] at this; exact this
  have HCl := Lib.hid hCl
  have HE := Lib.hid heq
  clear hC hE hT hTE hCl heq
  go_enter Try.func5, Try.ntmps5
  go_wp2_with (first
    | (go_at_call 11; refine (works_any _).mono ?_; rintro e w1 ⟨rfl, hb1⟩; have him1 := imgs_below him hb1)
    | (go_at_call 8; refine (hc8.out _ him1).mono ?_; intro e w2 hp; obtain ⟨a2, c2, rfl, hr2, hb2⟩ := lpost_len hp HCl.out; clear hp)
    | (go_at_call 12; refine (hc12.out _ _ _ hr2).mono ?_; intro e w3 hp; obtain ⟨a3, c3, rfl, hr3, hb3⟩ := lpost_len hp rfl; clear hp))
  all_goals
    go_ret
    exact retB (by simp [HE.out]) (grew_trans (grew_trans hb1 hb2) hb3)
theorem snoc_at {ls : List (List Int)} {T : List Int} {i : Nat} (h : i < ls.length) : (ls ++ [T]).getD i [] = ls.getD i [] := by
  simp only [List.getD_eq_getElem?_getD]; rw [List.getElem?_append_left h]
theorem snoc_end (ls : List (List Int)) (T : List Int) : (ls ++ [T]).getD ls.length [] = T := by simp
theorem snoc_out {ls : List (List Int)} {T : List Int} {i : Nat} (h : ls.length < i) : (ls ++ [T]).getD i [] = [] := by
  simp only [List.getD_eq_getElem?_getD]; rw [List.getElem?_eq_none (by simp; omega)]; rfl

set_option maxRecDepth 100000 in
set_option maxHeartbeats 4000000 in
theorem once_yes (a : Option Addr) (cap : Nat) (ls : List (List Int)) (N : Nat) (w : World) (him : Imgs w a ls) (hlen : ls.length ≤ maxLen) (hls : ∀ i, (ls.getD i []).length ≤ maxLen) (hnone : a = none → cap = 0) (hbytes : ls.length * 24 ≤ 140737488351232)
    (C : List Int) (hcnt : cnt 400 (places ls) = some C) (hC : counts ls 400 = C) (hE : countsE ls 400 = 0) (hN : N ≤ (frees C).length) :
    Calls Try.prog 5 #[.slice a ls.length cap, .int .i64 (N : Int)] w (RetB true w) := by
  have hCl : C.length = 400 := cnt_len _ _ hcnt
  have hFl : (frees C).length ≤ 400 := by have := freesTo_len C C.length; unfold frees; omega
  have hTl : ((frees C).take N).length = N := by simp; omega
  have hc8 : Hid (∀ w1, Imgs w1 a ls → Calls Try.prog 8 #[.slice a ls.length cap, .int .i64 400] w1 (LPost C 0 w1)) := fun w1 hi => by have := counts_any a cap ls 400 w1 hi hlen hls; rw [hC, hE] at this; exact this
  have hc12 : Hid (∀ w1 a2 c2, Row w1 a2 C → Calls Try.prog 12 #[.slice a2 400 c2, .int .i64 (N : Int)] w1 (LPost ((frees C).take N) 0 w1)) := fun w1 a2 c2 hr => by
    have := take_len a2 c2 400 C hCl N w1 hr (by rw [hCl]; unfold maxLen; omega) (by rw [hCl]; omega)
    rw [show takes C N = (frees C).take N by rw [takes, if_neg (by omega), if_neg (by omega), Int.toNat_natCast], show takesE C N = 0 by rw [takesE, if_neg (by omega), if_neg (by omega)]] at this
    exact this
  have HCl := Lib.hid hCl
  have HTl := Lib.hid hTl
  have HCNT := Lib.hid hcnt
  have HIM := Lib.hid him
  have HLS := Lib.hid hls
  have HNO := Lib.hid hnone
  have HLEN := Lib.hid hlen
  have hcat : ∀ i, i < (frees C).length → ∃ m : Nat, (frees C).getD i 0 = (m : Int) ∧ 193 ≤ m ∧ m < C.length ∧ C.getD m 0 = 0 := fun _ h => frees_mem h
  have hT : ∀ i, i < N → ((frees C).take N).getD i 0 = (frees C).getD i 0 := fun i hi => by simp [List.getD, hi]
  have HG : Hid (∀ i, i < N → ∃ m : Nat, ((frees C).take N).getD i 0 = (m : Int) ∧ 193 ≤ m ∧ m < 400 ∧ C.getD m 0 = 0) := fun i hi => by
    obtain ⟨m, h1, h2, h3, h4⟩ := hcat i (by omega)
    exact ⟨m, by rw [hT i hi]; exact h1, h2, by omega, h4⟩
  have HUP : Hid (∀ i, i + 1 < N → ((frees C).take N).getD i 0 < ((frees C).take N).getD (i + 1) 0) := fun i hi => by
    rw [hT i (by omega), hT (i + 1) hi]; exact frees_rise (by omega) (by omega)
  have HNX : Hid (∀ m, 193 ≤ m → m < 400 → C.getD m 0 = 0 → (freesTo C m).length < N → ((frees C).take N).getD (freesTo C m).length 0 = (m : Int)) := fun m h1 h2 h3 h4 => by
    rw [hT _ h4]; exact (frees_next h1 (by omega) h3).2
  have hMORE := Lib.hid (more_counts N hN hcnt)
  clear hC hE hTl hcnt him hls hnone hlen hcat hT hCl
  generalize (frees C).take N = T at *
  go_enter Try.func5, Try.ntmps5
  go_wp2_with (first
    | (go_at_call 11; refine (works_any _).mono ?_; rintro e w1 ⟨rfl, hb1⟩; have him1 := imgs_below HIM.out hb1)
    | (go_at_call 8; refine (hc8.out _ him1).mono ?_; intro e w2 hp; obtain ⟨a2, c2, rfl, hr2, hb2⟩ := lpost_len hp HCl.out; have him2 := imgs_below him1 hb2; clear hp)
    | (go_at_call 12; refine (hc12.out _ _ _ hr2).mono ?_; intro e w3 hp; obtain ⟨a3, c3, rfl, hr3, hb3⟩ := lpost_len hp HTl.out; have him3 := imgs_below him2 hb3; have hr23 := row_below hr2 hb3; clear hp))
  have HB0 := Lib.hid (grew_trans (grew_trans hb1 hb2) hb3)
  have HR3 := Lib.hid hr3
  have HR2 := Lib.hid hr23
  have HIM3 := Lib.hid him3
  clear hb1 hb2 hb3 hr2 hr3 hr23 him1 him2 him3 HIM
  go_loopg [9] N (fun k v9 wr => ∃ i : Nat, i + k = N ∧ v9 = .int .i64 (i : Int) ∧ ∃ q, wr = w3.drewN q)
  case atStart => exact ⟨0, by omega, rfl, 0, rfl⟩
  case round =>
    obtain ⟨i, hik, rfl, q, hq⟩ := hrel
    have HQ := Lib.hid hq
    clear hq
    by_cases hlt : i < N
    · obtain ⟨m, h1, h2, h3, h4⟩ := HG.out i hlt
      have hTN : i < T.length := by have := HTl.out; omega
      have hCN : m < C.length := by have := HCl.out; omega
      obtain ⟨b3, o3, rfl, hc3⟩ := HR3.out i hTN
      obtain ⟨b2, o2, rfl, hc2⟩ := HR2.out m hCN
      rw [h1] at hc3
      rw [h4] at hc2
      replace hc3 : wr.cell? ⟨b3, o3 + i, none⟩ = some (.int .i64 (m : Int)) := by rw [HQ.out]; exact hc3
      replace hc2 : wr.cell? ⟨b2, o2 + m, none⟩ = some (.int .i64 0) := by rw [HQ.out]; exact hc2
      have d1 : decide ((m : Int) < 193) = false := by simp; omega
      have d2 : decide ((400 : Int) ≤ (m : Int)) = false := by simp; omega
      have d3 : (m : Int) < 400 := by omega
      cases i with
      | zero =>
        rw [Nat.add_zero] at hc3
        clear h1 h4 hTN hCN
        go_wp2
        go_quiet (fail)
        go_wp2
        go_roundg (gk - 1)
        case measure => omega
        case rel => exact ⟨1, by omega, by simp, q + nq, by rw [HQ.out]; simp [World.drewN, Nat.add_assoc]⟩
      | succ i' =>
        obtain ⟨m', g1, g2, g3, -⟩ := HG.out i' (by omega)
        have hup := HUP.out i' hlt
        rw [h1, g1] at hup
        have hc3' := row_cell (HR3.out) (i := i') (by have := HTl.out; omega)
        rw [g1] at hc3'
        replace hc3' : wr.cell? ⟨b3, o3 + i', none⟩ = some (.int .i64 (m' : Int)) := by rw [HQ.out]; exact hc3'
        have d4 : decide (m ≤ m') = false := by simp; omega
        have d5 : decide ((0 : Int) < (i' : Int) + 1) = true := by simp
        clear h1 h4 hTN hCN g1 hup
        go_wp2
        go_quiet (fail)
        go_wp2
        go_roundg (gk - 1)
        case measure => omega
        case rel => exact ⟨i' + 1 + 1, by omega, by simp, q + nq, by rw [HQ.out]; simp [World.drewN, Nat.add_assoc]⟩
    · have HW : Hid (Below w3.heap.size w3 wr) := by rw [HQ.out]; exact below_drewN' w3 q
      have HR3a := Lib.hid (row_below HR3.out HW.out)
      have HR2a := Lib.hid (row_below HR2.out HW.out)
      have HIMa := Lib.hid (imgs_below HIM3.out HW.out)
      have HBa := Lib.hid (grew_trans HB0.out HW.out)
      clear HR3 HR2 HIM3 HW HQ
      obtain ⟨w4, rfl⟩ : ∃ w4 : World, w4 = wr := ⟨_, rfl⟩
      go_wp2
      go_loopg [10, 11] 207 (fun k v10 v11 wr => ∃ m : Nat, 193 ≤ m ∧ m + k = 400 ∧ v10 = .int .i64 ((freesTo C m).length : Int) ∧ v11 = .int .i64 (m : Int) ∧ wr = w4)
      case atStart => exact ⟨193, by omega, by omega, by rw [freesTo_start]; rfl, rfl, rfl⟩
      case round =>
        obtain ⟨m, hm1, hmk, rfl, rfl, rfl⟩ := hrel
        have hpl := freesTo_len C m
        by_cases hm : m < 400
        · have hCN : m < C.length := by have := HCl.out; omega
          have hmi : (m : Int) < 400 := by omega
          obtain ⟨b2, o2, rfl, hc2⟩ := HR2a.out m hCN
          by_cases hz : C.getD m 0 = 0
          · have hs := Lib.hid (freesTo_yes hm1 hz)
            have hnx := Lib.hid (HNX.out m hm1 hm hz)
            rw [hz] at hc2
            clear hz
            by_cases hp : (freesTo C m).length < N
            · have hTN : (freesTo C m).length < T.length := by have := HTl.out; omega
              obtain ⟨b3, o3, rfl, hc3⟩ := HR3a.out _ hTN
              rw [hnx.out hp] at hc3
              clear hTN
              go_wp2
              go_roundg (gk - 1)
              case measure => omega
              case rel => exact ⟨m + 1, by omega, by omega, by rw [hs.out]; simp, by simp, rfl⟩
            · go_wp2
              go_roundg (gk - 1)
              case measure => omega
              case rel => exact ⟨m + 1, by omega, by omega, by rw [hs.out]; simp, by simp, rfl⟩
          · have hs := Lib.hid (freesTo_no hz)
            generalize C.getD m 0 = z at hz hc2
            have hne : (z == 0) = false := by simpa using hz
            clear hz
            go_wp2
            go_roundg (gk - 1)
            case measure => omega
            case rel => exact ⟨m + 1, by omega, by omega, by rw [hs.out], by simp, rfl⟩
        · have hF : freesTo C m = frees C := by rw [frees, HCl.out, show m = 400 by omega]
          rw [hF]
          clear hF hpl
          obtain ⟨i1, hi1, hy0, hy1, hy2⟩ := info_parts info23
          obtain ⟨D, hD1, hD2, hD3, hD4⟩ := hMORE.out
          have HC8 : Hid (∀ w6 a6 c6, Imgs w6 a6 (ls ++ [T]) → Calls Try.prog 8 #[.slice a6 (ls.length + 1) c6, .int .i64 400] w6 (LPost D 0 w6)) := fun w6 a6 c6 hi => by
            have := counts_len a6 c6 (ls.length + 1) (ls ++ [T]) (by simp) 400 w6 hi (by unfold maxLen; simp; omega) (fun i => by
              by_cases h : i < ls.length
              · rw [snoc_at h]; exact HLS.out i
              · by_cases h2 : i = ls.length
                · subst h2; rw [snoc_end, HTl.out]; unfold maxLen; omega
                · rw [snoc_out (by omega)]; simp)
            rw [hD1, hD2] at this
            exact this
          have HD := Lib.hid (And.intro hD3 hD4)
          have HFC : Hid (∀ w7 a7 c7, Row w7 a7 C → Calls Try.prog 14 #[.slice a7 400 c7] w7 (RetI ((frees C).length : Int) w7)) := fun w7 a7 c7 hr => free_len a7 c7 400 C HCl.out w7 hr (by rw [HCl.out]; unfold maxLen; omega)
          have HFD : Hid (∀ w7 a7 c7, Row w7 a7 D → Calls Try.prog 14 #[.slice a7 400 c7] w7 (RetI (((frees C).length : Int) - (N : Int)) w7)) := fun w7 a7 c7 hr => by
            have := free_len a7 c7 400 D hD3 w7 hr (by rw [hD3]; unfold maxLen; omega)
            rw [show ((frees D).length : Int) = ((frees C).length : Int) - (N : Int) by rw [hD4]; omega] at this
            exact this
          clear hD1 hD2 hD3 hD4
          generalize (frees C).length = F at *
          obtain ⟨vs, hvl, hv1, hvs⟩ := imgs_heads HIMa.out
          have HOWN : Hid (∀ (v6 : Value) (w6 : World), w6.ownsRow wr.heap.size 23 1 v6 (ls.length + 1) (vs ++ [.slice a3 N c3]) → Below wr.heap.size wr w6 → ∃ a6 c6, v6 = .slice a6 (ls.length + 1) c6 ∧ Imgs w6 a6 (ls ++ [T])) := fun v6 w6 ho hb => by
            refine imgs_own ho (ls ++ [T]) (by simp) fun i hi => ?_
            by_cases h : i < ls.length
            · obtain ⟨_, _, a', cap', -, -, e, hr⟩ := hvs i h
              rw [snoc_at h]
              exact ⟨a', cap', by rw [List.getElem?_append_left (by omega)]; exact e, row_below hr hb⟩
            · obtain rfl : i = ls.length := by simp at hi; omega
              rw [snoc_end, HTl.out]
              exact ⟨a3, c3, by rw [← hvl]; simp, row_below HR3a.out hb⟩
          have hmi : (400 : Int) ≤ (m : Int) := by omega
          clear hmk hm1 hm
          cases a with
          | none =>
            have hl0 : ls.length = 0 := by
              by_cases h : 0 < ls.length
              · obtain ⟨_, _, _, _, e, _⟩ := hvs 0 h
                cases e
              · omega
            have hc0 := HNO.out rfl
            have hv0 : vs = [] := List.eq_nil_of_length_eq_zero (by omega)
            subst hv0 hc0
            have hown5 : wr.ownsRow wr.heap.size 23 1 (.slice none 0 0) ls.length [] := by rw [hl0]; exact World.ownsRow_nil _ _ _ _
            obtain ⟨w5, hw5⟩ : ∃ w5 : World, w5 = wr := ⟨_, rfl⟩
            have hb5 : Below wr.heap.size wr wr := Below.refl _ _
            have HV := Lib.hid hvs
            have HL0 := Lib.hid hl0
            clear hvs hl0 hvl hv1 hw5 w5
            have T1 := trivial
            go_wp2_with (first
              | (have q := T1; at_builtin; refine wpList_append_own_none rfl _ _ 22 rfl wr.heap.size 23 i1 1 Try.underlying22 hi1 _ 0 [] rfl (World.ownsRow_nil _ _ _ _) (by rw [← HL0.out]; rfl) ?_; clear T1 q; have T2 := trivial)
              | (have q := T2; at_builtin; refine wpList_append_own _ rfl _ _ 22 rfl wr.heap.size 23 i1 (.slice none 0 0) 1 24 Try.underlying22 hi1 hy0 hy1 hy2 rfl (by decide) _ _ _ rfl (hown5.alloc _) ⟨wr.heap.size, 0, none⟩ 1 1 [.slice a3 N c3] rfl rfl (cell_one_new _ _ _) (by simp [Value.oneCell']) (by unfold maxLen; omega) (by omega) (by have := hb5.size; rw [World.size_alloc]; omega) ?_; intro v6 w6 hown6 hgrow6 _; have hb46 : Below wr.heap.size wr w6 := (hb5.alloc hb5.size _).grown hgrow6 (by have := hb5.size; rw [World.size_alloc]; omega) (fun j hj => (hown5.lt j hj).1); obtain ⟨a6, c6, rfl, hi6⟩ := HOWN.out _ _ hown6 hb46; clear T2 q)
              | (go_at_call 8; refine (HC8.out _ _ _ hi6).mono ?_; intro e w7 hp; obtain ⟨a7, c7, rfl, hr7, hb7⟩ := lpost_len hp HD.out.1; have hb47 := grew_trans hb46 hb7; have hr27 := row_below HR2a.out hb47; clear hp; have T3 := trivial)
              | (have q := T3; go_at_call 14; refine (HFC.out _ _ _ hr27).mono ?_; rintro e w8 ⟨rfl, hb8⟩; have hr8 := row_below hr7 hb8; clear T3 q; have T4 := trivial)
              | (have q := T4; go_at_call 14; refine (HFD.out _ _ _ hr8).mono ?_; rintro e w9 ⟨rfl, hb9⟩; clear T4 q))
            go_ret
            exact retB (by simp) (grew_trans (grew_trans (grew_trans HBa.out hb47) hb8) hb9)
          | some ad =>
            have hnews : ∀ j u, vs[j]? = some u → wr.cell? (ad.add j) = some u := fun j u hu => by
              have hj : j < ls.length := by rw [← hvl]; exact (List.getElem?_eq_some_iff.1 hu).1
              obtain ⟨b, off, _, _, e, hc, _, _⟩ := hvs j hj
              simp at e
              rw [e, ← hu, ← hc, Go.WideShapes.add_plain]
            have HV := Lib.hid hvs
            have HNW := Lib.hid hnews
            clear hvs hnews
            have T1 := trivial
            go_wp2_with (first
              | (have q := T1; at_builtin; refine wpList_append_own _ rfl _ _ 22 rfl wr.heap.size 23 i1 (.slice none 0 0) 1 24 Try.underlying22 hi1 hy0 hy1 hy2 rfl (by decide) _ 0 [] rfl (World.ownsRow_nil _ _ _ _) ad ls.length cap vs rfl (by omega) HNW.out hv1 (by unfold maxLen; omega) (by omega) (Nat.le_refl _) ?_; intro v5 w5 hown5 hgrow5 _; have hb5 : Below wr.heap.size wr w5 := (Below.refl _ wr).grown hgrow5 (Nat.le_refl _) (fun j hj => by cases hj); simp only [Nat.zero_add, List.nil_append] at hown5; clear T1 q; have T2 := trivial)
              | (have q := T2; at_builtin; refine wpList_append_own _ rfl _ _ 22 rfl wr.heap.size 23 i1 (.slice none 0 0) 1 24 Try.underlying22 hi1 hy0 hy1 hy2 rfl (by decide) _ _ _ rfl (hown5.alloc _) ⟨w5.heap.size, 0, none⟩ 1 1 [.slice a3 N c3] rfl rfl (cell_one_new _ _ _) (by simp [Value.oneCell']) (by unfold maxLen; omega) (by omega) (by have := hb5.size; rw [World.size_alloc]; omega) ?_; intro v6 w6 hown6 hgrow6 _; have hb46 : Below wr.heap.size wr w6 := (hb5.alloc hb5.size _).grown hgrow6 (by have := hb5.size; rw [World.size_alloc]; omega) (fun j hj => (hown5.lt j hj).1); obtain ⟨a6, c6, rfl, hi6⟩ := HOWN.out _ _ hown6 hb46; clear T2 q)
              | (go_at_call 8; refine (HC8.out _ _ _ hi6).mono ?_; intro e w7 hp; obtain ⟨a7, c7, rfl, hr7, hb7⟩ := lpost_len hp HD.out.1; have hb47 := grew_trans hb46 hb7; have hr27 := row_below HR2a.out hb47; clear hp; have T3 := trivial)
              | (have q := T3; go_at_call 14; refine (HFC.out _ _ _ hr27).mono ?_; rintro e w8 ⟨rfl, hb8⟩; have hr8 := row_below hr7 hb8; clear T3 q; have T4 := trivial)
              | (have q := T4; go_at_call 14; refine (HFD.out _ _ _ hr8).mono ?_; rintro e w9 ⟨rfl, hb9⟩; clear T4 q))
            go_ret
            exact retB (by simp) (grew_trans (grew_trans (grew_trans HBa.out hb47) hb8) hb9)

theorem lawOnce (a : Option Addr) (cap : Nat) (ls : List (List Int)) (n : Int) (w : World) (him : Imgs w a ls) (hlen : ls.length ≤ maxLen) (hls : ∀ i, (ls.getD i []).length ≤ maxLen) (hnone : a = none → cap = 0) (hbytes : ls.length * 24 ≤ 140737488351232) :
    Calls Try.prog 5 #[.slice a ls.length cap, .int .i64 n] w (RetB true w) := by
  rcases counts_cases ls with h | ⟨C, h1, h2, h3⟩
  · exact once_no a cap ls n w him hlen hls h
  · have hl := cnt_len _ _ h1
    by_cases hn : n < 0
    · exact once_few a cap ls n w him hlen hls C h2 h3 hl 2 (if_pos hn) (if_pos hn) (by decide) (by simp [hn])
    · by_cases hf : ((frees C).length : Int) < n
      · exact once_few a cap ls n w him hlen hls C h2 h3 hl 7 ((if_neg hn).trans (if_pos hf)) ((if_neg hn).trans (if_pos hf)) (by decide) (by simp [hn])
      · obtain ⟨N, rfl⟩ := Int.eq_ofNat_of_zero_le (show 0 ≤ n by omega)
        exact once_yes a cap ls N w him hlen hls hnone hbytes C h1 h2 h3 (by omega)
end Go.Proofs.Ytbpbbggbjnjocaa
