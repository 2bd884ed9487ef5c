/- With more entries a lineage only grows. -/
import Derived.Test.YthfchmdfoaiibaaGrowP
namespace Go.Proofs.Ythfchmdfoaiibaa
open Go.RowKit Go.Joins

/-- two lines, each in a block. -/
structure Two (w : World) (p q : Nat) (e1 b1 : Int) (l1 : Bool) (gs : List Gid) (e2 b2 : Int) (l2 : Bool) (hs : List Gid) (aa ab : Option Addr) (ca cb : Nat) : Prop where
  a0 : w.cell? ⟨p, 0, none⟩ = some (.int .u64 e1)
  a2 : w.cell? ⟨p, 2, none⟩ = some (.bool l1)
  a3 : w.cell? ⟨p, 3, none⟩ = some (.slice aa gs.length ca)
  b0 : w.cell? ⟨q, 0, none⟩ = some (.int .u64 e2)
  b1 : w.cell? ⟨q, 1, none⟩ = some (.int .i64 b2)
  b2 : w.cell? ⟨q, 2, none⟩ = some (.bool l2)
  b3 : w.cell? ⟨q, 3, none⟩ = some (.slice ab hs.length cb)
  ga : Gids w aa gs
  gb : Gids w ab hs
theorem keepc {w w' : World} {p : Addr} {v : Value} (h : w.cell? p = some v) (hb : Below w.heap.size w w') : w'.cell? p = some v := (hb.cell (World.block_lt_of_cell? _ _ h)).trans h
theorem Two.below {w w' : World} {p q : Nat} {e1 b1 : Int} {l1 : Bool} {gs : List Gid} {e2 b2 : Int} {l2 : Bool} {hs : List Gid} {aa ab : Option Addr} {ca cb : Nat} (h : Two w p q e1 b1 l1 gs e2 b2 l2 hs aa ab ca cb) (hb : Below w.heap.size w w') : Two w' p q e1 b1 l1 gs e2 b2 l2 hs aa ab ca cb :=
  ⟨keepc h.a0 hb, keepc h.a2 hb, keepc h.a3 hb, keepc h.b0 hb, keepc h.b1 hb, keepc h.b2 hb, keepc h.b3 hb, gids_below h.ga hb, gids_below h.gb hb⟩
/-- a slice that is cut at both ends. -/
theorem mid_sl {w : World} {a : Option Addr} {cap : Nat} {es : List Ent} (h : Sl w a cap es) (p m : Nat) (hp : p ≤ m) (hm : m ≤ es.length) :
    ∃ A C, (∀ W, (Instr.slice 22 (.slice a es.length cap) (some (.int .i64 (p : Int))) (some (.int .i64 (m : Int))) none).run Try.prog W = .ok (.slice A (m - p) C) W) ∧ Sl w A C ((es.take m).drop p) := by
  have ht' : Try.prog.underlying 22 = some (.slice (Try.prog.elem 22)) := by kernel_rfl
  have he : Try.prog.elem 22 = 33 := by kernel_rfl
  have hlen := h.len
  have hcm := h.capm
  by_cases hc : cap = p
  · have h0 : (es.take m).drop p = [] := List.eq_nil_of_length_eq_zero (by simp; omega)
    refine ⟨a, 0, fun W => ?_, ?_⟩
    · rw [run_slice_lh W 22 _ _ _ ht' .i64 .i64 _ _ (by omega) (by omega) (by omega), he, size33]
      simp only [Result.andThen, sliced, Int.toNat_natCast]
      subst hc
      cases a <;> simp
    · rw [h0]
      exact ⟨fun i hi => by simp at hi, fun _ => rfl, Nat.zero_le _, Nat.zero_le _, h.plain⟩
  · cases a with
    | none => have := h.nil0 rfl; omega
    | some ad =>
      obtain ⟨b, off, rfl⟩ := h.plain ad rfl
      refine ⟨some ⟨b, off + p * 4, none⟩, cap - p, fun W => ?_, ⟨ents_drop (ents_take h.ents m) p, by simp, by simp; omega, by omega, fun ad e => by simp at e; exact ⟨_, _, e.symm⟩⟩⟩
      rw [run_slice_lh W 22 _ _ _ ht' .i64 .i64 _ _ (by omega) (by omega) (by omega), he, size33]
      simp only [Result.andThen, sliced, Int.toNat_natCast]
      simp [hc, Addr.add]
theorem has_len (a : Option Addr) (c n : Nat) (es : List Ent) (hn : es.length = n) (w : World) (h : Sl w a c es) (r : Bool) (hr : (es.any fun e => decide (e.2.1 = 1)) = r) :
    Calls Try.prog 25 #[.slice a n c] w (SameB r w) := by subst hn hr; exact has_any a c es w h.ents (Nat.le_trans h.len h.capm)
theorem cut_self {f n : Nat} (h : f ≤ n) : cut (f : Int) n = f := by unfold cut; omega

/-- what is asked of two lines. -/
structure GF (e1 : Int) (l1 : Bool) (gs : List Gid) (e2 b2 : Int) (l2 : Bool) (hs : List Gid) (ok has : Bool) : Prop where
  le : gs.length ≤ hs.length
  b0 : 0 ≤ b2
  b1 : b2 ≤ hs.length
  pre : ∀ i, i < gs.length → gs.getD i default = hs.getD i default
  ch : chain hs
  short : hs.length ≤ 400
  new : ok = true → ∀ i, gs.length ≤ i → i < hs.length → e1 ≤ (hs.getD i default).1
  bef : ok = true → ∀ i, i < hs.length → (hs.getD i default).1 ≤ e2
  ep : ok = true → e1 ≤ e2
  fin : ok = true → e1 < e2 ∨ l1 = false ∨ l2 = true ∨ has = true
theorem gf_of {es : List Ent} (hl : es.length ≤ 400) (hwf : ∀ i, i < es.length → wfE (es.getD i default)) {F M : Nat} (hF : F ≤ M) (hM : M ≤ es.length) {e1 b1 : Int} {l1 : Bool} {gs : List Gid} {e2 b2 : Int} {l2 : Bool} {hs : List Gid}
    (hA : foldL (es.take F) = (e1, b1, l1, gs)) (hB : foldL (es.take M) = (e2, b2, l2, hs)) : GF e1 l1 gs e2 b2 l2 hs (decide (checkE es = 0)) (((es.take M).drop F).any fun e => decide (e.2.1 = 1)) := by
  have hA' : St es F = (e1, b1, l1, gs) := hA
  have hB' : St es M = (e2, b2, l2, hs) := hB
  have hp := St_pre es hF hM
  have ho := St_ok es M hM
  rw [hA', hB'] at hp
  rw [hB'] at ho
  have hck : decide (checkE es = 0) = true → sortedB es = true := fun h => by
    rw [decide_eq_true_eq] at h
    by_cases h3 : 300 < es.length
    · rw [checkE, if_pos h3] at h; omega
    rw [checkE, if_neg h3] at h
    by_cases h2 : sortedB es = true
    · exact h2
    · simp [h2] at h
  have hlen := foldL_len es M hM
  rw [hB] at hlen
  refine ⟨hp.length_le, ho.lo, ho.hi, fun i hi => ?_, ho.ch, by simp at hlen; omega, fun hk => ?_, fun hk i hi => ?_, fun hk => ?_, fun hk => ?_⟩
  · obtain ⟨t, rfl⟩ := hp
    simp only [List.getD_eq_getElem?_getD]
    rw [List.getElem?_append_left hi]
  · have := (St_epoch (hck hk) hwf hF hM).2
    rw [hA', hB'] at this
    exact this
  · have := (St_up (hck hk) hwf M hM).all
    rw [hB'] at this
    exact this (hs.getD i default) (by simp [hi])
  · have := (St_epoch (hck hk) hwf hF hM).1
    rw [hA', hB'] at this
    exact this
  · by_cases hh : ∃ j, F ≤ j ∧ j < M ∧ (es.getD j default).2.1 = 1
    · obtain ⟨j, h1, h2, h3⟩ := hh
      right; right; right
      rw [List.any_eq_true]
      refine ⟨es.getD j default, ?_, by simpa using h3⟩
      rw [List.mem_iff_getElem?]
      refine ⟨j - F, ?_⟩
      rw [List.getElem?_drop, List.getElem?_take_of_lt (by omega), show F + (j - F) = j by omega]
      simp [show j < es.length by omega]
    · by_cases h1 : l1 = true
      · right; right; left
        have := St_leased es hF hM (fun j h2 h3 h4 => hh ⟨j, h2, h3, h4⟩)
        rw [hA', hB'] at this
        exact this h1
      · right; left; simpa using h1

theorem two_alloc {w : World} {e1 b1 : Int} {l1 : Bool} {gs : List Gid} {e2 b2 : Int} {l2 : Bool} {hs : List Gid} {aa ab : Option Addr} {ca cb : Nat} (ga : Gids w aa gs) (gb : Gids w ab hs) :
    Two ((w.alloc (.cells #[.int .u64 e1, .int .i64 b1, .bool l1, .slice aa gs.length ca] 38)).alloc (.cells #[.int .u64 e2, .int .i64 b2, .bool l2, .slice ab hs.length cb] 38)) w.heap.size (w.heap.size + 1) e1 b1 l1 gs e2 b2 l2 hs aa ab ca cb := by
  have hb1 : ∀ o, Below w.heap.size w (w.alloc o) := fun o => (Below.refl _ w).alloc (Nat.le_refl _) o
  have hb2 : ∀ o1 o2, Below (w.alloc o1).heap.size (w.alloc o1) ((w.alloc o1).alloc o2) := fun o1 o2 => (Below.refl _ _).alloc (Nat.le_refl _) o2
  have hsz : ∀ o, (w.alloc o).heap.size = w.heap.size + 1 := fun o => by simp
  refine ⟨keepc ?_ (hb2 _ _), keepc ?_ (hb2 _ _), keepc ?_ (hb2 _ _), ?_, ?_, ?_, ?_, gids_below (gids_below ga (hb1 _)) (hb2 _ _), gids_below (gids_below gb (hb1 _)) (hb2 _ _)⟩
  · exact World.cell?_alloc_at _ _ _ _ rfl
  · exact World.cell?_alloc_at _ _ _ _ rfl
  · exact World.cell?_alloc_at _ _ _ _ rfl
  all_goals
    rw [← hsz (.cells #[.int .u64 e1, .int .i64 b1, .bool l1, .slice aa gs.length ca] 38)]
    exact World.cell?_alloc_at _ _ _ _ rfl

set_option maxRecDepth 100000 in
set_option maxHeartbeats 8000000 in
theorem lawGrows (a : Option Addr) (cap : Nat) (es : List Ent) (few more : Int) (w : World) (h : InE w a cap es) : Calls Try.prog 6 #[.slice a es.length cap, .int .i64 few, .int .i64 more] w (RetB true w) := by
  obtain ⟨ES, hES⟩ : ∃ ES, es.take 400 = ES := ⟨_, rfl⟩
  have hown := Lib.hid (own_in h ES hES)
  have WF := Lib.hid (wf_take h.wf hES)
  have hl : Hid (ES.length ≤ 400) := by rw [← hES]; simp [Hid]; omega
  clear h hES
  obtain ⟨F, hFd⟩ : ∃ F : Nat, (F : Int) = max 0 (min few (ES.length : Int)) := ⟨(max 0 (min few (ES.length : Int))).toNat, by omega⟩
  obtain ⟨M, hMd⟩ : ∃ M : Nat, (M : Int) = max (F : Int) (min more (ES.length : Int)) := ⟨(max (F : Int) (min more (ES.length : Int))).toNat, by omega⟩
  have hFM : F ≤ M := by omega
  have hM : M ≤ ES.length := by omega
  have HF := Lib.hid hFd
  have HM := Lib.hid hMd
  clear hFd hMd
  go_enter Try.func6, Try.ntmps6
  go_upto_region 2 with (go_at_call 11; refine hown.out.mono ?_; intro e w1 hp; obtain ⟨a1, c1, rfl, hs, -, b1⟩ := sl_form hp rfl; have S := Lib.hid hs; have B1 := Lib.hid b1; clear hp hs b1)
  go_cut [1] (fun v1 wx => v1 = .int .i64 (F : Int) ∧ w1 = wx)
  case first =>
    go_wp2
    all_goals
      go_meet
      exact ⟨congrArg (Value.int .i64) (by have := HF.out; omega), rfl⟩
  case rest =>
    obtain ⟨rfl, rfl⟩ := hcut
    go_upto_region 3 with (fail)
    go_cut [2] (fun v2 wx => v2 = .int .i64 (M : Int) ∧ w1 = wx)
    case first =>
      go_wp2
      all_goals
        go_meet
        exact ⟨congrArg (Value.int .i64) (by have := HM.out; omega), rfl⟩
    case rest =>
      obtain ⟨rfl, rfl⟩ := hcut
      obtain ⟨A, hA⟩ : ∃ A, foldL (ES.take F) = A := ⟨_, rfl⟩
      obtain ⟨B, hBl⟩ : ∃ B, foldL (ES.take M) = B := ⟨_, rfl⟩
      obtain ⟨e1, bf1, l1, gs⟩ := A
      obtain ⟨e2, bf2, l2, hs⟩ := B
      have GG := Lib.hid (gf_of hl.out WF.out hFM hM hA hBl)
      have HA : Hid (foldL (ES.take (cut (F : Int) ES.length)) = (e1, bf1, l1, gs)) := by rw [Hid, cut_self (by omega)]; exact hA
      have HBl : Hid (foldL (ES.take (cut (M : Int) ES.length)) = (e2, bf2, l2, hs)) := by rw [Hid, cut_self (by omega)]; exact hBl
      obtain ⟨mA, mC, hmid, hmS⟩ := mid_sl S.out F M hFM hM
      have HMS := Lib.hid hmS
      have hml : Hid (((ES.take M).drop F).length = M - F) := by unfold Hid; simp; omega
      have hck : Hid (∀ w2, Below w1.heap.size w1 w2 → Calls Try.prog 24 #[.slice a1 ES.length c1] w2 (RetI (checkE ES) w2)) := fun w2 hb => check_len _ _ _ ES rfl _ (S.out.below hb) WF.out _ rfl
      have hhas : Hid (∀ w2, Below w1.heap.size w1 w2 → Calls Try.prog 25 #[.slice mA (M - F) mC] w2 (SameB (((ES.take M).drop F).any fun e => decide (e.2.1 = 1)) w2)) := fun w2 hb => has_len _ _ _ _ hml.out _ (HMS.out.below hb) _ rfl
      have mi1 : (F : Int) ≤ (M : Int) := by omega
      have mi2 : (M : Int) ≤ (c1 : Int) := by have := S.out.len; omega
      generalize ((ES.take M).drop F).any (fun e => decide (e.2.1 = 1)) = has at *
      generalize hcE : checkE ES = ck at *
      clear hA hBl hmS hcE HF HM
      have T2 := trivial
      go_upto_region 5 with (first
        | (have q := T2; go_at_call 21; refine (fold_len _ _ _ ES (F : Int) rfl _ S.out (by have := hl.out; omega) _ HA.out).mono ?_; intro e w2 hp; obtain ⟨aa, ca, rfl, hg, b2⟩ := line_form hp rfl; have G2 := Lib.hid hg; have S2 := Lib.hid (S.out.below b2); have B2 := Lib.hid b2; clear hp hg b2 T2 q; have T3 := trivial)
        | (have q := T3; go_at_call 21; refine (fold_len _ _ _ ES (M : Int) rfl _ S2.out (by have := hl.out; omega) _ HBl.out).mono ?_; intro e w3 hp; obtain ⟨ab, cb, rfl, hg, b3⟩ := line_form hp rfl; have G3 := Lib.hid hg; have G2' := Lib.hid (gids_below G2.out b3); have B3 := Lib.hid (grew_trans B2.out b3); clear hp hg b3 T3 q G2 S2 B2))
      have TT0 := Lib.hid (two_alloc (e1 := e1) (b1 := bf1) (l1 := l1) (e2 := e2) (b2 := bf2) (l2 := l2) (ca := ca) (cb := cb) G2'.out G3.out)
      have BB0 : Hid (Below w1.heap.size w1 ((w3.alloc (.cells #[.int .u64 e1, .int .i64 bf1, .bool l1, .slice aa gs.length ca] 38)).alloc (.cells #[.int .u64 e2, .int .i64 bf2, .bool l2, .slice ab hs.length cb] 38))) := grew_trans B3.out (((Below.refl _ w3).alloc (Nat.le_refl _) _).alloc (by simp) _)
      generalize (w3.alloc (.cells #[.int .u64 e1, .int .i64 bf1, .bool l1, .slice aa gs.length ca] 38)).alloc (.cells #[.int .u64 e2, .int .i64 bf2, .bool l2, .slice ab hs.length cb] 38) = W0 at TT0 BB0 ⊢
      generalize w3.heap.size + 1 = qb at TT0 ⊢
      generalize w3.heap.size = pa at TT0 ⊢
      clear HA HBl HMS hml G3 G2' B3 WF S hown
      have lf1 : gs.length ≤ hs.length := GG.out.le
      have lf2 : bf2 ≤ (hs.length : Int) := GG.out.b1
      have lf3 : 0 ≤ bf2 := GG.out.b0
      have lf4 : hs.length ≤ 400 := GG.out.short
      obtain ⟨a0, a2, a3, b0, b1, b2, b3, -, -⟩ := TT0.out
      go_wp2
      clear a0 a2 a3 b0 b1 b2 b3
      go_loopg [9] gs.length (fun k v9 wr => ∃ i : Nat, i + k = gs.length ∧ v9 = .int .i64 (i : Int) ∧ Below W0.heap.size W0 wr)
      case atStart => exact ⟨0, by omega, rfl, Below.refl _ _⟩
      case round =>
        obtain ⟨i, hik, rfl, hB⟩ := hrel
        obtain ⟨a0, a2, a3, b0, b1, b2, b3, ga, gb⟩ := TT0.out.below hB
        by_cases hlt : i < gs.length
        · obtain ⟨b, off, rfl, hc⟩ := ga i hlt
          obtain ⟨b', off', rfl, hc'⟩ := gb i (by omega)
          rw [← GG.out.pre i hlt] at hc'
          have hlt2 : i < hs.length := by omega
          clear ga gb
          generalize gs.getD i default = x at hc hc'
          obtain ⟨x1, x2⟩ := x
          obtain ⟨g1, g2⟩ := hc
          obtain ⟨g1', g2'⟩ := hc'
          simp only at g1 g2 g1' g2'
          have hq := fun w => neq31 w x1 x2 x1 x2
          have hgd := grd31
          have he : eqG (x1, x2) (x1, x2) = true := by unfold eqG; simp
          go_wp2
          go_quiet (fail)
          go_wp2
          go_roundg (gk - 1)
          case measure => omega
          case rel => exact ⟨i + 1, by omega, by simp, grew_trans hB (below_drewN' _ _)⟩
        · have TT1 := Lib.hid (TT0.out.below hB)
          have BB1 := Lib.hid (grew_trans BB0.out hB)
          clear TT0 BB0 ga gb
          go_wp2
          clear a0 a2 a3 b0 b1 b2 b3 hB hik hlt
          obtain ⟨V1, hV1⟩ : ∃ V, V = wr := ⟨_, rfl⟩
          subst hV1
          go_loopg [10] hs.length (fun k v10 wx => ∃ i : Nat, 1 ≤ i ∧ i + k = hs.length + 1 ∧ v10 = .int .i64 (i : Int) ∧ Below V1.heap.size V1 wx)
          case atStart => exact ⟨1, by omega, by omega, rfl, Below.refl _ _⟩
          case round =>
            obtain ⟨i, hi1, hik, rfl, hB⟩ := hrel
            obtain ⟨a0, a2, a3, b0, b1, b2, b3, ga, gb⟩ := TT1.out.below hB
            by_cases hlt : i < hs.length
            · obtain ⟨m, rfl⟩ : ∃ m, i = m + 1 := ⟨i - 1, by omega⟩
              obtain ⟨b, off, rfl, hc⟩ := gb (m + 1) hlt
              obtain ⟨b', off', e', hc'⟩ := gb m (by omega)
              simp at e'
              obtain ⟨rfl, rfl⟩ := e'
              have hch := GG.out.ch m hlt
              clear ga gb
              generalize hs.getD (m + 1) default = x at hc hch
              generalize hs.getD m default = y at hc' hch
              obtain ⟨x1, x2⟩ := x
              obtain ⟨y1, y2⟩ := y
              obtain ⟨g1, g2⟩ := hc
              obtain ⟨g1', g2'⟩ := hc'
              simp only at g1 g2 g1' g2'
              have hab := fun w => by have := above_law x1 x2 y1 y2 w; rw [hch] at this; exact this
              have HAB := Lib.hid hab
              clear hab hch
              go_wp2
              have ja : (m : Int) + 1 < (hs.length : Int) := by omega
              have jb : (0 : Int) ≤ (m : Int) + 1 := by omega
              have jc : ((m : Int) + 1).toNat = m + 1 := by omega
              have jd : IntKind.i64.wrap (m : Int) = (m : Int) := IntWalk.i64_in _ (by omega)
              have je : (m : Int) < (hs.length : Int) := by omega
              have l0 := fun y : Later wr => y.cell b3
              have l1 := fun y : Later wr => y.cell g1
              have l2 := fun y : Later wr => y.cell g2
              have l3 := fun y : Later wr => y.cell g1'
              have l4 := fun y : Later wr => y.cell g2'
              refine wp_region_later_lit (by kernel_rfl) (by kernel_rfl) ?_
              repeat (any_goals (first | go_big_quiet_step ((go_at_call 23; exact Calls.laterB (HAB.out _))) | quiet_step ((go_at_call 23; exact Calls.laterB (HAB.out _)))))
              refine wpQuiet_nil ?_
              intro _ hw'
              obtain ⟨y, hw''⟩ := hw'
              subst hw''
              have hy := y.h
              generalize y.w = W2 at hy ⊢
              clear l0 l1 l2 l3 l4 jc jd
              go_wp2
              go_roundg (gk - 1)
              case measure => omega
              case rel => exact ⟨m + 1 + 1, by omega, by omega, by simp, grew_trans hB hy⟩
            · have TT2 := Lib.hid (TT1.out.below hB)
              have BB2 := Lib.hid (grew_trans BB1.out hB)
              clear TT1 BB1 hik hi1 ga gb
              by_cases hk : ck = 0
              · subst hk
                go_upto_region 19 with (go_at_call 24; refine (hck.out _ BB2.out).mono ?_; rintro e wy ⟨rfl, hby⟩)
                have TT3 := Lib.hid (TT2.out.below hby)
                have BB3 := Lib.hid (grew_trans BB2.out hby)
                clear TT2 BB2 a0 a2 a3 b0 b1 b2 b3 hB hlt
                have G0 := Lib.hid (GG.out.new rfl)
                have G1 := Lib.hid (GG.out.bef rfl)
                have G2 := Lib.hid (GG.out.ep rfl)
                have G3 := Lib.hid (GG.out.fin rfl)
                have lf1 : gs.length ≤ hs.length := GG.out.le
                obtain ⟨a0, a2, a3, b0, b1, b2, b3, -, -⟩ := TT3.out
                go_wp2
                clear a0 a2 a3 b0 b1 b2 b3 hby
                obtain ⟨V2, hV2⟩ : ∃ V, V = wy := ⟨_, rfl⟩
                subst hV2
                go_loopg [11] (hs.length - gs.length) (fun k v11 wx => ∃ i : Nat, gs.length ≤ i ∧ i + k = hs.length ∧ v11 = .int .i64 (i : Int) ∧ Below V2.heap.size V2 wx)
                case atStart => exact ⟨gs.length, by omega, by omega, rfl, Below.refl _ _⟩
                case round =>
                  obtain ⟨i, hi1, hik, rfl, hB⟩ := hrel
                  obtain ⟨a0, a2, a3, b0, b1, b2, b3, ga, gb⟩ := TT3.out.below hB
                  by_cases hlt : i < hs.length
                  · obtain ⟨b, off, rfl, hc⟩ := gb i hlt
                    have hch := G0.out i hi1 hlt
                    clear ga gb
                    generalize hs.getD i default = x at hc hch
                    obtain ⟨x1, x2⟩ := x
                    obtain ⟨g1, g2⟩ := hc
                    simp only at g1 g2 hch
                    have hcb : decide (x1 < e1) = false := by simpa using hch
                    go_wp2
                    go_quiet (fail)
                    go_wp2
                    go_roundg (gk - 1)
                    case measure => omega
                    case rel => exact ⟨i + 1, by omega, by omega, by simp, grew_trans hB (below_drewN' _ _)⟩
                  · have TT4 := Lib.hid (TT3.out.below hB)
                    have BB4 := Lib.hid (grew_trans BB3.out hB)
                    clear TT3 BB3 ga gb G0
                    go_wp2
                    clear a0 a2 a3 b0 b1 b2 b3 hB hik hlt
                    obtain ⟨V3, hV3⟩ : ∃ V, V = wr := ⟨_, rfl⟩
                    subst hV3
                    go_loopg [12] bf2.toNat (fun k v12 wx => ∃ i : Nat, (i : Int) + k = bf2 ∧ v12 = .int .i64 (i : Int) ∧ Below V3.heap.size V3 wx)
                    case atStart => exact ⟨0, by omega, rfl, Below.refl _ _⟩
                    case round =>
                      obtain ⟨i, hik, rfl, hB⟩ := hrel
                      obtain ⟨a0, a2, a3, b0, b1, b2, b3, ga, gb⟩ := TT4.out.below hB
                      by_cases hlt : (i : Int) < bf2
                      · have hlt2 : i < hs.length := by omega
                        obtain ⟨b, off, rfl, hc⟩ := gb i hlt2
                        have hch := G1.out i hlt2
                        clear ga gb
                        generalize hs.getD i default = x at hc hch
                        obtain ⟨x1, x2⟩ := x
                        obtain ⟨g1, g2⟩ := hc
                        simp only at g1 g2 hch
                        have hcb : decide (e2 < x1) = false := by simpa using hch
                        go_wp2
                        go_quiet (fail)
                        go_wp2
                        go_roundg (gk - 1)
                        case measure => omega
                        case rel => exact ⟨i + 1, by omega, by simp, grew_trans hB (below_drewN' _ _)⟩
                      · have TT5 := Lib.hid (TT4.out.below hB)
                        have BB5 := Lib.hid (grew_trans BB4.out hB)
                        clear TT4 BB4 ga gb G1 hB
                        have k0 : e1 ≤ e2 := G2.out
                        have k0b : decide (e1 ≤ e2) = true := by simpa using k0
                        by_cases k1 : e1 < e2
                        · clear k0
                          have k1b : decide (e1 < e2) = true := by simpa using k1
                          go_wp2_with (go_at_call 16; refine (works_any _).mono ?_; rintro e wz ⟨rfl, hbz⟩)
                          go_ret
                          exact retB rfl (grew_trans B1.out (grew_trans BB5.out hbz))
                        · have k1b : decide (e1 < e2) = false := by simpa using k1
                          by_cases k2 : l1 = false
                          · subst k2
                            clear G3
                            go_wp2_with (go_at_call 16; refine (works_any _).mono ?_; rintro e wz ⟨rfl, hbz⟩)
                            go_ret
                            exact retB rfl (grew_trans B1.out (grew_trans BB5.out hbz))
                          · have k2' : l1 = true := by simpa using k2
                            subst k2'
                            clear k2
                            by_cases k3 : l2 = true
                            · subst k3
                              clear G3
                              go_wp2_with (go_at_call 16; refine (works_any _).mono ?_; rintro e wz ⟨rfl, hbz⟩)
                              go_ret
                              exact retB rfl (grew_trans B1.out (grew_trans BB5.out hbz))
                            · have k3' : l2 = false := by simpa using k3
                              subst k3'
                              have k4 : has = true := by
                                rcases G3.out with h | h | h | h
                                · exact absurd h k1
                                · cases h
                                · cases h
                                · exact h
                              subst k4
                              clear k3 G3
                              go_wp2_with (first
                                | (go_at_call 25; refine (hhas.out _ BB5.out).mono ?_; rintro e wy ⟨rfl, rfl⟩)
                                | (go_at_call 16; refine (works_any _).mono ?_; rintro e wz ⟨rfl, hbz⟩))
                              go_ret
                              exact retB rfl (grew_trans B1.out (grew_trans BB5.out hbz))
              · have hkb : (ck != 0) = true := by simpa using hk
                clear hk
                have T4 := trivial
                go_wp2_with (first
                  | (have q := T4; go_at_call 24; refine (hck.out _ BB2.out).mono ?_; rintro e wy ⟨rfl, hby⟩; have BB3 := Lib.hid (grew_trans BB2.out hby); clear T4 q)
                  | (go_at_call 16; refine (works_any _).mono ?_; rintro e wz ⟨rfl, hbz⟩))
                go_ret
                exact retB rfl (grew_trans B1.out (grew_trans BB3.out hbz))
end Go.Proofs.Ythfchmdfoaiibaa
