/- A voter's clock goes. -/
import Derived.Test.YtcleaamjfjnkkaaCl3
namespace Go.Proofs.Ytcleaamjfjnkkaa
open Go.RowKit Go.Joins

theorem grow_one {f : Co → Nat → Co} {n : Nat} (hf : ∀ d v, (f d v).out.length ≤ d.out.length + 1) (c : Co) (v : Nat) (h : c.out.length ≤ n) : (Co.one f c v).out.length ≤ n + 1 := by
  unfold Co.one; split
  · omega
  · have := hf c v; omega
theorem grow_others {f : Co → Nat → Co} (hf : ∀ d v, (f d v).out.length ≤ d.out.length + 1) (c : Co) (n : Nat) (h : c.out.length ≤ n) : (Co.others f c).out.length ≤ n + 3 := grow_one hf _ 2 (grow_one hf _ 1 (grow_one hf _ 0 h))
theorem ent_grow (d : Co) (v : Nat) : (d.entries v).out.length ≤ d.out.length + 1 := by show (d.out ++ [_]).length ≤ _; simp
theorem tick_few3 (c : Co) (a b : Int) : (c.tick a b).out.length ≤ 3 := by
  unfold Co.tick
  simp only
  split
  · exact grow_others (fun d v => by unfold Co.tickOne; split; exact ent_grow d v; omega) _ 0 (Nat.zero_le _)
  · split
    · exact grow_others (fun d v => by show (d.out ++ [_]).length ≤ _; simp) _ 0 (Nat.zero_le _)
    · exact Nat.zero_le _
theorem lead_few (c : Co) (h : c.out.length ≤ 0) : c.lead.out.length ≤ 3 := grow_others ent_grow _ 0 h
theorem send_few (c : Co) (t : Int) (m : Mg) (n : Nat) (h : c.out.length ≤ n) : (c.send t m).out.length ≤ n + 1 := by show (c.out ++ [_]).length ≤ _; simp; omega
theorem follow_o (c : Co) (t : Int) : (c.follow t).out = c.out := by unfold Co.follow; split <;> rfl
theorem handle_few3 (c : Co) (f : Int) (m : Mg) (a b : Int) : (c.handle f m a b).out.length ≤ 3 := by
  have g : (c.begin a).out.length ≤ 0 := Nat.zero_le _
  have gf : ((c.begin a).follow m.term).out.length ≤ 0 := by rw [follow_o]; exact g
  unfold Co.handle
  simp only
  split
  · omega
  · split
    · unfold Co.ask
      split
      · have := send_few (c.begin a) f (mg0 2) 0 g; omega
      · simp only
        split
        · exact Nat.le_trans (send_few _ f _ 0 gf) (by omega)
        · exact Nat.le_trans (send_few _ f _ 0 gf) (by omega)
    · split
      · unfold Co.vote
        simp only
        split
        · exact lead_few _ gf
        · omega
      · split
        · have gd : ((c.begin a).takeD f m).out.length ≤ 0 := gf
          unfold Co.take
          split
          · have := send_few (c.begin a) f (mg0 2) 0 g; omega
          · split
            · omega
            · simp only
              split
              · unfold Co.back; exact Nat.le_trans (send_few _ f _ 0 gd) (by omega)
              · split
                · omega
                · unfold Co.back; exact Nat.le_trans (send_few _ f _ 0 gd) (by omega)
        · split
          · unfold Co.answered
            simp only
            split
            · omega
            · have e1 : (((c.begin a).follow m.term).stampD f.toNat m).out.length ≤ 0 := by unfold Co.stampD; split; exact gf; exact gf
              generalize ((c.begin a).follow m.term).stampD f.toNat m = e at *
              split
              · exact Nat.le_trans (ent_grow _ f.toNat) (by show e.out.length + 1 ≤ 3; omega)
              · have g1 : ∀ d : Co, d.commits.out = d.out := fun d => by unfold Co.commits; split <;> rfl
                split
                · exact Nat.le_trans (ent_grow _ f.toNat) (by rw [g1]; show e.out.length + 1 ≤ 3; omega)
                · rw [g1]; show e.out.length ≤ 3; omega
          · omega
theorem gh_tick (c : Co) (a b : Int) : (c.tick a b).gh = c.gh := by
  have := congrArg Co.gh (Co.wg_tick c c.gh a b)
  exact this
theorem gh_handle (c : Co) (f : Int) (m : Mg) (a b : Int) : (c.handle f m a b).gh = c.gh := by
  have := congrArg Co.gh (Co.wg_handle c c.gh f m a b)
  exact this
theorem ok_wg {c : Co} (k : Ok c) (n : Nat) : Ok (c.wg n) := ⟨k.me, k.term, k.voted, k.log, k.wf, k.commit, k.heard, k.since, k.now, k.timeout, k.pr, k.led⟩
theorem CL.wg {w : World} {base p : Nat} {lv ov tv : Value} {c : Co} (h : CL w base p lv ov tv c) : CL w base p lv ov tv (c.wg w.heap.size) := ⟨h.blk, h.bp, h.log, Nat.le_refl _⟩
theorem i64c {x : Int} (h : 0 ≤ x) (h2 : x ≤ 10000000) : I64 x := ⟨by omega, by omega⟩
theorem sent_of {w : World} {base q : Nat} {V : Nat → VM} {l : LM} {ys : List RY} {k : Clu} {os : List RM} {c' : Co} (h : KAt w base q V l ys k) (i : Nat) (hi : i < 3) (hk : k.co i = c') (hc : CAt w base (V i).p (V i).lv (V i).ov (V i).tv os c') (he : ∀ x ∈ os, EAt w (KF q V l) x) (hev : Eve c') (a : Option Addr) (N cap : Nat) (hN : c'.out.length = N) (hN2 : N ≤ 80) (hov : (V i).ov = .slice a N cap) (hnet : k.net.length ≤ 200) :
    Calls Try.prog 69 #[.pointer (some ⟨q, 0, none⟩), .int .i64 (i : Int), .slice a N cap] w (Tup0 (KUpd base q V l (k.sentN i) w)) := by
  subst hk
  exact sent_any h i hi hc he hev a N cap hN hN2 hov hnet
/-- the three voters' state is sound enough to walk. -/
structure KOk (k : Clu) : Prop where
  ok : ∀ i, i < 3 → Ok (k.co i)
  gh : ∀ i, i < 3 → (k.co i).gh = 0
  clk : ∀ i, i < 3 → 0 ≤ k.clk i ∧ k.clk i ≤ 1000000
  net : k.net.length ≤ 200
/-- behind a call of a voter, ahead of what it sends. -/
theorem turn_sent {w w1 : World} {base q : Nat} {V : Nat → VM} {l : LM} {ys : List RY} {k : Clu} (h : KAt w base q V l ys k) {i : Nat} (hi : i < 3) {c' : Co} (hgh : c'.gh = 0) {e : Ending}
    (hO : OutP base (V i).p (V i).lv (c'.wg w.heap.size) w e w1) : ∃ V' a cap os, e = .returned (.slice a c'.out.length cap) ∧ KAt w1 base q V' l ys { k with co := upd k.co i c' } ∧ Mod (KF q V l) w w1 ∧ (∀ b, KF q V' l b → KF q V l b ∨ w.heap.size ≤ b) ∧
      CAt w1 base (V' i).p (V' i).lv (V' i).ov (V' i).tv os c' ∧ (∀ x ∈ os, EAt w1 (KF q V' l) x) ∧ (V' i).ov = .slice a c'.out.length cap ∧ ∀ j, (V' j).p = (V j).p := by
  obtain ⟨lv', ov', tv', os, rfl, hC, hM, hF⟩ := hO
  obtain ⟨a, cap, hv, -, -⟩ := hC.out.sli EM
  have hl : os.length = c'.out.length := (os_len hC).trans rfl
  rw [hl] at hv
  subst hv
  have hC2 : CAt w1 base (V i).p lv' (.slice a c'.out.length cap) tv' os c' :=
    { blk := hC.blk, bp := hC.bp, log := hC.log, ghl := by rw [hgh]; exact Nat.zero_le _, out := hC.out, dst := hC.dst, eq := hC.eq, ents := fun x hx => ⟨(hC.ents x hx).1, fun b off e => ⟨((hC.ents x hx).2 b off e).1, fun hs => ((hC.ents x hx).2 b off e).2 (hs.elim .inl (fun hk => by rw [hgh] at hk; exact absurd hk (Nat.not_lt_zero _)))⟩⟩ }
  obtain ⟨t1, t2, t3⟩ := h.turn hi hC2.toCL hM hF
  refine ⟨upd V i ⟨(V i).p, lv', .slice a c'.out.length cap, tv'⟩, a, cap, os, rfl, t1, t2, t3, by rw [upd_at]; exact hC2, fun x hx => ⟨(hC.ents x hx).1, fun b off e => ⟨((hC.ents x hx).2 b off e).1, fun hk => ?_⟩⟩, by rw [upd_at], fun j => by by_cases hji : j = i; (subst hji; rw [upd_at]); (rw [upd_ne _ _ hji])⟩
  have hno := ((hC.ents x hx).2 b off e).2
  have hge : w.heap.size ≤ b := by
    rcases Nat.lt_or_ge b w.heap.size with hlt | hge
    · exact absurd (.inr hlt) hno
    · exact hge
  have hlt := h.lt
  rcases hk with e2 | ⟨j, hj, e2⟩ | e2
  · have := (hlt b (.inl e2)).2; omega
  · by_cases hji : j = i
    · subst hji
      rw [upd_at] at e2
      rcases e2 with e2 | e2
      · exact hno (.inl (.inl e2))
      · exact hno (.inl (.inr (.inl e2)))
    · rw [upd_ne _ _ hji] at e2
      have := (hlt b (.inr (.inl ⟨j, hj, e2⟩))).2; omega
  · have := (hlt b (.inr (.inr e2))).2; omega
def BelS (w w' : World) : Prop := Below w.heap.size w w'
set_option linter.unusedSimpArgs false in
set_option linter.unusedVariables false in
set_option maxHeartbeats 8000000 in
set_option maxRecDepth 100000 in
theorem ktick_any {w : World} {base q : Nat} {V : Nat → VM} {l : LM} {ys : List RY} {k : Clu} (h : KAt w base q V l ys k) (ok : KOk k) (z draw : Int) (hz0 : 0 ≤ z) (hz3 : z < 3) (hdr : I64 draw) :
    Calls Try.prog 49 #[.pointer (some ⟨q, 0, none⟩), .int .i64 z, .int .i64 draw] w (Tup0 (KUpd base q V l (k.tickN z.toNat draw) w)) := by
  have mixed : Try.prog.follows .mixedOrders = true := by kernel_rfl
  obtain ⟨n, rfl⟩ := Int.eq_ofNat_of_zero_le hz0
  rw [Int.toNat_natCast]
  have hn : n < 3 := by omega
  have HH := Lib.hid h
  have HOK := Lib.hid ok
  have HDR := Lib.hid hdr
  have c0 := (h.cells (n := 0) (by omega)).2.1
  have c1 := (h.cells (n := 1) (by omega)).2.1
  have c2 := (h.cells (n := 2) (by omega)).2.1
  obtain ⟨p01, p02⟩ := ok.clk 0 (by omega)
  obtain ⟨p11, p12⟩ := ok.clk 1 (by omega)
  obtain ⟨p21, p22⟩ := ok.clk 2 (by omega)
  obtain ⟨pn1, pn2⟩ := ok.clk n hn
  have hsl : (if k.clk 2 < if k.clk 1 < k.clk 0 then k.clk 1 else k.clk 0 then k.clk 2 else if k.clk 1 < k.clk 0 then k.clk 1 else k.clk 0) = k.slow := by
    unfold Clu.slow
    split <;> split at * <;> omega
  have hs0 : 0 ≤ k.slow ∧ k.slow ≤ 1000000 := by unfold Clu.slow; omega
  obtain ⟨hs1, hs2⟩ := hs0
  have HSL := Lib.hid hsl
  have g2w := (h.cells hn).2.1
  clear hsl h ok hdr hz0
  go_enter Try.func49, Try.ntmps49
  go_wp2
  go_quiet (fail)
  rw [HSL.out]
  clear c0 c1 c2
  have HY := Lib.hid (HH.out.below (below_drewN' w nq))
  have HBY := Lib.hid (below_drewN' w nq)
  generalize w.drewN nq = Y at *
  have g2 := (HY.out.cells hn).2.1
  clear g2w
  generalize hsn : k.slow = sl at *
  have HSN := Lib.hid hsn
  clear hsn
  by_cases hc : sl + 2 < k.clk n + 1
  · have HTN := Lib.hid (show k.tickN n draw = k by unfold Clu.tickN; rw [HSN.out, if_pos hc])
    go_wp2
    go_end0
    exact ⟨rfl, by rw [HTN.out]; exact HH.out.stay HBY.out⟩
  · have HTN := Lib.hid (show k.tickN n draw = ({ k with clk := upd k.clk n (k.clk n + 1), co := upd k.co n ((k.co n).tick (k.clk n + 1) draw) } : Clu).sentN n by unfold Clu.tickN; rw [HSN.out, if_neg hc])
    have hcb : decide (sl + 2 < k.clk n + 1) = false := decide_eq_false hc
    have d2 := keepc' g2 (Below.refl _ Y).drew
    have d2f := (HY.out.below (Below.refl _ Y).drew).cells hn |>.2.2.2 (3 + n)
    have hw : IntKind.i64.wrap (k.clk n + 1) = k.clk n + 1 := by simp [IntKind.wrap, IntKind.signed, IntKind.bits]; omega
    clear hc
    go_upto_region 2 with fail
    refine wp_region_noPanic ?_
    refine wp_region_lim (BelS Y) (fun i => decide (i < 10)) (fun i => false) (by kernel_rfl) (by kernel_rfl) (Below.refl _ Y).drew (fun HT hS0 => ?_)
    refine tkD HT 0 33 (v := ?_) ?_ ?_
    rotate_left
    · (intro w5 hSw; go_simp; (try with_reducible rfl))
    try simp only [s1, s2, s3]
    refine tkD HT 1 34 (v := ?_) ?_ ?_
    rotate_left
    · (intro w5 hSw; go_simp; (try with_reducible rfl))
    try simp only [s1, s2, s3]
    refine tkD HT 2 35 (v := ?_) ?_ ?_
    rotate_left
    · (intro w5 hSw; go_simp; (try with_reducible rfl))
    try simp only [s1, s2, s3]
    refine tkD HT 3 36 (v := ?_) ?_ ?_
    rotate_left
    · (intro w5 hSw; go_simp; (try with_reducible rfl))
    try simp only [s1, s2, s3]
    refine tkD HT 4 37 (v := ?_) ?_ ?_
    rotate_left
    · (intro w5 hSw; go_simp; (try with_reducible rfl))
    try simp only [s1, s2, s3]
    refine tkD HT 5 38 (v := ?_) ?_ ?_
    rotate_left
    · (intro w5 hSw; have q2 := keepc' g2 (show Below Y.heap.size Y w5 from hSw); go_simp; (try with_reducible rfl))
    try simp only [s1, s2, s3]
    refine tkD HT 6 39 (v := ?_) ?_ ?_
    rotate_left
    · (intro w5 hSw; go_simp; (try with_reducible rfl))
    try simp only [s1, s2, s3]
    refine tkD HT 7 40 (v := ?_) ?_ ?_
    rotate_left
    · (intro w5 hSw; go_simp; (try with_reducible rfl))
    try simp only [s1, s2, s3]
    refine tkD HT 8 41 (v := ?_) ?_ ?_
    rotate_left
    · (intro w5 hSw; go_simp; (try with_reducible rfl))
    try simp only [s1, s2, s3]
    refine tkD HT 9 42 (v := ?_) ?_ ?_
    rotate_left
    · (intro w5 hSw; go_simp; (try with_reducible rfl))
    try simp only [s1, s2, s3]
    refine tkL 10 (fun K5 hK => ?_)
    go_simp
    refine hK.out _ _ ?_
    clear hK K5
    try simp only [Act.put, s1, s2, s3]
    refine wpAnyM_done (by kernel_rfl) (NoPanic.normal ?_)
    have HZ := Lib.hid ((HY.out.clk hn (k.clk n + 1)).1.below (Below.refl _ (Y.setCell ⟨q, 3 + n, none⟩ (.int .i64 (k.clk n + 1)))).drew)
    have HMZ := Lib.hid ((Mod.bel HBY.out).trans ((HY.out.clk hn (k.clk n + 1)).2.trans (Mod.bel (Below.refl _ (Y.setCell ⟨q, 3 + n, none⟩ (.int .i64 (k.clk n + 1)))).drew)) : Mod (KF q V l) w (World.drew (Y.setCell ⟨q, 3 + n, none⟩ (.int .i64 (k.clk n + 1)))))
    clear g2 d2 d2f hw hS0
    go_upto_region 3 with fail
    generalize World.drew (Y.setCell ⟨q, 3 + n, none⟩ (.int .i64 (k.clk n + 1))) = Z at *
    have g1 := (HZ.out.cells hn).1
    unfold ptr at g1
    have g2 := (HZ.out.cells hn).2.1
    rw [show ({ k with clk := upd k.clk n (k.clk n + 1) } : Clu).clk n = k.clk n + 1 from upd_at _ _ _] at g2
    have HTK := Lib.hid (fun W (hb : Below Z.heap.size Z W) => tick_any (k.clk n + 1) draw (i64c (by omega) (by have := pn2; omega)) HDR.out ((HZ.out.below hb).co n hn).wg (ok_wg (HOK.out.ok n hn) W.heap.size))
    have HEV := Lib.hid (And.intro (eve_tick (k.co n) (k.clk n + 1) draw) (tick_few3 (k.co n) (k.clk n + 1) draw))
    have HGD : Hid (((k.co n).tick (k.clk n + 1) draw).gh = 0) := (gh_tick _ _ _).trans (HOK.out.gh n hn)
    have HTS := Lib.hid (fun W w8 {e : Ending} (hb : Below Z.heap.size Z W) (hO : OutP base (V n).p (V n).lv (((k.co n).wg W.heap.size).tick (k.clk n + 1) draw) W e w8) => turn_sent (HZ.out.below hb) hn HGD.out (Co.wg_tick (k.co n) W.heap.size (k.clk n + 1) draw ▸ hO))
    generalize (k.co n).tick (k.clk n + 1) draw = d at *
    refine wp_region_noPanic ?_
    refine wp_region_lim (BelS Z) (fun i => decide (2 ≤ i) && decide (i < 15)) (fun i => decide (i < 2)) (by kernel_rfl) (by kernel_rfl) (Below.refl _ Z).drew (fun HT hS0 => ?_)
    refine tkF 0 43 (v := ?_) ?_ ?_
    rotate_left
    · (intro w5 hSw; go_simp; (try with_reducible rfl))
    try simp only [s1, s2, s3]
    refine tkF 1 44 (v := ?_) ?_ ?_
    rotate_left
    · (intro w5 hSw; go_simp; (try with_reducible rfl))
    try simp only [s1, s2, s3]
    refine tkD HT 2 45 (v := ?_) ?_ ?_
    rotate_left
    · (intro w5 hSw; go_simp; (try with_reducible rfl))
    try simp only [s1, s2, s3]
    refine tkD HT 3 46 (v := ?_) ?_ ?_
    rotate_left
    · (intro w5 hSw; go_simp; (try with_reducible rfl))
    try simp only [s1, s2, s3]
    refine tkD HT 4 47 (v := ?_) ?_ ?_
    rotate_left
    · (intro w5 hSw; go_simp; (try with_reducible rfl))
    try simp only [s1, s2, s3]
    refine tkD HT 5 48 (v := ?_) ?_ ?_
    rotate_left
    · (intro w5 hSw; go_simp; (try with_reducible rfl))
    try simp only [s1, s2, s3]
    refine tkD HT 6 49 (v := ?_) ?_ ?_
    rotate_left
    · (intro w5 hSw; go_simp; (try with_reducible rfl))
    try simp only [s1, s2, s3]
    refine tkD HT 7 50 (v := ?_) ?_ ?_
    rotate_left
    · (intro w5 hSw; have q1 := keepc' g1 (show Below Z.heap.size Z w5 from hSw); go_simp; (try with_reducible rfl))
    try simp only [s1, s2, s3]
    refine tkD HT 8 51 (v := ?_) ?_ ?_
    rotate_left
    · (intro w5 hSw; go_simp; (try with_reducible rfl))
    try simp only [s1, s2, s3]
    refine tkD HT 9 52 (v := ?_) ?_ ?_
    rotate_left
    · (intro w5 hSw; go_simp; (try with_reducible rfl))
    try simp only [s1, s2, s3]
    refine tkD HT 10 53 (v := ?_) ?_ ?_
    rotate_left
    · (intro w5 hSw; go_simp; (try with_reducible rfl))
    try simp only [s1, s2, s3]
    refine tkD HT 11 54 (v := ?_) ?_ ?_
    rotate_left
    · (intro w5 hSw; go_simp; (try with_reducible rfl))
    try simp only [s1, s2, s3]
    refine tkD HT 12 55 (v := ?_) ?_ ?_
    rotate_left
    · (intro w5 hSw; go_simp; (try with_reducible rfl))
    try simp only [s1, s2, s3]
    refine tkD HT 13 56 (v := ?_) ?_ ?_
    rotate_left
    · (intro w5 hSw; have q2 := keepc' g2 (show Below Z.heap.size Z w5 from hSw); go_simp; (try with_reducible rfl))
    try simp only [s1, s2, s3]
    refine tkD HT 14 57 (v := ?_) ?_ ?_
    rotate_left
    · (intro w5 hSw; go_simp; (try with_reducible rfl))
    try simp only [s1, s2, s3]
    refine tkL 15 (fun K5 hK => ?_)
    go_simp
    go_at_call 11
    refine (HTK.out _ (Below.refl _ Z).drew).mono ?_
    intro e w8 hO
    obtain ⟨V', a, cap, os, rfl, t1, t2, t3, t4, t5, t6, -⟩ := HTS.out _ _ (Below.refl _ Z).drew hO
    have S1 := Lib.hid t1
    have S2 := Lib.hid t2
    have S3 := Lib.hid t3
    have S4 := Lib.hid t4
    have S5 := Lib.hid t5
    have S6 := Lib.hid t6
    clear t1 t2 t3 t4 t5 t6 hO
    dsimp only
    refine hK.out _ _ ?_
    clear hK K5
    try simp only [Act.put, s1, s2, s3]
    refine tkL 16 (fun K5 hK => ?_)
    go_simp
    go_at_call 69
    refine (sent_of S1.out n hn (upd_at _ _ _) S4.out S5.out HEV.out.1 a d.out.length cap rfl (by have := HEV.out.2; omega) S6.out HOK.out.net).mono ?_
    rintro e w9 ⟨rfl, hU⟩
    have HU := Lib.hid hU
    clear hU
    dsimp only
    refine hK.out _ _ ?_
    clear hK K5
    try simp only [Act.put, s1, s2, s3]
    refine wpAnyM_done (by kernel_rfl) (NoPanic.normal ?_)
    go_wp2
    go_end0
    exact ⟨rfl, by rw [HTN.out]; exact KUpd.then HMZ.out (fun b hb => .inl hb) (KUpd.then (Mod.bel (Below.refl _ Z).drew) (fun b hb => .inl hb) (KUpd.then S2.out S3.out HU.out))⟩
end Go.Proofs.Ytcleaamjfjnkkaa
