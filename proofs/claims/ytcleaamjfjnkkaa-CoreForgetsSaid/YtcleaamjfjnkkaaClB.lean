/- ClB: small texts laid together. -/
import Derived.Test.YtcleaamjfjnkkaaCl5
/- What stays sound of three voters, whatever is chosen. -/
namespace Go.Proofs.Ytcleaamjfjnkkaa
open Go.RowKit Go.Joins

structure CInv (T : Int) (k : Clu) : Prop where
  ok : ∀ i, i < 3 → Ok (k.co i)
  gh : ∀ i, i < 3 → (k.co i).gh = 0
  sou : ∀ i, i < 3 → Sou (k.co i)
  me : ∀ i, i < 3 → (k.co i).me = (i : Int)
  clk : ∀ i, i < 3 → 0 ≤ k.clk i ∧ k.clk i ≤ T
  net : k.net.length ≤ 200
  msg : ∀ f ∈ k.net, MOk f.m ∧ 0 ≤ f.dst ∧ f.dst < 3
theorem CInv.ms {T : Int} {k : Clu} (h : CInv T k) (hT : T ≤ 1000000) : KMs k :=
  { ok := h.ok, gh := h.gh, clk := fun i hi => ⟨(h.clk i hi).1, Int.le_trans (h.clk i hi).2 hT⟩, net := h.net, msg := h.msg }
theorem CInv.up {T T' : Int} {k : Clu} (h : CInv T k) (hT : T ≤ T') : CInv T' k :=
  ⟨h.ok, h.gh, h.sou, h.me, fun i hi => ⟨(h.clk i hi).1, Int.le_trans (h.clk i hi).2 hT⟩, h.net, h.msg⟩
theorem flies_mem {s : Int} {f : Fly} : ∀ (ds : List Int) (ms : List Mg), f ∈ flies s ds ms → f.dst ∈ ds ∧ f.m ∈ ms
  | [], _, h => by simp [flies] at h
  | _ :: _, [], h => by simp [flies] at h
  | d :: ds, m :: ms, h => by
    simp only [flies] at h
    rcases List.mem_cons.1 h with rfl | h
    · exact ⟨List.mem_cons_self, List.mem_cons_self⟩
    · have := flies_mem ds ms h
      exact ⟨List.mem_cons_of_mem _ this.1, List.mem_cons_of_mem _ this.2⟩
/-- a voter is another one. -/
theorem CInv.put {T : Int} {k : Clu} (h : CInv T k) {i : Nat} {c : Co} (h1 : Ok c) (h2 : c.gh = 0) (h3 : Sou c) (h4 : c.me = (i : Int)) : CInv T { k with co := upd k.co i c } := by
  refine ⟨fun j hj => ?_, fun j hj => ?_, fun j hj => ?_, fun j hj => ?_, h.clk, h.net, h.msg⟩
  all_goals
    show _
    by_cases hji : j = i
    · subst hji; simp only [upd_at]; assumption
    · simp only [upd_ne _ _ hji]
      first | exact h.ok j hj | exact h.gh j hj | exact h.sou j hj | exact h.me j hj
theorem CInv.sent {T : Int} {k : Clu} (h : CInv T k) {i : Nat} (h1 : ∀ m ∈ (k.co i).out, MOk m) (h2 : Eve (k.co i)) : CInv T (k.sentN i) := by
  refine ⟨h.ok, h.gh, h.sou, h.me, h.clk, ?_, fun f hf => ?_⟩
  · show (k.net ++ _).length ≤ 200
    rw [List.length_append, List.length_take]
    have := h.net
    omega
  · rcases List.mem_append.1 hf with hf | hf
    · exact h.msg f hf
    · have := flies_mem _ _ (List.mem_of_mem_take hf)
      exact ⟨h1 _ this.2, h2.2 _ this.1⟩
theorem CInv.tick {T : Int} {k : Clu} (h : CInv T k) (hT : T ≤ 900000) {i : Nat} (hi : i < 3) (draw : Int) : CInv (T + 1) (k.tickN i draw) := by
  unfold Clu.tickN
  split
  · exact h.up (by omega)
  · have hc := h.clk i hi
    have hg := Goo.tick (h.ok i hi) (clock := k.clk i + 1) (i64c (by omega) (by omega)) draw
    have h0 : CInv (T + 1) { k with clk := upd k.clk i (k.clk i + 1) } := by
      refine ⟨h.ok, h.gh, h.sou, h.me, fun j hj => ?_, h.net, h.msg⟩
      show 0 ≤ upd k.clk i (k.clk i + 1) j ∧ upd k.clk i (k.clk i + 1) j ≤ T + 1
      by_cases hji : j = i
      · subst hji; rw [upd_at]; omega
      · rw [upd_ne _ _ hji]; have := h.clk j hj; omega
    refine CInv.sent (h0.put (i := i) hg.ok ((gh_tick _ _ _).trans (h.gh i hi)) (Sou.tick (h.sou i hi) (h.ok i hi).term.1 _ _) ((me_tick _ _ _).trans (h.me i hi))) ?_ ?_
    · show ∀ m ∈ (upd k.co i _ i).out, MOk m
      rw [upd_at]; exact hg.out
    · show Eve (upd k.co i _ i)
      rw [upd_at]; exact eve_tick _ _ _
theorem CInv.net' {T : Int} {k : Clu} (h : CInv T k) {l : List Fly} (h1 : l.length ≤ 200) (h2 : ∀ f ∈ l, f ∈ k.net) : CInv T { k with net := l } :=
  ⟨h.ok, h.gh, h.sou, h.me, h.clk, h1, fun f hf => h.msg f (h2 f hf)⟩
theorem CInv.del {T : Int} {k : Clu} (h : CInv T k) (hT : T ≤ 900000) {i : Nat} (hi : i < k.net.length) (draw : Int) : CInv T (k.delN i draw) := by
  have hm := h.msg (k.net.getD i default) (by simp [List.getD_eq_getElem?_getD, hi])
  unfold Clu.delN
  generalize k.net.getD i default = f at *
  have hj : f.dst.toNat < 3 := by omega
  have hc := h.clk f.dst.toNat hj
  have hg := Goo.handle (h.ok f.dst.toNat hj) (f := f.src) hm.1 (clock := k.clk f.dst.toNat) (i64c (by omega) (by omega)) draw
  have h0 := h.net' (l := k.net.eraseIdx i) (Nat.le_trans (List.length_eraseIdx_le _ _) h.net) (fun f hf => List.mem_of_mem_eraseIdx hf)
  refine CInv.sent (h0.put (i := f.dst.toNat) hg.ok ((gh_handle _ _ _ _ _).trans (h.gh _ hj)) (Sou.handle (h.sou _ hj) _ _ _ _) ((me_handle _ _ _ _ _).trans (h.me _ hj))) ?_ ?_
  · show ∀ m ∈ (upd k.co f.dst.toNat _ f.dst.toNat).out, MOk m
    rw [upd_at]; exact hg.out
  · show Eve (upd k.co f.dst.toNat _ f.dst.toNat)
    rw [upd_at]; exact eve_handle _ _ _ _ _
theorem CInv.three {T : Int} {k : Clu} (h : CInv T k) {i : Nat} (hi : i < 3) (b : Int) : ∀ n : Nat, T + 3 * n ≤ 900000 → CInv (T + 3 * n) (k.three i b n)
  | 0, _ => by simpa [Clu.three] using h
  | n + 1, hT => by
    have ih := CInv.three h hi b n (by omega)
    unfold Clu.three
    have h1 := ih.tick (by omega) hi b
    have h2 := h1.tick (by omega) (i := (i + 1) % 3) (by omega) (b / 2)
    have h3 := h2.tick (by omega) (i := (i + 2) % 3) (by omega) (b / 4)
    exact h3.up (by omega)
theorem CInv.anew {T : Int} {k : Clu} (h : CInv T k) (hT : T ≤ 900000) {i : Nat} (hi : i < 3) (b : Int) : newOk (i : Int) (k.co i).term (k.co i).voted (k.co i).log = true ∧ CInv T { k with co := upd k.co i (k.anew i b) } := by
  have hn := (h.sou i hi).newOk (h.ok i hi) (me := (i : Int)) (by omega) (by omega)
  have hc := h.clk i hi
  exact ⟨hn, h.put (ok_new hn (h.ok i hi).wf (i64c (by omega) (by omega)) (h.ok i hi).term) rfl (Sou.new _ _ hn) rfl⟩
theorem gh_propose (c : Co) (x : Ent) : (c.propose x).2.gh = c.gh := by unfold Co.propose; split; rfl; split; rfl; split <;> rfl
theorem CInv.propose {T : Int} {k : Clu} (h : CInv T k) {i : Nat} (hi : i < 3) {x : Ent} (hx : 0 ≤ x.2.2.1 ∧ 0 ≤ x.2.2.2) : CInv T { k with co := upd k.co i ((k.co i).propose x).2 } :=
  h.put (ok_propose (h.ok i hi) hx) ((gh_propose _ _).trans (h.gh i hi)) (Sou.propose (h.sou i hi) x) ((me_propose _ _).trans (h.me i hi))
theorem CInv.step {T : Int} {k : Clu} (h : CInv T k) (hT : T ≤ 800000) {a b : Int} (_ha : 0 ≤ a ∧ a ≤ 255) (hb : 0 ≤ b ∧ b ≤ 255) : CInv (T + 12) (k.stepN a b) := by
  unfold Clu.stepN
  simp only
  have hi : (b % 3).toNat < 3 := by omega
  have hk : 0 < k.net.length → (b % (k.net.length : Int)).toNat < k.net.length := fun h0 => by
    have h1 := Int.emod_nonneg b (show (k.net.length : Int) ≠ 0 by omega)
    have h2 := Int.emod_lt_of_pos b (show (0 : Int) < (k.net.length : Int) by omega)
    omega
  split
  · have := h.three hi b ((a / 16) % 4 + 1).toNat (by omega)
    exact this.up (by omega)
  split
  · exact (h.tick (by omega) hi b).up (by omega)
  split
  · split
    · rename_i h0
      exact (h.net' (Nat.le_trans (List.length_eraseIdx_le _ _) h.net) (fun f hf => List.mem_of_mem_eraseIdx hf)).up (by omega)
    · exact h.up (by omega)
  split
  · split
    · rename_i h0
      rw [if_pos h0.1]
      refine (h.net' (l := k.net ++ [k.net.getD (b % (k.net.length : Int)).toNat default]) (by simp; omega) (fun f hf => ?_)).up (by omega)
      rcases List.mem_append.1 hf with hf | hf
      · exact hf
      · obtain rfl := List.mem_singleton.1 hf
        have := hk h0.1
        simp [List.getD_eq_getElem?_getD, this]
    · exact h.up (by omega)
  split
  · exact (h.anew (by omega) hi b).2.up (by omega)
  split
  · exact (h.propose hi (x := (0, 3, (k.co (b % 3).toNat).term, b + 1)) ⟨(h.ok _ hi).term.1, by show 0 ≤ b + 1; omega⟩).up (by omega)
  split
  · rename_i h0
    exact (h.del (by omega) (hk h0) a).up (by omega)
  · exact h.up (by omega)
theorem CInv.run {k : Clu} (h : CInv 0 k) {l : List Int} (hl : ∀ i, 0 ≤ l.getD i 0 ∧ l.getD i 0 ≤ 255) : ∀ n : Nat, n ≤ 10000 → CInv (12 * n) (k.runN l n)
  | 0, _ => by simpa [Clu.runN] using h
  | n + 1, hn => by
    have := (CInv.run h hl n (by omega)).step (by omega) (hl (2 * n)) (hl (2 * n + 1))
    unfold Clu.runN
    exact this.up (by omega)
theorem cinv0 : CInv 0 clu0 := by
  have hc : checkE [] = 0 := by decide
  have hn : ∀ i : Nat, i < 3 → newOk (i : Int) 0 (-1) [] = true := fun i hi => by
    obtain rfl | rfl | rfl : i = 0 ∨ i = 1 ∨ i = 2 := by omega
    all_goals decide
  exact ⟨fun i hi => ok_new (hn i hi) (fun j hj => absurd hj (Nat.not_lt_zero _)) (i64c (by omega) (by omega)) ⟨by omega, by omega⟩, fun i hi => rfl, fun i hi => Sou.new _ _ (hn i hi), fun i hi => rfl, fun i hi => ⟨by show (0 : Int) ≤ 0; omega, by show (0 : Int) ≤ 0; omega⟩, Nat.zero_le _, fun f hf => by cases hf⟩
end Go.Proofs.Ytcleaamjfjnkkaa
/- Propose, of a voter whose messages are left open. -/
namespace Go.Proofs.Ytcleaamjfjnkkaa
open Go.RowKit Go.Joins

/-- what a method did to a voter, beside its messages. -/
def CLU (base p : Nat) (lv ov tv : Value) (c' : Co) (w w' : World) : Prop := ∃ lv', CL w' base p lv' ov tv c' ∧ Mod (CF p lv NIL NIL) w w' ∧ ∀ g, lv'.ownBlock = some g → CF p lv NIL NIL g ∨ w.heap.size ≤ g
def ProL (base p : Nat) (lv ov tv : Value) (r : Int × Co) (w : World) (e : Ending) (w' : World) : Prop := e = .returned (.int .i64 r.1) ∧ CLU base p lv ov tv r.2 w w'
theorem CL.stayL {w w' : World} {base p : Nat} {lv ov tv : Value} {c : Co} (h : CL w base p lv ov tv c) (hb : Below w.heap.size w w') : CLU base p lv ov tv c w w' := ⟨lv, h.below hb, Mod.bel hb, fun _ hk => .inl (.inr (.inl hk))⟩
theorem CLU.below {w0 w w' : World} {base p : Nat} {lv ov tv : Value} {c : Co} (hb : Below w0.heap.size w0 w) (h : CLU base p lv ov tv c w w') : CLU base p lv ov tv c w0 w' := by
  obtain ⟨lv', h1, h2, h3⟩ := h
  exact ⟨lv', h1, (Mod.bel hb).trans h2, fun g hg => (h3 g hg).imp id (fun e => Nat.le_trans hb.size e)⟩
theorem CL.moreL {w V : World} {base p : Nat} {lv ov tv lv' : Value} {c : Co} {es : List Ent} (h : CL w base p lv ov tv c) (ho : OwnE V base lv' es) (hg : w.grownBy V lv.ownBlock) (hf : ∀ g, lv'.ownBlock = some g → lv.ownBlock = some g ∨ w.heap.size ≤ g) :
    CLU base p lv ov tv { c with log := es } w (V.setCell ⟨p, 3, none⟩ lv') := by
  have hm : Mod (fun k => lv.ownBlock = some k) w V := Mod.grown hg (fun k e => e)
  have hblk := hm.heap h.blk h.not
  have hM : Mod (fun k => k = p) V (V.setCell ⟨p, 3, none⟩ lv') := Mod.cellOf p 3 lv'
  have hn : lv'.ownBlock ≠ some p := ownR_not ho hblk (fun cs e => by simp at e)
  have hmod : Mod (CF p lv NIL NIL) w (V.setCell ⟨p, 3, none⟩ lv') := (hm.mono (fun _ _ e => .inr (.inl e))).then hM (fun i _ e => .inl e)
  refine ⟨lv', ⟨?_, h.bp, hM.own ho (fun g hg e => hn (e ▸ hg)), Nat.le_trans h.ghl hmod.size⟩, hmod, fun g hg => (hf g hg).imp (fun e => .inr (.inl e)) id⟩
  rw [setCell_blk hblk]; rfl
set_option linter.unusedSimpArgs false in
set_option linter.unusedVariables false in
set_option maxHeartbeats 8000000 in
set_option maxRecDepth 100000 in
theorem proposeL_not {w : World} {base p : Nat} {lv ov tv : Value} {c : Co} (x : Ent) (h : CL w base p lv ov tv c) (ok : Ok c) (hx : 0 ≤ x.2.2.1 ∧ 0 ≤ x.2.2.2) (hr : c.role ≠ 2) :
    Calls Try.prog 25 #[.pointer (some ⟨p, 0, none⟩), .agg #[.int .u64 x.1, .int .i64 x.2.1, .int .u64 x.2.2.1, .int .u64 x.2.2.2]] w (ProL base p lv ov tv (c.propose x) w) := by
  have mixed : Try.prog.follows .mixedOrders = true := by kernel_rfl
  have HW := Lib.hid (bel1 w (.cells #[.int .u64 x.1, .int .i64 x.2.1, .int .u64 x.2.2.1, .int .u64 x.2.2.2] 30))
  have C1 := Lib.hid (h.below HW.out)
  have HH := Lib.hid h
  have g1 := fun o => (h.below (bel1 w o)).cells.1.2.1
  have g3 := fun o => (h.below (bel1 w o)).cells.1.2.2.2.1
  have g5 := fun o => (h.below (bel1 w o)).cells.1.2.2.2.2.2.1
  have HNE := Lib.hid (show w.heap.size ≠ p from by have := h.lt.1; omega)
  have HV := Lib.hid (show c.propose x = (13, c) by unfold Co.propose; rw [if_pos hr])
  have hb : (c.role != 2) = true := by simp [hr]
  clear h ok hx hr
  go_enter Try.func25, Try.ntmps25
  go_wp2
  go_ret
  rw [HV.out]
  exact ⟨rfl, HH.out.stayL HW.out⟩
set_option linter.unusedSimpArgs false in
set_option linter.unusedVariables false in
set_option maxHeartbeats 8000000 in
set_option maxRecDepth 100000 in
theorem proposeL_arg {w : World} {base p : Nat} {lv ov tv : Value} {c : Co} (x : Ent) (h : CL w base p lv ov tv c) (ok : Ok c) (hx : 0 ≤ x.2.2.1 ∧ 0 ≤ x.2.2.2) (hr : c.role = 2) (hc : checkE [(c.term, x.2)] ≠ 0) :
    Calls Try.prog 25 #[.pointer (some ⟨p, 0, none⟩), .agg #[.int .u64 x.1, .int .i64 x.2.1, .int .u64 x.2.2.1, .int .u64 x.2.2.2]] w (ProL base p lv ov tv (c.propose x) w) := by
  have mixed : Try.prog.follows .mixedOrders = true := by kernel_rfl
  have HW := Lib.hid (bel1 w (.cells #[.int .u64 x.1, .int .i64 x.2.1, .int .u64 x.2.2.1, .int .u64 x.2.2.2] 30))
  have C1 := Lib.hid (h.below HW.out)
  have HH := Lib.hid h
  have g1 := fun o => (h.below (bel1 w o)).cells.1.2.1
  have g3 := fun o => (h.below (bel1 w o)).cells.1.2.2.2.1
  have g5 := fun o => (h.below (bel1 w o)).cells.1.2.2.2.2.2.1
  have HNE := Lib.hid (show w.heap.size ≠ p from by have := h.lt.1; omega)
  have HV := Lib.hid (show c.propose x = (2, c) by unfold Co.propose; rw [if_neg (by simp [hr]), if_pos hc])
  have hb : (c.role != 2) = false := by simp [hr]
  obtain ⟨la, lc, hv, hsl, -⟩ := own_sl h.log
  subst hv
  have HCK := Lib.hid (fun W (hE : Ents W (some ⟨w.heap.size + 1, 0, none⟩) [(c.term, x.2)]) => check_any (some ⟨w.heap.size + 1, 0, none⟩) 1 [(c.term, x.2)] W hE (by unfold maxLen; simp) (pro_wf ok hx))
  have HLE := Lib.hid (show Ents ((w.alloc (.cells #[.int .u64 c.term, .int .i64 x.2.1, .int .u64 x.2.2.1, .int .u64 x.2.2.2] 30)).alloc (.cells #[.int .u64 c.term, .int .i64 x.2.1, .int .u64 x.2.2.1, .int .u64 x.2.2.2] 30)) (some ⟨w.heap.size + 1, 0, none⟩) [(c.term, x.2)] by have h5 := lit_ents (w.alloc (.cells #[.int .u64 c.term, .int .i64 x.2.1, .int .u64 x.2.2.1, .int .u64 x.2.2.2] 30)) (c.term, x.2); simpa using h5)
  have HZ := Lib.hid (show (w.alloc (.cells #[.int .u64 c.term, .int .i64 x.2.1, .int .u64 x.2.2.1, .int .u64 x.2.2.2] 30)).heap.size = w.heap.size + 1 by simp)
  have HBB := Lib.hid (show Below w.heap.size w ((w.alloc (.cells #[.int .u64 c.term, .int .i64 x.2.1, .int .u64 x.2.2.1, .int .u64 x.2.2.2] 30)).alloc (.cells #[.int .u64 c.term, .int .i64 x.2.1, .int .u64 x.2.2.1, .int .u64 x.2.2.2] 30)) from (bel1 w _).trans ((bel1 _ _).mono (by simp)))
  obtain ⟨ck, hck⟩ : ∃ ck, ck = checkE [(c.term, x.2)] := ⟨_, rfl⟩
  rw [← hck] at HCK hc
  have hcb : (ck != 0) = true := by simp [hc]
  clear hck hc
  rw [hr] at g5
  clear h ok hx hr hsl
  go_enter Try.func25, Try.ntmps25
  go_wp2_with (go_at_call 9; refine (HCK.out _ HLE.out).mono ?_; rintro e w5 ⟨rfl, hb5⟩; have HB5 := Lib.hid hb5; clear hb5)
  go_ret
  rw [HV.out]
  exact ⟨rfl, HH.out.stayL (HBB.out.trans (HB5.out.mono HBB.out.size))⟩
set_option linter.unusedSimpArgs false in
set_option linter.unusedVariables false in
set_option maxHeartbeats 8000000 in
set_option maxRecDepth 100000 in
theorem proposeL_long {w : World} {base p : Nat} {lv ov tv : Value} {c : Co} (x : Ent) (h : CL w base p lv ov tv c) (ok : Ok c) (hx : 0 ≤ x.2.2.1 ∧ 0 ≤ x.2.2.2) (hr : c.role = 2) (hc : checkE [(c.term, x.2)] = 0) (hl : 300 ≤ c.log.length) :
    Calls Try.prog 25 #[.pointer (some ⟨p, 0, none⟩), .agg #[.int .u64 x.1, .int .i64 x.2.1, .int .u64 x.2.2.1, .int .u64 x.2.2.2]] w (ProL base p lv ov tv (c.propose x) w) := by
  have mixed : Try.prog.follows .mixedOrders = true := by kernel_rfl
  have HW := Lib.hid (bel1 w (.cells #[.int .u64 x.1, .int .i64 x.2.1, .int .u64 x.2.2.1, .int .u64 x.2.2.2] 30))
  have C1 := Lib.hid (h.below HW.out)
  have HH := Lib.hid h
  have g1 := fun o => (h.below (bel1 w o)).cells.1.2.1
  have g3 := fun o => (h.below (bel1 w o)).cells.1.2.2.2.1
  have g5 := fun o => (h.below (bel1 w o)).cells.1.2.2.2.2.2.1
  have HNE := Lib.hid (show w.heap.size ≠ p from by have := h.lt.1; omega)
  have HV := Lib.hid (show c.propose x = (3, c) by unfold Co.propose; rw [if_neg (by simp [hr]), if_neg (by simp [hc]), if_pos hl])
  have hb : (c.role != 2) = false := by simp [hr]
  obtain ⟨la, lc, hv, hsl, -⟩ := own_sl h.log
  subst hv
  have HCK := Lib.hid (fun W (hE : Ents W (some ⟨w.heap.size + 1, 0, none⟩) [(c.term, x.2)]) => check_any (some ⟨w.heap.size + 1, 0, none⟩) 1 [(c.term, x.2)] W hE (by unfold maxLen; simp) (pro_wf ok hx))
  have HLE := Lib.hid (show Ents ((w.alloc (.cells #[.int .u64 c.term, .int .i64 x.2.1, .int .u64 x.2.2.1, .int .u64 x.2.2.2] 30)).alloc (.cells #[.int .u64 c.term, .int .i64 x.2.1, .int .u64 x.2.2.1, .int .u64 x.2.2.2] 30)) (some ⟨w.heap.size + 1, 0, none⟩) [(c.term, x.2)] by have h5 := lit_ents (w.alloc (.cells #[.int .u64 c.term, .int .i64 x.2.1, .int .u64 x.2.2.1, .int .u64 x.2.2.2] 30)) (c.term, x.2); simpa using h5)
  have HZ := Lib.hid (show (w.alloc (.cells #[.int .u64 c.term, .int .i64 x.2.1, .int .u64 x.2.2.1, .int .u64 x.2.2.2] 30)).heap.size = w.heap.size + 1 by simp)
  have HBB := Lib.hid (show Below w.heap.size w ((w.alloc (.cells #[.int .u64 c.term, .int .i64 x.2.1, .int .u64 x.2.2.1, .int .u64 x.2.2.2] 30)).alloc (.cells #[.int .u64 c.term, .int .i64 x.2.1, .int .u64 x.2.2.1, .int .u64 x.2.2.2] 30)) from (bel1 w _).trans ((bel1 _ _).mono (by simp)))
  rw [hc] at HCK
  rw [hr] at g5
  have hli : 300 ≤ (c.log.length : Int) := by omega
  have HG3 := Lib.hid (C1.out.cells.1.2.2.2.1)
  clear h ok hx hr hsl hl hc
  go_enter Try.func25, Try.ntmps25
  go_wp2_with (go_at_call 9; refine (HCK.out _ HLE.out).mono ?_; rintro e w5 ⟨rfl, hb5⟩; have HB5 := Lib.hid hb5; have g3b := keepc' (keepc' (g3 (.cells #[.int .u64 c.term, .int .i64 x.2.1, .int .u64 x.2.2.1, .int .u64 x.2.2.2] 30)) (bel1 _ (.cells #[.int .u64 c.term, .int .i64 x.2.1, .int .u64 x.2.2.1, .int .u64 x.2.2.2] 30))) HB5.out; clear hb5)
  go_ret
  rw [HV.out]
  exact ⟨rfl, HH.out.stayL (HBB.out.trans (HB5.out.mono HBB.out.size))⟩
set_option linter.unusedSimpArgs false in
set_option linter.unusedVariables false in
set_option maxHeartbeats 8000000 in
set_option maxRecDepth 100000 in
theorem proposeL_ok {w : World} {base p : Nat} {lv ov tv : Value} {c : Co} (x : Ent) (h : CL w base p lv ov tv c) (ok : Ok c) (hx : 0 ≤ x.2.2.1 ∧ 0 ≤ x.2.2.2) (hr : c.role = 2) (hc : checkE [(c.term, x.2)] = 0) (hl : c.log.length < 300) :
    Calls Try.prog 25 #[.pointer (some ⟨p, 0, none⟩), .agg #[.int .u64 x.1, .int .i64 x.2.1, .int .u64 x.2.2.1, .int .u64 x.2.2.2]] w (ProL base p lv ov tv (c.propose x) w) := by
  have mixed : Try.prog.follows .mixedOrders = true := by kernel_rfl
  have HW := Lib.hid (bel1 w (.cells #[.int .u64 x.1, .int .i64 x.2.1, .int .u64 x.2.2.1, .int .u64 x.2.2.2] 30))
  have C1 := Lib.hid (h.below HW.out)
  have HH := Lib.hid h
  have g1 := fun o => (h.below (bel1 w o)).cells.1.2.1
  have g3 := fun o => (h.below (bel1 w o)).cells.1.2.2.2.1
  have g5 := fun o => (h.below (bel1 w o)).cells.1.2.2.2.2.2.1
  have HNE := Lib.hid (show w.heap.size ≠ p from by have := h.lt.1; omega)
  have HV := Lib.hid (show c.propose x = (0, { c with log := c.log ++ [(c.term, x.2)] }) by unfold Co.propose; rw [if_neg (by simp [hr]), if_neg (by simp [hc]), if_neg (by omega)])
  have hb : (c.role != 2) = false := by simp [hr]
  obtain ⟨la, lc, hv, hsl, -⟩ := own_sl h.log
  subst hv
  have HCK := Lib.hid (fun W (hE : Ents W (some ⟨w.heap.size + 1, 0, none⟩) [(c.term, x.2)]) => check_any (some ⟨w.heap.size + 1, 0, none⟩) 1 [(c.term, x.2)] W hE (by unfold maxLen; simp) (pro_wf ok hx))
  have HLE := Lib.hid (show Ents ((w.alloc (.cells #[.int .u64 c.term, .int .i64 x.2.1, .int .u64 x.2.2.1, .int .u64 x.2.2.2] 30)).alloc (.cells #[.int .u64 c.term, .int .i64 x.2.1, .int .u64 x.2.2.1, .int .u64 x.2.2.2] 30)) (some ⟨w.heap.size + 1, 0, none⟩) [(c.term, x.2)] by have h5 := lit_ents (w.alloc (.cells #[.int .u64 c.term, .int .i64 x.2.1, .int .u64 x.2.2.1, .int .u64 x.2.2.2] 30)) (c.term, x.2); simpa using h5)
  have HZ := Lib.hid (show (w.alloc (.cells #[.int .u64 c.term, .int .i64 x.2.1, .int .u64 x.2.2.1, .int .u64 x.2.2.2] 30)).heap.size = w.heap.size + 1 by simp)
  have HBB := Lib.hid (show Below w.heap.size w ((w.alloc (.cells #[.int .u64 c.term, .int .i64 x.2.1, .int .u64 x.2.2.1, .int .u64 x.2.2.2] 30)).alloc (.cells #[.int .u64 c.term, .int .i64 x.2.1, .int .u64 x.2.2.1, .int .u64 x.2.2.2] 30)) from (bel1 w _).trans ((bel1 _ _).mono (by simp)))
  rw [hc] at HCK
  rw [hr] at g5
  have hli : (c.log.length : Int) < 300 := by omega
  have HG3 := Lib.hid (C1.out.cells.1.2.2.2.1)
  have HNL := Lib.hid (show (Value.slice la c.log.length lc).ownBlock ≠ some w.heap.size from fun e => by have := (h.lt.2 _ e).2; omega)
  clear h ok hx hr hsl hc
  go_enter Try.func25, Try.ntmps25
  go_upto_region 10 with (go_at_call 9; refine (HCK.out _ HLE.out).mono ?_; rintro e w5 ⟨rfl, hb5⟩; have HB5 := Lib.hid hb5; have g3b := keepc' (keepc' (g3 (.cells #[.int .u64 c.term, .int .i64 x.2.1, .int .u64 x.2.2.1, .int .u64 x.2.2.2] 30)) (bel1 _ (.cells #[.int .u64 c.term, .int .i64 x.2.1, .int .u64 x.2.2.1, .int .u64 x.2.2.2] 30))) HB5.out; have hbx := blk_below (blk_below (heap_alloc_new w (.cells #[.int .u64 c.term, .int .i64 x.2.1, .int .u64 x.2.2.1, .int .u64 x.2.2.2] 30)) (bel1 _ (.cells #[.int .u64 c.term, .int .i64 x.2.1, .int .u64 x.2.2.1, .int .u64 x.2.2.2] 30))) HB5.out; have HBX := Lib.hid hbx; clear hb5 hbx)
  have C5 := Lib.hid (HH.out.below (HBB.out.trans (HB5.out.mono HBB.out.size)))
  have HS0 := Lib.hid (show ProS p w.heap.size (.slice la c.log.length lc) (c.term, x.2) w5 from ⟨g3b, (cell_of HBX.out 0 rfl).1, (cell_of HBX.out 1 rfl).1, (cell_of HBX.out 2 rfl).1, (cell_of HBX.out 3 rfl).1⟩)
  clear g3b
  obtain ⟨Y, hY⟩ : ∃ Y, Y = w5 := ⟨_, rfl⟩
  subst hY
  refine wp_region_noPanic ?_
  refine wp_region_lim (ProS p w.heap.size (.slice la c.log.length lc) (c.term, x.2)) (fun i => decide (i < 12)) (fun i => false) (by kernel_rfl) (by kernel_rfl) (proS_bel HS0.out (Below.refl _ _).drew) (fun HT hS0 => ?_)
  refine tkD HT 0 29 (v := ?_) ?_ ?_
  rotate_left
  · (intro w5 hSw; obtain ⟨q1, q2, q3, q4, q5⟩ := hSw; go_simp; (try with_reducible rfl))
  try simp only [s1, s2, s3]
  refine tkD HT 1 30 (v := ?_) ?_ ?_
  rotate_left
  · (intro w5 hSw; obtain ⟨q1, q2, q3, q4, q5⟩ := hSw; go_simp; (try with_reducible rfl))
  try simp only [s1, s2, s3]
  refine tkD HT 2 31 (v := ?_) ?_ ?_
  rotate_left
  · (intro w5 hSw; obtain ⟨q1, q2, q3, q4, q5⟩ := hSw; go_simp; (try with_reducible rfl))
  try simp only [s1, s2, s3]
  refine tkD HT 3 32 (v := ?_) ?_ ?_
  rotate_left
  · (intro w5 hSw; obtain ⟨q1, q2, q3, q4, q5⟩ := hSw; go_simp; (try with_reducible rfl))
  try simp only [s1, s2, s3]
  refine tkD HT 4 33 (v := ?_) ?_ ?_
  rotate_left
  · (intro w5 hSw; obtain ⟨q1, q2, q3, q4, q5⟩ := hSw; go_simp; (try with_reducible rfl))
  try simp only [s1, s2, s3]
  refine tkD HT 5 34 (v := ?_) ?_ ?_
  rotate_left
  · (intro w5 hSw; obtain ⟨q1, q2, q3, q4, q5⟩ := hSw; go_simp; (try with_reducible rfl))
  try simp only [s1, s2, s3]
  refine tkD HT 6 35 (v := ?_) ?_ ?_
  rotate_left
  · (intro w5 hSw; obtain ⟨q1, q2, q3, q4, q5⟩ := hSw; go_simp; (try with_reducible rfl))
  try simp only [s1, s2, s3]
  refine tkS 7 (fun K5 hK => ?_)
  go_simp
  refine hK.out _ _ (proS_bel (proS_bel HS0.out (Below.refl _ _).drew) (bel1 _ (.cells #[.int .u64 c.term, .int .i64 x.2.1, .int .u64 x.2.2.1, .int .u64 x.2.2.2] 30))) (fun hS1 => ?_)
  clear hK K5
  try simp only [Act.put, s1, s2, s3]
  have l1 : Lst encE 4 (World.drew (World.alloc Y (.cells #[.int .u64 c.term, .int .i64 x.2.1, .int .u64 x.2.2.1, .int .u64 x.2.2.2] 30))) (some ⟨Y.heap.size, 0, none⟩) [(c.term, x.2)] := litE Y.drew (c.term, x.2)
  have gl1 : Below Y.heap.size Y (World.drew (World.alloc Y (.cells #[.int .u64 c.term, .int .i64 x.2.1, .int .u64 x.2.2.1, .int .u64 x.2.2.2] 30))) := grew_trans (Below.refl _ Y).drew (bel1 Y.drew (.cells #[.int .u64 c.term, .int .i64 x.2.1, .int .u64 x.2.2.1, .int .u64 x.2.2.2] 30))
  generalize (World.drew (World.alloc Y (.cells #[.int .u64 c.term, .int .i64 x.2.1, .int .u64 x.2.2.1, .int .u64 x.2.2.2] 30))) = V1 at *
  have l1' := Lib.hid l1
  have gl1' := Lib.hid gl1
  clear l1 gl1
  refine tkS 8 (fun K5 hK => ?_)
  refine step_app EE TE rfl (.tmp 34) (.tmp 36) rfl rfl (show OwnL encE 4 30 V1 base (.slice la c.log.length lc) c.log from (C5.out.below gl1'.out).log) (some ⟨Y.heap.size, 0, none⟩) 1 1 [(c.term, x.2)] rfl rfl l1'.out (by simp) (show (c.log.length + 1) * 32 ≤ 140737488355328 by omega) (show c.log.length + 1 ≤ maxLen by unfold maxLen; omega) (by have := (C5.out.below gl1'.out).lt.1; omega) ?_
  intro v1 w1 ho hg hf
  have HO := Lib.hid (show OwnE w1 base v1 (c.log ++ [(c.term, x.2)]) from ho)
  have HU := Lib.hid ((C5.out.below gl1'.out).moreL HO.out hg hf)
  have HGM := Lib.hid (show Mod (fun k => (Value.slice la c.log.length lc).ownBlock = some k) V1 w1 from Mod.grown hg (fun _ e => e))
  have hnp := Lib.hid C5.out.not
  have S1 := proS_bel HS0.out gl1'.out
  refine hK.out _ _ ⟨HGM.out.cell S1.1 hnp.out, HGM.out.cell S1.2.1 HNL.out, HGM.out.cell S1.2.2.1 HNL.out, HGM.out.cell S1.2.2.2.1 HNL.out, HGM.out.cell S1.2.2.2.2 HNL.out⟩ (fun hS2 => ?_)
  clear hK K5 ho hg hf S1
  try simp only [Act.put, s1, s2, s3]
  refine tkD HT 9 38 (v := ?_) ?_ ?_
  rotate_left
  · (intro w5 hSw; obtain ⟨q1, q2, q3, q4, q5⟩ := hSw; go_simp; (try with_reducible rfl))
  try simp only [s1, s2, s3]
  refine tkD HT 10 39 (v := ?_) ?_ ?_
  rotate_left
  · (intro w5 hSw; obtain ⟨q1, q2, q3, q4, q5⟩ := hSw; go_simp; (try with_reducible rfl))
  try simp only [s1, s2, s3]
  refine tkD HT 11 40 (v := ?_) ?_ ?_
  rotate_left
  · (intro w5 hSw; obtain ⟨q1, q2, q3, q4, q5⟩ := hSw; go_simp; (try with_reducible rfl))
  try simp only [s1, s2, s3]
  have k1 := hS2.1
  have k1f : w1.frozen? ⟨p, 3, none⟩ = false := (cell_of (HGM.out.heap (C5.out.below gl1'.out).blk hnp.out) 3 (v := .slice la c.log.length lc) rfl).2
  obtain ⟨sa1, sc1, hv1, -, -⟩ := own_sl HO.out
  subst hv1
  refine tkL 12 (fun K5 hK => ?_)
  go_simp
  refine hK.out _ _ ?_
  clear hK K5
  try simp only [Act.put, s1, s2, s3]
  refine wpAnyM_done (by kernel_rfl) (NoPanic.normal ?_)
  go_wp2
  go_ret
  rw [HV.out]
  refine ⟨rfl, CLU.below ((HBB.out.trans (HB5.out.mono HBB.out.size)).trans (gl1'.out.mono (HBB.out.trans (HB5.out.mono HBB.out.size)).size)) ?_⟩
  have hU := HU.out
  rw [show List.length (c.log ++ [((c.term, x.2) : Ent)]) = c.log.length + 1 by simp] at hU
  exact hU
theorem proposeL_any {w : World} {base p : Nat} {lv ov tv : Value} {c : Co} (x : Ent) (h : CL w base p lv ov tv c) (ok : Ok c) (hx : 0 ≤ x.2.2.1 ∧ 0 ≤ x.2.2.2) :
    Calls Try.prog 25 #[.pointer (some ⟨p, 0, none⟩), .agg #[.int .u64 x.1, .int .i64 x.2.1, .int .u64 x.2.2.1, .int .u64 x.2.2.2]] w (ProL base p lv ov tv (c.propose x) w) := by
  by_cases hr : c.role = 2
  · by_cases hc : checkE [(c.term, x.2)] = 0
    · by_cases hl : 300 ≤ c.log.length
      · exact proposeL_long x h ok hx hr hc hl
      · exact proposeL_ok x h ok hx hr hc (by omega)
    · exact proposeL_arg x h ok hx hr hc
  · exact proposeL_not x h ok hx hr
end Go.Proofs.Ytcleaamjfjnkkaa
