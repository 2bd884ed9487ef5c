/- LogB: small texts laid together. -/
import Derived.Test.YtcleaamjfjnkkaaLogA
/- What the first entries of a log say: the step's walk. -/
namespace Go.Proofs.Ytcleaamjfjnkkaa
open Go.RowKit Go.Joins

/-- behind a step: the line as the step makes it, nothing else of what was. -/
def StepPost (n0 base B : Nat) (s : Line) (w : World) (e : Ending) (w' : World) : Prop := (∃ v, e = .returned v) ∧ LineAt w' base B s ∧ Below n0 w w'

theorem LineAt.same {w : World} {base B : Nat} {s : Line} {v : Value} (hL : LineIs w B s v) (hO : OwnG w base v s.2.2.2) (o : Obj) : LineAt (w.alloc o) base B s :=
  ⟨v, (Below.heap_alloc _ _ _ (Array.getElem?_eq_some_iff.1 hL).1).trans hL, World.ownsRow.alloc hO o⟩
theorem LineAt.below {w w' : World} {base B : Nat} {s : Line} (h : LineAt w base B s) (hb : Below w.heap.size w w') : LineAt w' base B s := by
  obtain ⟨v, hL, hO⟩ := h
  exact ⟨v, (hb.block B (Array.getElem?_eq_some_iff.1 hL).1).trans hL, own_below hO hb⟩
set_option maxRecDepth 100000 in
theorem zero31 : ∃ i z, Try.prog.info? 28 = some i ∧ i.zero = some z ∧ i.size = 2 ∧ i.bytes = 16 ∧ z.cells.size = 2 := by
  refine ⟨_, _, rfl, rfl, rfl, rfl, rfl⟩
/-- append of one guid, just laid, onto a row that the call owns. -/
theorem app_gid {w : World} {ops : Array Oper} {rest : List Oper} {o : Oper} {a : Act} {Q : Exit → Act → World → Prop} (hgd : o.guard = none) (s x : Operand)
    (ho : o.op = .call { callee := .builtin .append, args := #[s, x], argTypes := #[39, 39] }) (base : Nat) (v : Value) (gs : List Gid) (hs : a.eval s = v) (x3 x4 : Int) (hown : OwnG w base v gs)
    (hx : a.eval x = .slice (some ⟨w.heap.size, 0, none⟩) 1 1) (hb : (gs.length + 1) * 16 ≤ 140737488355328) (hbase : base ≤ w.heap.size)
    (h : ∀ v' w', OwnG w' base v' (gs ++ [(x3, x4)]) → (w.alloc (.cells #[.int .u64 x3, .int .u64 x4] 28)).grownBy w' v.ownBlock → wpList Try.prog ops Q rest (a.put o.dst v') w') :
    wpList Try.prog ops Q (o :: rest) a (w.alloc (.cells #[.int .u64 x3, .int .u64 x4] 28)) := by
  obtain ⟨i, z, hi, hz, h1, h2, h3⟩ := zero31
  refine wpList_append_own _ hgd s x 39 ho base 28 i z 2 16 Try.underlying39 hi hz h1 h2 h3 (by decide) v gs.length (flatG gs) hs (World.ownsRow.alloc hown _) ⟨w.heap.size, 0, none⟩ 1 1 (encG (x3, x4)) hx rfl ?_ ?_ (by unfold maxLen; omega) hb (by simp; omega) ?_
  · intro j u hu
    rw [Go.WideShapes.add_plain, Nat.zero_add]
    match j, hu with
    | 0, hu => simp [encG] at hu; subst hu; exact World.cell?_alloc_at _ _ _ _ rfl
    | 1, hu => simp [encG] at hu; subst hu; exact World.cell?_alloc_at _ _ _ _ rfl
    | _ + 2, hu => simp [encG] at hu
  · intro u hu; simp [encG] at hu; rcases hu with rfl | rfl <;> rfl
  · intro v' w' ho' hg _
    refine h v' w' ?_ hg
    unfold OwnG
    rw [List.length_append, flatG_append]
    exact ho'

theorem grown_line {W2 W3 : World} {base B : Nat} {v : Value} {gs : List Gid} {cs : Array Value} {o : Obj} (hL2 : W2.heap[B]? = some (.cells cs 41 (0, 0))) (hO2 : OwnG W2 base v gs) (hg : (W2.alloc o).grownBy W3 v.ownBlock) :
    W3.heap[B]? = some (.cells cs 41 (0, 0)) := by
  have hlt : B < W2.heap.size := (Array.getElem?_eq_some_iff.1 hL2).1
  refine (hg.block B (by simp; omega) ?_).trans ((Below.heap_alloc _ _ _ hlt).trans hL2)
  rcases own_ne hO2 hL2 with h | h
  · rw [h]; simp
  · exact fun e => h e.symm
theorem grown_below {W2 W3 : World} {base n0 : Nat} {v : Value} {gs : List Gid} {o : Obj} (hn : n0 ≤ W2.heap.size) (hO2 : OwnG W2 base v gs) (hn2 : n0 ≤ base) (hg : (W2.alloc o).grownBy W3 v.ownBlock) : Below n0 W2 W3 :=
  ((Below.refl n0 W2).alloc hn o).grown hg (by simp; omega) (fun j hj => by have := (World.ownsRow.lt hO2 j hj).1; omega)
theorem LineAt.more {w : World} {base B : Nat} {s1 s2 : Int} {s3 : Bool} {gs : List Gid} {v v' : Value} (hL : w.heap[B]? = some (.cells #[.int .u64 s1, .int .i64 s2, .bool s3, v] 41 (0, 0))) (hO : OwnG w base v' gs) :
    LineAt (w.setCell ⟨B, 3, none⟩ v') base B (s1, s2, s3, gs) := by
  have h3 := block_setCell (i := 3) hL v'
  exact ⟨v', by unfold LineIs; rw [h3]; rfl, OwnG.set hO hL 3 v'⟩
theorem LineAt.set3 {w : World} {base B : Nat} {s1 s2 : Int} {s3 : Bool} {gs : List Gid} {v : Value} (hL : w.heap[B]? = some (.cells #[.int .u64 s1, .int .i64 s2, .bool s3, v] 41 (0, 0))) (hO : OwnG w base v gs) (a b : Int) (l : Bool) (o : Obj) :
    LineAt ((((w.setCell ⟨B, 0, none⟩ (.int .u64 a)).setCell ⟨B, 1, none⟩ (.int .i64 b)).setCell ⟨B, 2, none⟩ (.bool l)).alloc o) base B (a, b, l, gs) := by
  have h1 := block_setCell (i := 0) hL (.int .u64 a)
  have h2 := block_setCell (i := 1) h1 (.int .i64 b)
  have h3 := block_setCell (i := 2) h2 (.bool l)
  have o3 := ((OwnG.set hO hL 0 (.int .u64 a)).set h1 1 (.int .i64 b)).set h2 2 (.bool l)
  exact LineAt.same (s := (a, b, l, gs)) (by unfold LineIs; rw [h3]; rfl) o3 o
theorem LineAt.setl {w : World} {base B : Nat} {s1 s2 : Int} {s3 : Bool} {gs : List Gid} {v : Value} (hL : w.heap[B]? = some (.cells #[.int .u64 s1, .int .i64 s2, .bool s3, v] 41 (0, 0))) (hO : OwnG w base v gs) (l : Bool) (o : Obj) :
    LineAt ((w.setCell ⟨B, 2, none⟩ (.bool l)).alloc o) base B (s1, s2, l, gs) := by
  have h3 := block_setCell (i := 2) hL (.bool l)
  exact LineAt.same (s := (s1, s2, l, gs)) (by unfold LineIs; rw [h3]; rfl) (OwnG.set hO hL 2 (.bool l)) o

set_option maxRecDepth 100000 in
set_option maxHeartbeats 4000000 in
theorem add_any (x1 x2 x3 x4 : Int) (n0 base B : Nat) (s1 s2 : Int) (s3 : Bool) (gs : List Gid) (w : World) (h : LineAt w base B (s1, s2, s3, gs)) (hn : n0 ≤ B) (hb : base ≤ w.heap.size) (hn2 : n0 ≤ base) (hlen : gs.length < 100000) :
    Calls Try.prog 70 #[.agg #[.int .u64 x1, .int .i64 x2, .int .u64 x3, .int .u64 x4], .pointer (some ⟨B, 0, none⟩)] w (StepPost n0 base B (lstep (s1, s2, s3, gs) (x1, x2, x3, x4)) w) := by
  obtain ⟨v, hL, hO⟩ := h
  change OwnG w base v gs at hO
  obtain ⟨ga, gc, rfl, hG, hgn, hgl, hgm, -⟩ := own_gids hO
  unfold LineIs at hL
  have hBl : B < w.heap.size := (Array.getElem?_eq_some_iff.1 hL).1
  have c0 := cell_of_block hL 0
  have c1 := cell_of_block hL 1
  have c2 := cell_of_block hL 2
  have c3 := cell_of_block hL 3
  simp only [List.getElem?_toArray, List.getElem?_cons_zero, List.getElem?_cons_succ] at c0 c1 c2 c3
  have f0 := unfrozen_of_block hL 0
  have f1 := unfrozen_of_block hL 1
  have f2 := unfrozen_of_block hL 2
  have f3 := unfrozen_of_block hL 3
  have HL := Lib.hid hL
  have HO := Lib.hid hO
  clear hL hO
  have hS : Hid (∀ l, lstep (s1, s2, s3, gs) (x1, x2, x3, x4) = l ↔ (if x2 = 1 then (x1, (gs.length : Int), false, gs) else if x2 = 2 ∧ x1 = s1 then (s1, s2, true, gs) else if brings (s1, s2, s3, gs) (x1, x2, x3, x4) = true then (s1, s2, s3, gs ++ [(x3, x4)]) else (s1, s2, s3, gs)) = l) := fun l => Iff.rfl
  have hBr : Hid (brings (s1, s2, s3, gs) (x1, x2, x3, x4) = (decide (x2 = 3) && decide (x1 = s1) && decide (x3 = x1) && (decide (gs.length = 0) || aboveB (x3, x4) (lastG gs)))) := rfl
  have hbw : Hid (∀ o, Below n0 w (w.alloc o)) := fun o => (Below.refl _ w).alloc (by omega) o
  by_cases k1 : x2 = 1
  · subst k1
    have hR : Hid (lstep (s1, s2, s3, gs) (x1, 1, x3, x4) = (x1, (gs.length : Int), false, gs)) := by rw [Hid, hS.out, if_pos rfl]
    clear hS hBr
    go_enter Try.func70, Try.ntmps70
    go_wp2
    go_end0
    rw [hR.out]
    exact ⟨⟨_, rfl⟩, LineAt.set3 HL.out HO.out _ _ _ _, ((((Below.refl n0 w).setCell (p := ⟨B, 0, none⟩) hn _).setCell (p := ⟨B, 1, none⟩) hn _).setCell (p := ⟨B, 2, none⟩) hn _).alloc (by simp [World.setCell]; omega) _⟩
  have b1 : (x2 == 1) = false := by simpa using k1
  by_cases k2 : x2 = 2
  · subst k2
    by_cases ke : x1 = s1
    · subst ke
      have hR : Hid (lstep (x1, s2, s3, gs) (x1, 2, x3, x4) = (x1, s2, true, gs)) := by rw [Hid, hS.out, if_neg (by decide), if_pos ⟨rfl, rfl⟩]
      clear hS hBr k1
      go_enter Try.func70, Try.ntmps70
      go_wp2
      go_end0
      rw [hR.out]
      exact ⟨⟨_, rfl⟩, LineAt.setl HL.out HO.out _ _, ((Below.refl n0 w).setCell (p := ⟨B, 2, none⟩) hn _).alloc (by simp [World.setCell]; omega) _⟩
    · have be : (x1 == s1) = false := by simpa using ke
      have hR : Hid (lstep (s1, s2, s3, gs) (x1, 2, x3, x4) = (s1, s2, s3, gs)) := by
        rw [Hid, hS.out, if_neg (by decide), if_neg (by simp [ke]), hBr.out, if_neg (by simp)]
      clear hS hBr k1 ke
      go_enter Try.func70, Try.ntmps70
      go_wp2
      have e0 : (w.alloc (.cells #[.int .u64 x1, .int .i64 2, .int .u64 x3, .int .u64 x4] 30)).cell? ⟨w.heap.size, 0, none⟩ = some (.int .u64 x1) := World.cell?_alloc_at _ _ _ _ rfl
      have e1 : (w.alloc (.cells #[.int .u64 x1, .int .i64 2, .int .u64 x3, .int .u64 x4] 30)).cell? ⟨w.heap.size, 1, none⟩ = some (.int .i64 2) := World.cell?_alloc_at _ _ _ _ rfl
      have e2 : (w.alloc (.cells #[.int .u64 x1, .int .i64 2, .int .u64 x3, .int .u64 x4] 30)).cell? ⟨w.heap.size, 2, none⟩ = some (.int .u64 x3) := World.cell?_alloc_at _ _ _ _ rfl
      have e3 : (w.alloc (.cells #[.int .u64 x1, .int .i64 2, .int .u64 x3, .int .u64 x4] 30)).cell? ⟨w.heap.size, 3, none⟩ = some (.int .u64 x4) := World.cell?_alloc_at _ _ _ _ rfl
      have hA1 : Hid (LineAt (w.alloc (.cells #[.int .u64 x1, .int .i64 2, .int .u64 x3, .int .u64 x4] 30)) base B (s1, s2, s3, gs)) := LineAt.same (s := (s1, s2, s3, gs)) HL.out HO.out _
      have hW1 : Below w.heap.size w (w.alloc (.cells #[.int .u64 x1, .int .i64 2, .int .u64 x3, .int .u64 x4] 30)) := (Below.refl _ w).alloc (Nat.le_refl _) _
      have hl0 := (hW1.cell (World.block_lt_of_cell? _ _ c0)).trans c0
      have hl3 := (hW1.cell (World.block_lt_of_cell? _ _ c3)).trans c3
      have hbw1 := hbw.out (.cells #[.int .u64 x1, .int .i64 2, .int .u64 x3, .int .u64 x4] 30)
      have hL1 : Hid ((w.alloc (.cells #[.int .u64 x1, .int .i64 2, .int .u64 x3, .int .u64 x4] 30)).heap[B]? = some (.cells #[.int .u64 s1, .int .i64 s2, .bool s3, .slice ga gs.length gc] 41 (0, 0))) := (hW1.block B hBl).trans HL.out
      have hO1 : Hid (OwnG (w.alloc (.cells #[.int .u64 x1, .int .i64 2, .int .u64 x3, .int .u64 x4] 30)) base (.slice ga gs.length gc) gs) := own_below HO.out hW1
      have hsz1 : w.heap.size ≤ (w.alloc (.cells #[.int .u64 x1, .int .i64 2, .int .u64 x3, .int .u64 x4] 30)).heap.size := hW1.size
      generalize w.alloc (.cells #[.int .u64 x1, .int .i64 2, .int .u64 x3, .int .u64 x4] 30) = W1 at *
      have l0 := fun y : Later W1 => y.cell e0
      have l1 := fun y : Later W1 => y.cell e1
      have l2 := fun y : Later W1 => y.cell e2
      have l3 := fun y : Later W1 => y.cell e3
      have l4 := fun y : Later W1 => y.cell hl0
      have l5 := fun y : Later W1 => y.cell hl3
      refine wp_region_later_lit (by kernel_rfl) (by kernel_rfl) ?_
      repeat (any_goals (first | go_big_quiet_step ((go_at_call 71; exact Calls.laterB (above_any _ _ _ _ _))) | quiet_step ((go_at_call 71; exact Calls.laterB (above_any _ _ _ _ _)))))
      refine wpQuiet_nil ?_
      intro _ hw'
      obtain ⟨y, hw''⟩ := hw'
      subst hw''
      have hy := y.h
      generalize y.w = W2 at hy ⊢
      go_wp2
      go_end0
      rw [hR.out]
      exact ⟨⟨_, rfl⟩, hA1.out.below hy, hbw1.trans (hy.mono (by omega))⟩
  have b2 : (x2 == 2) = false := by simpa using k2
  by_cases k3 : x2 = 3
  · subst k3
    by_cases ke : x1 = s1
    · subst ke
      by_cases kg : x3 = x1
      · subst kg
        by_cases k0 : gs.length = 0
        · have hR : Hid (lstep (x3, s2, s3, gs) (x3, 3, x3, x4) = (x3, s2, s3, gs ++ [(x3, x4)])) := by
            rw [Hid, hS.out, if_neg (by decide), if_neg (by simp), hBr.out, if_pos (by simp [k0])]
          have k0b : ((gs.length : Int) == 0) = true := by simp [k0]
          have K0 := Lib.hid k0
          clear hS hBr k1 k2 k0
          go_enter Try.func70, Try.ntmps70
          go_wp2
          have e0 : (w.alloc (.cells #[.int .u64 x3, .int .i64 3, .int .u64 x3, .int .u64 x4] 30)).cell? ⟨w.heap.size, 0, none⟩ = some (.int .u64 x3) := World.cell?_alloc_at _ _ _ _ rfl
          have e1 : (w.alloc (.cells #[.int .u64 x3, .int .i64 3, .int .u64 x3, .int .u64 x4] 30)).cell? ⟨w.heap.size, 1, none⟩ = some (.int .i64 3) := World.cell?_alloc_at _ _ _ _ rfl
          have e2 : (w.alloc (.cells #[.int .u64 x3, .int .i64 3, .int .u64 x3, .int .u64 x4] 30)).cell? ⟨w.heap.size, 2, none⟩ = some (.int .u64 x3) := World.cell?_alloc_at _ _ _ _ rfl
          have e3 : (w.alloc (.cells #[.int .u64 x3, .int .i64 3, .int .u64 x3, .int .u64 x4] 30)).cell? ⟨w.heap.size, 3, none⟩ = some (.int .u64 x4) := World.cell?_alloc_at _ _ _ _ rfl
          have hA1 : Hid (LineAt (w.alloc (.cells #[.int .u64 x3, .int .i64 3, .int .u64 x3, .int .u64 x4] 30)) base B (x3, s2, s3, gs)) := LineAt.same (s := (x3, s2, s3, gs)) HL.out HO.out _
          have hW1 : Below w.heap.size w (w.alloc (.cells #[.int .u64 x3, .int .i64 3, .int .u64 x3, .int .u64 x4] 30)) := (Below.refl _ w).alloc (Nat.le_refl _) _
          have hl0 := (hW1.cell (World.block_lt_of_cell? _ _ c0)).trans c0
          have hl3 := (hW1.cell (World.block_lt_of_cell? _ _ c3)).trans c3
          have hbw1 := hbw.out (.cells #[.int .u64 x3, .int .i64 3, .int .u64 x3, .int .u64 x4] 30)
          have hL1 : Hid ((w.alloc (.cells #[.int .u64 x3, .int .i64 3, .int .u64 x3, .int .u64 x4] 30)).heap[B]? = some (.cells #[.int .u64 x3, .int .i64 s2, .bool s3, .slice ga gs.length gc] 41 (0, 0))) := (hW1.block B hBl).trans HL.out
          have hO1 : Hid (OwnG (w.alloc (.cells #[.int .u64 x3, .int .i64 3, .int .u64 x3, .int .u64 x4] 30)) base (.slice ga gs.length gc) gs) := own_below HO.out hW1
          have hsz1 : w.heap.size ≤ (w.alloc (.cells #[.int .u64 x3, .int .i64 3, .int .u64 x3, .int .u64 x4] 30)).heap.size := hW1.size
          generalize w.alloc (.cells #[.int .u64 x3, .int .i64 3, .int .u64 x3, .int .u64 x4] 30) = W1 at *
          have l0 := fun y : Later W1 => y.cell e0
          have l1 := fun y : Later W1 => y.cell e1
          have l2 := fun y : Later W1 => y.cell e2
          have l3 := fun y : Later W1 => y.cell e3
          have l4 := fun y : Later W1 => y.cell hl0
          have l5 := fun y : Later W1 => y.cell hl3
          refine wp_region_later_lit (by kernel_rfl) (by kernel_rfl) ?_
          repeat (any_goals (first | go_big_quiet_step ((go_at_call 71; exact Calls.laterB (above_any _ _ _ _ _))) | quiet_step ((go_at_call 71; exact Calls.laterB (above_any _ _ _ _ _)))))
          refine wpQuiet_nil ?_
          intro _ hw'
          obtain ⟨y, hw''⟩ := hw'
          subst hw''
          have hy := y.h
          generalize y.w = W2 at hy ⊢
          have q3 := (hy.cell (World.block_lt_of_cell? _ _ hl3)).trans hl3
          have q4 := (hy.cell (World.block_lt_of_cell? _ _ e2)).trans e2
          have q5 := (hy.cell (World.block_lt_of_cell? _ _ e3)).trans e3
          have hL2 : Hid (W2.heap[B]? = some (.cells #[.int .u64 x3, .int .i64 s2, .bool s3, .slice ga gs.length gc] 41 (0, 0))) := (hy.block B (Nat.lt_of_lt_of_le hBl hsz1)).trans hL1.out
          have hO2 : Hid (OwnG W2 base (.slice ga gs.length gc) gs) := own_below hO1.out hy
          have hs2 : w.heap.size ≤ W2.heap.size := Nat.le_trans hsz1 hy.size
          go_wp2_with (at_builtin; refine app_gid rfl (.tmp 62) (.tmp 65) rfl base _ gs rfl x3 x4 hO2.out rfl (by omega) (by omega) ?_; intro v' W3 hown' hgrow; obtain ⟨a', cap', rfl, -⟩ := own_gids hown'; have hL3 : Hid (W3.heap[B]? = some (.cells #[.int .u64 x3, .int .i64 s2, .bool s3, .slice ga gs.length gc] 41 (0, 0))) := grown_line hL2.out hO2.out hgrow; have q6 := (cell_of_block hL3.out 3).trans (rfl : _ = some (Value.slice ga gs.length gc)); have q7 := unfrozen_of_block hL3.out 3; have hb3 := grown_below (n0 := n0) (by omega) hO2.out hn2 hgrow)
          go_end0
          rw [hR.out]
          exact ⟨⟨_, rfl⟩, LineAt.more hL3.out (by have hh := hown'; rw [show (gs ++ [(x3, x4)]).length = gs.length + 1 by simp] at hh; exact hh), ((hbw1.trans (hy.mono (by omega))).trans hb3).setCell (p := ⟨B, 3, none⟩) hn _⟩
        · have k0b : ((gs.length : Int) == 0) = false := by simp; intro h; simp [h] at k0
          have kp : 0 < gs.length := by omega
          have gi := hG (gs.length - 1) (by omega)
          obtain ⟨gb, goff, rfl, gg1, gg2⟩ := gi
          have hlg : Hid (lastG gs = ((gs.getD (gs.length - 1) default).1, (gs.getD (gs.length - 1) default).2)) := rfl
          generalize (gs.getD (gs.length - 1) default).1 = y1 at gg1 hlg
          generalize (gs.getD (gs.length - 1) default).2 = y2 at gg2 hlg
          by_cases hab : aboveB (x3, x4) (y1, y2) = true
          · have hR : Hid (lstep (x3, s2, s3, gs) (x3, 3, x3, x4) = (x3, s2, s3, gs ++ [(x3, x4)])) := by
              rw [Hid, hS.out, if_neg (by decide), if_neg (by simp), hBr.out, if_pos (by rw [hlg.out, hab]; simp)]
            clear hS hBr k1 k2 k0
            go_enter Try.func70, Try.ntmps70
            go_wp2
            have e0 : (w.alloc (.cells #[.int .u64 x3, .int .i64 3, .int .u64 x3, .int .u64 x4] 30)).cell? ⟨w.heap.size, 0, none⟩ = some (.int .u64 x3) := World.cell?_alloc_at _ _ _ _ rfl
            have e1 : (w.alloc (.cells #[.int .u64 x3, .int .i64 3, .int .u64 x3, .int .u64 x4] 30)).cell? ⟨w.heap.size, 1, none⟩ = some (.int .i64 3) := World.cell?_alloc_at _ _ _ _ rfl
            have e2 : (w.alloc (.cells #[.int .u64 x3, .int .i64 3, .int .u64 x3, .int .u64 x4] 30)).cell? ⟨w.heap.size, 2, none⟩ = some (.int .u64 x3) := World.cell?_alloc_at _ _ _ _ rfl
            have e3 : (w.alloc (.cells #[.int .u64 x3, .int .i64 3, .int .u64 x3, .int .u64 x4] 30)).cell? ⟨w.heap.size, 3, none⟩ = some (.int .u64 x4) := World.cell?_alloc_at _ _ _ _ rfl
            have hA1 : Hid (LineAt (w.alloc (.cells #[.int .u64 x3, .int .i64 3, .int .u64 x3, .int .u64 x4] 30)) base B (x3, s2, s3, gs)) := LineAt.same (s := (x3, s2, s3, gs)) HL.out HO.out _
            have hW1 : Below w.heap.size w (w.alloc (.cells #[.int .u64 x3, .int .i64 3, .int .u64 x3, .int .u64 x4] 30)) := (Below.refl _ w).alloc (Nat.le_refl _) _
            have hl0 := (hW1.cell (World.block_lt_of_cell? _ _ c0)).trans c0
            have hl3 := (hW1.cell (World.block_lt_of_cell? _ _ c3)).trans c3
            have hg1 := (hW1.cell (World.block_lt_of_cell? _ _ gg1)).trans gg1
            have hg2 := (hW1.cell (World.block_lt_of_cell? _ _ gg2)).trans gg2
            have hbw1 := hbw.out (.cells #[.int .u64 x3, .int .i64 3, .int .u64 x3, .int .u64 x4] 30)
            have hL1 : Hid ((w.alloc (.cells #[.int .u64 x3, .int .i64 3, .int .u64 x3, .int .u64 x4] 30)).heap[B]? = some (.cells #[.int .u64 x3, .int .i64 s2, .bool s3, .slice (some ⟨gb, goff, none⟩) gs.length gc] 41 (0, 0))) := (hW1.block B hBl).trans HL.out
            have hO1 : Hid (OwnG (w.alloc (.cells #[.int .u64 x3, .int .i64 3, .int .u64 x3, .int .u64 x4] 30)) base (.slice (some ⟨gb, goff, none⟩) gs.length gc) gs) := own_below HO.out hW1
            have hsz1 : w.heap.size ≤ (w.alloc (.cells #[.int .u64 x3, .int .i64 3, .int .u64 x3, .int .u64 x4] 30)).heap.size := hW1.size
            generalize w.alloc (.cells #[.int .u64 x3, .int .i64 3, .int .u64 x3, .int .u64 x4] 30) = W1 at *
            have l0 := fun y : Later W1 => y.cell e0
            have l1 := fun y : Later W1 => y.cell e1
            have l2 := fun y : Later W1 => y.cell e2
            have l3 := fun y : Later W1 => y.cell e3
            have l4 := fun y : Later W1 => y.cell hl0
            have l5 := fun y : Later W1 => y.cell hl3
            have l6 := fun y : Later W1 => y.cell hg1
            have l7 := fun y : Later W1 => y.cell hg2
            have j1 : IntKind.i64.wrap ((gs.length : Int) - 1) = (gs.length : Int) - 1 := IntWalk.i64_in _ (by omega)
            have j2 : (0 : Int) ≤ (gs.length : Int) - 1 := by omega
            have j3 : ((gs.length : Int) - 1).toNat = gs.length - 1 := by omega
            have j4 : (gs.length : Int) - 1 < (gs.length : Int) := by omega
            refine wp_region_later_lit (by kernel_rfl) (by kernel_rfl) ?_
            repeat (any_goals (first | go_big_quiet_step ((go_at_call 71; exact Calls.laterB (above_any _ _ _ _ _))) | quiet_step ((go_at_call 71; exact Calls.laterB (above_any _ _ _ _ _)))))
            refine wpQuiet_nil ?_
            intro _ hw'
            obtain ⟨y, hw''⟩ := hw'
            subst hw''
            have hy := y.h
            generalize y.w = W2 at hy ⊢
            have q3 := (hy.cell (World.block_lt_of_cell? _ _ hl3)).trans hl3
            have q4 := (hy.cell (World.block_lt_of_cell? _ _ e2)).trans e2
            have q5 := (hy.cell (World.block_lt_of_cell? _ _ e3)).trans e3
            have hL2 : Hid (W2.heap[B]? = some (.cells #[.int .u64 x3, .int .i64 s2, .bool s3, .slice (some ⟨gb, goff, none⟩) gs.length gc] 41 (0, 0))) := (hy.block B (Nat.lt_of_lt_of_le hBl hsz1)).trans hL1.out
            have hO2 : Hid (OwnG W2 base (.slice (some ⟨gb, goff, none⟩) gs.length gc) gs) := own_below hO1.out hy
            have hs2 : w.heap.size ≤ W2.heap.size := Nat.le_trans hsz1 hy.size
            go_wp2_with (at_builtin; refine app_gid rfl (.tmp 62) (.tmp 65) rfl base _ gs rfl x3 x4 hO2.out rfl (by omega) (by omega) ?_; intro v' W3 hown' hgrow; obtain ⟨a', cap', rfl, -⟩ := own_gids hown'; have hL3 : Hid (W3.heap[B]? = some (.cells #[.int .u64 x3, .int .i64 s2, .bool s3, .slice (some ⟨gb, goff, none⟩) gs.length gc] 41 (0, 0))) := grown_line hL2.out hO2.out hgrow; have q6 := (cell_of_block hL3.out 3).trans (rfl : _ = some (Value.slice (some ⟨gb, goff, none⟩) gs.length gc)); have q7 := unfrozen_of_block hL3.out 3; have hb3 := grown_below (n0 := n0) (by omega) hO2.out hn2 hgrow)
            go_end0
            rw [hR.out]
            exact ⟨⟨_, rfl⟩, LineAt.more hL3.out (by have hh := hown'; rw [show (gs ++ [(x3, x4)]).length = gs.length + 1 by simp] at hh; exact hh), ((hbw1.trans (hy.mono (by omega))).trans hb3).setCell (p := ⟨B, 3, none⟩) hn _⟩
          · have hab2 : aboveB (x3, x4) (y1, y2) = false := by simpa using hab
            have hR : Hid (lstep (x3, s2, s3, gs) (x3, 3, x3, x4) = (x3, s2, s3, gs)) := by
              rw [Hid, hS.out, if_neg (by decide), if_neg (by simp), hBr.out, if_neg (by rw [hlg.out, hab2]; simpa using k0)]
            clear hS hBr k1 k2 k0 hab
            go_enter Try.func70, Try.ntmps70
            go_wp2
            have e0 : (w.alloc (.cells #[.int .u64 x3, .int .i64 3, .int .u64 x3, .int .u64 x4] 30)).cell? ⟨w.heap.size, 0, none⟩ = some (.int .u64 x3) := World.cell?_alloc_at _ _ _ _ rfl
            have e1 : (w.alloc (.cells #[.int .u64 x3, .int .i64 3, .int .u64 x3, .int .u64 x4] 30)).cell? ⟨w.heap.size, 1, none⟩ = some (.int .i64 3) := World.cell?_alloc_at _ _ _ _ rfl
            have e2 : (w.alloc (.cells #[.int .u64 x3, .int .i64 3, .int .u64 x3, .int .u64 x4] 30)).cell? ⟨w.heap.size, 2, none⟩ = some (.int .u64 x3) := World.cell?_alloc_at _ _ _ _ rfl
            have e3 : (w.alloc (.cells #[.int .u64 x3, .int .i64 3, .int .u64 x3, .int .u64 x4] 30)).cell? ⟨w.heap.size, 3, none⟩ = some (.int .u64 x4) := World.cell?_alloc_at _ _ _ _ rfl
            have hA1 : Hid (LineAt (w.alloc (.cells #[.int .u64 x3, .int .i64 3, .int .u64 x3, .int .u64 x4] 30)) base B (x3, s2, s3, gs)) := LineAt.same (s := (x3, s2, s3, gs)) HL.out HO.out _
            have hW1 : Below w.heap.size w (w.alloc (.cells #[.int .u64 x3, .int .i64 3, .int .u64 x3, .int .u64 x4] 30)) := (Below.refl _ w).alloc (Nat.le_refl _) _
            have hl0 := (hW1.cell (World.block_lt_of_cell? _ _ c0)).trans c0
            have hl3 := (hW1.cell (World.block_lt_of_cell? _ _ c3)).trans c3
            have hg1 := (hW1.cell (World.block_lt_of_cell? _ _ gg1)).trans gg1
            have hg2 := (hW1.cell (World.block_lt_of_cell? _ _ gg2)).trans gg2
            have hbw1 := hbw.out (.cells #[.int .u64 x3, .int .i64 3, .int .u64 x3, .int .u64 x4] 30)
            have hL1 : Hid ((w.alloc (.cells #[.int .u64 x3, .int .i64 3, .int .u64 x3, .int .u64 x4] 30)).heap[B]? = some (.cells #[.int .u64 x3, .int .i64 s2, .bool s3, .slice (some ⟨gb, goff, none⟩) gs.length gc] 41 (0, 0))) := (hW1.block B hBl).trans HL.out
            have hO1 : Hid (OwnG (w.alloc (.cells #[.int .u64 x3, .int .i64 3, .int .u64 x3, .int .u64 x4] 30)) base (.slice (some ⟨gb, goff, none⟩) gs.length gc) gs) := own_below HO.out hW1
            have hsz1 : w.heap.size ≤ (w.alloc (.cells #[.int .u64 x3, .int .i64 3, .int .u64 x3, .int .u64 x4] 30)).heap.size := hW1.size
            generalize w.alloc (.cells #[.int .u64 x3, .int .i64 3, .int .u64 x3, .int .u64 x4] 30) = W1 at *
            have l0 := fun y : Later W1 => y.cell e0
            have l1 := fun y : Later W1 => y.cell e1
            have l2 := fun y : Later W1 => y.cell e2
            have l3 := fun y : Later W1 => y.cell e3
            have l4 := fun y : Later W1 => y.cell hl0
            have l5 := fun y : Later W1 => y.cell hl3
            have l6 := fun y : Later W1 => y.cell hg1
            have l7 := fun y : Later W1 => y.cell hg2
            have j1 : IntKind.i64.wrap ((gs.length : Int) - 1) = (gs.length : Int) - 1 := IntWalk.i64_in _ (by omega)
            have j2 : (0 : Int) ≤ (gs.length : Int) - 1 := by omega
            have j3 : ((gs.length : Int) - 1).toNat = gs.length - 1 := by omega
            have j4 : (gs.length : Int) - 1 < (gs.length : Int) := by omega
            refine wp_region_later_lit (by kernel_rfl) (by kernel_rfl) ?_
            repeat (any_goals (first | go_big_quiet_step ((go_at_call 71; exact Calls.laterB (above_any _ _ _ _ _))) | quiet_step ((go_at_call 71; exact Calls.laterB (above_any _ _ _ _ _)))))
            refine wpQuiet_nil ?_
            intro _ hw'
            obtain ⟨y, hw''⟩ := hw'
            subst hw''
            have hy := y.h
            generalize y.w = W2 at hy ⊢
            go_wp2
            go_end0
            rw [hR.out]
            exact ⟨⟨_, rfl⟩, hA1.out.below hy, hbw1.trans (hy.mono (by omega))⟩
      · have bg : (x3 == x1) = false := by simpa using kg
        have hR : Hid (lstep (x1, s2, s3, gs) (x1, 3, x3, x4) = (x1, s2, s3, gs)) := by
          rw [Hid, hS.out, if_neg (by decide), if_neg (by simp), hBr.out, if_neg (by simp [kg])]
        clear hS hBr k1 k2 kg
        go_enter Try.func70, Try.ntmps70
        go_wp2
        have e0 : (w.alloc (.cells #[.int .u64 x1, .int .i64 3, .int .u64 x3, .int .u64 x4] 30)).cell? ⟨w.heap.size, 0, none⟩ = some (.int .u64 x1) := World.cell?_alloc_at _ _ _ _ rfl
        have e1 : (w.alloc (.cells #[.int .u64 x1, .int .i64 3, .int .u64 x3, .int .u64 x4] 30)).cell? ⟨w.heap.size, 1, none⟩ = some (.int .i64 3) := World.cell?_alloc_at _ _ _ _ rfl
        have e2 : (w.alloc (.cells #[.int .u64 x1, .int .i64 3, .int .u64 x3, .int .u64 x4] 30)).cell? ⟨w.heap.size, 2, none⟩ = some (.int .u64 x3) := World.cell?_alloc_at _ _ _ _ rfl
        have e3 : (w.alloc (.cells #[.int .u64 x1, .int .i64 3, .int .u64 x3, .int .u64 x4] 30)).cell? ⟨w.heap.size, 3, none⟩ = some (.int .u64 x4) := World.cell?_alloc_at _ _ _ _ rfl
        have hA1 : Hid (LineAt (w.alloc (.cells #[.int .u64 x1, .int .i64 3, .int .u64 x3, .int .u64 x4] 30)) base B (x1, s2, s3, gs)) := LineAt.same (s := (x1, s2, s3, gs)) HL.out HO.out _
        have hW1 : Below w.heap.size w (w.alloc (.cells #[.int .u64 x1, .int .i64 3, .int .u64 x3, .int .u64 x4] 30)) := (Below.refl _ w).alloc (Nat.le_refl _) _
        have hl0 := (hW1.cell (World.block_lt_of_cell? _ _ c0)).trans c0
        have hl3 := (hW1.cell (World.block_lt_of_cell? _ _ c3)).trans c3
        have hbw1 := hbw.out (.cells #[.int .u64 x1, .int .i64 3, .int .u64 x3, .int .u64 x4] 30)
        have hL1 : Hid ((w.alloc (.cells #[.int .u64 x1, .int .i64 3, .int .u64 x3, .int .u64 x4] 30)).heap[B]? = some (.cells #[.int .u64 x1, .int .i64 s2, .bool s3, .slice ga gs.length gc] 41 (0, 0))) := (hW1.block B hBl).trans HL.out
        have hO1 : Hid (OwnG (w.alloc (.cells #[.int .u64 x1, .int .i64 3, .int .u64 x3, .int .u64 x4] 30)) base (.slice ga gs.length gc) gs) := own_below HO.out hW1
        have hsz1 : w.heap.size ≤ (w.alloc (.cells #[.int .u64 x1, .int .i64 3, .int .u64 x3, .int .u64 x4] 30)).heap.size := hW1.size
        generalize w.alloc (.cells #[.int .u64 x1, .int .i64 3, .int .u64 x3, .int .u64 x4] 30) = W1 at *
        have l0 := fun y : Later W1 => y.cell e0
        have l1 := fun y : Later W1 => y.cell e1
        have l2 := fun y : Later W1 => y.cell e2
        have l3 := fun y : Later W1 => y.cell e3
        have l4 := fun y : Later W1 => y.cell hl0
        have l5 := fun y : Later W1 => y.cell hl3
        refine wp_region_later_lit (by kernel_rfl) (by kernel_rfl) ?_
        repeat (any_goals (first | go_big_quiet_step ((go_at_call 71; exact Calls.laterB (above_any _ _ _ _ _))) | quiet_step ((go_at_call 71; exact Calls.laterB (above_any _ _ _ _ _)))))
        refine wpQuiet_nil ?_
        intro _ hw'
        obtain ⟨y, hw''⟩ := hw'
        subst hw''
        have hy := y.h
        generalize y.w = W2 at hy ⊢
        go_wp2
        go_end0
        rw [hR.out]
        exact ⟨⟨_, rfl⟩, hA1.out.below hy, hbw1.trans (hy.mono (by omega))⟩
    · have be : (x1 == s1) = false := by simpa using ke
      have hR : Hid (lstep (s1, s2, s3, gs) (x1, 3, x3, x4) = (s1, s2, s3, gs)) := by
        rw [Hid, hS.out, if_neg (by decide), if_neg (by simp), hBr.out, if_neg (by simp [ke])]
      clear hS hBr k1 k2 ke
      go_enter Try.func70, Try.ntmps70
      go_wp2
      have e0 : (w.alloc (.cells #[.int .u64 x1, .int .i64 3, .int .u64 x3, .int .u64 x4] 30)).cell? ⟨w.heap.size, 0, none⟩ = some (.int .u64 x1) := World.cell?_alloc_at _ _ _ _ rfl
      have e1 : (w.alloc (.cells #[.int .u64 x1, .int .i64 3, .int .u64 x3, .int .u64 x4] 30)).cell? ⟨w.heap.size, 1, none⟩ = some (.int .i64 3) := World.cell?_alloc_at _ _ _ _ rfl
      have e2 : (w.alloc (.cells #[.int .u64 x1, .int .i64 3, .int .u64 x3, .int .u64 x4] 30)).cell? ⟨w.heap.size, 2, none⟩ = some (.int .u64 x3) := World.cell?_alloc_at _ _ _ _ rfl
      have e3 : (w.alloc (.cells #[.int .u64 x1, .int .i64 3, .int .u64 x3, .int .u64 x4] 30)).cell? ⟨w.heap.size, 3, none⟩ = some (.int .u64 x4) := World.cell?_alloc_at _ _ _ _ rfl
      have hA1 : Hid (LineAt (w.alloc (.cells #[.int .u64 x1, .int .i64 3, .int .u64 x3, .int .u64 x4] 30)) base B (s1, s2, s3, gs)) := LineAt.same (s := (s1, s2, s3, gs)) HL.out HO.out _
      have hW1 : Below w.heap.size w (w.alloc (.cells #[.int .u64 x1, .int .i64 3, .int .u64 x3, .int .u64 x4] 30)) := (Below.refl _ w).alloc (Nat.le_refl _) _
      have hl0 := (hW1.cell (World.block_lt_of_cell? _ _ c0)).trans c0
      have hl3 := (hW1.cell (World.block_lt_of_cell? _ _ c3)).trans c3
      have hbw1 := hbw.out (.cells #[.int .u64 x1, .int .i64 3, .int .u64 x3, .int .u64 x4] 30)
      have hL1 : Hid ((w.alloc (.cells #[.int .u64 x1, .int .i64 3, .int .u64 x3, .int .u64 x4] 30)).heap[B]? = some (.cells #[.int .u64 s1, .int .i64 s2, .bool s3, .slice ga gs.length gc] 41 (0, 0))) := (hW1.block B hBl).trans HL.out
      have hO1 : Hid (OwnG (w.alloc (.cells #[.int .u64 x1, .int .i64 3, .int .u64 x3, .int .u64 x4] 30)) base (.slice ga gs.length gc) gs) := own_below HO.out hW1
      have hsz1 : w.heap.size ≤ (w.alloc (.cells #[.int .u64 x1, .int .i64 3, .int .u64 x3, .int .u64 x4] 30)).heap.size := hW1.size
      generalize w.alloc (.cells #[.int .u64 x1, .int .i64 3, .int .u64 x3, .int .u64 x4] 30) = W1 at *
      have l0 := fun y : Later W1 => y.cell e0
      have l1 := fun y : Later W1 => y.cell e1
      have l2 := fun y : Later W1 => y.cell e2
      have l3 := fun y : Later W1 => y.cell e3
      have l4 := fun y : Later W1 => y.cell hl0
      have l5 := fun y : Later W1 => y.cell hl3
      refine wp_region_later_lit (by kernel_rfl) (by kernel_rfl) ?_
      repeat (any_goals (first | go_big_quiet_step ((go_at_call 71; exact Calls.laterB (above_any _ _ _ _ _))) | quiet_step ((go_at_call 71; exact Calls.laterB (above_any _ _ _ _ _)))))
      refine wpQuiet_nil ?_
      intro _ hw'
      obtain ⟨y, hw''⟩ := hw'
      subst hw''
      have hy := y.h
      generalize y.w = W2 at hy ⊢
      go_wp2
      go_end0
      rw [hR.out]
      exact ⟨⟨_, rfl⟩, hA1.out.below hy, hbw1.trans (hy.mono (by omega))⟩
  · have b3 : (x2 == 3) = false := by simpa using k3
    have hR : Hid (lstep (s1, s2, s3, gs) (x1, x2, x3, x4) = (s1, s2, s3, gs)) := by
      rw [Hid, hS.out, if_neg k1, if_neg (by simp [k2]), hBr.out, if_neg (by simp [k3])]
    clear hS hBr k1 k2 k3
    go_enter Try.func70, Try.ntmps70
    go_wp2
    have e0 : (w.alloc (.cells #[.int .u64 x1, .int .i64 x2, .int .u64 x3, .int .u64 x4] 30)).cell? ⟨w.heap.size, 0, none⟩ = some (.int .u64 x1) := World.cell?_alloc_at _ _ _ _ rfl
    have e1 : (w.alloc (.cells #[.int .u64 x1, .int .i64 x2, .int .u64 x3, .int .u64 x4] 30)).cell? ⟨w.heap.size, 1, none⟩ = some (.int .i64 x2) := World.cell?_alloc_at _ _ _ _ rfl
    have e2 : (w.alloc (.cells #[.int .u64 x1, .int .i64 x2, .int .u64 x3, .int .u64 x4] 30)).cell? ⟨w.heap.size, 2, none⟩ = some (.int .u64 x3) := World.cell?_alloc_at _ _ _ _ rfl
    have e3 : (w.alloc (.cells #[.int .u64 x1, .int .i64 x2, .int .u64 x3, .int .u64 x4] 30)).cell? ⟨w.heap.size, 3, none⟩ = some (.int .u64 x4) := World.cell?_alloc_at _ _ _ _ rfl
    have hA1 : Hid (LineAt (w.alloc (.cells #[.int .u64 x1, .int .i64 x2, .int .u64 x3, .int .u64 x4] 30)) base B (s1, s2, s3, gs)) := LineAt.same (s := (s1, s2, s3, gs)) HL.out HO.out _
    have hW1 : Below w.heap.size w (w.alloc (.cells #[.int .u64 x1, .int .i64 x2, .int .u64 x3, .int .u64 x4] 30)) := (Below.refl _ w).alloc (Nat.le_refl _) _
    have hl0 := (hW1.cell (World.block_lt_of_cell? _ _ c0)).trans c0
    have hl3 := (hW1.cell (World.block_lt_of_cell? _ _ c3)).trans c3
    have hbw1 := hbw.out (.cells #[.int .u64 x1, .int .i64 x2, .int .u64 x3, .int .u64 x4] 30)
    have hL1 : Hid ((w.alloc (.cells #[.int .u64 x1, .int .i64 x2, .int .u64 x3, .int .u64 x4] 30)).heap[B]? = some (.cells #[.int .u64 s1, .int .i64 s2, .bool s3, .slice ga gs.length gc] 41 (0, 0))) := (hW1.block B hBl).trans HL.out
    have hO1 : Hid (OwnG (w.alloc (.cells #[.int .u64 x1, .int .i64 x2, .int .u64 x3, .int .u64 x4] 30)) base (.slice ga gs.length gc) gs) := own_below HO.out hW1
    have hsz1 : w.heap.size ≤ (w.alloc (.cells #[.int .u64 x1, .int .i64 x2, .int .u64 x3, .int .u64 x4] 30)).heap.size := hW1.size
    generalize w.alloc (.cells #[.int .u64 x1, .int .i64 x2, .int .u64 x3, .int .u64 x4] 30) = W1 at *
    have l0 := fun y : Later W1 => y.cell e0
    have l1 := fun y : Later W1 => y.cell e1
    have l2 := fun y : Later W1 => y.cell e2
    have l3 := fun y : Later W1 => y.cell e3
    have l4 := fun y : Later W1 => y.cell hl0
    have l5 := fun y : Later W1 => y.cell hl3
    refine wp_region_later_lit (by kernel_rfl) (by kernel_rfl) ?_
    repeat (any_goals (first | go_big_quiet_step ((go_at_call 71; exact Calls.laterB (above_any _ _ _ _ _))) | quiet_step ((go_at_call 71; exact Calls.laterB (above_any _ _ _ _ _)))))
    refine wpQuiet_nil ?_
    intro _ hw'
    obtain ⟨y, hw''⟩ := hw'
    subst hw''
    have hy := y.h
    generalize y.w = W2 at hy ⊢
    go_wp2
    go_end0
    rw [hR.out]
    exact ⟨⟨_, rfl⟩, hA1.out.below hy, hbw1.trans (hy.mono (by omega))⟩
end Go.Proofs.Ytcleaamjfjnkkaa
/- What the first entries of a log say. -/
namespace Go.Proofs.Ytcleaamjfjnkkaa
open Go.RowKit Go.Joins

/-- how many of the first. -/
def cut (commit : Int) (n : Nat) : Nat := (max 0 (min commit (n : Int))).toNat
theorem cut_le (commit : Int) (n : Nat) : cut commit n ≤ n := by unfold cut; omega
theorem foldL_snoc (es : List Ent) (x : Ent) : foldL (es ++ [x]) = lstep (foldL es) x := by simp [foldL]
theorem lstep_len (s : Line) (e : Ent) : (lstep s e).2.2.2.length ≤ s.2.2.2.length + 1 := by
  unfold lstep
  split
  · simp
  · split
    · simp
    · split
      · simp
      · simp
theorem foldL_len (es : List Ent) : ∀ k, k ≤ es.length → (foldL (es.take k)).2.2.2.length ≤ k := by
  intro k
  induction k with
  | zero => intro _; simp [foldL]
  | succ k ih =>
    intro hk
    rw [take_snoc es k default (by omega), foldL_snoc]
    have := lstep_len (foldL (es.take k)) (es.getD k default)
    have := ih (by omega)
    omega
def LinePost (s : Line) (w : World) (e : Ending) (w' : World) : Prop := ∃ v, e = .returned (.agg #[.int .u64 s.1, .int .i64 s.2.1, .bool s.2.2.1, v]) ∧ OwnG w' w.heap.size v s.2.2.2 ∧ Below w.heap.size w w'
theorem OwnG.mono {w : World} {base base' : Nat} {v : Value} {gs : List Gid} (h : OwnG w base v gs) (hb : base' ≤ base) : OwnG w base' v gs := by
  refine ⟨h.1, ?_⟩
  rcases h.2 with h2 | ⟨g, cap, cur, e1, e2, r⟩
  · exact .inl h2
  · exact .inr ⟨g, cap, cur, e1, by omega, r⟩

theorem line_cells {w : World} {B : Nat} {a0 a1 a2 a3 : Value} (h : w.heap[B]? = some (.cells #[a0, a1, a2, a3] 41 (0, 0))) (b0 b1 b2 b3 : Value) :
    ((((w.setCell ⟨B, 0, none⟩ b0).setCell ⟨B, 1, none⟩ b1).setCell ⟨B, 2, none⟩ b2).setCell ⟨B, 3, none⟩ b3).heap[B]? = some (.cells #[b0, b1, b2, b3] 41 (0, 0)) := by
  rw [block_setCell (block_setCell (block_setCell (block_setCell h _) _) _) _]; rfl
theorem res21 (tmps : Array Value) (w : World) (R : Nat) (s1 s2 : Int) (s3 : Bool) (v : Value) (h4 : tmps.getD 4 undef = .pointer (some ⟨R, 0, none⟩)) (hR : w.heap[R]? = some (.cells #[.int .u64 s1, .int .i64 s2, .bool s3, v] 41 (0, 0))) :
    (results Try.f54 tmps).run Try.prog w = .ok (.agg #[.int .u64 s1, .int .i64 s2, .bool s3, v]) w := by
  have h4' : tmps[4]?.getD undef = .pointer (some ⟨R, 0, none⟩) := by simpa using h4
  have r0 := cell_of_block hR 0
  have r1 := cell_of_block hR 1
  have r2 := cell_of_block hR 2
  have r3 := cell_of_block hR 3
  simp only [List.getElem?_toArray, List.getElem?_cons_zero, List.getElem?_cons_succ] at r0 r1 r2 r3
  simp [results, Try.results54, h4', asAddr, r0, r1, r2, r3, go_sem]

set_option maxRecDepth 100000 in
set_option maxHeartbeats 4000000 in
theorem fold_any (a : Option Addr) (cap : Nat) (es : List Ent) (commit : Int) (w : World) (h : Sl w a cap es) (hlen : es.length < 100000) :
    Calls Try.prog 54 #[.slice a es.length cap, .int .i64 commit] w (LinePost (foldL (es.take (cut commit es.length))) w) := by
  have HS := Lib.hid h
  have hll := h.len
  have hlc := h.capm
  unfold maxLen at hlc
  have hz := fun (w : World) => (by kernel_rfl : (zeroValue 41).run Try.prog w = .ok (.agg #[.int .u64 0, .int .i64 0, .bool false, .slice none 0 0]) w)
  clear h
  have hW : Hid (∀ o1 o2, Below w.heap.size w ((w.alloc o1).alloc o2) ∧ ((w.alloc o1).alloc o2).heap.size = w.heap.size + 1 + 1) := fun o1 o2 => ⟨((Below.refl _ w).alloc (Nat.le_refl _) _).alloc (by simp) _, by simp⟩
  have hL0 : Hid (LineAt ((w.alloc (.cells #[.int .u64 0, .int .i64 0, .bool false, .slice none 0 0] 41)).alloc (.cells #[.int .u64 0, .int .i64 0, .bool false, .slice none 0 0] 41)) (w.heap.size + 1 + 1) (w.heap.size + 1) (foldL (es.take 0))) := by
    refine ⟨_, ?_, ownG_nil _ _⟩
    have := World.alloc_heap_new (w.alloc (.cells #[.int .u64 0, .int .i64 0, .bool false, .slice none 0 0] 41)) (.cells #[.int .u64 0, .int .i64 0, .bool false, .slice none 0 0] 41)
    rw [World.size_alloc] at this
    exact this
  have hR0 : Hid (((w.alloc (.cells #[.int .u64 0, .int .i64 0, .bool false, .slice none 0 0] 41)).alloc (.cells #[.int .u64 0, .int .i64 0, .bool false, .slice none 0 0] 41)).heap[w.heap.size]? = some (.cells #[.int .u64 0, .int .i64 0, .bool false, .slice none 0 0] 41 (0, 0))) :=
    (Below.heap_alloc _ _ _ (by simp)).trans (World.alloc_heap_new w _)
  by_cases h1 : commit ≤ 0
  · have hm : Hid (cut commit es.length = 0) := by unfold Hid cut; omega
    go_enter Try.func54, Try.ntmps54
    go_wp2
    have HA := Lib.hid (hW.out (.cells #[.int .u64 0, .int .i64 0, .bool false, .slice none 0 0] 41) (.cells #[.int .u64 0, .int .i64 0, .bool false, .slice none 0 0] 41))
    generalize (w.alloc (.cells #[.int .u64 0, .int .i64 0, .bool false, .slice none 0 0] 41)).alloc (.cells #[.int .u64 0, .int .i64 0, .bool false, .slice none 0 0] 41) = W0 at *
    clear hW hz
    go_loopg [8, 18] (0) (fun k v8 v18 wr => ∃ i : Nat, i + k = 0 ∧ v18 = .int .i64 (i : Int) ∧ LineAt wr (w.heap.size + 1 + 1) (w.heap.size + 1) (foldL (es.take i)) ∧ Below (w.heap.size + 1) W0 wr)
    case atStart => exact ⟨0, by omega, rfl, hL0.out, Below.refl _ _⟩
    case round =>
      obtain ⟨i, hik, rfl, hLn, hB⟩ := hrel
      have HLn := Lib.hid hLn
      have HB := Lib.hid hB
      have hBw : Hid (Below w.heap.size w wr) := HA.out.1.trans (hB.mono (by omega))
      have hsz : w.heap.size + 1 + 1 ≤ wr.heap.size := by have := hB.size; have := HA.out.2; omega
      clear hLn hB
      have hlt : ¬ i < 0 := by omega
      obtain rfl : 0 = i := by omega
      obtain ⟨v, hLv, hOv⟩ := HLn.out
      unfold LineIs at hLv
      have hRv := (HB.out.block w.heap.size (by omega)).trans hR0.out
      obtain ⟨ga, gc, rfl, -⟩ := own_gids hOv
      generalize hs : foldL (es.take (0)) = s at *
      obtain ⟨s1, s2, s3, gs⟩ := s
      simp only at hLv hOv
      have c0 := cell_of_block hLv 0
      have c1 := cell_of_block hLv 1
      have c2 := cell_of_block hLv 2
      have c3 := cell_of_block hLv 3
      have r0 := cell_of_block hRv 0
      have r1 := cell_of_block hRv 1
      have r2 := cell_of_block hRv 2
      have r3 := cell_of_block hRv 3
      simp only [List.getElem?_toArray, List.getElem?_cons_zero, List.getElem?_cons_succ] at c0 c1 c2 c3 r0 r1 r2 r3
      have f0 := unfrozen_of_block hRv 0
      have f1 := unfrozen_of_block hRv 1
      have f2 := unfrozen_of_block hRv 2
      have f3 := unfrozen_of_block hRv 3
      have HLv := Lib.hid hLv
      have HOv := Lib.hid hOv
      have HRv := Lib.hid hRv
      have HHS := Lib.hid hs
      clear hLv hOv hRv hs
      go_wp2
      have hRw := line_cells HRv.out (.int .u64 s1) (.int .i64 s2) (.bool s3) (.slice ga gs.length gc)
      have hOw := (((OwnG.set HOv.out HRv.out 0 (.int .u64 s1)).set (block_setCell HRv.out _) 1 (.int .i64 s2)).set (block_setCell (block_setCell HRv.out _) _) 2 (.bool s3)).set (block_setCell (block_setCell (block_setCell HRv.out _) _) _) 3 (.slice ga gs.length gc)
      have hBn := (((hBw.out.setCell (p := ⟨w.heap.size, 0, none⟩) (Nat.le_refl _) (.int .u64 s1)).setCell (p := ⟨w.heap.size, 1, none⟩) (Nat.le_refl _) (.int .i64 s2)).setCell (p := ⟨w.heap.size, 2, none⟩) (Nat.le_refl _) (.bool s3)).setCell (p := ⟨w.heap.size, 3, none⟩) (Nat.le_refl _) (.slice ga gs.length gc)
      refine bodyPost_ret (res21 _ _ _ _ _ _ _ rfl hRw) rfl ?_
      rw [hm.out, HHS.out]
      exact ⟨_, rfl, hOw.mono (by omega), hBn⟩
  have h2 : 0 < commit := by omega
  clear h1
  by_cases he : es.length = 0
  · have h0 : es = [] := List.eq_nil_of_length_eq_zero he
    subst h0
    have hm : Hid (cut commit 0 = 0) := by unfold Hid cut; omega
    clear he
    go_enter Try.func54, Try.ntmps54
    go_wp2
    have HA := Lib.hid (hW.out (.cells #[.int .u64 0, .int .i64 0, .bool false, .slice none 0 0] 41) (.cells #[.int .u64 0, .int .i64 0, .bool false, .slice none 0 0] 41))
    generalize (w.alloc (.cells #[.int .u64 0, .int .i64 0, .bool false, .slice none 0 0] 41)).alloc (.cells #[.int .u64 0, .int .i64 0, .bool false, .slice none 0 0] 41) = W0 at *
    clear hW hz
    go_loopg [8, 18] (0) (fun k v8 v18 wr => ∃ i : Nat, i + k = 0 ∧ v18 = .int .i64 (i : Int) ∧ LineAt wr (w.heap.size + 1 + 1) (w.heap.size + 1) (foldL (([] : List Ent).take i)) ∧ Below (w.heap.size + 1) W0 wr)
    case atStart => exact ⟨0, by omega, rfl, hL0.out, Below.refl _ _⟩
    case round =>
      obtain ⟨i, hik, rfl, hLn, hB⟩ := hrel
      have HLn := Lib.hid hLn
      have HB := Lib.hid hB
      have hBw : Hid (Below w.heap.size w wr) := HA.out.1.trans (hB.mono (by omega))
      have hsz : w.heap.size + 1 + 1 ≤ wr.heap.size := by have := hB.size; have := HA.out.2; omega
      clear hLn hB
      have hlt : ¬ i < 0 := by omega
      obtain rfl : 0 = i := by omega
      obtain ⟨v, hLv, hOv⟩ := HLn.out
      unfold LineIs at hLv
      have hRv := (HB.out.block w.heap.size (by omega)).trans hR0.out
      obtain ⟨ga, gc, rfl, -⟩ := own_gids hOv
      generalize hs : foldL (([] : List Ent).take (0)) = s at *
      obtain ⟨s1, s2, s3, gs⟩ := s
      simp only at hLv hOv
      have c0 := cell_of_block hLv 0
      have c1 := cell_of_block hLv 1
      have c2 := cell_of_block hLv 2
      have c3 := cell_of_block hLv 3
      have r0 := cell_of_block hRv 0
      have r1 := cell_of_block hRv 1
      have r2 := cell_of_block hRv 2
      have r3 := cell_of_block hRv 3
      simp only [List.getElem?_toArray, List.getElem?_cons_zero, List.getElem?_cons_succ] at c0 c1 c2 c3 r0 r1 r2 r3
      have f0 := unfrozen_of_block hRv 0
      have f1 := unfrozen_of_block hRv 1
      have f2 := unfrozen_of_block hRv 2
      have f3 := unfrozen_of_block hRv 3
      have HLv := Lib.hid hLv
      have HOv := Lib.hid hOv
      have HRv := Lib.hid hRv
      have HHS := Lib.hid hs
      clear hLv hOv hRv hs
      go_wp2
      have hRw := line_cells HRv.out (.int .u64 s1) (.int .i64 s2) (.bool s3) (.slice ga gs.length gc)
      have hOw := (((OwnG.set HOv.out HRv.out 0 (.int .u64 s1)).set (block_setCell HRv.out _) 1 (.int .i64 s2)).set (block_setCell (block_setCell HRv.out _) _) 2 (.bool s3)).set (block_setCell (block_setCell (block_setCell HRv.out _) _) _) 3 (.slice ga gs.length gc)
      have hBn := (((hBw.out.setCell (p := ⟨w.heap.size, 0, none⟩) (Nat.le_refl _) (.int .u64 s1)).setCell (p := ⟨w.heap.size, 1, none⟩) (Nat.le_refl _) (.int .i64 s2)).setCell (p := ⟨w.heap.size, 2, none⟩) (Nat.le_refl _) (.bool s3)).setCell (p := ⟨w.heap.size, 3, none⟩) (Nat.le_refl _) (.slice ga gs.length gc)
      refine bodyPost_ret (res21 _ _ _ _ _ _ _ rfl hRw) rfl ?_
      rw [hm.out, HHS.out]
      exact ⟨_, rfl, hOw.mono (by omega), hBn⟩
  have hep : 0 < es.length := by omega
  clear he
  by_cases h3 : commit ≤ es.length
  · obtain ⟨m, rfl⟩ := Int.eq_ofNat_of_zero_le (show 0 ≤ commit by omega)
    have hm : Hid (cut (m : Int) es.length = m) := by unfold Hid cut; omega
    have hml : m ≤ es.length := by omega
    have hmp : 0 < m := by omega
    clear h2 h3
    go_enter Try.func54, Try.ntmps54
    go_wp2
    have HA := Lib.hid (hW.out (.cells #[.int .u64 0, .int .i64 0, .bool false, .slice none 0 0] 41) (.cells #[.int .u64 0, .int .i64 0, .bool false, .slice none 0 0] 41))
    generalize (w.alloc (.cells #[.int .u64 0, .int .i64 0, .bool false, .slice none 0 0] 41)).alloc (.cells #[.int .u64 0, .int .i64 0, .bool false, .slice none 0 0] 41) = W0 at *
    clear hW hz
    go_loopg [8, 18] (m) (fun k v8 v18 wr => ∃ i : Nat, i + k = m ∧ v18 = .int .i64 (i : Int) ∧ LineAt wr (w.heap.size + 1 + 1) (w.heap.size + 1) (foldL (es.take i)) ∧ Below (w.heap.size + 1) W0 wr)
    case atStart => exact ⟨0, by omega, rfl, hL0.out, Below.refl _ _⟩
    case round =>
      obtain ⟨i, hik, rfl, hLn, hB⟩ := hrel
      have HLn := Lib.hid hLn
      have HB := Lib.hid hB
      have hBw : Hid (Below w.heap.size w wr) := HA.out.1.trans (hB.mono (by omega))
      have hsz : w.heap.size + 1 + 1 ≤ wr.heap.size := by have := hB.size; have := HA.out.2; omega
      clear hLn hB
      by_cases hlt : i < m
      · obtain ⟨b, off, rfl, g⟩ := (HS.out.below hBw.out).ents i (by omega)
        have hst : Hid (foldL (es.take (i + 1)) = lstep (foldL (es.take i)) (es.getD i default)) := by rw [Hid, take_snoc es i default (by omega), foldL_snoc]
        have hgl : Hid ((foldL (es.take i)).2.2.2.length < 100000) := by have := foldL_len es i (by omega); unfold Hid; omega
        generalize foldL (es.take i) = s at *
        generalize es.getD i default = x at *
        obtain ⟨x1, x2, x3, x4⟩ := x
        obtain ⟨s1, s2, s3, gs⟩ := s
        obtain ⟨g1, g2, g3, g4⟩ := g
        simp only at g1 g2 g3 g4
        have hadd : Hid (∀ o, Calls Try.prog 70 #[.agg #[.int .u64 x1, .int .i64 x2, .int .u64 x3, .int .u64 x4], .pointer (some ⟨w.heap.size + 1, 0, none⟩)] (wr.alloc o) (StepPost (w.heap.size + 1) (w.heap.size + 1 + 1) (w.heap.size + 1) (lstep (s1, s2, s3, gs) (x1, x2, x3, x4)) (wr.alloc o))) := fun o =>
          add_any x1 x2 x3 x4 (w.heap.size + 1) (w.heap.size + 1 + 1) (w.heap.size + 1) s1 s2 s3 gs _ (HLn.out.below ((Below.refl _ wr).alloc (Nat.le_refl _) o)) (Nat.le_refl _) (by simp; omega) (by omega) hgl.out
        go_wp2_with (go_at_call 70; refine (hadd.out _).mono ?_; rintro e w3 ⟨⟨v3, rfl⟩, hL3, hb3⟩)
        go_roundg (gk - 1)
        case measure => omega
        case rel => exact ⟨i + 1, by omega, by simp, by rw [hst.out]; exact hL3, (HB.out.alloc (by omega) _).trans hb3⟩
      · obtain rfl : m = i := by omega
        obtain ⟨v, hLv, hOv⟩ := HLn.out
        unfold LineIs at hLv
        have hRv := (HB.out.block w.heap.size (by omega)).trans hR0.out
        obtain ⟨ga, gc, rfl, -⟩ := own_gids hOv
        generalize hs : foldL (es.take (m)) = s at *
        obtain ⟨s1, s2, s3, gs⟩ := s
        simp only at hLv hOv
        have c0 := cell_of_block hLv 0
        have c1 := cell_of_block hLv 1
        have c2 := cell_of_block hLv 2
        have c3 := cell_of_block hLv 3
        have r0 := cell_of_block hRv 0
        have r1 := cell_of_block hRv 1
        have r2 := cell_of_block hRv 2
        have r3 := cell_of_block hRv 3
        simp only [List.getElem?_toArray, List.getElem?_cons_zero, List.getElem?_cons_succ] at c0 c1 c2 c3 r0 r1 r2 r3
        have f0 := unfrozen_of_block hRv 0
        have f1 := unfrozen_of_block hRv 1
        have f2 := unfrozen_of_block hRv 2
        have f3 := unfrozen_of_block hRv 3
        have HLv := Lib.hid hLv
        have HOv := Lib.hid hOv
        have HRv := Lib.hid hRv
        have HHS := Lib.hid hs
        clear hLv hOv hRv hs
        go_wp2
        have hRw := line_cells HRv.out (.int .u64 s1) (.int .i64 s2) (.bool s3) (.slice ga gs.length gc)
        have hOw := (((OwnG.set HOv.out HRv.out 0 (.int .u64 s1)).set (block_setCell HRv.out _) 1 (.int .i64 s2)).set (block_setCell (block_setCell HRv.out _) _) 2 (.bool s3)).set (block_setCell (block_setCell (block_setCell HRv.out _) _) _) 3 (.slice ga gs.length gc)
        have hBn := (((hBw.out.setCell (p := ⟨w.heap.size, 0, none⟩) (Nat.le_refl _) (.int .u64 s1)).setCell (p := ⟨w.heap.size, 1, none⟩) (Nat.le_refl _) (.int .i64 s2)).setCell (p := ⟨w.heap.size, 2, none⟩) (Nat.le_refl _) (.bool s3)).setCell (p := ⟨w.heap.size, 3, none⟩) (Nat.le_refl _) (.slice ga gs.length gc)
        refine bodyPost_ret (res21 _ _ _ _ _ _ _ rfl hRw) rfl ?_
        rw [hm.out, HHS.out]
        exact ⟨_, rfl, hOw.mono (by omega), hBn⟩
  · have h4 : (es.length : Int) < commit := by omega
    have hm : Hid (cut commit es.length = es.length) := by unfold Hid cut; omega
    clear h2 h3
    go_enter Try.func54, Try.ntmps54
    go_wp2
    have HA := Lib.hid (hW.out (.cells #[.int .u64 0, .int .i64 0, .bool false, .slice none 0 0] 41) (.cells #[.int .u64 0, .int .i64 0, .bool false, .slice none 0 0] 41))
    generalize (w.alloc (.cells #[.int .u64 0, .int .i64 0, .bool false, .slice none 0 0] 41)).alloc (.cells #[.int .u64 0, .int .i64 0, .bool false, .slice none 0 0] 41) = W0 at *
    clear hW hz
    go_loopg [8, 18] (es.length) (fun k v8 v18 wr => ∃ i : Nat, i + k = es.length ∧ v18 = .int .i64 (i : Int) ∧ LineAt wr (w.heap.size + 1 + 1) (w.heap.size + 1) (foldL (es.take i)) ∧ Below (w.heap.size + 1) W0 wr)
    case atStart => exact ⟨0, by omega, rfl, hL0.out, Below.refl _ _⟩
    case round =>
      obtain ⟨i, hik, rfl, hLn, hB⟩ := hrel
      have HLn := Lib.hid hLn
      have HB := Lib.hid hB
      have hBw : Hid (Below w.heap.size w wr) := HA.out.1.trans (hB.mono (by omega))
      have hsz : w.heap.size + 1 + 1 ≤ wr.heap.size := by have := hB.size; have := HA.out.2; omega
      clear hLn hB
      by_cases hlt : i < es.length
      · obtain ⟨b, off, rfl, g⟩ := (HS.out.below hBw.out).ents i (by omega)
        have hst : Hid (foldL (es.take (i + 1)) = lstep (foldL (es.take i)) (es.getD i default)) := by rw [Hid, take_snoc es i default (by omega), foldL_snoc]
        have hgl : Hid ((foldL (es.take i)).2.2.2.length < 100000) := by have := foldL_len es i (by omega); unfold Hid; omega
        generalize foldL (es.take i) = s at *
        generalize es.getD i default = x at *
        obtain ⟨x1, x2, x3, x4⟩ := x
        obtain ⟨s1, s2, s3, gs⟩ := s
        obtain ⟨g1, g2, g3, g4⟩ := g
        simp only at g1 g2 g3 g4
        have hadd : Hid (∀ o, Calls Try.prog 70 #[.agg #[.int .u64 x1, .int .i64 x2, .int .u64 x3, .int .u64 x4], .pointer (some ⟨w.heap.size + 1, 0, none⟩)] (wr.alloc o) (StepPost (w.heap.size + 1) (w.heap.size + 1 + 1) (w.heap.size + 1) (lstep (s1, s2, s3, gs) (x1, x2, x3, x4)) (wr.alloc o))) := fun o =>
          add_any x1 x2 x3 x4 (w.heap.size + 1) (w.heap.size + 1 + 1) (w.heap.size + 1) s1 s2 s3 gs _ (HLn.out.below ((Below.refl _ wr).alloc (Nat.le_refl _) o)) (Nat.le_refl _) (by simp; omega) (by omega) hgl.out
        go_wp2_with (go_at_call 70; refine (hadd.out _).mono ?_; rintro e w3 ⟨⟨v3, rfl⟩, hL3, hb3⟩)
        go_roundg (gk - 1)
        case measure => omega
        case rel => exact ⟨i + 1, by omega, by simp, by rw [hst.out]; exact hL3, (HB.out.alloc (by omega) _).trans hb3⟩
      · obtain rfl : es.length = i := by omega
        obtain ⟨v, hLv, hOv⟩ := HLn.out
        unfold LineIs at hLv
        have hRv := (HB.out.block w.heap.size (by omega)).trans hR0.out
        obtain ⟨ga, gc, rfl, -⟩ := own_gids hOv
        generalize hs : foldL (es.take (es.length)) = s at *
        obtain ⟨s1, s2, s3, gs⟩ := s
        simp only at hLv hOv
        have c0 := cell_of_block hLv 0
        have c1 := cell_of_block hLv 1
        have c2 := cell_of_block hLv 2
        have c3 := cell_of_block hLv 3
        have r0 := cell_of_block hRv 0
        have r1 := cell_of_block hRv 1
        have r2 := cell_of_block hRv 2
        have r3 := cell_of_block hRv 3
        simp only [List.getElem?_toArray, List.getElem?_cons_zero, List.getElem?_cons_succ] at c0 c1 c2 c3 r0 r1 r2 r3
        have f0 := unfrozen_of_block hRv 0
        have f1 := unfrozen_of_block hRv 1
        have f2 := unfrozen_of_block hRv 2
        have f3 := unfrozen_of_block hRv 3
        have HLv := Lib.hid hLv
        have HOv := Lib.hid hOv
        have HRv := Lib.hid hRv
        have HHS := Lib.hid hs
        clear hLv hOv hRv hs
        go_wp2
        have hRw := line_cells HRv.out (.int .u64 s1) (.int .i64 s2) (.bool s3) (.slice ga gs.length gc)
        have hOw := (((OwnG.set HOv.out HRv.out 0 (.int .u64 s1)).set (block_setCell HRv.out _) 1 (.int .i64 s2)).set (block_setCell (block_setCell HRv.out _) _) 2 (.bool s3)).set (block_setCell (block_setCell (block_setCell HRv.out _) _) _) 3 (.slice ga gs.length gc)
        have hBn := (((hBw.out.setCell (p := ⟨w.heap.size, 0, none⟩) (Nat.le_refl _) (.int .u64 s1)).setCell (p := ⟨w.heap.size, 1, none⟩) (Nat.le_refl _) (.int .i64 s2)).setCell (p := ⟨w.heap.size, 2, none⟩) (Nat.le_refl _) (.bool s3)).setCell (p := ⟨w.heap.size, 3, none⟩) (Nat.le_refl _) (.slice ga gs.length gc)
        refine bodyPost_ret (res21 _ _ _ _ _ _ _ rfl hRw) rfl ?_
        rw [hm.out, HHS.out]
        exact ⟨_, rfl, hOw.mono (by omega), hBn⟩
end Go.Proofs.Ytcleaamjfjnkkaa
