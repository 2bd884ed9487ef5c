/- slices.Delete of one frame; a frame leaves. -/
import Derived.Test.YtmiaifbpepfbnaaLeaf
import Derived.Test.YtmiaifbpepfbnaaDel
import Derived.Deep.DeepAppendRoom
import Derived.Shelf.RegionOpenPlain
namespace Go.Proofs.Ytmiaifbpepfbnaa
open Go.RowKit Go.Joins Go.ChangeMaps

theorem eraseIdx_eq {α : Type} (xs : List α) (k : Nat) : xs.eraseIdx k = xs.take k ++ xs.drop (k + 1) := List.eraseIdx_eq_take_drop_succ ..
theorem zero31 (w : World) : (zeroValue 31).run Try.prog w = .ok (frV nof) w := by kernel_rfl
/-- the append of Delete, as a step. -/
theorem step_del {ops : Array Oper} {o : Oper} {a : Act} {w : World} {K : Act → World → Prop} {Q : Exit → Act → World → Prop} {E : Prop}
    (hg : o.guard = none) (s x : Operand) (hop : o.op = Op.call { callee := Callee.builtin Builtin.append, args := #[s, x], argTypes := #[25, 25] })
    (base g k cap : Nat) (xs ys : List Fr) (hk : xs.length = k) (hs : a.eval s = .slice (some ⟨g, 0, none⟩) k cap) (hown : OwnF w base (.slice (some ⟨g, 0, none⟩) k cap) xs)
    (ad : Addr) (m c : Nat) (hm : ys.length = m) (hx : a.eval x = .slice (some ad) m c) (hl : ∀ j u, (flatOf encF ys)[j]? = some u → w.cell? (ad.add j) = some u) (hroom : k + m ≤ cap) (r : Nat) (hr : k + m = r)
    (hK : ∀ w', OwnF w' base (.slice (some ⟨g, 0, none⟩) r cap) (xs ++ ys) → w.grownBy w' (some g) → K (a.put o.dst (.slice (some ⟨g, 0, none⟩) r cap)) w') :
    if Region.wanted o (yielded ops a.tmps) = true then Oper.wp Try.prog o a w K Q else E := by
  have hw : Region.wanted o (yielded ops a.tmps) = true := by simp [Region.wanted, hg]
  rw [if_pos hw]
  subst hr hk hm
  obtain ⟨i, z, hi, hz, h1, h2, h3⟩ := TF.inf
  refine wp_append_own_spare w s x 25 hop base 31 i 3 TF.und hi h1 g xs.length cap (flatOf encF xs) hs hown ad ys.length c (flatOf encF ys) hx (flatOf_length EF ys) hl (flatOf_one EF ys) hroom ?_
  intro w' ho hg
  exact hK w' (by unfold OwnF OwnL; rw [List.length_append, flatOf_append]; exact ho) hg
set_option maxHeartbeats 1000000 in
set_option maxRecDepth 100000 in
theorem delete_any (base g cap n k : Nat) (xs : List Fr) (hn : xs.length = n) (w : World) (h : OwnF w base (.slice (some ⟨g, 0, none⟩) n cap) xs) (hk : k < n) :
    Calls Try.prog 41 #[.slice (some ⟨g, 0, none⟩) n cap, .int .i64 (k : Int), .int .i64 ((k : Int) + 1)] w (fun e w' => e = .returned (.slice (some ⟨g, 0, none⟩) (n - 1) cap) ∧ OwnF w' base (.slice (some ⟨g, 0, none⟩) (n - 1) cap) (xs.eraseIdx k) ∧ Mod (fun j => j = g) w w') := by
  have hS := h.slix EF
  have hcap := hS.len
  have hcm := hS.capm
  unfold maxLen at hcm
  have hne : ((k : Int) == (k : Int) + 1) = false := by simp; omega
  have hk1 : (k : Int) + 1 ≤ (n : Int) := by omega
  have hH := Lib.hid h
  clear h
  have hpre := Lib.hid (OwnL.prefix EF hH.out (m := k) (by omega))
  obtain ⟨A, hA, hsrc⟩ : ∃ A : Addr, (if cap = k + 1 then (some ⟨g, 0, none⟩ : Option Addr) else some ⟨g, (k + 1) * 3, none⟩) = some A ∧ Hid (∀ W : World, W.heap = w.heap → ∀ j u, (flatOf encF (xs.drop (k + 1)))[j]? = some u → W.cell? (A.add j) = some u) := by
    by_cases hc : cap = k + 1
    · refine ⟨⟨g, 0, none⟩, by simp [hc], fun W hW j u hu => ?_⟩
      have : xs.drop (k + 1) = [] := List.drop_eq_nil_of_le (by omega)
      rw [this] at hu
      simp [flatOf] at hu
    · refine ⟨⟨g, (k + 1) * 3, none⟩, by simp [hc], fun W hW j u hu => ?_⟩
      have hd := Lst.drop hS.lst (k + 1)
      rw [Nat.zero_add] at hd
      have := hd.news EF j u hu
      rw [← this]
      simp [World.cell?, hW]
  have hlen2 : (xs.drop (k + 1)).length = n - (k + 1) := by simp; omega
  have HL := Lib.hid hlen2
  clear hlen2 hS
  have mixed : Try.prog.follows .mixedOrders = true := by kernel_rfl
  have hic : k ≤ cap := by omega
  have hjc : k + 1 ≤ cap := by omega
  have h01 : (0 : Int) ≤ (k : Int) + 1 := by omega
  go_enter Try.func41, Try.ntmps41
  go_wp2_with fail
  go_region_law_o (refine step_del rfl (.tmp 22) (.tmp 25) rfl base g k cap (xs.take k) (xs.drop (k + 1)) (by simp; omega) (by simp [Act.eval, Act.put]) hpre.out A (n - (k + 1)) (cap - (k + 1)) HL.out (by simp [Act.eval, Act.put]) (hsrc.out _ rfl) (by omega) (n - 1) (by omega) ?_; intro W1 ho1 hg1)
  have hO1 := Lib.hid ho1
  have hM1 := Lib.hid (Mod.grown (S := fun j => j = g) hg1 (fun j hj => by cases hj; rfl))
  have hn1 : n - 1 ≤ n := by omega
  have hn2 : n ≤ cap := by omega
  have hn3 : ¬ cap = n - 1 := by omega
  have hn4 : n - (n - 1) = 1 := by omega
  have hcl : ∀ ty, (Builtin.clear_ #[25] ty #[.slice (some ⟨g, (n - 1) * 3, none⟩) 1 (cap - (n - 1))]).run Try.prog W1 = .ok (.tuple #[]) (W1.setCells g ((n - 1) * 3) (encF nof)) := by
    obtain ⟨cur, hb, hsz⟩ : ∃ cur, W1.heap[g]? = some (.cells cur 31 (0, 0)) ∧ cur.size = cap * 3 := by
      rcases hO1.out.2 with ⟨e, _⟩ | ⟨g', cap', cur, e1, _, h2, _, _, h3, _⟩
      · cases e
      · simp at e1
        obtain ⟨rfl, -, rfl⟩ := e1
        exact ⟨cur, h2, h3⟩
    intro ty
    refine run_clear_one W1 25 31 ty (frV nof) (encF nof) Try.underlying25 zero31 rfl (EF.one nof) g _ _ (fun j hj => ?_) (fun j hj => ?_)
    · have : (n - 1) * 3 + j < cur.size := by rw [hsz]; simp [encF] at hj; omega
      simp [World.cell?, hb, this]
    · simp [World.frozen?, hb]
  clear ho1 hg1 hpre hsrc hH HL
  go_wp2
  go_ret
  refine ⟨rfl, ?_, (show Mod (fun j => j = g) w w.drew from ⟨rfl, rfl, rfl, Nat.le_refl _, fun _ _ _ => rfl⟩).trans (hM1.out.trans (setCells_mod _ _ _))⟩
  rw [eraseIdx_eq]
  refine OwnL.setCells hO1.out _ ?_ _
  simp
  omega
def Tup0 (R : World → Prop) (e : Ending) (w' : World) : Prop := e = .returned (.tuple #[]) ∧ R w'
set_option maxHeartbeats 1000000 in
set_option maxRecDepth 100000 in
theorem leave_any (base p bm b c : Nat) (v : Value) (s : St) (k : Nat) (w : World) (h : PN w base p bm v s) (hk : k < s.fl.length) (hc : w.cell? ⟨b, 0, none⟩ = some (.int .i64 (k : Int))) :
    Calls Try.prog 32 #[.pointer (some ⟨p, 0, none⟩), .slice (some ⟨b, 0, none⟩) 1 c] w (Tup0 (PUpd base p bm v (leaveS s k) w)) := by
  have hkb : (k : Int) + 1 < 9223372036854775808 := by
    have h2 := (h.own.sli EF)
    obtain ⟨a, cap, e, hs, -⟩ := h2
    have h3 := hs.len
    have h4 := hs.capm
    unfold maxLen at h4
    omega
  obtain ⟨g, cap, hv, -, -⟩ := h.own.form (by omega)
  subst hv
  have hP := Lib.hid h
  have c1 := h.c.1.2.1
  have hne : p ≠ g := by
    rintro rfl
    obtain ⟨_, cur, hh⟩ := h.own.block (g := p) rfl
    rw [h.blk] at hh; simp at hh
  have hKl := Lib.hid hk
  generalize hn : s.fl.length = n at *
  have hN := Lib.hid hn
  clear h hk hn
  go_enter Try.func32, Try.ntmps32
  go_wp2
  go_loopg [5, 8] 1 (fun gk v5 v8 wr => (gk = 1 ∧ v8 = .int .i64 0 ∧ wr = w) ∨ (gk = 0 ∧ v8 = .int .i64 1 ∧ PUpd base p bm (.slice (some ⟨g, 0, none⟩) n cap) (leaveS s k) w wr))
  case atStart => exact .inl ⟨rfl, rfl, rfl⟩
  case round =>
    rcases hrel with ⟨hg1, rfl, rfl⟩ | ⟨hg0, rfl, hU⟩
    · have c1 := Lib.hid c1
      obtain ⟨f1, f2, f3⟩ := hP.out.not_own
      go_wp2_with (go_at_call 41; refine (delete_any base g cap n k s.fl hN.out _ (hP.out.own) hKl.out).mono ?_; rintro e w1 ⟨rfl, ho, hm⟩; have d1 := hm.cell c1.out (fun e => hne e); have d2 := (cell_of (hm.heap hP.out.blk (fun e => hne e)) 1 rfl).2)
      go_roundg 0
      case measure => omega
      case rel =>
        refine .inr ⟨rfl, rfl, _, hP.out.put1 hm (fun e => hne e) (fun e => f2 (by rw [e]; rfl)) ho ⟨rfl, rfl, rfl, rfl, rfl⟩, (hm.mono fun j _ hj => ?_).trans ((mod_setCell p 1 w1 _).mono fun j _ hj => .inl hj), fun g hg => .inl hg⟩
        subst hj
        exact .inr (.inr rfl)
    · go_wp2
      go_end0
      exact ⟨rfl, hU⟩
end Go.Proofs.Ytmiaifbpepfbnaa
