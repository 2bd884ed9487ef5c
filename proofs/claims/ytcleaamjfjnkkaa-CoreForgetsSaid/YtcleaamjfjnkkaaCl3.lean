/- What a voter sends goes under way. -/
import Derived.Test.YtcleaamjfjnkkaaClA
import Derived.Deep.MidRow
namespace Go.Proofs.Ytcleaamjfjnkkaa
open Go.RowKit Go.Joins

def zipY (i : Int) : List Int → List RM → List RY
  | d :: ds, x :: xs => ⟨i, d, x⟩ :: zipY i ds xs
  | _, _ => []
theorem zipY_f (i : Int) : ∀ (ds : List Int) (xs : List RM), (zipY i ds xs).map RY.f = flies i ds (xs.map RM.m)
  | [], _ => by simp [zipY, flies]
  | _ :: _, [] => by simp [zipY, flies]
  | d :: ds, x :: xs => by simp only [zipY, flies, List.map_cons, zipY_f i ds xs]; rfl
theorem zipY_len (i : Int) : ∀ (ds : List Int) (xs : List RM), ds.length = xs.length → (zipY i ds xs).length = xs.length
  | [], [], _ => rfl
  | _ :: _, [], h => by simp at h
  | [], _ :: _, h => by simp at h
  | d :: ds, x :: xs, h => by simp only [zipY, List.length_cons, zipY_len i ds xs (by simpa using h)]
theorem zipY_get (i : Int) : ∀ (ds : List Int) (xs : List RM) (j : Nat), ds.length = xs.length → j < xs.length → (zipY i ds xs)[j]? = some ⟨i, ds.getD j 0, xs.getD j default⟩
  | [], [], j, _, h => by simp at h
  | _ :: _, [], j, h, _ => by simp at h
  | [], _ :: _, j, h, _ => by simp at h
  | d :: ds, x :: xs, 0, _, _ => rfl
  | d :: ds, x :: xs, j + 1, h, hj => by
    have := zipY_get i ds xs j (by simpa using h) (by simpa using hj)
    simpa [zipY] using this
theorem take_snoc' {α : Type} (l : List α) (j : Nat) (x : α) (h : l[j]? = some x) : l.take (j + 1) = l.take j ++ [x] := by
  rw [List.take_add_one, h]; rfl
theorem litY (w : World) (y : RY) : Lst encY 28 (w.alloc (.cells (encY y).toArray 92)) (some ⟨w.heap.size, 0, none⟩) [y] := by
  have h := (sli_lit EY w [y] 1 _ 92 rfl rfl (by unfold maxLen; omega)).lst
  rwa [show flatOf encY [y] = encY y by simp [flatOf]] at h
/-- of what is sent, in memory. -/
def SentS (q gt gm j : Nat) (nv : Value) (dj : Int) (x : RM) (w' : World) : Prop := w'.cell? ⟨q, 6, none⟩ = some nv ∧ w'.cell? ⟨gt, j, none⟩ = some (.int .i64 dj) ∧ w'.rangeAt gm (j * 26) [.int .i64 x.m.kind, .int .u64 x.m.term, .int .i64 x.m.prev, .int .u64 x.m.pterm, .slice x.ea x.m.ents.length x.ec, .int .i64 x.m.commit, .bool x.m.yes, .int .i64 x.m.mat, .int .i64 x.m.stamp, .int .u64 0, .int .i64 0, .bool false, .slice none 0 0, .int .i64 0, .int .u64 0, .int .u64 0, .int .u64 0, .int .u64 0, .int .i64 0, .int .u64 0, .int .u64 0, .int .u64 0, .int .u64 0, .int .i64 0, .int .i64 0, .slice none 0 0]
/-- while the list grows. -/
structure Sen (w : World) (base q : Nat) (V : Nat → VM) (l : LM) (k : Clu) (ys : List RY) (wr : World) (nv : Value) : Prop where
  at_ : KAt wr base q V { l with nv := nv } ys { k with net := ys.map RY.f }
  mod : Mod (KF q V l) w wr
  fr : ∀ b, KF q V { l with nv := nv } b → KF q V l b ∨ w.heap.size ≤ b
theorem Sen.start {w : World} {base q : Nat} {V : Nat → VM} {l : LM} {k : Clu} {ys : List RY} (h : KAt w base q V l ys k) : Sen w base q V l k (ys ++ []) w l.nv := by
  rw [List.append_nil]
  refine ⟨?_, Mod.refl _ _, fun b hb => .inl hb⟩
  rw [h.eq]
  exact h
theorem Sen.next {w wr V1 W2 : World} {base q : Nat} {V : Nat → VM} {l : LM} {k : Clu} {Y Y' : List RY} {nv nv' : Value} (h : Sen w base q V l k Y wr nv) (hb : Below wr.heap.size wr V1) (g1 : KAt W2 base q V { l with nv := nv' } Y' { k with net := Y'.map RY.f }) (g2 : Mod (KF q V { l with nv := nv }) V1 W2) (g3 : ∀ b, KF q V { l with nv := nv' } b → KF q V { l with nv := nv } b ∨ V1.heap.size ≤ b) : Sen w base q V l k Y' W2 nv' := by
  refine ⟨g1, (h.mod.trans (Mod.bel hb)).then g2 (fun i hi hc => ?_), fun b hk => ?_⟩
  · rcases h.fr i hc with d | d
    · exact d
    · omega
  · rcases g3 b hk with d | d
    · exact h.fr b d
    · exact .inr (Nat.le_trans h.mod.size (Nat.le_trans hb.size d))
theorem KAt.rows_no {w : World} {base q : Nat} {V : Nat → VM} {l : LM} {ys : List RY} {k : Clu} {v : Value} {os : List RM} {b2 : Nat} (h : KAt w base q V l ys k) (ho : OwnL encM 26 46 w b2 v os) {g : Nat} (hg : v.ownBlock = some g) : ¬ KF q V l g := by
  obtain ⟨_, cur, hc⟩ := ho.block hg
  rintro (e | ⟨i, hi, e | e⟩ | e | e | e | e)
  · subst e; have := h.blk; rw [hc] at this; simp at this
  · subst e; have := (h.co i hi).blk; rw [hc] at this; simp at this
  · exact ownR_not (h.co i hi).log hc (fun cs e => by simp at e) e
  · exact ownR_not h.net hc (fun cs e => by simp at e) e
  · exact ownR_not h.led hc (fun cs e => by simp at e) e
  · exact ownR_not h.byv hc (fun cs e => by simp at e) e
  · exact ownR_not h.dn hc (fun cs e => by simp at e) e
theorem sent_is (i : Nat) (k : Clu) (ys : List RY) (os : List RM) (j N : Nat) (he : ys.map RY.f = k.net) (ho : os.map RM.m = (k.co i).out) (hd : (k.co i).dest.length = os.length) (hN : os.length = N) (hj : k.net.length + j ≤ 200) (hend : j = N ∨ k.net.length + j = 200) :
    { k with net := (ys ++ (zipY i (k.co i).dest os).take j).map RY.f } = k.sentN i := by
  unfold Clu.sentN
  rw [List.map_append, he, List.map_take, zipY_f, ho]
  have hl : (flies (i : Int) (k.co i).dest (k.co i).out).length = N := by rw [← ho, ← zipY_f, List.length_map, zipY_len _ _ _ hd, hN]
  rcases hend with e | e
  · rw [List.take_of_length_le (by omega), List.take_of_length_le (by omega)]
  · rw [show 200 - k.net.length = j by omega]
set_option linter.unusedSimpArgs false in
set_option linter.unusedVariables false in
set_option maxHeartbeats 8000000 in
set_option maxRecDepth 100000 in
theorem sent_any {w : World} {base q : Nat} {V : Nat → VM} {l : LM} {ys : List RY} {k : Clu} {os : List RM} (h : KAt w base q V l ys k) (i : Nat) (hi : i < 3) (hc : CAt w base (V i).p (V i).lv (V i).ov (V i).tv os (k.co i)) (he : ∀ x ∈ os, EAt w (KF q V l) x) (hev : Eve (k.co i)) (a : Option Addr) (N cap : Nat) (hN : (k.co i).out.length = N) (hN2 : N ≤ 80) (hov : (V i).ov = .slice a N cap) (hnet : k.net.length ≤ 200) :
    Calls Try.prog 69 #[.pointer (some ⟨q, 0, none⟩), .int .i64 (i : Int), .slice a N cap] w (Tup0 (KUpd base q V l (k.sentN i) w)) := by
  have mixed : Try.prog.follows .mixedOrders = true := by kernel_rfl
  have g1 := (h.cells hi).1
  unfold ptr at g1
  have hii : (i : Int) < 3 := by omega
  have hD : (k.co i).dest.length = N := hev.1.trans hN
  have hol : os.length = N := by rw [← hN]; exact os_len hc
  have HT2 := Lib.hid (fun W (hb : Below w.heap.size w W) => to_any (hc.below hb) (by omega))
  have HK0 := Lib.hid h
  have HC0 := Lib.hid hc
  have HE0 := Lib.hid he
  have HN := Lib.hid (And.intro hN (And.intro hN2 (And.intro hD hol)))
  have hnb : ((N : Int) != (N : Int)) = false := by simp
  have hNi : (N : Int) ≤ 80 := by omega
  have HNE := Lib.hid hnet
  have HOV := Lib.hid hov
  clear h hc he hev hN hN2 hD hol hnet hov
  go_enter Try.func69, Try.ntmps69
  go_upto_region 1 with (go_at_call 24; refine (HT2.out _ (Below.refl _ _)).mono ?_; rintro e w1 ⟨tvv, rfl, ho, hb⟩; obtain ⟨ta, tc, htv, hts, htb⟩ := ho.sli EI; rw [HN.out.2.2.1] at htv; subst htv; have HTO := Lib.hid ho; have HB1 := Lib.hid hb; clear ho hb hts htb)
  clear HT2 g1
  have HK1 := Lib.hid (HK0.out.below HB1.out)
  go_wp2
  go_loopg [7] N (fun gk u wr => ∃ j : Nat, j + gk = N ∧ u = .int .i64 (j : Int) ∧ k.net.length + j ≤ 200 ∧ ∃ nv, Sen w1 base q V l k (ys ++ (zipY i (k.co i).dest os).take j) wr nv)
  case atStart => exact ⟨0, by omega, rfl, HNE.out, _, Sen.start HK1.out⟩
  case round =>
    obtain ⟨j, hjk, rfl, hj200, nv, hsen⟩ := hrel
    have HSE := Lib.hid hsen
    have HJ := Lib.hid hj200
    obtain ⟨na, nc, hnv, -, -⟩ := hsen.at_.net.sli EY
    change nv = _ at hnv
    have hjN : j ≤ N := by omega
    have hlen : (ys ++ (zipY i (k.co i).dest os).take j).length = k.net.length + j := by
      rw [List.length_append, List.length_take, zipY_len _ _ _ (HN.out.2.2.1.trans HN.out.2.2.2.symm), HN.out.2.2.2, ← HK0.out.eq, List.length_map]; omega
    rw [hlen] at hnv
    obtain ⟨M, hM⟩ : ∃ M, M = k.net.length + j := ⟨_, rfl⟩
    rw [← hM] at hnv
    subst hnv
    have HLN := Lib.hid (And.intro (hlen.trans hM.symm) (show M ≤ 200 by omega))
    have g6 := (hsen.at_.cells hi).2.2.1
    have hMi : (M : Int) ≤ 200 := by omega
    have HFIN := Lib.hid (fun he => sent_is i k ys os j N HK0.out.eq HC0.out.eq (HN.out.2.2.1.trans HN.out.2.2.2.symm) HN.out.2.2.2 hj200 he)
    have HMj := Lib.hid hM
    have HK := Lib.hid hsen.at_
    clear hsen hj200 hlen hM hjN
    by_cases hlt : j < N
    · have hli : (j : Int) < (N : Int) := by omega
      by_cases hM2 : M < 200
      · have hMl : (M : Int) < 200 := by omega
        obtain ⟨gt, c2, hv, ht1, ht2⟩ := HTO.out.form (by have := HN.out.2.2.1; omega)
        simp at hv
        obtain ⟨rfl, -, rfl⟩ := hv
        have hcu : CellsAt w1 gt (0 + j * 1) (encI ((k.co i).dest.getD j default)) := by
          obtain ⟨b, off, e, hc⟩ := (HTO.out.slix EI).lst j (by have := HN.out.2.2.1; omega)
          simp at e
          obtain ⟨rfl, rfl⟩ := e
          exact hc
        have hov2 := HOV.out
        obtain ⟨gm, c3, hv, hm1, hm2⟩ := HC0.out.out.form (by have := HN.out.2.2.2; omega)
        rw [hov2] at hv
        simp at hv
        obtain ⟨rfl, -, rfl⟩ := hv
        have how : OwnL encM 26 46 w base (.slice (some ⟨gm, 0, none⟩) N cap) os := hov2 ▸ HC0.out.out
        have hrow : CellsAt w gm (0 + j * 26) (encM (os.getD j default)) := by
          obtain ⟨b, off, e, hc⟩ := (how.slix EM).lst j (by have := HN.out.2.2.2; omega)
          simp at e
          obtain ⟨rfl, rfl⟩ := e
          exact hc
        have hgm : ¬ KF q V l gm := HK0.out.rows_no how rfl
        have hgt : ¬ KF q V l gt := fun hk => by have := (HK0.out.lt gt hk).2; omega
        have hgm' : ¬ KF q V { l with nv := .slice na M nc } gm := fun hk => by
          rcases HSE.out.fr gm hk with d | d
          · exact hgm d
          · have := HB1.out.size; omega
        have hgt' : ¬ KF q V { l with nv := .slice na M nc } gt := fun hk => by
          rcases HSE.out.fr gt hk with d | d
          · exact hgt d
          · omega
        have hxe : EAt w (KF q V l) (os.getD j default) := HE0.out _ (by have := HN.out.2.2.2; simp [List.getD_eq_getElem?_getD, show j < os.length by omega])
        have hzj := zipY_get (i : Int) (k.co i).dest os j (HN.out.2.2.1.trans HN.out.2.2.2.symm) (by have := HN.out.2.2.2; omega)
        have HTK := Lib.hid (take_snoc' _ j _ hzj)
        have hdj : (k.co i).dest.getD j default = (k.co i).dest.getD j 0 := rfl
        rw [hdj] at hcu
        generalize (k.co i).dest.getD j 0 = dj at *
        generalize os.getD j default = x at *
        rw [show 0 + j * 26 = j * 26 by omega] at hrow
        rw [show 0 + j * 1 = j by omega] at hcu
        have hrow2 : World.rangeAt wr gm (j * 26) [.int .i64 x.m.kind, .int .u64 x.m.term, .int .i64 x.m.prev, .int .u64 x.m.pterm, .slice x.ea x.m.ents.length x.ec, .int .i64 x.m.commit, .bool x.m.yes, .int .i64 x.m.mat, .int .i64 x.m.stamp, .int .u64 0, .int .i64 0, .bool false, .slice none 0 0, .int .i64 0, .int .u64 0, .int .u64 0, .int .u64 0, .int .u64 0, .int .i64 0, .int .u64 0, .int .u64 0, .int .u64 0, .int .u64 0, .int .i64 0, .int .i64 0, .slice none 0 0] := (CellsAt.below hrow HB1.out).mod HSE.out.mod hgm
        have hcu2 : wr.cell? ⟨gt, j, none⟩ = some (.int .i64 dj) := (hcu.mod HSE.out.mod hgt) 0 _ rfl
        have HSS : Hid (∀ W, Below wr.heap.size wr W → SentS q gt gm j (.slice na M nc) dj x W) := fun W hb => ⟨keepc' g6 hb, keepc' hcu2 hb, CellsAt.below hrow2 hb⟩
        have HSG : Hid (∀ V1 w', Below wr.heap.size wr V1 → V1.grownBy w' (Value.slice na M nc).ownBlock → SentS q gt gm j (.slice na M nc) dj x w') := by
          intro V1 w' hb hg
          have hm := Mod.grown (S := fun b => (Value.slice na M nc).ownBlock = some b) hg (fun b e => e)
          have hs := HSS.out V1 hb
          exact ⟨hm.cell hs.1 (HK.out.kin.q1.1), hm.cell hs.2.1 (fun e => hgt' (.inr (.inr (.inl e)))), CellsAt.mod hs.2.2 hm (fun e => hgm' (.inr (.inr (.inl e))))⟩
        have HEY : Hid (∀ V1, Below wr.heap.size wr V1 → ∀ y ∈ (ys ++ (zipY i (k.co i).dest os).take j) ++ [⟨(i : Int), dj, x⟩], EAt V1 (KF q V { l with nv := .slice na M nc }) y.x) := by
          intro V1 hb y hy
          rcases List.mem_append.1 hy with hy | hy
          · exact (HK.out.ents y hy).mod (Mod.bel hb) (fun _ hk => .inl hk)
          · obtain rfl := List.mem_singleton.1 hy
            exact ((hxe.mod (Mod.bel HB1.out) (fun _ hk => .inl hk)).mod HSE.out.mod HSE.out.fr).mod (Mod.bel hb) (fun _ hk => .inl hk)
        clear hcu hcu2 hrow hrow2 hxe hzj hdj how hov2 hm1 hm2 ht1 ht2
        go_upto_region 6 with fail
        clear g6
        refine wp_region_noPanic ?_
        refine wp_region_lim (SentS q gt gm j (.slice na M nc) dj x) (fun i => decide (i < 17)) (fun i => false) (by kernel_rfl) (by kernel_rfl) (HSS.out _ (Below.refl _ wr).drew) (fun HT hS0 => ?_)
        refine tkD HT 0 37 (v := ?_) ?_ ?_
        rotate_left
        · (intro w5 hSw; go_simp; (try with_reducible rfl))
        try simp only [s1, s2, s3]
        refine tkD HT 1 38 (v := ?_) ?_ ?_
        rotate_left
        · (intro w5 hSw; go_simp; (try with_reducible rfl))
        try simp only [s1, s2, s3]
        refine tkD HT 2 39 (v := ?_) ?_ ?_
        rotate_left
        · (intro w5 hSw; go_simp; (try with_reducible rfl))
        try simp only [s1, s2, s3]
        refine tkD HT 3 40 (v := ?_) ?_ ?_
        rotate_left
        · (intro w5 hSw; go_simp; (try with_reducible rfl))
        try simp only [s1, s2, s3]
        refine tkD HT 4 41 (v := ?_) ?_ ?_
        rotate_left
        · (intro w5 hSw; obtain ⟨q1, q2, q3⟩ := hSw; clear q2 q3; go_simp; (try with_reducible rfl))
        try simp only [s1, s2, s3]
        refine tkD HT 5 42 (v := ?_) ?_ ?_
        rotate_left
        · (intro w5 hSw; go_simp; (try with_reducible rfl))
        try simp only [s1, s2, s3]
        refine tkD HT 6 43 (v := ?_) ?_ ?_
        rotate_left
        · (intro w5 hSw; go_simp; (try with_reducible rfl))
        try simp only [s1, s2, s3]
        refine tkD HT 7 44 (v := ?_) ?_ ?_
        rotate_left
        · (intro w5 hSw; go_simp; (try with_reducible rfl))
        try simp only [s1, s2, s3]
        refine tkD HT 8 45 (v := ?_) ?_ ?_
        rotate_left
        · (intro w5 hSw; go_simp; (try with_reducible rfl))
        try simp only [s1, s2, s3]
        refine tkD HT 9 46 (v := ?_) ?_ ?_
        rotate_left
        · (intro w5 hSw; obtain ⟨q1, q2, q3⟩ := hSw; clear q1 q3; go_simp; (try with_reducible rfl))
        try simp only [s1, s2, s3]
        refine tkD HT 10 47 (v := ?_) ?_ ?_
        rotate_left
        · (intro w5 hSw; go_simp; (try with_reducible rfl))
        try simp only [s1, s2, s3]
        refine tkD HT 11 48 (v := ?_) ?_ ?_
        rotate_left
        · (intro w5 hSw; go_simp; (try with_reducible rfl))
        try simp only [s1, s2, s3]
        refine tkD HT 12 49 (v := ?_) ?_ ?_
        rotate_left
        · (intro w5 hSw; go_simp; (try with_reducible rfl))
        try simp only [s1, s2, s3]
        refine wpAnyM_takeD HT 13 50 (v := .agg #[.int .i64 x.m.kind, .int .u64 x.m.term, .int .i64 x.m.prev, .int .u64 x.m.pterm, .slice x.ea x.m.ents.length x.ec, .int .i64 x.m.commit, .bool x.m.yes, .int .i64 x.m.mat, .int .i64 x.m.stamp, .int .u64 0, .int .i64 0, .bool false, .slice none 0 0, .int .i64 0, .int .u64 0, .int .u64 0, .int .u64 0, .int .u64 0, .int .i64 0, .int .u64 0, .int .u64 0, .int .u64 0, .int .u64 0, .int .i64 0, .int .i64 0, .slice none 0 0]) rfl rfl (by kernel_rfl) (fun _ _ _ h => h) (yieldsIf_load_mid (S := (SentS q gt gm j (.slice na M nc) dj x)) (by kernel_rfl) 46 (.tmp 49) rfl gm (j * 26) ?_ [.int .i64 x.m.kind, .int .u64 x.m.term, .int .i64 x.m.prev, .int .u64 x.m.pterm, .slice x.ea x.m.ents.length x.ec, .int .i64 x.m.commit, .bool x.m.yes, .int .i64 x.m.mat, .int .i64 x.m.stamp, .int .u64 0, .int .i64 0, .bool false, .slice none 0 0, .int .i64 0, .int .u64 0, .int .u64 0, .int .u64 0, .int .u64 0, .int .i64 0, .int .u64 0, .int .u64 0, .int .u64 0, .int .u64 0, .int .i64 0, .int .i64 0, .slice none 0 0] _ (fun w5 hSw => hSw.2.2) Try.underlying46 rfl (by kernel_rfl)) (by assumption) ?_
        · rfl
        try simp only [s1, s2, s3]
        refine tkD HT 14 51 (v := ?_) ?_ ?_
        rotate_left
        · (intro w5 hSw; go_simp; (try with_reducible rfl))
        try simp only [s1, s2, s3]
        refine tkS 15 (fun K5 hK => ?_)
        go_simp
        refine hK.out _ _ (HSS.out _ ((Below.refl _ wr).drew.trans (bel1 wr.drew (.cells #[.int .i64 (i : Int), .int .i64 dj, .int .i64 x.m.kind, .int .u64 x.m.term, .int .i64 x.m.prev, .int .u64 x.m.pterm, .slice x.ea x.m.ents.length x.ec, .int .i64 x.m.commit, .bool x.m.yes, .int .i64 x.m.mat, .int .i64 x.m.stamp, .int .u64 0, .int .i64 0, .bool false, .slice none 0 0, .int .i64 0, .int .u64 0, .int .u64 0, .int .u64 0, .int .u64 0, .int .i64 0, .int .u64 0, .int .u64 0, .int .u64 0, .int .u64 0, .int .i64 0, .int .i64 0, .slice none 0 0] 92)))) (fun hS1 => ?_)
        clear hK K5
        try simp only [Act.put, s1, s2, s3]
        have l1 : Lst encY 28 (World.drew (World.alloc wr (.cells #[.int .i64 (i : Int), .int .i64 dj, .int .i64 x.m.kind, .int .u64 x.m.term, .int .i64 x.m.prev, .int .u64 x.m.pterm, .slice x.ea x.m.ents.length x.ec, .int .i64 x.m.commit, .bool x.m.yes, .int .i64 x.m.mat, .int .i64 x.m.stamp, .int .u64 0, .int .i64 0, .bool false, .slice none 0 0, .int .i64 0, .int .u64 0, .int .u64 0, .int .u64 0, .int .u64 0, .int .i64 0, .int .u64 0, .int .u64 0, .int .u64 0, .int .u64 0, .int .i64 0, .int .i64 0, .slice none 0 0] 92))) (some ⟨wr.heap.size, 0, none⟩) [⟨(i : Int), dj, x⟩] := litY wr.drew ⟨(i : Int), dj, x⟩
        have gl1 : Below wr.heap.size wr (World.drew (World.alloc wr (.cells #[.int .i64 (i : Int), .int .i64 dj, .int .i64 x.m.kind, .int .u64 x.m.term, .int .i64 x.m.prev, .int .u64 x.m.pterm, .slice x.ea x.m.ents.length x.ec, .int .i64 x.m.commit, .bool x.m.yes, .int .i64 x.m.mat, .int .i64 x.m.stamp, .int .u64 0, .int .i64 0, .bool false, .slice none 0 0, .int .i64 0, .int .u64 0, .int .u64 0, .int .u64 0, .int .u64 0, .int .i64 0, .int .u64 0, .int .u64 0, .int .u64 0, .int .u64 0, .int .i64 0, .int .i64 0, .slice none 0 0] 92))) := (Below.refl _ wr).drew.trans (bel1 wr.drew (.cells #[.int .i64 (i : Int), .int .i64 dj, .int .i64 x.m.kind, .int .u64 x.m.term, .int .i64 x.m.prev, .int .u64 x.m.pterm, .slice x.ea x.m.ents.length x.ec, .int .i64 x.m.commit, .bool x.m.yes, .int .i64 x.m.mat, .int .i64 x.m.stamp, .int .u64 0, .int .i64 0, .bool false, .slice none 0 0, .int .i64 0, .int .u64 0, .int .u64 0, .int .u64 0, .int .u64 0, .int .i64 0, .int .u64 0, .int .u64 0, .int .u64 0, .int .u64 0, .int .i64 0, .int .i64 0, .slice none 0 0] 92))
        generalize (World.drew (World.alloc wr (.cells #[.int .i64 (i : Int), .int .i64 dj, .int .i64 x.m.kind, .int .u64 x.m.term, .int .i64 x.m.prev, .int .u64 x.m.pterm, .slice x.ea x.m.ents.length x.ec, .int .i64 x.m.commit, .bool x.m.yes, .int .i64 x.m.mat, .int .i64 x.m.stamp, .int .u64 0, .int .i64 0, .bool false, .slice none 0 0, .int .i64 0, .int .u64 0, .int .u64 0, .int .u64 0, .int .u64 0, .int .i64 0, .int .u64 0, .int .u64 0, .int .u64 0, .int .u64 0, .int .i64 0, .int .i64 0, .slice none 0 0] 92))) = V1 at *
        have l1' := Lib.hid l1
        have g1' := Lib.hid gl1
        clear l1 gl1
        have K1 := Lib.hid (HK.out.below g1'.out)
        refine tkS 16 (fun K5 hK => ?_)
        refine step_app EY TY rfl (.tmp 41) (.tmp 52) rfl rfl K1.out.net (some ⟨wr.heap.size, 0, none⟩) 1 1 [⟨(i : Int), dj, x⟩] rfl rfl l1'.out (by simp) (by have := HLN.out; rw [List.length_singleton, this.1]; omega) (by have := HLN.out; rw [List.length_singleton, this.1]; unfold maxLen; omega) (by have := K1.out.lt q (.inl rfl); omega) ?_
        intro v1 w1 ho hg hf
        have G1 := Lib.hid (K1.out.nets ho (Mod.grown (S := fun b => (Value.slice na M nc).ownBlock = some b) hg (fun b e => e)) (fun b e => e) hf (HEY.out _ g1'.out))
        refine hK.out _ _ (HSG.out _ _ g1'.out hg) (fun hS2 => ?_)
        clear hK K5 ho hg hf
        try simp only [Act.put, s1, s2, s3]
        have z1 := (cell_of G1.out.1 6 rfl).1
        have z2 := (cell_of G1.out.1 6 (v := (.slice na M nc)) rfl).2
        obtain ⟨sa1, sc1, hv1, -, -⟩ := G1.out.2.1.net.sli EY
        change v1 = _ at hv1
        rw [List.length_append, HLN.out.1, List.length_singleton] at hv1
        subst hv1
        refine tkL 17 (fun K5 hK => ?_)
        go_simp
        refine hK.out _ _ ?_
        clear hK K5
        try simp only [Act.put, s1, s2, s3]
        refine tkL 18 (fun K5 hK => ?_)
        go_simp
        refine hK.out _ _ ?_
        clear hK K5
        try simp only [Act.put, s1, s2, s3]
        refine tkL 19 (fun K5 hK => ?_)
        go_simp
        refine hK.out _ _ ?_
        clear hK K5
        try simp only [Act.put, s1, s2, s3]
        refine wpAnyM_done (by kernel_rfl) (NoPanic.normal ?_)
        go_wp2
        go_roundg (gk - 1)
        case measure => omega
        case rel => exact ⟨j + 1, by omega, by simp, by have := HMj.out; have := HJ.out; omega, _, by rw [HTK.out, ← List.append_assoc]; exact HSE.out.next g1'.out G1.out.2.1 G1.out.2.2.1 G1.out.2.2.2⟩
      · have hMl : (200 : Int) ≤ (M : Int) := by omega
        have hfin := HFIN.out (.inr (by have := HMj.out; omega))
        have HFI := Lib.hid hfin
        clear hfin hM2
        go_wp2
        go_end0
        exact ⟨rfl, _, _, _, by rw [← HFI.out]; exact HSE.out.at_, (Mod.bel HB1.out).trans HSE.out.mod, fun b hb => (HSE.out.fr b hb).imp id (fun e => Nat.le_trans HB1.out.size e)⟩
    · obtain rfl : j = N := by omega
      have HFI := Lib.hid (HFIN.out (.inl rfl))
      go_wp2
      go_end0
      exact ⟨rfl, _, _, _, by rw [← HFI.out]; exact HSE.out.at_, (Mod.bel HB1.out).trans HSE.out.mod, fun b hb => (HSE.out.fr b hb).imp id (fun e => Nat.le_trans HB1.out.size e)⟩
end Go.Proofs.Ytcleaamjfjnkkaa
