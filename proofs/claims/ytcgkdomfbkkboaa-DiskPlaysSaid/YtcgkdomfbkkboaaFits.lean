/- Which sectors still fit. -/
import Derived.Test.YtcgkdomfbkkboaaNew
import Derived.Test.YtcgkdomfbkkboaaHeldLast
namespace Go.Proofs.Ytcgkdomfbkkboaa
open Go.RowKit Go.Joins Go.ChangeMaps

def encI (x : Int) : List Value := [.int .i64 x]
theorem EI1 : Enc encI 1 := ⟨fun _ => rfl, fun x u hu => by simp [encI] at hu; subst hu; rfl, by omega⟩
def WfI (l : List Int) : Prop := ∀ x ∈ l, (Lit.int .i64 x).wf = true
/-- the map that the closure writes: it holds the places r. -/
def FreshAt (w : World) (fm : Nat) (r : List Int) (k : Nat) : Prop := ∃ f : Int → Option Int, MapAt EI w fm r.length f ∧ (∀ i, (f i).isSome = true ↔ i ∈ r) ∧ ∀ i c, f i = some c → 0 ≤ c ∧ c ≤ k
theorem fresh_made (w : World) : FreshAt (w.alloc (.map #[] 0)) w.heap.size [] 0 := ⟨fun _ => none, map_made EI w, fun i => by simp, fun i c h => by cases h⟩
theorem FreshAt.mod {S : Nat → Prop} {w w' : World} {fm k : Nat} {r : List Int} (h : FreshAt w fm r k) (hm : Mod S w w') (hs : ¬ S fm) : FreshAt w' fm r k := by
  obtain ⟨f, h1, h2⟩ := h
  exact ⟨f, h1.mod hm hs, h2⟩
theorem FreshAt.len {w : World} {fm k : Nat} {r : List Int} (h : FreshAt w fm r k) (ty : TypeId) : (Builtin.len_ #[46] ty #[.map (some fm)]).run Try.prog w = .ok (.int .i64 r.length) w := by
  obtain ⟨f, h1, h2⟩ := h
  exact h1.len ty
theorem FreshAt.lt {w : World} {fm k : Nat} {r : List Int} (h : FreshAt w fm r k) : fm < w.heap.size := by
  obtain ⟨f, h1, h2⟩ := h
  exact h1.lt
/-- one more is counted. -/
theorem FreshAt.step {w : World} {fm k : Nat} {r : List Int} (h : FreshAt w fm r k) {i : Int} (hw : (Lit.int .i64 i).wf = true) (hr : r.length < maxLen) (hk : k ≤ 1000000) :
    ∃ c w', (Instr.lookup 46 (.map (some fm)) (.int .i64 i) false).run Try.prog w = .ok (.int .i64 c) w ∧ 0 ≤ c ∧ c ≤ 1000000 ∧ (Instr.mapUpdate 46 (.map (some fm)) (.int .i64 i) (.int .i64 (c + 1))).run Try.prog w = .ok () w' ∧
      FreshAt w' fm (if i ∈ r then r else r ++ [i]) (k + 1) ∧ w.mapTurned w' fm := by
  obtain ⟨f, h1, h2, h3⟩ := h
  have hl := h1.look hw
  have hc : 0 ≤ (f i).getD 0 ∧ (f i).getD 0 ≤ k := by
    cases hf : f i with
    | none => simp
    | some c => exact h3 i c hf
  obtain ⟨w', hrun, hM, ht⟩ := h1.put hw (x := (f i).getD 0 + 1) (wf64 (by omega) (by omega)) hr
  refine ⟨(f i).getD 0, w', hl, hc.1, by omega, hrun, ⟨updG f i (some ((f i).getD 0 + 1)), ?_, fun j => ?_, fun j c hj => ?_⟩, ht⟩
  · have : (if i ∈ r then r else r ++ [i]).length = if (f i).isSome = true then r.length else r.length + 1 := by
      by_cases hi : i ∈ r
      · rw [if_pos hi, if_pos ((h2 i).2 hi)]
      · rw [if_neg hi, if_neg (fun c => hi ((h2 i).1 c))]; simp
    rw [this]
    exact hM
  · by_cases hji : j = i
    · subst hji
      by_cases hi : j ∈ r <;> simp [updG, hi]
    · by_cases hi : i ∈ r <;> simp [updG, hji, hi, h2 j]
  · by_cases hji : j = i
    · subst hji
      simp [updG] at hj
      omega
    · simp [updG, hji] at hj
      have := h3 j c hj
      omega
def FitP (fm : Nat) (w : World) (r : List Int) (k : Nat) (b : Bool) (e : Ending) (w' : World) : Prop := e = .returned (.bool b) ∧ FreshAt w' fm r k ∧ Mod (fun j => j = fm) w w'
set_option maxHeartbeats 1000000 in
set_option maxRecDepth 100000 in
theorem outside_any {w : World} {base p bm bx fx fm k : Nat} {v : Value} {s : St} {r : List Int} (i : Int) (h : PD w base p bm v s) (hw : (Lit.int .i64 i).wf = true) (hf : FreshAt w fm r k) (hr : r.length ≤ 1000000) (hk : k ≤ 1000000)
    (hbx : w.cell? ⟨bx, 0, none⟩ = some (.pointer (some ⟨p, 0, none⟩))) (hfx : w.cell? ⟨fx, 0, none⟩ = some (.map (some fm))) (hne : fm ≠ p ∧ fm ≠ bx ∧ fm ≠ fx) (hpf : ¬ PF p bm v fm) :
    Calls Try.prog 35 #[.int .i64 i, .pointer (some ⟨bx, 0, none⟩), .pointer (some ⟨fx, 0, none⟩)] w (FitP fm w (freshStep s.now r i) (k + 1) (!inB s.len i)) := by
  obtain ⟨⟨g0, -, -, -, -, -⟩, -⟩ := h.cells
  have hl : (Instr.lookup 58 (.map (some bm)) (.int .i64 i) true).run Try.prog w = .ok (.tuple #[.string ((s.now i).getD ByteArray.empty), .bool (s.now i).isSome]) w := h.map.look_ok hw
  by_cases hx : (s.now i).isSome = true
  · have hst : freshStep s.now r i = r := by unfold freshStep; rw [if_pos (.inl hx)]
    rw [hst]
    rw [hx] at hl
    have ht : Calls Try.prog 31 #[.pointer (some ⟨p, 0, none⟩), .int .i64 i] w (SameB (inB s.len i) w) := there_any i h
    have HF := Lib.hid hf
    clear hst hx h hf
    generalize inB s.len i = b at *
    go_enter Try.func35, Try.ntmps35
    go_wp2_with (go_at_call 31; refine ht.mono ?_; rintro e w1 ⟨rfl, rfl⟩)
    go_ret
    obtain ⟨f, f1, f2, f3⟩ := HF.out
    exact ⟨rfl, ⟨f, f1, f2, fun i c hc => by have := f3 i c hc; omega⟩, Mod.refl _ _⟩
  · have hst : freshStep s.now r i = if i ∈ r then r else r ++ [i] := by unfold freshStep; simp [hx]
    have hx2 : (s.now i).isSome = false := by simpa using hx
    rw [hx2] at hl
    obtain ⟨c, w2, hl2, hc0, hc1, hrun, hF2, ht2⟩ := hf.step hw (by unfold maxLen; omega) hk
    rw [← hst] at hF2
    have hm2 := mod_turned ht2
    have h2 := h.mod hm2 (fun j hj e => hpf (e ▸ hj))
    have ht : Calls Try.prog 31 #[.pointer (some ⟨p, 0, none⟩), .int .i64 i] w2 (SameB (inB s.len i) w2) := there_any i h2
    have b2 := hm2.cell hbx (fun e => hne.2.1 e.symm)
    have HF2 := Lib.hid hF2
    have HM2 := Lib.hid hm2
    clear hst hx hx2 h hf hm2 h2 hF2 ht2 hpf hne
    generalize inB s.len i = b at *
    generalize freshStep s.now r i = R at *
    go_enter Try.func35, Try.ntmps35
    go_wp2_with (go_at_call 31; refine ht.mono ?_; rintro e w1 ⟨rfl, rfl⟩)
    go_ret
    exact ⟨rfl, HF2.out, HM2.out⟩
theorem Lst.modOld {α : Type} [Inhabited α] {enc : α → List Value} {sz : Nat} (E : Enc enc sz) {S : Nat → Prop} {w w' : World} {a : Option Addr} {xs : List α} (h : Lst enc sz w a xs) (hm : Mod S w w') (hs : ∀ k, k < w.heap.size → ¬ S k) : Lst enc sz w' a xs := by
  intro i hi
  obtain ⟨b, off, e, hc⟩ := h i hi
  refine ⟨b, off, e, hc.mod hm (hs b ?_)⟩
  have hl := E.len (xs.getD i default)
  have hp := E.pos
  have := World.block_lt_of_cell? _ _ (hc 0 ((enc (xs.getD i default))[0]'(by omega)) (by rw [List.getElem?_eq_getElem (by omega)]))
  simpa using this
/-- what the search answers. -/
def SeekP (fm : Nat) (w : World) (s : St) (l : List Int) (e : Ending) (w' : World) : Prop := ∃ r, e = .returned (.int .i64 r) ∧ Mod (fun j => j = fm) w w' ∧
  ((l.all (fun i => inB s.len i) = true ∧ r = -1 ∧ FreshAt w' fm (fresh s.now l) l.length) ∨ (l.all (fun i => inB s.len i) = false ∧ 0 ≤ r ∧ r ≤ 1000000))
theorem all_take {f : Int → Bool} {l : List Int} {i : Nat} (h : i < l.length) : (l.take (i + 1)).all f = ((l.take i).all f && f (l.getD i default)) := by
  rw [take_snoc l i default h]; simp
set_option maxHeartbeats 2000000 in
set_option maxRecDepth 100000 in
theorem seek_any {w : World} {base p bm bx fx fm : Nat} {v : Value} {s : St} (a : Option Addr) (cap : Nat) (l : List Int) (h : PD w base p bm v s) (hw : WfI l) (hn : l.length ≤ 1000000) (hf : FreshAt w fm [] 0)
    (hbx : w.cell? ⟨bx, 0, none⟩ = some (.pointer (some ⟨p, 0, none⟩))) (hfx : w.cell? ⟨fx, 0, none⟩ = some (.map (some fm))) (hne : fm ≠ p ∧ fm ≠ bx ∧ fm ≠ fx) (hpf : ¬ PF p bm v fm) (hla : ∀ W', Mod (fun j => j = fm) w W' → Lst encI 1 W' a l) :
    Calls Try.prog 49 #[.slice a l.length cap, .func (.func 35) #[] #[.pointer (some ⟨bx, 0, none⟩), .pointer (some ⟨fx, 0, none⟩)]] w (SeekP fm w s l) := by
  have HP := Lib.hid h
  have HW := Lib.hid hw
  have HF := Lib.hid hf
  have HPF := Lib.hid hpf
  have HNE := Lib.hid hne
  have HLA := Lib.hid hla
  have HBX := Lib.hid hbx
  have HFX := Lib.hid hfx
  clear h hw hf hpf hne hla hbx hfx
  generalize hm : l.length = n at *
  have HM := Lib.hid hm
  clear hm
  go_enter Try.func49, Try.ntmps49
  go_wp2
  go_loopg [5, 8] n (fun gk _ v8 wr => ∃ i : Nat, i + gk = n ∧ v8 = .int .i64 (i : Int) ∧ Mod (fun j => j = fm) w wr ∧ FreshAt wr fm (fresh s.now (l.take i)) i ∧ (l.take i).all (fun i => inB s.len i) = true)
  case atStart => exact ⟨0, by omega, rfl, Mod.refl _ _, HF.out, rfl⟩
  case round =>
    obtain ⟨i, hik, rfl, hMo, hFr, hal⟩ := hrel
    have HMo := Lib.hid hMo
    have HFr := Lib.hid hFr
    have HAl := Lib.hid hal
    by_cases hlt : i < n
    · have hli : (i : Int) < (n : Int) := by omega
      have hil : i < l.length := by have := HM.out; omega
      obtain ⟨b, off, rfl, hc⟩ := HLA.out wr hMo i hil
      have c0 : wr.cell? ⟨b, off + i, none⟩ = some (.int .i64 (l.getD i default)) := by
        have := hc 0 _ rfl
        simpa using this
      have hout := Lib.hid (outside_any (l.getD i default) (HP.out.mod hMo (fun k hk e => HPF.out (e ▸ hk))) (HW.out _ (by rw [List.getD_eq_getElem?_getD, List.getElem?_eq_getElem hil]; exact List.getElem_mem hil)) hFr
        (by have := fresh_length s.now (l.take i); have h2 := List.length_take_le i l; omega) (by omega) (hMo.cell HBX.out (fun e => HNE.out.2.1 e.symm)) (hMo.cell HFX.out (fun e => HNE.out.2.2 e.symm)) HNE.out HPF.out)
      have HS := Lib.hid (show freshStep s.now (fresh s.now (l.take i)) (l.getD i default) = fresh s.now (l.take (i + 1)) by rw [take_snoc l i default hil, fresh_snoc])
      have HA2 := Lib.hid (all_take (f := fun i => inB s.len i) hil)
      have hi6 : (i : Int) ≤ 1000000 := by omega
      rw [HS.out] at hout
      generalize l.getD i default = x at *
      clear hc hMo hFr hal hil
      cases hin : inB s.len x with
      | true =>
        rw [hin] at hout
        go_wp2_with (go_at_call 35; refine hout.out.mono ?_; rintro e w5 ⟨rfl, hF5, hM5⟩; have HF5 := Lib.hid hF5; have HM5 := Lib.hid hM5; clear hF5 hM5)
        go_roundg (gk - 1)
        case measure => omega
        case rel => exact ⟨i + 1, by omega, by simp, HMo.out.trans HM5.out, HF5.out, by rw [HA2.out, HAl.out, hin]; rfl⟩
      | false =>
        rw [hin] at hout
        have hal2 := Lib.hid (show l.all (fun i => inB s.len i) = false by
          have h1 : (l.take (i + 1)).all (fun i => inB s.len i) = false := by rw [HA2.out, hin]; simp
          rw [List.all_eq_false] at h1 ⊢
          obtain ⟨y, hy, hy2⟩ := h1
          exact ⟨y, List.mem_of_mem_take hy, hy2⟩)
        go_wp2_with (go_at_call 35; refine hout.out.mono ?_; rintro e w5 ⟨rfl, hF5, hM5⟩; have HF5 := Lib.hid hF5; have HM5 := Lib.hid hM5; clear hF5 hM5)
        go_ret
        exact ⟨i, rfl, HMo.out.trans HM5.out, .inr ⟨hal2.out, by omega, hi6⟩⟩
    · obtain rfl : i = n := by omega
      have hge : (i : Int) ≤ (i : Int) := Int.le_refl _
      have ht : l.take i = l := List.take_of_length_le (by have := HM.out; omega)
      rw [ht] at hFr hal
      have HFr2 := Lib.hid hFr
      have HAl2 := Lib.hid hal
      clear hlt hMo hFr hal ht
      go_wp2
      go_ret
      exact ⟨-1, rfl, HMo.out, .inl ⟨HAl2.out, rfl, by rw [HM.out]; exact HFr2.out⟩⟩
end Go.Proofs.Ytcgkdomfbkkboaa
