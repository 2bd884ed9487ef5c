/- A frame of a net: looked at, taken, dropped, doubled. -/
import Derived.Test.YtmiaifbpepfbnaaFdel
import Derived.Deep.RegionHeld3
import Derived.Deep.AppendLies
namespace Go.Proofs.Ytmiaifbpepfbnaa
open Go.RowKit Go.Joins Go.ChangeMaps

theorem keepc' {w w' : World} {p : Addr} {v : Value} (h : w.cell? p = some v) (hb : Below w.heap.size w w') : w'.cell? p = some v := (hb.cell (World.block_lt_of_cell? _ _ h)).trans h
theorem results_fr {fn : Func} {p u : Tmp} (h : fn.results = #[.cell p 31, .tmp u]) (tmps : Array Value) (w : World) (g : Nat) (cs : Array Value) (fr : Nat × Nat) (hs : cs.size = 3)
    (hp : tmps.getD p undef = .pointer (some ⟨g, 0, none⟩)) (hg : w.heap[g]? = some (.cells cs 31 fr)) :
    (results fn tmps).run Try.prog w = .ok (.tuple #[.agg cs, tmps.getD u undef]) w := by
  rw [results_cell_tmp h, hp]
  have hi : (Try.prog.info? 31).map (·.size) = some cs.size := by rw [hs]; kernel_rfl
  simp [asAddr, run_loadVar_row (P := Try.prog) w g 31 31 cs fr _ hg Try.underlying31 rfl hi, Result.andThen]
set_option maxRecDepth 100000 in
theorem at_in (base p bm : Nat) (v : Value) (s : St) (k : Nat) (w : World) (h : PN w base p bm v s) (hk : k < s.fl.length) :
    Calls Try.prog 29 #[.pointer (some ⟨p, 0, none⟩), .int .i64 (k : Int)] w (RetV (.tuple #[frV (s.fl.getD k default), .bool true]) w) := by
  have hl := Lib.hid (len_any base p bm v s w h)
  obtain ⟨g, cap, hv, -, -⟩ := h.own.form (by omega)
  have hS := (hv ▸ h.own).slix EF
  have c1 := h.c.1.2.1
  obtain ⟨b, off, e, hc⟩ := hS.lst k hk
  simp at e
  obtain ⟨rfl, rfl⟩ := e
  rw [Nat.zero_add] at hc
  obtain ⟨g0, g1, g2⟩ := fr_cells hc
  subst hv
  have hlen : ∀ o : Obj, Hid (Calls Try.prog 13 #[.pointer (some ⟨p, 0, none⟩)] (w.alloc o) (SameI (s.fl.length : Int) (w.alloc o))) := fun o => len_any base p bm _ s _ (h.below (bel1 w o))
  generalize s.fl.getD k default = f at *
  obtain ⟨f0, f1, f2⟩ := f
  clear h hc hS hl
  generalize s.fl.length = n at *
  have hkn : (k : Int) < (n : Int) := by omega
  have h0k : (0 : Int) ≤ (k : Int) := by omega
  have hnk : ¬ n ≤ k := by omega
  have c1' := fun o => keepc' c1 (bel1 w o)
  have g0' := fun o => keepc' g0 (bel1 w o)
  have g1' := fun o => keepc' g1 (bel1 w o)
  have g2' := fun o => keepc' g2 (bel1 w o)
  clear c1 g0 g1 g2
  go_enter Try.func29, Try.ntmps29
  go_wp2_with (go_at_call 13; refine (hlen _).out.mono ?_; rintro e w1 ⟨rfl, rfl⟩)
  refine bodyPost_ret (results_fr rfl _ _ w.heap.size _ (0, 0) rfl rfl (heap_alloc_new w _)) rfl ?_
  exact retV rfl (bel1 _ _)
set_option maxRecDepth 100000 in
theorem at_out (base p bm : Nat) (v : Value) (s : St) (k : Int) (w : World) (h : PN w base p bm v s) (hk : inB s k = false) :
    Calls Try.prog 29 #[.pointer (some ⟨p, 0, none⟩), .int .i64 k] w (RetV (.tuple #[frV nof, .bool false]) w) := by
  have hlen : ∀ o : Obj, Hid (Calls Try.prog 13 #[.pointer (some ⟨p, 0, none⟩)] (w.alloc o) (SameI (s.fl.length : Int) (w.alloc o))) := fun o => len_any base p bm _ s _ (h.below (bel1 w o))
  unfold inB at hk
  generalize s.fl.length = n at *
  clear h
  by_cases h0 : k < 0
  · clear hk
    go_enter Try.func29, Try.ntmps29
    go_wp2_with (go_at_call 13; refine (hlen _).out.mono ?_; rintro e w1 ⟨rfl, rfl⟩)
    refine bodyPost_ret (results_fr rfl _ _ w.heap.size _ (0, 0) rfl rfl (heap_alloc_new w _)) rfl ?_
    exact retV rfl (bel1 _ _)
  · have h1 : 0 ≤ k := by omega
    have h2 : (n : Int) ≤ k := by simp at hk; omega
    clear hk h0
    go_enter Try.func29, Try.ntmps29
    go_wp2_with (go_at_call 13; refine (hlen _).out.mono ?_; rintro e w1 ⟨rfl, rfl⟩)
    refine bodyPost_ret (results_fr rfl _ _ w.heap.size _ (0, 0) rfl rfl (heap_alloc_new w _)) rfl ?_
    exact retV rfl (bel1 _ _)
end Go.Proofs.Ytmiaifbpepfbnaa
