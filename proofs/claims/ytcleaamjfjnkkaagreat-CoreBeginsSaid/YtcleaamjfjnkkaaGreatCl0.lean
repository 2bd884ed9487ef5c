/- Three voters and what is under way, in plain words. -/
import Derived.Test.YtcleaamjfjnkkaaGreatCo31
namespace Go.Proofs.YtcleaamjfjnkkaaGreat
open Go.RowKit Go.Joins

namespace Co
/-- a mark of what is new; no method reads it. -/
def wg (c : Co) (n : Nat) : Co := { c with gh := n }
section
variable (c : Co) (n : Nat)
theorem wg_follow (t : Int) : (c.wg n).follow t = (c.follow t).wg n := by unfold follow wg; split <;> rfl
theorem wg_one {f : Co → Nat → Co} (h : ∀ c v, f (wg c n) v = (f c v).wg n) (v : Nat) : one f (c.wg n) v = (one f c v).wg n := by
  unfold one
  by_cases e : (v : Int) = c.me
  · rw [if_pos (show (v : Int) = (c.wg n).me from e), if_pos e]
  · rw [if_neg (show ¬ (v : Int) = (c.wg n).me from e), if_neg e, h]
theorem wg_others {f : Co → Nat → Co} (h : ∀ c v, f (wg c n) v = (f c v).wg n) : others f (c.wg n) = (others f c).wg n := by
  unfold others
  rw [wg_one _ _ h, wg_one _ _ h, wg_one _ _ h]
theorem wg_entries (v : Nat) : (c.wg n).entries v = (c.entries v).wg n := rfl
theorem wg_campOne (v : Nat) : (c.wg n).campOne v = (c.campOne v).wg n := rfl
theorem wg_tickOne (v : Nat) : (c.wg n).tickOne v = (c.tickOne v).wg n := by
  unfold tickOne
  show (if (c.passed (c.pr v).sentAt 4 || decide ((c.pr v).sentTo < (c.log.length : Int))) = true then (c.entries v).wg n else c.wg n) = _
  split <;> rfl
theorem wg_campaign (d : Int) : (c.wg n).campaign d = (c.campaign d).wg n := by
  unfold campaign
  exact wg_others { c with term := c.term + 1, voted := c.me, role := 1, head := -1, since := c.now, timeout := timeoutS d } n (fun c v => wg_campOne c n v)
theorem wg_lead : (c.wg n).lead = c.lead.wg n := by
  unfold lead
  exact wg_others { c with role := 2, head := c.me, pr := fun k => if k < 3 then newPr c.log.length else c.pr k, log := if c.log.length < 300 then c.log ++ [(c.term, 1, 0, 0)] else c.log } n (fun c v => wg_entries c n v)
theorem wg_tick (a b : Int) : (c.wg n).tick a b = (c.tick a b).wg n := by
  unfold tick
  simp only
  by_cases h : (c.begin a).role = 2
  · rw [if_pos (show ((c.wg n).begin a).role = 2 from h), if_pos h]
    exact wg_others (c.begin a) n (fun c v => wg_tickOne c n v)
  · rw [if_neg (show ¬ ((c.wg n).begin a).role = 2 from h), if_neg h]
    show (if _ then ((c.begin a).wg n).campaign b else (c.begin a).wg n) = _
    rw [wg_campaign]
    show (if ((c.begin a).passed (c.begin a).since (c.begin a).timeout && !waitsS (c.begin a).heard a && decide ((c.begin a).term < 18446744073709551615)) = true then _ else _) = _
    split <;> rfl
theorem wg_ask (f : Int) (m : Mg) (d : Int) : (c.wg n).ask f m d = (c.ask f m d).wg n := by
  unfold ask
  show (if (waitsS c.heard c.now || (decide (c.now < c.until_) && decide (c.role = 2))) = true then (c.send f (mg0 2)).wg n else _) = _
  split
  · rfl
  · simp only [wg_follow]
    show (if (c.follow m.term).askYes f m = true then _ else _) = _
    split <;> rfl
theorem wg_vote (f : Nat) (m : Mg) : (c.wg n).vote f m = (c.vote f m).wg n := by
  unfold vote
  simp only [wg_follow]
  show (if (c.follow m.term).role = 1 ∧ m.term = (c.follow m.term).term ∧ m.yes = true then (((c.follow m.term).setPr f { (c.follow m.term).pr f with votes := true }).wg n).lead else _) = _
  rw [wg_lead]
  split <;> rfl
theorem wg_take (f : Int) (m : Mg) : (c.wg n).take f m = (c.take f m).wg n := by
  unfold take
  show (if m.term < c.term then _ else if c.role = 2 ∧ m.term = c.term then _ else _) = _
  split
  · rfl
  · split
    · rfl
    · have e : (c.wg n).takeD f m = (c.takeD f m).wg n := by unfold takeD; rw [wg_follow]; rfl
      simp only [e]
      show (if fitsB (c.takeD f m).log m.prev m.pterm = false then _ else if (c.takeD f m).joinOk m = false then _ else _) = _
      split
      · rfl
      · split <;> rfl
theorem wg_commits : (c.wg n).commits = c.commits.wg n := by
  unfold commits
  show (if c.commit < c.mats ∧ (c.log.getD (c.mats - 1).toNat default).1 = c.term then _ else _) = _
  split <;> rfl
theorem wg_stampD (v : Nat) (m : Mg) : (c.wg n).stampD v m = (c.stampD v m).wg n := by
  unfold stampD
  show (if m.stamp ≤ c.now then _ else _) = _
  split <;> rfl
theorem wg_setPr (v : Nat) (x : Pr) : (c.wg n).setPr v x = (c.setPr v x).wg n := rfl
theorem wg_answered (v : Nat) (m : Mg) : (c.wg n).answered v m = (c.answered v m).wg n := by
  unfold answered
  simp only [wg_follow]
  show (if (c.follow m.term).role ≠ 2 ∨ m.term ≠ (c.follow m.term).term then _ else _) = _
  split
  · rfl
  · simp only [wg_stampD]
    generalize (c.follow m.term).stampD v m = e
    split
    · rfl
    · simp only [wg_setPr]
      show (if max (e.pr v).mat (min m.mat (e.log.length : Int)) + 1 ≤ (e.log.length : Int) then _ else _) = _
      simp only [wg_commits]
      split <;> rfl
theorem wg_handle (f : Int) (m : Mg) (a b : Int) : (c.wg n).handle f m a b = (c.handle f m a b).wg n := by
  unfold handle
  simp only
  show (if f < 0 ∨ 3 ≤ f ∨ f = (c.begin a).me then _ else _) = _
  split
  · rfl
  · split
    · exact wg_ask (c.begin a) n f m b
    · split
      · exact wg_vote (c.begin a) n f.toNat m
      · split
        · exact wg_take (c.begin a) n f m
        · split
          · exact wg_answered (c.begin a) n f.toNat m
          · rfl
end
end Co
/-- a message under way. -/
structure Fly where
  src : Int
  dst : Int
  m : Mg
instance : Inhabited Fly := ⟨⟨0, 0, default⟩⟩
structure Clu where
  co : Nat → Co
  clk : Nat → Int
  net : List Fly
  led : List Int
  by_ : List Int
  done : List Ent
def upd {α : Type} (f : Nat → α) (i : Nat) (x : α) : Nat → α := fun k => if k = i then x else f k
theorem upd_at {α : Type} (f : Nat → α) (i : Nat) (x : α) : upd f i x i = x := if_pos rfl
theorem upd_ne {α : Type} (f : Nat → α) {i k : Nat} (x : α) (h : k ≠ i) : upd f i x k = f k := if_neg h
def flies (src : Int) : List Int → List Mg → List Fly
  | d :: ds, m :: ms => ⟨src, d, m⟩ :: flies src ds ms
  | _, _ => []
namespace Clu
def slow (w : Clu) : Int := min (min (w.clk 0) (w.clk 1)) (w.clk 2)
def sentN (w : Clu) (i : Nat) : Clu := { w with net := w.net ++ (flies i (w.co i).dest (w.co i).out).take (200 - w.net.length) }
def tickN (w : Clu) (i : Nat) (draw : Int) : Clu :=
  if w.slow + 2 < w.clk i + 1 then w
  else ({ w with clk := upd w.clk i (w.clk i + 1), co := upd w.co i ((w.co i).tick (w.clk i + 1) draw) } : Clu).sentN i
def delN (w : Clu) (k : Nat) (draw : Int) : Clu :=
  let f := w.net.getD k default
  ({ w with net := w.net.eraseIdx k, co := upd w.co f.dst.toNat ((w.co f.dst.toNat).handle f.src f.m (w.clk f.dst.toNat) draw) } : Clu).sentN f.dst.toNat
def three (w : Clu) (i : Nat) (b : Int) : Nat → Clu
  | 0 => w
  | n + 1 => (((w.three i b n).tickN i b).tickN ((i + 1) % 3) (b / 2)).tickN ((i + 2) % 3) (b / 4)
def anew (w : Clu) (i : Nat) (b : Int) : Co := newC i (w.co i).term (w.co i).voted (w.co i).log (w.clk i) b
def stepN (w : Clu) (a b : Int) : Clu :=
  let i := (b % 3).toNat
  let k := if 0 < w.net.length then (b % (w.net.length : Int)).toNat else 0
  if a % 16 ≤ 5 then w.three i b ((a / 16) % 4 + 1).toNat
  else if a % 16 = 6 then w.tickN i b
  else if a % 16 = 7 then (if 0 < w.net.length then { w with net := w.net.eraseIdx k } else w)
  else if a % 16 = 8 then (if 0 < w.net.length ∧ w.net.length < 200 then { w with net := w.net ++ [w.net.getD k default] } else w)
  else if a % 16 = 9 then { w with co := upd w.co i (w.anew i b) }
  else if a % 16 ≤ 11 then { w with co := upd w.co i ((w.co i).propose (0, 3, (w.co i).term, b + 1)).2 }
  else if 0 < w.net.length then w.delN k a else w
def runN (w : Clu) (l : List Int) : Nat → Clu
  | 0 => w
  | n + 1 => (w.runN l n).stepN (l.getD (2 * n) 0) (l.getD (2 * n + 1) 0)
end Clu
def clu0 : Clu := ⟨fun i => newC i 0 (-1) [] 0 (5 * i), fun _ => 0, [], [], [], []⟩
end Go.Proofs.YtcleaamjfjnkkaaGreat
