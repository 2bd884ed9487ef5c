/- ClA: small texts laid together. -/
import Derived.Test.YtcleaamjfjnkkaaCo31
/- Three voters and what is under way, in plain words. -/
namespace Go.Proofs.Ytcleaamjfjnkkaa
open Go.RowKit Go.Joins

namespace Co
/-- a mark of what is new; no method reads it. -/
def wg (c : Co) (n : Nat) : Co := { c with gh := n }
section
variable (c : Co) (n : Nat)
theorem wg_follow (t : Int) : (c.wg n).follow t = (c.follow t).wg n := by unfold follow wg; split <;> rfl
theorem wg_one {f : Co → Nat → Co} (h : ∀ c v, f (wg c n) v = (f c v).wg n) (v : Nat) : one f (c.wg n) v = (one f c v).wg n := by
  unfold one
  by_cases e : (v : Int) = c.me
  · rw [if_pos (show (v : Int) = (c.wg n).me from e), if_pos e]
  · rw [if_neg (show ¬ (v : Int) = (c.wg n).me from e), if_neg e, h]
theorem wg_others {f : Co → Nat → Co} (h : ∀ c v, f (wg c n) v = (f c v).wg n) : others f (c.wg n) = (others f c).wg n := by
  unfold others
  rw [wg_one _ _ h, wg_one _ _ h, wg_one _ _ h]
theorem wg_entries (v : Nat) : (c.wg n).entries v = (c.entries v).wg n := rfl
theorem wg_campOne (v : Nat) : (c.wg n).campOne v = (c.campOne v).wg n := rfl
theorem wg_tickOne (v : Nat) : (c.wg n).tickOne v = (c.tickOne v).wg n := by
  unfold tickOne
  show (if (c.passed (c.pr v).sentAt 4 || decide ((c.pr v).sentTo < (c.log.length : Int))) = true then (c.entries v).wg n else c.wg n) = _
  split <;> rfl
theorem wg_campaign (d : Int) : (c.wg n).campaign d = (c.campaign d).wg n := by
  unfold campaign
  exact wg_others { c with term := c.term + 1, voted := c.me, role := 1, head := -1, since := c.now, timeout := timeoutS d } n (fun c v => wg_campOne c n v)
theorem wg_lead : (c.wg n).lead = c.lead.wg n := by
  unfold lead
  exact wg_others { c with role := 2, head := c.me, pr := fun k => if k < 3 then newPr c.log.length else c.pr k, log := if c.log.length < 300 then c.log ++ [(c.term, 1, 0, 0)] else c.log } n (fun c v => wg_entries c n v)
theorem wg_tick (a b : Int) : (c.wg n).tick a b = (c.tick a b).wg n := by
  unfold tick
  simp only
  by_cases h : (c.begin a).role = 2
  · rw [if_pos (show ((c.wg n).begin a).role = 2 from h), if_pos h]
    exact wg_others (c.begin a) n (fun c v => wg_tickOne c n v)
  · rw [if_neg (show ¬ ((c.wg n).begin a).role = 2 from h), if_neg h]
    show (if _ then ((c.begin a).wg n).campaign b else (c.begin a).wg n) = _
    rw [wg_campaign]
    show (if ((c.begin a).passed (c.begin a).since (c.begin a).timeout && !waitsS (c.begin a).heard a && decide ((c.begin a).term < 18446744073709551615)) = true then _ else _) = _
    split <;> rfl
theorem wg_ask (f : Int) (m : Mg) (d : Int) : (c.wg n).ask f m d = (c.ask f m d).wg n := by
  unfold ask
  show (if (waitsS c.heard c.now || (decide (c.now < c.until_) && decide (c.role = 2))) = true then (c.send f (mg0 2)).wg n else _) = _
  split
  · rfl
  · simp only [wg_follow]
    show (if (c.follow m.term).askYes f m = true then _ else _) = _
    split <;> rfl
theorem wg_vote (f : Nat) (m : Mg) : (c.wg n).vote f m = (c.vote f m).wg n := by
  unfold vote
  simp only [wg_follow]
  show (if (c.follow m.term).role = 1 ∧ m.term = (c.follow m.term).term ∧ m.yes = true then (((c.follow m.term).setPr f { (c.follow m.term).pr f with votes := true }).wg n).lead else _) = _
  rw [wg_lead]
  split <;> rfl
theorem wg_take (f : Int) (m : Mg) : (c.wg n).take f m = (c.take f m).wg n := by
  unfold take
  show (if m.term < c.term then _ else if c.role = 2 ∧ m.term = c.term then _ else _) = _
  split
  · rfl
  · split
    · rfl
    · have e : (c.wg n).takeD f m = (c.takeD f m).wg n := by unfold takeD; rw [wg_follow]; rfl
      simp only [e]
      show (if fitsB (c.takeD f m).log m.prev m.pterm = false then _ else if (c.takeD f m).joinOk m = false then _ else _) = _
      split
      · rfl
      · split <;> rfl
theorem wg_commits : (c.wg n).commits = c.commits.wg n := by
  unfold commits
  show (if c.commit < c.mats ∧ (c.log.getD (c.mats - 1).toNat default).1 = c.term then _ else _) = _
  split <;> rfl
theorem wg_stampD (v : Nat) (m : Mg) : (c.wg n).stampD v m = (c.stampD v m).wg n := by
  unfold stampD
  show (if m.stamp ≤ c.now then _ else _) = _
  split <;> rfl
theorem wg_setPr (v : Nat) (x : Pr) : (c.wg n).setPr v x = (c.setPr v x).wg n := rfl
theorem wg_answered (v : Nat) (m : Mg) : (c.wg n).answered v m = (c.answered v m).wg n := by
  unfold answered
  simp only [wg_follow]
  show (if (c.follow m.term).role ≠ 2 ∨ m.term ≠ (c.follow m.term).term then _ else _) = _
  split
  · rfl
  · simp only [wg_stampD]
    generalize (c.follow m.term).stampD v m = e
    split
    · rfl
    · simp only [wg_setPr]
      show (if max (e.pr v).mat (min m.mat (e.log.length : Int)) + 1 ≤ (e.log.length : Int) then _ else _) = _
      simp only [wg_commits]
      split <;> rfl
theorem wg_handle (f : Int) (m : Mg) (a b : Int) : (c.wg n).handle f m a b = (c.handle f m a b).wg n := by
  unfold handle
  simp only
  show (if f < 0 ∨ 3 ≤ f ∨ f = (c.begin a).me then _ else _) = _
  split
  · rfl
  · split
    · exact wg_ask (c.begin a) n f m b
    · split
      · exact wg_vote (c.begin a) n f.toNat m
      · split
        · exact wg_take (c.begin a) n f m
        · split
          · exact wg_answered (c.begin a) n f.toNat m
          · rfl
end
end Co
/-- a message under way. -/
structure Fly where
  src : Int
  dst : Int
  m : Mg
instance : Inhabited Fly := ⟨⟨0, 0, default⟩⟩
structure Clu where
  co : Nat → Co
  clk : Nat → Int
  net : List Fly
  led : List Int
  by_ : List Int
  done : List Ent
def upd {α : Type} (f : Nat → α) (i : Nat) (x : α) : Nat → α := fun k => if k = i then x else f k
theorem upd_at {α : Type} (f : Nat → α) (i : Nat) (x : α) : upd f i x i = x := if_pos rfl
theorem upd_ne {α : Type} (f : Nat → α) {i k : Nat} (x : α) (h : k ≠ i) : upd f i x k = f k := if_neg h
def flies (src : Int) : List Int → List Mg → List Fly
  | d :: ds, m :: ms => ⟨src, d, m⟩ :: flies src ds ms
  | _, _ => []
namespace Clu
def slow (w : Clu) : Int := min (min (w.clk 0) (w.clk 1)) (w.clk 2)
def sentN (w : Clu) (i : Nat) : Clu := { w with net := w.net ++ (flies i (w.co i).dest (w.co i).out).take (200 - w.net.length) }
def tickN (w : Clu) (i : Nat) (draw : Int) : Clu :=
  if w.slow + 2 < w.clk i + 1 then w
  else ({ w with clk := upd w.clk i (w.clk i + 1), co := upd w.co i ((w.co i).tick (w.clk i + 1) draw) } : Clu).sentN i
def delN (w : Clu) (k : Nat) (draw : Int) : Clu :=
  let f := w.net.getD k default
  ({ w with net := w.net.eraseIdx k, co := upd w.co f.dst.toNat ((w.co f.dst.toNat).handle f.src f.m (w.clk f.dst.toNat) draw) } : Clu).sentN f.dst.toNat
def three (w : Clu) (i : Nat) (b : Int) : Nat → Clu
  | 0 => w
  | n + 1 => (((w.three i b n).tickN i b).tickN ((i + 1) % 3) (b / 2)).tickN ((i + 2) % 3) (b / 4)
def anew (w : Clu) (i : Nat) (b : Int) : Co := newC i (w.co i).term (w.co i).voted (w.co i).log (w.clk i) b
def stepN (w : Clu) (a b : Int) : Clu :=
  let i := (b % 3).toNat
  let k := if 0 < w.net.length then (b % (w.net.length : Int)).toNat else 0
  if a % 16 ≤ 5 then w.three i b ((a / 16) % 4 + 1).toNat
  else if a % 16 = 6 then w.tickN i b
  else if a % 16 = 7 then (if 0 < w.net.length then { w with net := w.net.eraseIdx k } else w)
  else if a % 16 = 8 then (if 0 < w.net.length ∧ w.net.length < 200 then { w with net := w.net ++ [w.net.getD k default] } else w)
  else if a % 16 = 9 then { w with co := upd w.co i (w.anew i b) }
  else if a % 16 ≤ 11 then { w with co := upd w.co i ((w.co i).propose (0, 3, (w.co i).term, b + 1)).2 }
  else if 0 < w.net.length then w.delN k a else w
def runN (w : Clu) (l : List Int) : Nat → Clu
  | 0 => w
  | n + 1 => (w.runN l n).stepN (l.getD (2 * n) 0) (l.getD (2 * n + 1) 0)
end Clu
def clu0 : Clu := ⟨fun i => newC i 0 (-1) [] 0 (5 * i), fun _ => 0, [], [], [], []⟩
end Go.Proofs.Ytcleaamjfjnkkaa
/- What stays sound of three voters. -/
namespace Go.Proofs.Ytcleaamjfjnkkaa
open Go.RowKit Go.Joins

/-- what a voter's log is beside being sound. -/
structure Sou (c : Co) : Prop where
  chk : checkE c.log = 0
  last : lastT c.log ≤ c.term
  led : c.role ≠ 0 → 1 ≤ c.term
theorem one_inv {P : Co → Prop} {f : Co → Nat → Co} (hf : ∀ d v, P d → P (f d v)) {c : Co} (h : P c) (v : Nat) : P (Co.one f c v) := by
  unfold Co.one; split
  · exact h
  · exact hf c v h
theorem others_inv {P : Co → Prop} {f : Co → Nat → Co} (hf : ∀ d v, P d → P (f d v)) {c : Co} (h : P c) : P (Co.others f c) :=
  one_inv hf (one_inv hf (one_inv hf h 0) 1) 2
/-- the fields that the sending of messages leaves alone. -/
structure Lik (c d : Co) : Prop where
  me : d.me = c.me
  term : d.term = c.term
  voted : d.voted = c.voted
  log : d.log = c.log
  commit : d.commit = c.commit
  role : d.role = c.role
  head : d.head = c.head
  heard : d.heard = c.heard
  since : d.since = c.since
  timeout : d.timeout = c.timeout
  now : d.now = c.now
theorem Lik.refl (c : Co) : Lik c c := ⟨rfl, rfl, rfl, rfl, rfl, rfl, rfl, rfl, rfl, rfl, rfl⟩
theorem Lik.trans {a b c : Co} (h : Lik a b) (g : Lik b c) : Lik a c :=
  ⟨g.me.trans h.me, g.term.trans h.term, g.voted.trans h.voted, g.log.trans h.log, g.commit.trans h.commit, g.role.trans h.role, g.head.trans h.head, g.heard.trans h.heard, g.since.trans h.since, g.timeout.trans h.timeout, g.now.trans h.now⟩
theorem lik_send (c : Co) (t : Int) (m : Mg) : Lik c (c.send t m) := ⟨rfl, rfl, rfl, rfl, rfl, rfl, rfl, rfl, rfl, rfl, rfl⟩
theorem lik_setPr (c : Co) (v : Nat) (x : Pr) : Lik c (c.setPr v x) := ⟨rfl, rfl, rfl, rfl, rfl, rfl, rfl, rfl, rfl, rfl, rfl⟩
theorem lik_entries (c : Co) (v : Nat) : Lik c (c.entries v) := ⟨rfl, rfl, rfl, rfl, rfl, rfl, rfl, rfl, rfl, rfl, rfl⟩
theorem lik_campOne (c : Co) (v : Nat) : Lik c (c.campOne v) := ⟨rfl, rfl, rfl, rfl, rfl, rfl, rfl, rfl, rfl, rfl, rfl⟩
theorem lik_tickOne (c : Co) (v : Nat) : Lik c (c.tickOne v) := by unfold Co.tickOne; split; exact lik_entries c v; exact Lik.refl c
theorem lik_others {f : Co → Nat → Co} (hf : ∀ d v, Lik d (f d v)) (c : Co) : Lik c (Co.others f c) := others_inv (P := Lik c) (fun d v h => h.trans (hf d v)) (Lik.refl c)
theorem lik_begin (c : Co) (t : Int) : (c.begin t).me = c.me ∧ (c.begin t).term = c.term ∧ (c.begin t).log = c.log ∧ (c.begin t).role = c.role := ⟨rfl, rfl, rfl, rfl⟩
theorem lik_back (c : Co) (f : Int) (y : Bool) (k s : Int) : Lik c (c.back f y k s) := lik_send _ _ _
theorem lik_stampD (c : Co) (v : Nat) (m : Mg) : Lik c (c.stampD v m) := by unfold Co.stampD; split; exact lik_setPr _ _ _; exact Lik.refl c
/-- a campaign; who leads. -/
theorem lik_campaign (c : Co) (d : Int) : Lik { c with term := c.term + 1, voted := c.me, role := 1, head := -1, since := c.now, timeout := timeoutS d } (c.campaign d) := lik_others lik_campOne _
def leadS (c : Co) : Co := { c with role := 2, head := c.me, log := if c.log.length < 300 then c.log ++ [(c.term, 1, 0, 0)] else c.log }
theorem lik_lead (c : Co) : Lik (leadS c) c.lead := by
  have h := lik_others lik_entries ({ c with role := 2, head := c.me, pr := fun k => if k < 3 then Co.newPr c.log.length else c.pr k, log := if c.log.length < 300 then c.log ++ [(c.term, 1, 0, 0)] else c.log } : Co)
  exact ⟨h.me, h.term, h.voted, h.log, h.commit, h.role, h.head, h.heard, h.since, h.timeout, h.now⟩
theorem Sou.lik {c d : Co} (h : Sou c) (l : Lik c d) : Sou d := ⟨by rw [l.log]; exact h.chk, by rw [l.log, l.term]; exact h.last, by rw [l.role, l.term]; exact h.led⟩
theorem follow_is (c : Co) (t : Int) : (c.follow t).log = c.log ∧ (c.follow t).me = c.me ∧ c.term ≤ (c.follow t).term ∧ t ≤ (c.follow t).term ∧ ((c.follow t).role ≠ 0 → c.role ≠ 0 ∧ (c.follow t).role = c.role ∧ (c.follow t).term = c.term) ∧ ((c.follow t).term = c.term ∨ (c.follow t).term = t) := by
  unfold Co.follow
  split
  · refine ⟨rfl, rfl, by show c.term ≤ t; omega, by show t ≤ t; omega, fun h => absurd rfl h, .inr rfl⟩
  · exact ⟨rfl, rfl, Int.le_refl _, by omega, fun h => ⟨h, rfl, rfl⟩, .inl rfl⟩
theorem Sou.follow {c : Co} (h : Sou c) (t : Int) : Sou (c.follow t) := by
  obtain ⟨e1, -, e3, -, e5, -⟩ := follow_is c t
  refine ⟨by rw [e1]; exact h.chk, by rw [e1]; have := h.last; omega, fun hr => ?_⟩
  have := e5 hr
  have := h.led this.1
  omega
theorem Sou.begin {c : Co} (h : Sou c) (t : Int) : Sou (c.begin t) := ⟨h.chk, h.last, h.led⟩
theorem sorted_snoc {es : List Ent} {e : Ent} (h : sortedB es = true) (hl : lastT es ≤ e.1) : sortedB (es ++ [e]) = true := by
  unfold sortedB at *
  rw [decide_eq_true_eq] at *
  intro k hk
  simp only [List.length_append, List.length_singleton] at hk
  by_cases h1 : k + 1 < es.length
  · have := h k (by omega)
    simp only [List.getD_eq_getElem?_getD] at this ⊢
    rw [List.getElem?_append_left (by omega), List.getElem?_append_left (by omega)]
    exact this
  · have h2 : k + 1 = es.length := by omega
    have h3 : es.length - 1 = k := by omega
    unfold lastT at hl
    rw [if_neg (by omega), h3] at hl
    simp only [List.getD_eq_getElem?_getD] at hl ⊢
    rw [List.getElem?_append_left (by omega), h2, List.getElem?_append_right (Nat.le_refl _), Nat.sub_self]
    exact hl
theorem check_parts {es : List Ent} (h : checkE es = 0) : es.length ≤ 300 ∧ sortedB es = true ∧ es.all okE = true := by
  unfold checkE at h
  split at h
  · cases h
  · split at h
    · rename_i h1 h2
      rw [Bool.and_eq_true] at h2
      exact ⟨by omega, h2.1, h2.2⟩
    · cases h
theorem check_mk {es : List Ent} (h1 : es.length ≤ 300) (h2 : sortedB es = true) (h3 : es.all okE = true) : checkE es = 0 := by
  unfold checkE
  rw [if_neg (by omega), h2, h3]
  rfl
theorem check_snoc {es : List Ent} {e : Ent} (h : checkE es = 0) (hn : es.length < 300) (hl : lastT es ≤ e.1) (ho : okE e = true) : checkE (es ++ [e]) = 0 := by
  obtain ⟨h1, h2, h3⟩ := check_parts h
  exact check_mk (by simp; omega) (sorted_snoc h2 hl) (by rw [List.all_append, h3]; simp [ho])
theorem lastT_snoc (es : List Ent) (e : Ent) : lastT (es ++ [e]) = e.1 := by
  unfold lastT
  rw [if_neg (by simp)]
  simp [List.getD_eq_getElem?_getD]
theorem Sou.lead {c : Co} (h : Sou c) (h1 : 1 ≤ c.term) : Sou c.lead := by
  refine Sou.lik (c := leadS c) ⟨?_, ?_, fun _ => h1⟩ (lik_lead c)
  · show checkE (if c.log.length < 300 then c.log ++ [(c.term, 1, 0, 0)] else c.log) = 0
    split
    · rename_i hn
      exact check_snoc h.chk hn h.last (by simp [okE]; exact h1)
    · exact h.chk
  · show lastT (if c.log.length < 300 then c.log ++ [(c.term, 1, 0, 0)] else c.log) ≤ c.term
    split
    · rw [lastT_snoc]; exact Int.le_refl _
    · exact h.last
theorem Sou.tick {c : Co} (h : Sou c) (h0 : 0 ≤ c.term) (a b : Int) : Sou (c.tick a b) := by
  unfold Co.tick
  simp only
  split
  · exact (h.begin a).lik (lik_others lik_tickOne _)
  · split
    · refine Sou.lik (c := { c.begin a with term := (c.begin a).term + 1, voted := (c.begin a).me, role := 1, head := -1, since := (c.begin a).now, timeout := timeoutS b }) ⟨h.chk, ?_, fun _ => ?_⟩ (lik_campaign (c.begin a) b)
      · show lastT c.log ≤ c.term + 1
        have := h.last; omega
      · show 1 ≤ c.term + 1
        omega
    · exact h.begin a
theorem Sou.ask {c : Co} (h : Sou c) (f : Int) (m : Mg) (d : Int) : Sou (c.ask f m d) := by
  have g := h.follow m.term
  unfold Co.ask
  split
  · exact h.lik (lik_send _ _ _)
  · simp only
    split
    · exact Sou.lik (c := { (c.follow m.term) with voted := f, since := (c.follow m.term).now, timeout := timeoutS d }) ⟨g.chk, g.last, g.led⟩ (lik_send _ _ _)
    · exact g.lik (lik_send _ _ _)
theorem Sou.vote {c : Co} (h : Sou c) (f : Nat) (m : Mg) : Sou (c.vote f m) := by
  have g := h.follow m.term
  unfold Co.vote
  simp only
  split
  · rename_i hh
    exact Sou.lead (c := (c.follow m.term).setPr f { (c.follow m.term).pr f with votes := true }) (g.lik (lik_setPr _ _ _)) (g.led (by rw [hh.1]; omega))
  · exact g
theorem takeD_is (c : Co) (f : Int) (m : Mg) : (c.takeD f m).log = c.log ∧ (c.takeD f m).term = (c.follow m.term).term ∧ (c.takeD f m).role = 0 ∧ (c.takeD f m).me = c.me := ⟨(follow_is c m.term).1, rfl, rfl, (follow_is c m.term).2.1⟩
theorem joinOk_is {d : Co} {m : Mg} (h : d.joinOk m = true) : checkE (joinL d.log m.prev m.ents) = 0 ∧ lastT (joinL d.log m.prev m.ents) ≤ m.term ∧ d.commit ≤ ((joinL d.log m.prev m.ents).length : Int) ∧ (joinL d.log m.prev m.ents).take d.commit.toNat = d.log.take d.commit.toNat := by
  unfold Co.joinOk at h
  simp only [Bool.and_eq_true, decide_eq_true_eq] at h
  exact ⟨h.1.1.1, h.1.1.2, h.1.2, h.2⟩
theorem Sou.take {c : Co} (h : Sou c) (f : Int) (m : Mg) : Sou (c.take f m) := by
  obtain ⟨e1, e2, e3, -⟩ := takeD_is c f m
  have hf := follow_is c m.term
  have g : Sou (c.takeD f m) := ⟨by rw [e1]; exact h.chk, by rw [e1, e2]; have := h.last; omega, fun e => absurd e3 e⟩
  unfold Co.take
  split
  · exact h.lik (lik_send _ _ _)
  · split
    · exact h
    · simp only
      split
      · exact g.lik (lik_back _ _ _ _ _)
      · split
        · exact g
        · rename_i hj
          obtain ⟨j1, j2, -, -⟩ := joinOk_is (by simpa using hj)
          refine Sou.lik (c := { (c.takeD f m) with log := joinL (c.takeD f m).log m.prev m.ents, commit := max (c.takeD f m).commit (min m.commit (m.prev + (m.ents.length : Int))) }) ⟨j1, ?_, fun e => absurd e3 e⟩ (lik_back _ _ _ _ _)
          show lastT (joinL (c.takeD f m).log m.prev m.ents) ≤ (c.takeD f m).term
          rw [e2]
          omega
theorem Sou.answered {c : Co} (h : Sou c) (v : Nat) (m : Mg) : Sou (c.answered v m) := by
  have g := h.follow m.term
  unfold Co.answered
  simp only
  split
  · exact g
  · have e0 := g.lik (lik_stampD _ v m)
    generalize (c.follow m.term).stampD v m = e at *
    split
    · exact (e0.lik (lik_setPr _ _ _)).lik (lik_entries _ _)
    · have gs := e0.lik (lik_setPr e v { e.pr v with mat := max (e.pr v).mat (min m.mat (e.log.length : Int)), next := max (e.pr v).mat (min m.mat (e.log.length : Int)) + 1 })
      have gc : Sou ((e.setPr v { e.pr v with mat := max (e.pr v).mat (min m.mat (e.log.length : Int)), next := max (e.pr v).mat (min m.mat (e.log.length : Int)) + 1 }).commits) := by
        unfold Co.commits
        split
        · exact ⟨gs.chk, gs.last, gs.led⟩
        · exact gs
      split
      · exact gc.lik (lik_entries _ _)
      · exact gc
theorem Sou.handle {c : Co} (h : Sou c) (f : Int) (m : Mg) (a b : Int) : Sou (c.handle f m a b) := by
  have g := h.begin a
  unfold Co.handle
  simp only
  split
  · exact g
  · split
    · exact g.ask f m b
    · split
      · exact g.vote _ m
      · split
        · exact g.take f m
        · split
          · exact g.answered _ m
          · exact g
theorem Sou.propose {c : Co} (h : Sou c) (x : Ent) : Sou (c.propose x).2 := by
  unfold Co.propose
  split
  · exact h
  · split
    · exact h
    · split
      · exact h
      · rename_i h1 h2 h3
        have hk : checkE [(c.term, x.2)] = 0 := by
          cases Classical.em (checkE [(c.term, x.2)] = 0) with
          | inl e => exact e
          | inr e => exact absurd e h2
        obtain ⟨-, -, k3⟩ := check_parts hk
        refine ⟨check_snoc h.chk (by omega) h.last (by simpa using k3), ?_, h.led⟩
        show lastT (c.log ++ [(c.term, x.2)]) ≤ c.term
        rw [lastT_snoc]; exact Int.le_refl _
theorem Sou.newOk {c : Co} (h : Sou c) (k : Ok c) {me : Int} (h0 : 0 ≤ me) (h3 : me < 3) : newOk me c.term c.voted c.log = true := by
  unfold Go.Proofs.Ytcleaamjfjnkkaa.newOk
  simp only [Bool.and_eq_true, decide_eq_true_eq]
  exact ⟨⟨⟨⟨⟨h0, h3⟩, h.chk⟩, k.voted.1⟩, k.voted.2⟩, h.last⟩
theorem Sou.new {me t v : Int} {es : List Ent} (clock draw : Int) (h : Go.Proofs.Ytcleaamjfjnkkaa.newOk me t v es = true) : Sou (newC me t v es clock draw) := by
  unfold Go.Proofs.Ytcleaamjfjnkkaa.newOk at h
  simp only [Bool.and_eq_true, decide_eq_true_eq] at h
  exact ⟨h.1.1.1.2, h.2, fun e => absurd rfl e⟩
theorem me_tick (c : Co) (a b : Int) : (c.tick a b).me = c.me := by
  unfold Co.tick
  simp only
  split
  · exact (lik_others lik_tickOne _).me
  · split
    · exact (lik_campaign _ _).me
    · rfl
theorem me_handle (c : Co) (f : Int) (m : Mg) (a b : Int) : (c.handle f m a b).me = c.me := by
  have hf : ∀ d : Co, (d.follow m.term).me = d.me := fun d => (follow_is d m.term).2.1
  unfold Co.handle
  simp only
  split
  · rfl
  · split
    · unfold Co.ask
      split
      · rfl
      · simp only
        split
        · exact hf (c.begin a)
        · exact hf (c.begin a)
    · split
      · unfold Co.vote
        simp only
        split
        · exact (lik_lead _).me.trans (hf (c.begin a))
        · exact hf (c.begin a)
      · split
        · unfold Co.take
          split
          · rfl
          · split
            · rfl
            · simp only
              split
              · exact hf (c.begin a)
              · split
                · exact hf (c.begin a)
                · exact hf (c.begin a)
        · split
          · unfold Co.answered
            simp only
            split
            · exact hf (c.begin a)
            · have e1 := (lik_stampD ((c.begin a).follow m.term) f.toNat m).me
              generalize ((c.begin a).follow m.term).stampD f.toNat m = e at *
              split
              · exact e1.trans (hf (c.begin a))
              · have g1 : ∀ d : Co, d.commits.me = d.me := fun d => by unfold Co.commits; split <;> rfl
                split
                · exact (g1 _).trans (e1.trans (hf (c.begin a)))
                · exact (g1 _).trans (e1.trans (hf (c.begin a)))
          · rfl
theorem me_propose (c : Co) (x : Ent) : (c.propose x).2.me = c.me := by unfold Co.propose; split; rfl; split; rfl; split <;> rfl
/-- as many receivers as messages. -/
def Eve (c : Co) : Prop := c.dest.length = c.out.length ∧ ∀ d ∈ c.dest, (0 ≤ d ∧ d < 3)
theorem Eve.send {c : Co} (h : Eve c) {t : Int} (ht : 0 ≤ t ∧ t < 3) (m : Mg) : Eve (c.send t m) := by
  refine ⟨by show (c.dest ++ [t]).length = (c.out ++ [{ m with term := c.term }]).length; simp [h.1], fun d hd => ?_⟩
  rcases List.mem_append.1 hd with hd | hd
  · exact h.2 d hd
  · obtain rfl := List.mem_singleton.1 hd; exact ht
theorem one_inv3 {P : Co → Prop} {f : Co → Nat → Co} {v : Nat} (hf : ∀ d, P d → P (f d v)) {c : Co} (h : P c) : P (Co.one f c v) := by
  unfold Co.one; split
  · exact h
  · exact hf c h
theorem Eve.others {f : Co → Nat → Co} (hf : ∀ d v, v < 3 → Eve d → Eve (f d v)) {c : Co} (h : Eve c) : Eve (Co.others f c) :=
  one_inv3 (fun d => hf d 2 (by omega)) (one_inv3 (fun d => hf d 1 (by omega)) (one_inv3 (fun d => hf d 0 (by omega)) h))
theorem Eve.entries {c : Co} (h : Eve c) {v : Nat} (hv : v < 3) : Eve (c.entries v) := h.send (t := (v : Int)) (by omega) _
theorem Eve.campOne {c : Co} (h : Eve c) {v : Nat} (hv : v < 3) : Eve (c.campOne v) := Eve.send (c := c.setPr v { c.pr v with votes := false }) h (t := (v : Int)) (by omega) _
theorem Eve.of {c d : Co} (h : Eve c) (h1 : d.out = c.out) (h2 : d.dest = c.dest) : Eve d := ⟨by rw [h1, h2]; exact h.1, by rw [h2]; exact h.2⟩
theorem eve_begin (c : Co) (a : Int) : Eve (c.begin a) := ⟨rfl, fun d hd => by cases hd⟩
theorem Eve.lead {c : Co} (h : Eve c) : Eve c.lead := Eve.others (fun _ _ hv hd => hd.entries hv) (c := { c with role := 2, head := c.me, pr := fun k => if k < 3 then Co.newPr c.log.length else c.pr k, log := if c.log.length < 300 then c.log ++ [(c.term, 1, 0, 0)] else c.log }) h
theorem Eve.follow {c : Co} (h : Eve c) (t : Int) : Eve (c.follow t) := h.of (by unfold Co.follow; split <;> rfl) (by unfold Co.follow; split <;> rfl)
theorem eve_tick (c : Co) (a b : Int) : Eve (c.tick a b) := by
  have g := eve_begin c a
  unfold Co.tick
  simp only
  split
  · refine Eve.others (fun d v hv hd => ?_) g
    unfold Co.tickOne; split
    · exact hd.entries hv
    · exact hd
  · split
    · exact Eve.others (fun _ _ hv hd => hd.campOne hv) (c := { c.begin a with term := (c.begin a).term + 1, voted := (c.begin a).me, role := 1, head := -1, since := (c.begin a).now, timeout := timeoutS b }) g
    · exact g
theorem eve_handle (c : Co) (f : Int) (m : Mg) (a b : Int) : Eve (c.handle f m a b) := by
  have g := eve_begin c a
  have gf := g.follow m.term
  unfold Co.handle
  simp only
  split
  · exact g
  · rename_i hf
    have h0 : 0 ≤ f ∧ f < 3 := by omega
    split
    · unfold Co.ask
      split
      · exact g.send h0 _
      · simp only
        split
        · exact Eve.send (c := { ((c.begin a).follow m.term) with voted := f, since := ((c.begin a).follow m.term).now, timeout := timeoutS b }) gf h0 _
        · exact gf.send h0 _
    · split
      · unfold Co.vote
        simp only
        split
        · exact Eve.lead (c := ((c.begin a).follow m.term).setPr f.toNat { ((c.begin a).follow m.term).pr f.toNat with votes := true }) gf
        · exact gf
      · split
        · have gd : Eve ((c.begin a).takeD f m) := gf
          unfold Co.take
          split
          · exact g.send h0 _
          · split
            · exact g
            · simp only
              split
              · exact gd.send h0 _
              · split
                · exact gd
                · exact Eve.send (c := { ((c.begin a).takeD f m) with log := joinL ((c.begin a).takeD f m).log m.prev m.ents, commit := max ((c.begin a).takeD f m).commit (min m.commit (m.prev + (m.ents.length : Int))) }) gd h0 _
        · split
          · unfold Co.answered
            simp only
            split
            · exact gf
            · have e1 : Eve (((c.begin a).follow m.term).stampD f.toNat m) := by unfold Co.stampD; split; exact gf; exact gf
              generalize ((c.begin a).follow m.term).stampD f.toNat m = e at *
              split
              · exact Eve.entries (c := e.setPr f.toNat { e.pr f.toNat with next := max (e.pr f.toNat).mat (min ((e.pr f.toNat).next - 1) (max m.mat 0)) + 1 }) e1 (by omega)
              · have g1 : ∀ d : Co, Eve d → Eve d.commits := fun d h => by unfold Co.commits; split; exact h; exact h
                split
                · exact (g1 (e.setPr f.toNat { e.pr f.toNat with mat := max (e.pr f.toNat).mat (min m.mat (e.log.length : Int)), next := max (e.pr f.toNat).mat (min m.mat (e.log.length : Int)) + 1 }) e1).entries (by omega)
                · exact g1 (e.setPr f.toNat { e.pr f.toNat with mat := max (e.pr f.toNat).mat (min m.mat (e.log.length : Int)), next := max (e.pr f.toNat).mat (min m.mat (e.log.length : Int)) + 1 }) e1
          · exact g
end Go.Proofs.Ytcleaamjfjnkkaa
/- Three voters and what is under way, in memory. -/
namespace Go.Proofs.Ytcleaamjfjnkkaa
open Go.RowKit Go.Joins

/-- a message under way, in memory. -/
structure RY where
  src : Int
  dst : Int
  x : RM
instance : Inhabited RY := ⟨⟨0, 0, default⟩⟩
def RY.f (y : RY) : Fly := ⟨y.src, y.dst, y.x.m⟩
def encY (y : RY) : List Value := .int .i64 y.src :: .int .i64 y.dst :: encM y.x
theorem EY : Enc encY 28 := ⟨fun x => by show (encM x.x).length + 1 + 1 = 28; rw [EM.1], fun x u hu => by
  rcases List.mem_cons.1 hu with rfl | hu
  · rfl
  · rcases List.mem_cons.1 hu with rfl | hu
    · rfl
    · exact EM.2 x.x u hu, by omega⟩
set_option maxRecDepth 100000 in
theorem TY : Tab Try.prog 58 92 28 272 := ⟨Try.underlying58, _, _, rfl, rfl, rfl, rfl, rfl⟩
def encU (x : Int) : List Value := [.int .u64 x]
theorem EU : Enc encU 1 := ⟨fun _ => rfl, fun x u hu => by simp [encU] at hu; subst hu; rfl, by omega⟩
set_option maxRecDepth 100000 in
theorem TU : Tab Try.prog 59 24 1 8 := ⟨Try.underlying59, _, _, rfl, rfl, rfl, rfl, rfl⟩
/-- where a voter lies. -/
structure VM where
  p : Nat
  lv : Value
  ov : Value
  tv : Value
/-- where the cluster's lists lie. -/
structure LM where
  nv : Value
  ev : Value
  bv : Value
  dv : Value
def ptr (p : Nat) : Value := .pointer (some ⟨p, 0, none⟩)
def kA (V : Nat → VM) (l : LM) (k : Clu) : Array Value := #[ptr (V 0).p, ptr (V 1).p, ptr (V 2).p, .int .i64 (k.clk 0), .int .i64 (k.clk 1), .int .i64 (k.clk 2), l.nv, l.ev, l.bv, l.dv, .bool false]
theorem kA_ptr (V : Nat → VM) (l : LM) (k : Clu) {n : Nat} (h : n < 3) : (kA V l k)[n]? = some (ptr (V n).p) := by
  obtain rfl | rfl | rfl : n = 0 ∨ n = 1 ∨ n = 2 := by omega
  all_goals rfl
theorem kA_clk (V : Nat → VM) (l : LM) (k : Clu) {n : Nat} (h : n < 3) : (kA V l k)[3 + n]? = some (.int .i64 (k.clk n)) := by
  obtain rfl | rfl | rfl : n = 0 ∨ n = 1 ∨ n = 2 := by omega
  all_goals rfl
theorem kA_put (V : Nat → VM) (l : LM) (k : Clu) {n : Nat} (h : n < 3) (x : VM) : (kA V l k).setIfInBounds n (ptr x.p) = kA (upd V n x) l k := by
  obtain rfl | rfl | rfl : n = 0 ∨ n = 1 ∨ n = 2 := by omega
  all_goals rfl
theorem kA_tick (V : Nat → VM) (l : LM) (k : Clu) {n : Nat} (h : n < 3) (t : Int) : (kA V l k).setIfInBounds (3 + n) (.int .i64 t) = kA V l { k with clk := upd k.clk n t } := by
  obtain rfl | rfl | rfl : n = 0 ∨ n = 1 ∨ n = 2 := by omega
  all_goals rfl
/-- its blocks. -/
def KF (q : Nat) (V : Nat → VM) (l : LM) (b : Nat) : Prop := b = q ∨ (∃ i, i < 3 ∧ (b = (V i).p ∨ (V i).lv.ownBlock = some b)) ∨ l.nv.ownBlock = some b ∨ l.ev.ownBlock = some b ∨ l.bv.ownBlock = some b ∨ l.dv.ownBlock = some b
structure KAt (w : World) (base q : Nat) (V : Nat → VM) (l : LM) (ys : List RY) (k : Clu) : Prop where
  blk : w.heap[q]? = some (.cells (kA V l k) 62 (0, 0))
  bp : base ≤ q
  co : ∀ i, i < 3 → CL w base (V i).p (V i).lv (V i).ov (V i).tv (k.co i)
  apart : ∀ i j, i < 3 → j < 3 → i ≠ j → (V i).p ≠ (V j).p ∧ ∀ g, (V i).lv.ownBlock = some g → (V j).lv.ownBlock ≠ some g
  dap : ∀ i, i < 3 → ∀ g, (V i).lv.ownBlock = some g → l.dv.ownBlock ≠ some g
  net : OwnL encY 28 92 w base l.nv ys
  eq : ys.map RY.f = k.net
  ents : ∀ y ∈ ys, EAt w (KF q V l) y.x
  led : OwnL encU 1 24 w base l.ev k.led
  byv : OwnL encI 1 3 w base l.bv k.by_
  dn : OwnE w base l.dv k.done
section
variable {w w' : World} {base q : Nat} {V V' : Nat → VM} {l l' : LM} {ys ys' : List RY} {k k' : Clu} {S : Nat → Prop}
theorem OwnE.block {w : World} {base : Nat} {v : Value} {es : List Ent} (h : OwnE w base v es) {g : Nat} (hg : v.ownBlock = some g) : base ≤ g ∧ ∃ cur, w.heap[g]? = some (.cells cur 30 (0, 0)) := OwnL.block (enc := encE) h hg
theorem KAt.lt (h : KAt w base q V l ys k) : ∀ b, KF q V l b → base ≤ b ∧ b < w.heap.size := by
  rintro b (rfl | ⟨i, hi, rfl | hb⟩ | hb | hb | hb | hb)
  · exact ⟨h.bp, blk_lt h.blk⟩
  · exact (h.co i hi).lt.1
  · exact (h.co i hi).lt.2 b hb
  · exact World.ownsRow.lt h.net b hb
  · exact World.ownsRow.lt h.led b hb
  · exact World.ownsRow.lt h.byv b hb
  · exact World.ownsRow.lt h.dn b hb
/-- what lies at a block. -/
structure Kin (w : World) (base q : Nat) (V : Nat → VM) (l : LM) : Prop where
  qp : ∀ i, i < 3 → q ≠ (V i).p ∧ (V i).lv.ownBlock ≠ some q
  q1 : l.nv.ownBlock ≠ some q ∧ l.ev.ownBlock ≠ some q ∧ l.bv.ownBlock ≠ some q ∧ l.dv.ownBlock ≠ some q
  p1 : ∀ i, i < 3 → l.nv.ownBlock ≠ some (V i).p ∧ l.ev.ownBlock ≠ some (V i).p ∧ l.bv.ownBlock ≠ some (V i).p ∧ l.dv.ownBlock ≠ some (V i).p
  lp : ∀ i j, i < 3 → j < 3 → (V i).lv.ownBlock ≠ some (V j).p
  l1 : ∀ i, i < 3 → ∀ g, (V i).lv.ownBlock = some g → l.nv.ownBlock ≠ some g ∧ l.ev.ownBlock ≠ some g ∧ l.bv.ownBlock ≠ some g
  n1 : ∀ g, l.nv.ownBlock = some g → l.ev.ownBlock ≠ some g ∧ l.bv.ownBlock ≠ some g ∧ l.dv.ownBlock ≠ some g
  e1 : ∀ g, l.ev.ownBlock = some g → l.bv.ownBlock ≠ some g ∧ l.dv.ownBlock ≠ some g
  b1 : ∀ g, l.bv.ownBlock = some g → l.dv.ownBlock ≠ some g
theorem KAt.kin (h : KAt w base q V l ys k) : Kin w base q V l := by
  have ty : ∀ (v : Value) (e1 : TypeId) (n sz : Nat) (xs : List Value) (g : Nat) (cur : Array Value) (e2 : TypeId), w.ownsRow base e1 sz v n xs → w.heap[g]? = some (.cells cur e2 (0, 0)) → e1 ≠ e2 → v.ownBlock ≠ some g := by
    intro v e1 n sz xs g cur e2 h1 h2 hne
    exact ownR_not h1 h2 (fun cs e => by simp at e; exact hne e.2.symm)
  have hl : ∀ i, i < 3 → ∀ g, (V i).lv.ownBlock = some g → ∃ cur, w.heap[g]? = some (.cells cur 30 (0, 0)) := fun i hi g hg => (OwnE.block (h.co i hi).log hg).2
  have hd : ∀ g, l.dv.ownBlock = some g → ∃ cur, w.heap[g]? = some (.cells cur 30 (0, 0)) := fun g hg => (OwnE.block h.dn hg).2
  have hn : ∀ g, l.nv.ownBlock = some g → ∃ cur, w.heap[g]? = some (.cells cur 92 (0, 0)) := fun g hg => (h.net.block hg).2
  have hb : ∀ g, l.bv.ownBlock = some g → ∃ cur, w.heap[g]? = some (.cells cur 3 (0, 0)) := fun g hg => (h.byv.block hg).2
  have he : ∀ g, l.ev.ownBlock = some g → ∃ cur, w.heap[g]? = some (.cells cur 24 (0, 0)) := fun g hg => (h.led.block hg).2
  refine ⟨fun i hi => ⟨fun e => ?_, ty _ _ _ _ _ _ _ _ (h.co i hi).log h.blk (by decide)⟩, ⟨ty _ _ _ _ _ _ _ _ h.net h.blk (by decide), ty _ _ _ _ _ _ _ _ h.led h.blk (by decide), ty _ _ _ _ _ _ _ _ h.byv h.blk (by decide), ty _ _ _ _ _ _ _ _ h.dn h.blk (by decide)⟩,
    fun i hi => ⟨ty _ _ _ _ _ _ _ _ h.net (h.co i hi).blk (by decide), ty _ _ _ _ _ _ _ _ h.led (h.co i hi).blk (by decide), ty _ _ _ _ _ _ _ _ h.byv (h.co i hi).blk (by decide), ty _ _ _ _ _ _ _ _ h.dn (h.co i hi).blk (by decide)⟩,
    fun i j hi hj => ty _ _ _ _ _ _ _ _ (h.co i hi).log (h.co j hj).blk (by decide), fun i hi g hg => ?_, fun g hg => ?_, fun g hg => ?_, fun g hg => ?_⟩
  · have h1 := h.blk
    rw [e, (h.co i hi).blk] at h1
    simp at h1
  · obtain ⟨cur, hc⟩ := hl i hi g hg
    exact ⟨ty _ _ _ _ _ _ _ _ h.net hc (by decide), ty _ _ _ _ _ _ _ _ h.led hc (by decide), ty _ _ _ _ _ _ _ _ h.byv hc (by decide)⟩
  · obtain ⟨cur, hc⟩ := hn g hg
    exact ⟨ty _ _ _ _ _ _ _ _ h.led hc (by decide), ty _ _ _ _ _ _ _ _ h.byv hc (by decide), ty _ _ _ _ _ _ _ _ h.dn hc (by decide)⟩
  · obtain ⟨cur, hc⟩ := he g hg
    exact ⟨ty _ _ _ _ _ _ _ _ h.byv hc (by decide), ty _ _ _ _ _ _ _ _ h.dn hc (by decide)⟩
  · obtain ⟨cur, hc⟩ := hb g hg
    exact ty _ _ _ _ _ _ _ _ h.dn hc (by decide)
theorem KAt.below (h : KAt w base q V l ys k) (hb : Below w.heap.size w w') : KAt w' base q V l ys k :=
  ⟨blk_below h.blk hb, h.bp, fun i hi => (h.co i hi).below hb, h.apart, h.dap, h.net.below hb, h.eq, fun y hy => (h.ents y hy).mod (Mod.bel hb) (fun _ hk => .inl hk), h.led.below hb, h.byv.below hb, (Mod.belowAll hb).own h.dn (fun _ _ c => c)⟩
/-- what a method of the cluster does. -/
def KUpd (base q : Nat) (V : Nat → VM) (l : LM) (k' : Clu) (w w' : World) : Prop := ∃ V' l' ys', KAt w' base q V' l' ys' k' ∧ Mod (KF q V l) w w' ∧ ∀ b, KF q V' l' b → KF q V l b ∨ w.heap.size ≤ b
theorem KUpd.then {w1 w2 : World} (hm : Mod (KF q V l) w w1) (hf : ∀ b, KF q V' l' b → KF q V l b ∨ w.heap.size ≤ b) (h2 : KUpd base q V' l' k w1 w2) : KUpd base q V l k w w2 := by
  obtain ⟨V2, l2, ys2, k1, k2, k3⟩ := h2
  refine ⟨V2, l2, ys2, k1, hm.then k2 (fun i hi hc => ?_), fun b hb => ?_⟩
  · rcases hf i hc with d | d
    · exact d
    · omega
  · rcases k3 b hb with d | d
    · exact hf b d
    · exact .inr (Nat.le_trans hm.size d)
theorem KAt.stay (h : KAt w base q V l ys k) (hb : Below w.heap.size w w') : KUpd base q V l k w w' := ⟨V, l, ys, h.below hb, Mod.bel hb, fun _ hk => .inl hk⟩
/-- of a voter's blocks each is the cluster's. -/
theorem KF.vot {i : Nat} (hi : i < 3) {b : Nat} (h : CF (V i).p (V i).lv NIL NIL b) : KF q V l b := by
  rcases h with e | e | e | e
  · exact .inr (.inl ⟨i, hi, .inl e⟩)
  · exact .inr (.inl ⟨i, hi, .inr e⟩)
  · cases e
  · cases e
theorem KF.upd' {i : Nat} (hi : i < 3) {x : VM} (hp : x.p = (V i).p) (hF : ∀ g, x.lv.ownBlock = some g → CF (V i).p (V i).lv NIL NIL g ∨ w.heap.size ≤ g) : ∀ b, KF q (upd V i x) l b → KF q V l b ∨ w.heap.size ≤ b := by
  rintro b (e | ⟨j, hj, e⟩ | e)
  · exact .inl (.inl e)
  · by_cases hji : j = i
    · subst hji
      rw [upd_at] at e
      rcases e with e | e
      · exact .inl (.inr (.inl ⟨j, hj, .inl (e.trans hp)⟩))
      · rcases hF b e with d | d
        · exact .inl (KF.vot hi d)
        · exact .inr d
    · rw [upd_ne _ _ hji] at e
      exact .inl (.inr (.inl ⟨j, hj, e⟩))
  · exact .inl (.inr (.inr e))
/-- a voter does something. -/
theorem KAt.turnL (h : KAt w base q V l ys k) {i : Nat} (hi : i < 3) {lv' ov' tv' : Value} {c' : Co} (hC : CL w' base (V i).p lv' ov' tv' c') (hM : Mod (CF (V i).p (V i).lv NIL NIL) w w')
    (hFl : ∀ g, lv'.ownBlock = some g → CF (V i).p (V i).lv NIL NIL g ∨ w.heap.size ≤ g) :
    KAt w' base q (upd V i ⟨(V i).p, lv', ov', tv'⟩) l ys { k with co := upd k.co i c' } ∧ Mod (KF q V l) w w' ∧ ∀ b, KF q (upd V i ⟨(V i).p, lv', ov', tv'⟩) l b → KF q V l b ∨ w.heap.size ≤ b := by
  have kn := h.kin
  have no : ∀ b, b ≠ (V i).p → (V i).lv.ownBlock ≠ some b → ¬ CF (V i).p (V i).lv NIL NIL b := by
    rintro b h1 h2 (e | e | e | e)
    · exact h1 e
    · exact h2 e
    · cases e
    · cases e
  have hFf := KF.upd' (q := q) (l := l) (w := w) (V := V) hi (x := ⟨(V i).p, lv', ov', tv'⟩) rfl hFl
  have hMK : Mod (KF q V l) w w' := hM.mono (fun _ _ e => KF.vot hi e)
  have old : ∀ j, j < 3 → j ≠ i → ∀ g, (V j).lv.ownBlock = some g → lv'.ownBlock ≠ some g := by
    intro j hj hji g hg e
    rcases hFl g e with d | d
    · rcases d with d | d | d | d
      · exact kn.lp j i hj hi (d ▸ hg)
      · exact (h.apart j i hj hi hji).2 g hg d
      · cases d
      · cases d
    · have := ((h.co j hj).lt.2 g hg).2; omega
  refine ⟨⟨?_, h.bp, fun j hj => ?_, fun a b ha hb hab => ?_, fun j hj g hg => ?_, hM.own h.net (fun g hg => ?_), h.eq, fun y hy => (h.ents y hy).mod hMK hFf, hM.own h.led (fun g hg => ?_), hM.own h.byv (fun g hg => ?_), hM.own h.dn (fun g hg => ?_)⟩, hMK, hFf⟩
  · have e : kA (upd V i ⟨(V i).p, lv', ov', tv'⟩) l { k with co := upd k.co i c' } = kA V l k := by
      have hp : ∀ j, (upd V i ⟨(V i).p, lv', ov', tv'⟩ j).p = (V j).p := by
        intro j
        by_cases hji : j = i
        · subst hji; rw [upd_at]
        · rw [upd_ne _ _ hji]
      unfold kA
      rw [hp 0, hp 1, hp 2]
    rw [e]
    exact hM.heap h.blk (no q (kn.qp i hi).1 (kn.qp i hi).2)
  · by_cases hji : j = i
    · subst hji
      simp only [upd_at]
      exact hC
    · simp only [upd_ne _ _ hji]
      refine (h.co j hj).mod hM (no _ (h.apart j i hj hi hji).1 (kn.lp i j hi hj)) (fun g hg => no g (fun e => kn.lp j i hj hi (e ▸ hg)) (fun e => (h.apart j i hj hi hji).2 g hg e))
  · by_cases hai : a = i
    · have hbi : b ≠ i := fun e => hab (hai.trans e.symm)
      subst hai
      rw [upd_at, upd_ne _ _ hbi]
      exact ⟨(h.apart a b ha hb hab).1, fun g hg e => old b hb hbi g e hg⟩
    · rw [upd_ne _ _ hai]
      by_cases hbi : b = i
      · subst hbi
        rw [upd_at]
        exact ⟨(h.apart a b ha hb hab).1, fun g hg => old a ha hai g hg⟩
      · rw [upd_ne _ _ hbi]
        exact h.apart a b ha hb hab
  · by_cases hji : j = i
    · subst hji
      rw [upd_at] at hg
      intro e
      rcases hFl g hg with d | d
      · rcases d with d | d | d | d
        · exact (kn.p1 j hi).2.2.2 (d ▸ e)
        · exact h.dap j hi g d e
        · cases d
        · cases d
      · have := (World.ownsRow.lt h.dn g e).2; omega
    · rw [upd_ne _ _ hji] at hg
      exact h.dap j hj g hg
  · exact no g (fun e => (kn.p1 i hi).1 (e ▸ hg)) (fun e => (kn.l1 i hi g e).1 hg)
  · exact no g (fun e => (kn.p1 i hi).2.1 (e ▸ hg)) (fun e => (kn.l1 i hi g e).2.1 hg)
  · exact no g (fun e => (kn.p1 i hi).2.2.1 (e ▸ hg)) (fun e => (kn.l1 i hi g e).2.2 hg)
  · exact no g (fun e => (kn.p1 i hi).2.2.2 (e ▸ hg)) (fun e => h.dap i hi g e hg)
theorem KAt.turn (h : KAt w base q V l ys k) {i : Nat} (hi : i < 3) {lv' ov' tv' : Value} {c' : Co} (hC : CL w' base (V i).p lv' ov' tv' c') (hM : Mod (CF (V i).p (V i).lv NIL NIL) w w')
    (hF : ∀ b, CF (V i).p lv' ov' tv' b → CF (V i).p (V i).lv NIL NIL b ∨ w.heap.size ≤ b) :
    KAt w' base q (upd V i ⟨(V i).p, lv', ov', tv'⟩) l ys { k with co := upd k.co i c' } ∧ Mod (KF q V l) w w' ∧ ∀ b, KF q (upd V i ⟨(V i).p, lv', ov', tv'⟩) l b → KF q V l b ∨ w.heap.size ≤ b := h.turnL hi hC hM (fun g hg => hF g (.inr (.inl hg)))
theorem KAt.cells (h : KAt w base q V l ys k) {n : Nat} (hn : n < 3) : w.cell? ⟨q, n, none⟩ = some (ptr (V n).p) ∧ w.cell? ⟨q, 3 + n, none⟩ = some (.int .i64 (k.clk n)) ∧ w.cell? ⟨q, 6, none⟩ = some l.nv ∧ (∀ i, w.frozen? ⟨q, i, none⟩ = false) :=
  ⟨(cell_of h.blk n (kA_ptr V l k hn)).1, (cell_of h.blk (3 + n) (kA_clk V l k hn)).1, (cell_of h.blk 6 rfl).1, fun i => by simp [World.frozen?, h.blk]⟩
/-- a clock goes. -/
theorem KAt.clk (h : KAt w base q V l ys k) {n : Nat} (hn : n < 3) (t : Int) : KAt (w.setCell ⟨q, 3 + n, none⟩ (.int .i64 t)) base q V l ys { k with clk := upd k.clk n t } ∧ Mod (KF q V l) w (w.setCell ⟨q, 3 + n, none⟩ (.int .i64 t)) := by
  have kn := h.kin
  have hM : Mod (fun b => b = q) w (w.setCell ⟨q, 3 + n, none⟩ (.int .i64 t)) := Mod.cellOf q _ _
  have hMK : Mod (KF q V l) w (w.setCell ⟨q, 3 + n, none⟩ (.int .i64 t)) := hM.mono (fun _ _ e => .inl e)
  refine ⟨⟨?_, h.bp, fun i hi => (h.co i hi).mod hM (fun e => (kn.qp i hi).1 e.symm) (fun g hg e => (kn.qp i hi).2 (e ▸ hg)), h.apart, h.dap, hM.own h.net (fun g hg e => kn.q1.1 (e ▸ hg)), h.eq, fun y hy => (h.ents y hy).mod hMK (fun _ hb => .inl hb), hM.own h.led (fun g hg e => kn.q1.2.1 (e ▸ hg)), hM.own h.byv (fun g hg e => kn.q1.2.2.1 (e ▸ hg)), hM.own h.dn (fun g hg e => kn.q1.2.2.2 (e ▸ hg))⟩, hMK⟩
  rw [setCell_blk h.blk, kA_tick V l k hn t]
/-- what is under way is written anew: the list grew, or is another one. -/
theorem KAt.nets (h : KAt w base q V l ys k) {nv' : Value} {ys' : List RY} {V1 : World} {S : Nat → Prop} (ho : OwnL encY 28 92 V1 base nv' ys') (hm : Mod S w V1) (hs : ∀ b, S b → l.nv.ownBlock = some b) (hf : ∀ g, nv'.ownBlock = some g → l.nv.ownBlock = some g ∨ w.heap.size ≤ g) (he : ∀ y ∈ ys', EAt w (KF q V l) y.x) :
    V1.heap[q]? = some (.cells (kA V l k) 62 (0, 0)) ∧ KAt (V1.setCell ⟨q, 6, none⟩ nv') base q V { l with nv := nv' } ys' { k with net := ys'.map RY.f } ∧ Mod (KF q V l) w (V1.setCell ⟨q, 6, none⟩ nv') ∧ ∀ b, KF q V { l with nv := nv' } b → KF q V l b ∨ w.heap.size ≤ b := by
  have kn := h.kin
  have hblk := hm.heap h.blk (fun e => kn.q1.1 (hs q e))
  have hM : Mod (fun b => b = q) V1 (V1.setCell ⟨q, 6, none⟩ nv') := Mod.cellOf q _ _
  have hq : nv'.ownBlock ≠ some q := ownR_not ho hblk (fun cs e => by simp at e)
  have hMS : Mod (KF q V l) w V1 := hm.mono (fun _ _ e => .inr (.inr (.inl (hs _ e))))
  have hMK : Mod (KF q V l) w (V1.setCell ⟨q, 6, none⟩ nv') := hMS.then hM (fun i _ e => .inl e)
  have hFf : ∀ b, KF q V { l with nv := nv' } b → KF q V l b ∨ w.heap.size ≤ b := by
    rintro b (e | e | e | e)
    · exact .inl (.inl e)
    · exact .inl (.inr (.inl e))
    · exact (hf b e).imp (fun e => .inr (.inr (.inl e))) id
    · exact .inl (.inr (.inr (.inr e)))
  refine ⟨hblk, ⟨?_, h.bp, fun i hi => ?_, h.apart, h.dap, hM.own ho (fun g hg e => hq (e ▸ hg)), rfl, fun y hy => (he y hy).mod hMK hFf, ?_, ?_, ?_⟩, hMK, hFf⟩
  · rw [setCell_blk hblk]; rfl
  · refine ((h.co i hi).mod hm (fun e => (kn.p1 i hi).1 (hs _ e)) (fun g hg e => (kn.l1 i hi g hg).1 (hs _ e))).mod hM (fun e => (kn.qp i hi).1 e.symm) (fun g hg e => (kn.qp i hi).2 (e ▸ hg))
  · exact hM.own (hm.own h.led (fun g hg e => (kn.n1 g (hs _ e)).1 hg)) (fun g hg e => kn.q1.2.1 (e ▸ hg))
  · exact hM.own (hm.own h.byv (fun g hg e => (kn.n1 g (hs _ e)).2.1 hg)) (fun g hg e => kn.q1.2.2.1 (e ▸ hg))
  · exact hM.own (hm.own h.dn (fun g hg e => (kn.n1 g (hs _ e)).2.2 hg)) (fun g hg e => kn.q1.2.2.2 (e ▸ hg))
end
end Go.Proofs.Ytcleaamjfjnkkaa
