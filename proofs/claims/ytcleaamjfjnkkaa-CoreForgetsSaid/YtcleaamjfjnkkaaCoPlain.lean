/- A voter in plain words. -/
import Derived.Test.YtcleaamjfjnkkaaLogA
import Derived.Test.YtcleaamjfjnkkaaLogB
import Derived.Test.YtcleaamjfjnkkaaLeaA
namespace Go.Proofs.Ytcleaamjfjnkkaa

/-- what a leader knows of another voter. -/
structure Pr where
  mat : Int
  next : Int
  stamp : Int
  sentAt : Int
  sentTo : Int
  votes : Bool
/-- a message; what its kind has not is zero. -/
structure Mg where
  kind : Int
  term : Int
  prev : Int
  pterm : Int
  ents : List Ent
  commit : Int
  yes : Bool
  mat : Int
  stamp : Int
def mg0 (k : Int) : Mg := ⟨k, 0, 0, 0, [], 0, false, 0, 0⟩
structure Co where
  me : Int
  term : Int
  voted : Int
  log : List Ent
  commit : Int
  role : Int
  head : Int
  heard : Int
  since : Int
  timeout : Int
  now : Int
  pr : Nat → Pr
  out : List Mg
  dest : List Int
  gh : Nat
namespace Co
def begin (c : Co) (clock : Int) : Co := { c with now := clock, out := [], dest := [] }
def send (c : Co) (t : Int) (m : Mg) : Co := { c with out := c.out ++ [{ m with term := c.term }], dest := c.dest ++ [t] }
def setPr (c : Co) (v : Nat) (x : Pr) : Co := { c with pr := fun k => if k = v then x else c.pr k }
def follow (c : Co) (t : Int) : Co := if c.term < t then { c with term := t, voted := -1, role := 0, head := -1 } else c
theorem follow_gh (c : Co) (t : Int) : (c.follow t).gh = c.gh := by unfold follow; split <;> rfl
def passed (c : Co) (since ticks : Int) : Bool := decide (since + ticks ≤ 9223372036854775807) && decide (since + ticks ≤ c.now)
/-- where the entries that go to a voter begin, and end. -/
def from_ (c : Co) (v : Nat) : Nat := ((c.pr v).next - 1).toNat
def upto (c : Co) (v : Nat) : Nat := min c.log.length (c.from_ v + 8)
def entsM (c : Co) (v : Nat) : Mg := ⟨3, 0, (c.from_ v : Int), lastT (c.log.take (c.from_ v)), (c.log.take (c.upto v)).drop (c.from_ v), c.commit, false, 0, c.now⟩
def entries (c : Co) (v : Nat) : Co := (c.send v (c.entsM v)).setPr v { c.pr v with sentAt := c.now, sentTo := (c.upto v : Int) }
/-- something for each other voter. -/
def one (f : Co → Nat → Co) (c : Co) (v : Nat) : Co := if (v : Int) = c.me then c else f c v
def others (f : Co → Nat → Co) (c : Co) : Co := one f (one f (one f c 0) 1) 2
def campOne (c : Co) (v : Nat) : Co := (c.setPr v { c.pr v with votes := false }).send v { mg0 1 with prev := (c.log.length : Int), pterm := lastT c.log }
def campaign (c : Co) (draw : Int) : Co := others campOne { c with term := c.term + 1, voted := c.me, role := 1, head := -1, since := c.now, timeout := timeoutS draw }
def newPr (n : Nat) : Pr := ⟨0, (n : Int) + 1, -1, 0, 0, false⟩
def lead (c : Co) : Co :=
  others entries { c with role := 2, head := c.me, pr := fun k => if k < 3 then newPr c.log.length else c.pr k, log := if c.log.length < 300 then c.log ++ [(c.term, 1, 0, 0)] else c.log }
def tickOne (c : Co) (v : Nat) : Co := if c.passed (c.pr v).sentAt 4 || decide ((c.pr v).sentTo < (c.log.length : Int)) then c.entries v else c
def tick (c0 : Co) (clock draw : Int) : Co :=
  let c := c0.begin clock
  if c.role = 2 then others tickOne c
  else if c.passed c.since c.timeout && !waitsS c.heard clock && decide (c.term < 18446744073709551615) then c.campaign draw
  else c
/-- how long it is sure to lead. -/
def stamps (c : Co) : List Int := (if c.me = 0 then [] else [(c.pr 0).stamp]) ++ (if c.me = 1 then [] else [(c.pr 1).stamp]) ++ (if c.me = 2 then [] else [(c.pr 2).stamp])
def until_ (c : Co) : Int := if c.role = 2 then untilR c.now c.stamps else 0
def askYes (c : Co) (from' : Int) (m : Mg) : Bool := decide (m.term = c.term) && (decide (c.voted = -1) || decide (c.voted = from')) && newerB m.pterm m.prev c.log
def ask (c : Co) (from' : Int) (m : Mg) (draw : Int) : Co :=
  if waitsS c.heard c.now || (decide (c.now < c.until_) && decide (c.role = 2)) then c.send from' (mg0 2)
  else
    let d := c.follow m.term
    if d.askYes from' m then ({ d with voted := from', since := d.now, timeout := timeoutS draw }).send from' { mg0 2 with yes := true }
    else d.send from' (mg0 2)
def vote (c : Co) (from' : Nat) (m : Mg) : Co :=
  let d := c.follow m.term
  if d.role = 1 ∧ m.term = d.term ∧ m.yes = true then (d.setPr from' { d.pr from' with votes := true }).lead else d
def back (c : Co) (from' : Int) (yes : Bool) (mat stamp : Int) : Co := c.send from' ⟨4, 0, 0, 0, [], 0, yes, mat, stamp⟩
def takeD (c : Co) (from' : Int) (m : Mg) : Co := { (c.follow m.term) with role := 0, head := from', heard := c.now, since := c.now }
def joinOk (d : Co) (m : Mg) : Bool :=
  let j := joinL d.log m.prev m.ents
  decide (checkE j = 0) && decide (lastT j ≤ m.term) && decide (d.commit ≤ (j.length : Int)) && decide (j.take d.commit.toNat = d.log.take d.commit.toNat)
def take (c : Co) (from' : Int) (m : Mg) : Co :=
  if m.term < c.term then c.send from' (mg0 2)
  else if c.role = 2 ∧ m.term = c.term then c
  else
    let d := c.takeD from' m
    if fitsB d.log m.prev m.pterm = false then d.back from' false (max 0 (min (d.log.length : Int) (max m.prev 0 - 1))) m.stamp
    else if d.joinOk m = false then d
    else
      let n := m.prev + (m.ents.length : Int)
      ({ d with log := joinL d.log m.prev m.ents, commit := max d.commit (min m.commit n) }).back from' true n m.stamp
/-- the middle one of three. -/
def mid (a b c : Int) : Int := max (min a b) (min (max a b) c)
def mats (c : Co) : Int := let l := (c.log.length : Int)
  if c.me = 0 then mid l (c.pr 1).mat (c.pr 2).mat else if c.me = 1 then mid l (c.pr 0).mat (c.pr 2).mat else mid l (c.pr 0).mat (c.pr 1).mat
def commits (c : Co) : Co := if c.commit < c.mats ∧ (c.log.getD (c.mats - 1).toNat default).1 = c.term then { c with commit := c.mats } else c
def stampD (c : Co) (v : Nat) (m : Mg) : Co := if m.stamp ≤ c.now then c.setPr v { c.pr v with stamp := max (c.pr v).stamp m.stamp } else c
def answered (c : Co) (v : Nat) (m : Mg) : Co :=
  let d := c.follow m.term
  if d.role ≠ 2 ∨ m.term ≠ d.term then d
  else
    let e := d.stampD v m
    if m.yes = false then (e.setPr v { e.pr v with next := max (e.pr v).mat (min ((e.pr v).next - 1) (max m.mat 0)) + 1 }).entries v
    else
      let k := max (e.pr v).mat (min m.mat (e.log.length : Int))
      let g := (e.setPr v { e.pr v with mat := k, next := k + 1 }).commits
      if k + 1 ≤ (e.log.length : Int) then g.entries v else g
def handle (c0 : Co) (from' : Int) (m : Mg) (clock draw : Int) : Co :=
  let c := c0.begin clock
  if from' < 0 ∨ 3 ≤ from' ∨ from' = c.me then c
  else if m.kind = 1 then c.ask from' m draw
  else if m.kind = 2 then c.vote from'.toNat m
  else if m.kind = 3 then c.take from' m
  else if m.kind = 4 then c.answered from'.toNat m
  else c
def propose (c : Co) (e : Ent) : Int × Co :=
  if c.role ≠ 2 then (13, c)
  else if checkE [(c.term, e.2)] ≠ 0 then (2, c)
  else if 300 ≤ c.log.length then (3, c)
  else (0, { c with log := c.log ++ [(c.term, e.2)] })
end Co
def prZ : Pr := ⟨0, 0, 0, 0, 0, false⟩
/-- whether a voter may begin so. -/
def newOk (me term voted : Int) (log : List Ent) : Bool := decide (0 ≤ me) && decide (me < 3) && decide (checkE log = 0) && decide (-1 ≤ voted) && decide (voted < 3) && decide (lastT log ≤ term)
def newC (me term voted : Int) (log : List Ent) (clock draw : Int) : Co := ⟨me, term, voted, log, 0, 0, -1, clock, clock, timeoutS draw, clock, fun _ => prZ, [], [], 0⟩
end Go.Proofs.Ytcleaamjfjnkkaa
