/- What a voter is stays sound, whatever comes; and so is what it sends. -/
import Derived.Test.YtcleaamjfjnkkaaCo28
namespace Go.Proofs.Ytcleaamjfjnkkaa
open Go.RowKit Go.Joins

/-- a voter that is sound, and whose messages are. -/
structure Goo (c : Co) : Prop where
  ok : Ok c
  out : ∀ m ∈ c.out, MOk m
structure PrOk (c : Co) (x : Pr) : Prop where
  stamp : I64 x.stamp
  sentAt : I64 x.sentAt
  rest : 0 ≤ x.sentTo ∧ x.sentTo ≤ 300 ∧ 0 ≤ x.mat ∧ x.mat ≤ 300 ∧ 0 ≤ x.next ∧ x.next ≤ 301
  led : c.role = 2 → 1 ≤ x.next ∧ x.next ≤ (c.log.length : Int) + 1 ∧ x.mat ≤ c.log.length
theorem Ok.prOk {c : Co} (h : Ok c) {v : Nat} (hv : v < 3) : PrOk c (c.pr v) :=
  ⟨(h.pr v hv).1, (h.pr v hv).2.1, (h.pr v hv).2.2, fun e => h.led e v hv⟩
theorem Goo.setPr {c : Co} (h : Goo c) (v : Nat) {x : Pr} (hx : PrOk c x) : Goo (c.setPr v x) := by
  have k := h.ok
  refine ⟨⟨k.me, k.term, k.voted, k.log, k.wf, k.commit, k.heard, k.since, k.now, k.timeout, fun j hj => ?_, fun e j hj => ?_⟩, h.out⟩
  · unfold Co.setPr; by_cases e : j = v
    · subst e; simp only [if_pos]; exact ⟨hx.stamp, hx.sentAt, hx.rest⟩
    · simpa [e] using k.pr j hj
  · unfold Co.setPr; by_cases e2 : j = v
    · subst e2; simp only [if_pos]; exact hx.led e
    · simpa [e2] using k.led e j hj
theorem Goo.send {c : Co} (h : Goo c) (t : Int) {m : Mg} (hm : MOk { m with term := c.term }) : Goo (c.send t m) := by
  have k := h.ok
  refine ⟨⟨k.me, k.term, k.voted, k.log, k.wf, k.commit, k.heard, k.since, k.now, k.timeout, k.pr, k.led⟩, fun x hx => ?_⟩
  rcases List.mem_append.1 hx with hx | hx
  · exact h.out x hx
  · obtain rfl := List.mem_singleton.1 hx; exact hm
theorem i64_small {x : Int} (h0 : -1000 ≤ x) (h1 : x ≤ 10000) : I64 x := ⟨by omega, by omega⟩
theorem mok_mg0 {c : Co} (h : Ok c) (k : Int) (y : Bool) : MOk { mg0 k with term := c.term, yes := y } :=
  ⟨h.term, i64_small (by show (-1000 : Int) ≤ 0; omega) (by show (0 : Int) ≤ 10000; omega), i64_small (by show (-1000 : Int) ≤ 0; omega) (by show (0 : Int) ≤ 10000; omega), i64_small (by show (-1000 : Int) ≤ 0; omega) (by show (0 : Int) ≤ 10000; omega), i64_small (by show (-1000 : Int) ≤ 0; omega) (by show (0 : Int) ≤ 10000; omega), Nat.zero_le _, fun i hi => by simp [mg0] at hi⟩
theorem wf_sub {es fs : List Ent} (h : ∀ i, i < es.length → wfE (es.getD i default)) (hs : ∀ e ∈ fs, e ∈ es) : ∀ i, i < fs.length → wfE (fs.getD i default) := by
  rw [wf_mem] at *
  exact fun e he => h e (hs e he)
theorem Goo.entries {c : Co} (h : Goo c) {v : Nat} (hv : v < 3) : Goo (c.entries v) := by
  have k := h.ok
  have q := k.prOk hv
  have hlen := k.log
  have hf : c.from_ v ≤ 300 := by unfold Co.from_; have := q.rest; omega
  have hu : c.upto v ≤ c.log.length := by unfold Co.upto; omega
  unfold Co.entries
  refine Goo.setPr (h.send v ⟨k.term, i64_small (by show (-1000 : Int) ≤ (c.from_ v : Int); omega) (by show (c.from_ v : Int) ≤ 10000; omega), ?_, i64_small (by show (-1000 : Int) ≤ 0; omega) (by show (0 : Int) ≤ 10000; omega), k.now, ?_, ?_⟩) v ⟨q.stamp, k.now, ?_, q.led⟩
  · have := k.commit; exact i64_small (by show -1000 ≤ c.commit; omega) (by show c.commit ≤ 10000; omega)
  · show ((c.log.take (c.upto v)).drop (c.from_ v)).length ≤ 1000
    simp only [List.length_drop, List.length_take]; omega
  · exact wf_sub k.wf (fun e he => List.mem_of_mem_take (List.mem_of_mem_drop he))
  · have := q.rest
    show 0 ≤ ((c.upto v : Nat) : Int) ∧ ((c.upto v : Nat) : Int) ≤ 300 ∧ _
    refine ⟨by omega, by omega, ?_⟩
    exact ⟨this.2.2.1, this.2.2.2.1, this.2.2.2.2.1, this.2.2.2.2.2⟩
theorem goo_one {f : Co → Nat → Co} (hf : ∀ d v, v < 3 → Goo d → Goo (f d v)) {c : Co} (h : Goo c) {v : Nat} (hv : v < 3) : Goo (Co.one f c v) := by
  unfold Co.one; split
  · exact h
  · exact hf c v hv h
theorem goo_others {f : Co → Nat → Co} (hf : ∀ d v, v < 3 → Goo d → Goo (f d v)) {c : Co} (h : Goo c) : Goo (Co.others f c) :=
  goo_one hf (goo_one hf (goo_one hf h (by omega)) (by omega)) (by omega)
theorem goo_begin {c : Co} (h : Ok c) {clock : Int} (hc : I64 clock) : Goo (c.begin clock) := ⟨ok_begin h hc, fun m hm => by cases hm⟩
theorem timeout_in (d : Int) : 30 ≤ timeoutS d ∧ timeoutS d ≤ 45 := by unfold timeoutS; omega
theorem goo_campOne {c : Co} (h : Goo c) {v : Nat} (hv : v < 3) : Goo (c.campOne v) := by
  have q := h.ok.prOk hv
  unfold Co.campOne
  refine Goo.send (h.setPr v (x := { c.pr v with votes := false }) ⟨q.stamp, q.sentAt, q.rest, q.led⟩) _ ?_
  have k := h.ok
  have hl := k.log
  exact ⟨k.term, i64_small (by show (-1000 : Int) ≤ (c.log.length : Int); omega) (by show (c.log.length : Int) ≤ 10000; omega), i64_small (by show (-1000 : Int) ≤ 0; omega) (by show (0 : Int) ≤ 10000; omega), i64_small (by show (-1000 : Int) ≤ 0; omega) (by show (0 : Int) ≤ 10000; omega), i64_small (by show (-1000 : Int) ≤ 0; omega) (by show (0 : Int) ≤ 10000; omega), Nat.zero_le _, fun i hi => by simp [mg0] at hi⟩
theorem Goo.campaign {c : Co} (h : Goo c) (ht : c.term < 18446744073709551615) (draw : Int) : Goo (c.campaign draw) := by
  have k := h.ok
  unfold Co.campaign
  refine goo_others (fun d v hv hd => goo_campOne hd hv) ⟨⟨k.me, ⟨by have := k.term; show 0 ≤ c.term + 1; omega, by show c.term + 1 ≤ _; omega⟩, ?_, k.log, k.wf, k.commit, k.heard, k.now, k.now, timeout_in draw, k.pr, fun e => absurd e (by show ¬ (1 : Int) = 2; omega)⟩, h.out⟩
  have := k.me
  show -1 ≤ c.me ∧ c.me < 3
  omega
theorem Goo.lead {c : Co} (h : Goo c) : Goo c.lead := by
  have k := h.ok
  have hlen := k.log
  have hcm := k.commit
  unfold Co.lead
  refine goo_others (fun d v hv hd => hd.entries hv) ⟨⟨k.me, k.term, k.voted, ?_, ?_, ?_, k.heard, k.since, k.now, k.timeout, fun v hv => ?_, fun _ v hv => ?_⟩, h.out⟩
  · show (if c.log.length < 300 then c.log ++ [(c.term, 1, 0, 0)] else c.log).length ≤ 300
    split
    · simp; omega
    · exact hlen
  · show ∀ i, i < (if c.log.length < 300 then c.log ++ [(c.term, 1, 0, 0)] else c.log).length → wfE ((if c.log.length < 300 then c.log ++ [(c.term, 1, 0, 0)] else c.log).getD i default)
    split
    · rw [wf_mem]
      intro e he
      rcases List.mem_append.1 he with he | he
      · exact wf_mem.1 k.wf e he
      · obtain rfl := List.mem_singleton.1 he
        exact ⟨k.term.1, by show (0 : Int) ≤ 0; omega, by show (0 : Int) ≤ 0; omega⟩
    · exact k.wf
  · show 0 ≤ c.commit ∧ c.commit ≤ ((if c.log.length < 300 then c.log ++ [(c.term, 1, 0, 0)] else c.log).length : Int)
    split
    · simp; omega
    · exact hcm
  · show I64 (if v < 3 then Co.newPr c.log.length else c.pr v).stamp ∧ I64 (if v < 3 then Co.newPr c.log.length else c.pr v).sentAt ∧ 0 ≤ (if v < 3 then Co.newPr c.log.length else c.pr v).sentTo ∧ (if v < 3 then Co.newPr c.log.length else c.pr v).sentTo ≤ 300 ∧ 0 ≤ (if v < 3 then Co.newPr c.log.length else c.pr v).mat ∧ (if v < 3 then Co.newPr c.log.length else c.pr v).mat ≤ 300 ∧ 0 ≤ (if v < 3 then Co.newPr c.log.length else c.pr v).next ∧ (if v < 3 then Co.newPr c.log.length else c.pr v).next ≤ 301
    rw [if_pos hv]
    refine ⟨i64_small (by show (-1000 : Int) ≤ -1; omega) (by show (-1 : Int) ≤ 10000; omega), i64_small (by show (-1000 : Int) ≤ 0; omega) (by show (0 : Int) ≤ 10000; omega), ?_⟩
    unfold Co.newPr
    simp only
    omega
  · show 1 ≤ (if v < 3 then Co.newPr c.log.length else c.pr v).next ∧ (if v < 3 then Co.newPr c.log.length else c.pr v).next ≤ ((if c.log.length < 300 then c.log ++ [(c.term, 1, 0, 0)] else c.log).length : Int) + 1 ∧ (if v < 3 then Co.newPr c.log.length else c.pr v).mat ≤ ((if c.log.length < 300 then c.log ++ [(c.term, 1, 0, 0)] else c.log).length : Int)
    rw [if_pos hv]
    unfold Co.newPr
    simp only
    split
    · simp; omega
    · omega
theorem Goo.tick {c : Co} (h : Ok c) {clock : Int} (hc : I64 clock) (draw : Int) : Goo (c.tick clock draw) := by
  have g := goo_begin h hc
  unfold Co.tick
  simp only
  split
  · refine goo_others (fun d v hv hd => ?_) g
    rcases tickOne_is d v with e | e <;> rw [e]
    · exact hd.entries hv
    · exact hd
  · split
    · rename_i hh
      simp only [Bool.and_eq_true, decide_eq_true_eq] at hh
      exact g.campaign hh.2 draw
    · exact g
theorem Goo.follow {c : Co} (h : Goo c) {t : Int} (h0 : 0 ≤ t) (h1 : t ≤ 18446744073709551615) : Goo (c.follow t) := ⟨ok_follow h.ok h0 h1, by rw [(follow_out c t).1]; exact h.out⟩
theorem Goo.no {c : Co} (h : Goo c) (t : Int) : Goo (c.send t (mg0 2)) := h.send t (mok_mg0 h.ok 2 false)
theorem Goo.ask {c : Co} (h : Goo c) {f : Int} (hf : -1 ≤ f ∧ f < 3) {m : Mg} (hm : MOk m) (draw : Int) : Goo (c.ask f m draw) := by
  have g := h.follow hm.term.1 hm.term.2
  unfold Co.ask
  split
  · exact h.no f
  · simp only
    split
    · have k := g.ok
      have g2 : Goo ({ (c.follow m.term) with voted := f, since := (c.follow m.term).now, timeout := timeoutS draw } : Co) := ⟨⟨k.me, k.term, hf, k.log, k.wf, k.commit, k.heard, k.now, k.now, timeout_in draw, k.pr, k.led⟩, g.out⟩
      exact g2.send f (mok_mg0 g2.ok 2 true)
    · exact g.no f
theorem Goo.vote {c : Co} (h : Goo c) {v : Nat} (hv : v < 3) {m : Mg} (hm : MOk m) : Goo (c.vote v m) := by
  have g := h.follow hm.term.1 hm.term.2
  unfold Co.vote
  simp only
  split
  · have q := g.ok.prOk hv
    exact (g.setPr v (x := { (c.follow m.term).pr v with votes := true }) ⟨q.stamp, q.sentAt, q.rest, q.led⟩).lead
  · exact g
theorem Goo.back {c : Co} (h : Goo c) (f : Int) (y : Bool) {k s : Int} (hk : I64 k) (hs : I64 s) : Goo (c.back f y k s) := by
  refine h.send f ⟨h.ok.term, i64_small (by show (-1000 : Int) ≤ 0; omega) (by show (0 : Int) ≤ 10000; omega), i64_small (by show (-1000 : Int) ≤ 0; omega) (by show (0 : Int) ≤ 10000; omega), hk, hs, Nat.zero_le _, fun i hi => by simp at hi⟩
theorem join_ge {es : List Ent} {prev : Int} (h0 : 0 ≤ prev) (h1 : prev ≤ es.length) {more : List Ent} : prev + (more.length : Int) ≤ ((joinL es prev more).length : Int) := by
  have hc : com (es.drop prev.toNat) more ≤ (es.drop prev.toNat).length ∧ com (es.drop prev.toNat) more ≤ more.length := by
    have := (com_iff (es.drop prev.toNat) more (com (es.drop prev.toNat) more)).1 (Nat.le_refl _)
    exact ⟨this.1, this.2.1⟩
  rw [List.length_drop] at hc
  unfold joinL
  rw [if_neg (by omega)]
  split
  · rename_i e; omega
  · simp only [List.length_append, List.length_take, List.length_drop]
    omega
theorem check_len {es : List Ent} (h : checkE es = 0) : es.length ≤ 300 := by
  unfold checkE at h
  split at h
  · cases h
  · omega
theorem Goo.take {c : Co} (h : Goo c) (f : Int) {m : Mg} (hm : MOk m) : Goo (c.take f m) := by
  have g0 : Goo (c.takeD f m) := ⟨ok_takeD h.ok hm.term.1 hm.term.2 f, by show ∀ x ∈ (c.follow m.term).out, MOk x; rw [(follow_out c m.term).1]; exact h.out⟩
  unfold Co.take
  split
  · exact h.no f
  · split
    · exact h
    · simp only
      split
      · have := g0.ok.log
        exact g0.back f false (i64_small (by omega) (by omega)) hm.stamp
      · rename_i hfit
        split
        · exact g0
        · rename_i hj
          have hfit' : fitsB (c.takeD f m).log m.prev m.pterm = true := by simpa using hfit
          have hj' : (c.takeD f m).joinOk m = true := by simpa using hj
          obtain ⟨p0, p1⟩ := fits_le hfit'
          have hl := g0.ok.log
          have hml := hm.len
          unfold Co.joinOk at hj'
          simp only [Bool.and_eq_true, decide_eq_true_eq] at hj'
          have k := g0.ok
          have hcl := check_len hj'.1.1.1
          have hc2 := hj'.1.2
          have hc := k.commit
          have hjl := join_ge p0 p1 (more := m.ents)
          have g2 : Goo ({ (c.takeD f m) with log := joinL (c.takeD f m).log m.prev m.ents, commit := max (c.takeD f m).commit (min m.commit (m.prev + (m.ents.length : Int))) } : Co) := by
            refine ⟨⟨k.me, k.term, k.voted, hcl, join_wf m.prev k.wf hm.wf, ⟨?_, ?_⟩, k.heard, k.since, k.now, k.timeout, k.pr, fun e => absurd e (by show ¬ (0 : Int) = 2; omega)⟩, g0.out⟩
            · show 0 ≤ max (c.takeD f m).commit _; omega
            · show max (c.takeD f m).commit (min m.commit (m.prev + (m.ents.length : Int))) ≤ ((joinL (c.takeD f m).log m.prev m.ents).length : Int)
              omega
          exact g2.back f true (i64_small (by omega) (by omega)) hm.stamp
theorem Goo.answered {c : Co} (h : Goo c) {v : Nat} (hv : v < 3) {m : Mg} (hm : MOk m) : Goo (c.answered v m) := by
  have g := h.follow hm.term.1 hm.term.2
  unfold Co.answered
  simp only
  split
  · exact g
  · rename_i hr
    have hr2 : (c.follow m.term).role = 2 := by
      by_cases e : (c.follow m.term).role = 2
      · exact e
      · exact absurd (Or.inl e) hr
    have e0 : Goo ((c.follow m.term).stampD v m) := ⟨ok_stamp g.ok v hm.stamp, by rw [(stamp_out _ _ _).1]; exact g.out⟩
    have er : ((c.follow m.term).stampD v m).role = 2 := (stamp_out _ _ _).2.2.2.2.2.2.1.trans hr2
    generalize (c.follow m.term).stampD v m = e at *
    have q := e0.ok.prOk hv
    obtain ⟨n1, n2, n3⟩ := q.led er
    have hl := e0.ok.log
    have hq := q.rest
    split
    · refine Goo.entries (e0.setPr v (x := { e.pr v with next := max (e.pr v).mat (min ((e.pr v).next - 1) (max m.mat 0)) + 1 }) ⟨q.stamp, q.sentAt, ?_, fun _ => ?_⟩) hv
      · simp only; omega
      · simp only; omega
    · have gs : Goo (e.setPr v { e.pr v with mat := max (e.pr v).mat (min m.mat (e.log.length : Int)), next := max (e.pr v).mat (min m.mat (e.log.length : Int)) + 1 }) := by
        refine e0.setPr v ⟨q.stamp, q.sentAt, ?_, fun _ => ?_⟩
        · simp only; omega
        · simp only; omega
      have gc : Goo ((e.setPr v { e.pr v with mat := max (e.pr v).mat (min m.mat (e.log.length : Int)), next := max (e.pr v).mat (min m.mat (e.log.length : Int)) + 1 }).commits) := by
        have k := gs.ok
        have hme := k.me
        have hms := mats_le (c := e.setPr v { e.pr v with mat := max (e.pr v).mat (min m.mat (e.log.length : Int)), next := max (e.pr v).mat (min m.mat (e.log.length : Int)) + 1 }) (fun j hj => (k.led er j hj).2.2)
        generalize e.setPr v { e.pr v with mat := max (e.pr v).mat (min m.mat (e.log.length : Int)), next := max (e.pr v).mat (min m.mat (e.log.length : Int)) + 1 } = g at *
        unfold Co.commits
        split
        · rename_i hcc
          exact ⟨⟨k.me, k.term, k.voted, k.log, k.wf, ⟨by have := k.commit; show 0 ≤ g.mats; omega, hms⟩, k.heard, k.since, k.now, k.timeout, k.pr, k.led⟩, gs.out⟩
        · exact gs
      split
      · exact gc.entries hv
      · exact gc
theorem Goo.handle {c : Co} (h : Ok c) {f : Int} {m : Mg} (hm : MOk m) {clock : Int} (hc : I64 clock) (draw : Int) : Goo (c.handle f m clock draw) := by
  have g := goo_begin h hc
  unfold Co.handle
  simp only
  split
  · exact g
  · rename_i hf
    have hf0 : ¬ f < 0 := fun e => hf (Or.inl e)
    have hf3 : ¬ 3 ≤ f := fun e => hf (Or.inr (Or.inl e))
    split
    · exact g.ask (by omega) hm draw
    · split
      · exact g.vote (by omega) hm
      · split
        · exact g.take f hm
        · split
          · exact g.answered (by omega) hm
          · exact g
theorem ok_new {me t v : Int} {es : List Ent} {clock draw : Int} (h : newOk me t v es = true) (hwf : ∀ i, i < es.length → wfE (es.getD i default)) (hc : I64 clock) (ht : 0 ≤ t ∧ t ≤ 18446744073709551615) : Ok (newC me t v es clock draw) := by
  unfold newOk at h
  simp only [Bool.and_eq_true, decide_eq_true_eq] at h
  have hl := check_len h.1.1.1.2
  refine ⟨⟨h.1.1.1.1.1, h.1.1.1.1.2⟩, ht, ⟨h.1.1.2, h.1.2⟩, hl, hwf, ⟨by show (0 : Int) ≤ 0; omega, by show (0 : Int) ≤ (es.length : Int); omega⟩, hc, hc, hc, timeout_in draw, fun v hv => ?_, fun e => absurd e (by show ¬ (0 : Int) = 2; omega)⟩
  refine ⟨i64_small (by show (-1000 : Int) ≤ 0; omega) (by show (0 : Int) ≤ 10000; omega), i64_small (by show (-1000 : Int) ≤ 0; omega) (by show (0 : Int) ≤ 10000; omega), ?_⟩
  show (0 : Int) ≤ 0 ∧ (0 : Int) ≤ 300 ∧ (0 : Int) ≤ 0 ∧ (0 : Int) ≤ 300 ∧ (0 : Int) ≤ 0 ∧ (0 : Int) ≤ 301
  omega
theorem ok_propose {c : Co} (h : Ok c) {x : Ent} (hx : 0 ≤ x.2.2.1 ∧ 0 ≤ x.2.2.2) : Ok (c.propose x).2 := by
  unfold Co.propose
  split
  · exact h
  · split
    · exact h
    · split
      · exact h
      · rename_i h3
        refine ⟨h.me, h.term, h.voted, by show (c.log ++ [(c.term, x.2)]).length ≤ 300; simp; omega, ?_, ⟨h.commit.1, by have := h.commit.2; show c.commit ≤ ((c.log ++ [(c.term, x.2)]).length : Int); simp; omega⟩, h.heard, h.since, h.now, h.timeout, h.pr, fun e v hv => ?_⟩
        · show ∀ i, i < (c.log ++ [(c.term, x.2)]).length → wfE ((c.log ++ [(c.term, x.2)]).getD i default)
          rw [wf_mem]
          intro e he
          rcases List.mem_append.1 he with he | he
          · exact wf_mem.1 h.wf e he
          · obtain rfl := List.mem_singleton.1 he
            exact ⟨h.term.1, hx.1, hx.2⟩
        · have := h.led e v hv
          show 1 ≤ (c.pr v).next ∧ (c.pr v).next ≤ ((c.log ++ [(c.term, x.2)]).length : Int) + 1 ∧ (c.pr v).mat ≤ ((c.log ++ [(c.term, x.2)]).length : Int)
          simp
          omega
end Go.Proofs.Ytcleaamjfjnkkaa
