/- An act, done to both. -/
import Derived.Test.YtmiaifbpepfbnaaFrames
namespace Go.Proofs.Ytmiaifbpepfbnaa
open Go.RowKit Go.Joins Go.ChangeMaps

/-- what holds of a net in a law. -/
structure Ok (s : St) (n : Int) (k : Nat) : Prop where
  good : Good s
  fr : s.fr ≤ 30 * (k : Int)
  cnt : s.cnt ≤ k
  cuts : s.cuts.length ≤ s.cnt
  nodes : s.nodes = n
theorem cuts_cut (s : St) (a b : Int) (h : s.cuts.length ≤ s.cnt) : (cutS s a b).1.cuts.length ≤ (cutS s a b).1.cnt ∧ (cutS s a b).1.cnt ≤ s.cnt + 1 := by
  unfold cutS; split <;> simp <;> omega
theorem cuts_join (s : St) (a b : Int) (h : s.cuts.length ≤ s.cnt) : (joinS s a b).1.cuts.length ≤ (joinS s a b).1.cnt ∧ (joinS s a b).1.cnt = s.cnt := by
  unfold joinS; split
  · exact ⟨Nat.le_trans (List.length_erase_le ..) h, rfl⟩
  · exact ⟨h, rfl⟩
def doS (s : St) (what xa xb : Int) (l : List Fr) : St :=
  if what = 0 ∨ what = 1 then sendS s (frs l) else if what = 2 ∨ what = 3 then (takeS s xa).1 else if what = 4 then (dropS s xa).1 else if what = 5 then (twiceS s xa).1
  else if what = 6 then (cutS s xa xb).1 else if what = 7 then (joinS s xa xb).1 else if what = 8 then healS s else s
theorem send_cuts : ∀ (l : List Fr) (s : St), (sendS s l).cuts = s.cuts
  | [], _ => rfl
  | f :: l, s => by
    have := send_cuts l (send1 s f)
    rw [show sendS s (f :: l) = sendS (send1 s f) l from rfl, this]
    unfold send1; split <;> rfl
theorem ok_do {s : St} {n : Int} {k : Nat} (h : Ok s n k) (what xa xb : Int) (l : List Fr) : Ok (doS s what xa xb l) n (k + 1) := by
  obtain ⟨hg, hf, hc, hl, hn⟩ := h
  unfold doS
  split
  · obtain ⟨k1, k2, k3, k4⟩ := good_send (frs l) hg
    have := frs_len l
    exact ⟨k1, by push_cast; omega, by omega, by rw [send_cuts, k4]; exact hl, by rw [k3]; exact hn⟩
  · split
    · refine ⟨good_take hg xa, ?_, ?_, ?_, ?_⟩ <;> unfold takeS <;> split <;> simp [leaveS] <;> omega
    · split
      · refine ⟨good_drop hg xa, ?_, ?_, ?_, ?_⟩ <;> unfold dropS <;> split <;> simp [leaveS] <;> omega
      · split
        · refine ⟨good_twice hg xa, ?_, ?_, ?_, ?_⟩ <;> unfold twiceS <;> split <;> simp <;> omega
        · split
          · obtain ⟨c1, c2⟩ := cuts_cut s xa xb hl
            refine ⟨good_cut hg xa xb, ?_, by omega, c1, ?_⟩ <;> unfold cutS <;> split <;> simp <;> omega
          · split
            · obtain ⟨c1, c2⟩ := cuts_join s xa xb hl
              refine ⟨good_join hg xa xb, ?_, by omega, c1, ?_⟩ <;> unfold joinS <;> split <;> simp <;> omega
            · split
              · exact ⟨good_heal hg, by simp [healS]; omega, by simp [healS]; omega, by simp [healS], by simp [healS]; omega⟩
              · exact ⟨hg, by push_cast; omega, by omega, hl, hn⟩
end Go.Proofs.Ytmiaifbpepfbnaa
