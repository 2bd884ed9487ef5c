/- Entries, and lists of them in memory. -/
import Derived.Test.YthfchmdfoaiibaaBase
import Derived.Test.YthfchmdfoaiibaaProg
import Derived.Laws.StructEq
namespace Go.Proofs.Ythfchmdfoaiibaa
open Go.RowKit Go.Joins

/-- an entry: its term, its kind, its guid's two numbers. -/
abbrev Ent := Int × Int × Int × Int
abbrev Gid := Int × Int
/-- an entry lies at a place. -/
def EC (w : World) (b o : Nat) (x : Ent) : Prop :=
  w.cell? ⟨b, o, none⟩ = some (.int .u64 x.1) ∧ w.cell? ⟨b, o + 1, none⟩ = some (.int .i64 x.2.1) ∧ w.cell? ⟨b, o + 1 + 1, none⟩ = some (.int .u64 x.2.2.1) ∧ w.cell? ⟨b, o + 1 + 1 + 1, none⟩ = some (.int .u64 x.2.2.2)
def Ents (w : World) (a : Option Addr) (es : List Ent) : Prop :=
  ∀ i, i < es.length → ∃ b off, a = some ⟨b, off, none⟩ ∧ EC w b (off + i * 4) (es.getD i default)
def GC (w : World) (b o : Nat) (x : Gid) : Prop :=
  w.cell? ⟨b, o, none⟩ = some (.int .u64 x.1) ∧ w.cell? ⟨b, o + 1, none⟩ = some (.int .u64 x.2)
def Gids (w : World) (a : Option Addr) (gs : List Gid) : Prop :=
  ∀ i, i < gs.length → ∃ b off, a = some ⟨b, off, none⟩ ∧ GC w b (off + i * 2) (gs.getD i default)

theorem ec_below {w w' : World} {b o : Nat} {x : Ent} (h : EC w b o x) (hb : Below w.heap.size w w') : EC w' b o x := by
  obtain ⟨h1, h2, h3, h4⟩ := h
  have hl := World.block_lt_of_cell? _ _ h1
  exact ⟨(hb.cell (p := ⟨b, o, none⟩) hl).trans h1, (hb.cell (p := ⟨b, o + 1, none⟩) hl).trans h2, (hb.cell (p := ⟨b, o + 1 + 1, none⟩) hl).trans h3, (hb.cell (p := ⟨b, o + 1 + 1 + 1, none⟩) hl).trans h4⟩
theorem gc_below {w w' : World} {b o : Nat} {x : Gid} (h : GC w b o x) (hb : Below w.heap.size w w') : GC w' b o x := by
  obtain ⟨h1, h2⟩ := h
  have hl := World.block_lt_of_cell? _ _ h1
  exact ⟨(hb.cell (p := ⟨b, o, none⟩) hl).trans h1, (hb.cell (p := ⟨b, o + 1, none⟩) hl).trans h2⟩
theorem ents_below {w w' : World} {a : Option Addr} {es : List Ent} (h : Ents w a es) (hb : Below w.heap.size w w') : Ents w' a es := by
  intro i hi
  obtain ⟨b, off, e, hc⟩ := h i hi
  exact ⟨b, off, e, ec_below hc hb⟩
theorem gids_below {w w' : World} {a : Option Addr} {gs : List Gid} (h : Gids w a gs) (hb : Below w.heap.size w w') : Gids w' a gs := by
  intro i hi
  obtain ⟨b, off, e, hc⟩ := h i hi
  exact ⟨b, off, e, gc_below hc hb⟩
theorem below_drewN' (w : World) (q : Nat) : Below w.heap.size w (w.drewN q) := ⟨rfl, rfl, rfl, Nat.le_refl _, fun _ _ => rfl⟩

/-! ### Two entries compared -/
def eqE (x y : Ent) : Bool := decide (x = y)
def eqG (x y : Gid) : Bool := decide (x = y)
theorem eqE_form (x1 x2 x3 x4 y1 y2 y3 y4 : Int) : eqE (x1, x2, x3, x4) (y1, y2, y3, y4) = ((x1 == y1) && (x2 == y2) && ((x3 == y3) && (x4 == y4))) := by
  unfold eqE
  rw [Bool.eq_iff_iff]; simp [and_assoc]
theorem eqG_form (x3 x4 y3 y4 : Int) : eqG (x3, x4) (y3, y4) = ((x3 == y3) && (x4 == y4)) := by
  unfold eqG
  rw [Bool.eq_iff_iff]; simp
theorem und33 : Try.prog.underlying 33 = some (.struct (Try.prog.fieldsOf 33)) := by kernel_rfl
theorem und31 : Try.prog.underlying 31 = some (.struct (Try.prog.fieldsOf 31)) := by kernel_rfl
theorem held33 : Try.prog.stoodInHeld 33 = false := by kernel_rfl
theorem held31 : Try.prog.stoodInHeld 31 = false := by kernel_rfl
theorem grd33 : Try.prog.eqGuardType Try.prog.depth 33 = false := by kernel_rfl
theorem grd31 : Try.prog.eqGuardType Try.prog.depth 31 = false := by kernel_rfl
theorem eq31 (d : Nat) (w : World) (x3 x4 y3 y4 : Int) : (Op.equalIn (d + 1 + 1) 31 (.agg #[.int .u64 x3, .int .u64 x4]) (.agg #[.int .u64 y3, .int .u64 y4])).run Try.prog w = .ok (eqG (x3, x4) (y3, y4)) w := by
  rw [run_equalIn_struct w (d + 1) 31 _ _ und31 held31, eqG_form]
  unfold Program.fieldsOf
  rw [Try.underlying31]
  simp [Op.eqFields, part, go_sem]
  by_cases h1 : x3 = y3 <;> by_cases h2 : x4 = y4 <;> simp [h1, h2]
theorem eq33 (d : Nat) (w : World) (x1 x2 x3 x4 y1 y2 y3 y4 : Int) : (Op.equalIn (d + 1 + 1 + 1) 33 (.agg #[.int .u64 x1, .int .i64 x2, .int .u64 x3, .int .u64 x4]) (.agg #[.int .u64 y1, .int .i64 y2, .int .u64 y3, .int .u64 y4])).run Try.prog w = .ok (eqE (x1, x2, x3, x4) (y1, y2, y3, y4)) w := by
  rw [run_equalIn_struct w (d + 1 + 1) 33 _ _ und33 held33, eqE_form, ← eqG_form x3 x4 y3 y4]
  unfold Program.fieldsOf
  rw [Try.underlying33]
  simp [Op.eqFields, part, go_sem, eq31]
  by_cases h1 : x1 = y1 <;> by_cases h2 : x2 = y2 <;> cases eqG (x3, x4) (y3, y4) <;> simp [h1, h2]
theorem neq33 (w : World) (x1 x2 x3 x4 y1 y2 y3 y4 : Int) : (binOp .neq 33 (.agg #[.int .u64 x1, .int .i64 x2, .int .u64 x3, .int .u64 x4]) (.agg #[.int .u64 y1, .int .i64 y2, .int .u64 y3, .int .u64 y4])).run Try.prog w = .ok (.bool (!eqE (x1, x2, x3, x4) (y1, y2, y3, y4))) w := by
  rw [run_neq_struct, eq33 9997]; rfl
theorem neq31 (w : World) (x3 x4 y3 y4 : Int) : (binOp .neq 31 (.agg #[.int .u64 x3, .int .u64 x4]) (.agg #[.int .u64 y3, .int .u64 y4])).run Try.prog w = .ok (.bool (!eqG (x3, x4) (y3, y4))) w := by
  rw [run_neq_struct, eq31 9998]; rfl
theorem eql31 (w : World) (x3 x4 y3 y4 : Int) : (binOp .eql 31 (.agg #[.int .u64 x3, .int .u64 x4]) (.agg #[.int .u64 y3, .int .u64 y4])).run Try.prog w = .ok (.bool (eqG (x3, x4) (y3, y4))) w := by
  rw [run_eql_struct, eq31 9998]; rfl

set_option maxRecDepth 100000 in
theorem same_any (xs ys : List Ent) (ax ay : Option Addr) (cx cy : Nat) (w : World) (hx : Ents w ax xs) (hy : Ents w ay ys) (hlx : xs.length ≤ maxLen) :
    Calls Try.prog 28 #[.slice ax xs.length cx, .slice ay ys.length cy] w (QuietB (decide (xs = ys)) w) := by
  unfold maxLen at hlx
  by_cases hl : xs.length = ys.length
  · have hb : ((xs.length : Int) == (ys.length : Int)) = true := by simp [hl]
    have hb2 : ((xs.length : Int) != (ys.length : Int)) = false := by simp [hl]
    rw [← hl]
    rw [← hl] at hb hb2
    have HL := Lib.hid hl
    clear hl
    go_enter Try.func28, Try.ntmps28
    go_wp2
    go_loopg [5, 13] xs.length (fun k v5 v13 wr => ∃ i : Nat, i + k = xs.length ∧ v13 = .int .i64 (i : Int) ∧ xs.take i = ys.take i ∧ ∃ q, wr = w.drewN q)
    case atStart => exact ⟨0, by omega, rfl, rfl, 0, rfl⟩
    case round =>
      obtain ⟨i, hik, rfl, heq, q, hq⟩ := hrel
      have HQ := Lib.hid hq
      clear hq
      have HE := Lib.hid heq
      clear heq
      by_cases hlt : i < xs.length
      · obtain ⟨b, off, rfl, hc⟩ := hx i hlt
        obtain ⟨b', off', rfl, hc'⟩ := hy i (by have := HL.out; omega)
        have g : EC wr b (off + i * 4) (xs.getD i default) := by rw [HQ.out]; exact hc
        have g' : EC wr b' (off' + i * 4) (ys.getD i default) := by rw [HQ.out]; exact hc'
        have hs : Hid (xs.getD i default = ys.getD i default → xs.take (i + 1) = ys.take (i + 1)) := fun hz => by
          have h2 : i < ys.length := by have := HL.out; omega
          rw [take_snoc xs i default hlt, take_snoc ys i default h2, HE.out, hz]
        have hn : Hid (xs.getD i default ≠ ys.getD i default → false = decide (xs = ys)) := fun hz => by
          have : xs ≠ ys := fun e => hz (by rw [e])
          simp [this]
        clear hc hc'
        generalize xs.getD i default = x at *
        generalize ys.getD i default = y at *
        obtain ⟨x1, x2, x3, x4⟩ := x
        obtain ⟨y1, y2, y3, y4⟩ := y
        obtain ⟨g1, g2, g3, g4⟩ := g
        obtain ⟨g1', g2', g3', g4'⟩ := g'
        simp only at g1 g2 g3 g4 g1' g2' g3' g4'
        have hq := fun w => neq33 w x1 x2 x3 x4 y1 y2 y3 y4
        have hgd := grd33
        by_cases hz : ((x1, x2, x3, x4) : Ent) = (y1, y2, y3, y4)
        · have he : eqE (x1, x2, x3, x4) (y1, y2, y3, y4) = true := by unfold eqE; simpa using hz
          have HS := Lib.hid (hs.out hz)
          clear hz hn hs
          go_wp2
          go_quiet (fail)
          go_wp2
          go_roundg (gk - 1)
          case measure => omega
          case rel => exact ⟨i + 1, by omega, by simp, HS.out, q + nq, by rw [HQ.out]; simp [World.drewN, Nat.add_assoc]⟩
        · have he : eqE (x1, x2, x3, x4) (y1, y2, y3, y4) = false := by unfold eqE; simpa using hz
          have HS := Lib.hid (hn.out hz)
          clear hz hn hs
          go_wp2
          go_quiet (fail)
          go_wp2
          go_ret
          exact quietB HS.out ⟨q + nq, by rw [HQ.out]; simp [World.drewN, Nat.add_assoc]⟩
      · have hs : Hid (true = decide (xs = ys)) := by
          have e := HE.out
          rw [List.take_of_length_le (by omega), List.take_of_length_le (by have := HL.out; omega)] at e
          simp [Hid, e]
        go_wp2
        go_ret
        exact quietB hs.out ⟨q, HQ.out⟩
  · have hs : Hid (false = decide (xs = ys)) := by
      have : xs ≠ ys := fun e => hl (by rw [e])
      simp [Hid, this]
    have hb : ((xs.length : Int) == (ys.length : Int)) = false := by simp; omega
    have hb2 : ((xs.length : Int) != (ys.length : Int)) = true := by simp; omega
    go_enter Try.func28, Try.ntmps28
    go_wp2
    go_ret
    exact quietB hs.out ⟨0, rfl⟩
end Go.Proofs.Ythfchmdfoaiibaa
