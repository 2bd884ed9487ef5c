/- A disk that is used: what becomes of it. -/
import Derived.Test.YtcgkdomfbkkboaaOne
namespace Go.Proofs.Ytcgkdomfbkkboaa
open Go.RowKit Go.Joins Go.ChangeMaps

def wA : BA := dataB 97
def wB : BA := dataB 98
def wk0 : St := newS 4 2
def wk1 : St := (writeR wk0 1 wA).2
def wk2 : St := (flushR wk1).2
def wk3 : St := (writeR wk2 1 wB).2
def wk4 : St := (writeR wk3 2 wB).2
def wk5 : St := offS wk4
def wk6 : St := wakeS wk5 [true, false]
def wk7 : St := armS wk6 2
def wk8 : St := (writeR wk7 0 wA).2
def wk9 : St := (flushR wk8).2
def wk10 : St := wakeS wk9 []
theorem we1 : writeR wk0 1 wA = (0, wk1) := by kernel_rfl
theorem we1u : (cntF wk1.now : Int) = 1 := by kernel_rfl
theorem we1a : writeR wk1 4 wA = (2, wk1) := by kernel_rfl
theorem we1b : writeR wk1 1 ⟨#[97]⟩ = (2, wk1) := by kernel_rfl
theorem we1r : readR wk1 1 = (wA, 0) := by kernel_rfl
theorem we1s : readR wk1 0 = (dataB 0, 0) := by kernel_rfl
theorem we2 : flushR wk1 = (0, wk2) := by kernel_rfl
theorem we3 : writeR wk2 1 wB = (0, wk3) := by kernel_rfl
theorem we4 : writeR wk3 2 wB = (0, wk4) := by kernel_rfl
theorem we4a : writeR wk4 3 wB = (7, wk4) := by kernel_rfl
theorem we4f : fitsS wk4 [2, 1] = true := by kernel_rfl
theorem we4g : fitsS wk4 [3] = false := by kernel_rfl
theorem we5r : readR wk5 1 = (ByteArray.empty, 6) := by kernel_rfl
theorem we6r : readR wk6 1 = (wB, 0) := by kernel_rfl
theorem we6s : readR wk6 2 = (dataB 0, 0) := by kernel_rfl
theorem we6u : (cntF wk6.now : Int) = 1 := by kernel_rfl
theorem we8 : writeR wk7 0 wA = (0, wk8) := by kernel_rfl
theorem we9 : flushR wk8 = (6, wk9) := by kernel_rfl
theorem we9o : (!wk9.off) = false := by kernel_rfl
theorem we10r : readR wk10 0 = (dataB 0, 0) := by kernel_rfl
theorem wl : wk0.more.length ≤ 1000000 ∧ wk1.more.length ≤ 1000000 ∧ wk2.more.length ≤ 1000000 ∧ wk3.more.length ≤ 1000000 ∧ wk4.more.length ≤ 1000000 ∧ wk5.more.length ≤ 1000000 ∧ wk7.more.length ≤ 1000000 ∧ wk9.more.length ≤ 1000000 := by
  have e1 : wk0.more.length = 0 := by kernel_rfl
  have e2 : wk1.more.length = 1 := by kernel_rfl
  have e3 : wk2.more.length = 0 := by kernel_rfl
  have e4 : wk3.more.length = 1 := by kernel_rfl
  have e5 : wk4.more.length = 2 := by kernel_rfl
  have e6 : wk5.more.length = 2 := by kernel_rfl
  have e7 : wk7.more.length = 0 := by kernel_rfl
  have e8 : wk9.more.length = 1 := by kernel_rfl
  omega
end Go.Proofs.Ytcgkdomfbkkboaa
