/-
  Plain functions on numbers and lists that the program's leaves compute. No program is in sight here.
-/
import Derived.Below
namespace Go.Proofs.YtohjjhoobikioaaDoor

def inB (n l h : Int) : Bool := decide (l ≤ n) && decide (n ≤ h)
def runeOk (r : Int) : Bool := inB r 0 1114111 && !inB r 55296 57343
def printable (r : Int) : Bool := runeOk r && decide (32 ≤ r) && !inB r 127 159
def wide (r : Int) : Bool := inB r 4352 4447 || inB r 11904 42191 || inB r 44032 55203 || inB r 63744 64255 || inB r 65280 65376 || inB r 65504 65510 || inB r 127744 129791 || inB r 131072 262141
def width (r : Int) : Int := if printable r then (if wide r then 2 else 1) else 0

theorem width_bounds (r : Int) : 0 ≤ width r ∧ width r ≤ 2 := by unfold width; split <;> (try split) <;> omega
theorem printable_bounds {r : Int} (h : printable r = true) : 32 ≤ r ∧ r ≤ 1114111 := by
  simp [printable, runeOk, inB] at h; omega
theorem width_pos {r : Int} (h : printable r = true) : 1 ≤ width r := by unfold width; rw [if_pos h]; split <;> omega
end Go.Proofs.YtohjjhoobikioaaDoor
