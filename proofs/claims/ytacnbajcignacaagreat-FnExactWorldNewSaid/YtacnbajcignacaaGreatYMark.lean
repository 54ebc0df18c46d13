/-
  The laws' mark.. and held.. on lists of numbers.
-/
import Derived.Test.YtacnbajcignacaaGreatYMark0
namespace Go.Proofs.YtacnbajcignacaaGreat
open Go.RowKit
set_option linter.unusedSimpArgs false
set_option linter.unusedVariables false
set_option maxHeartbeats 8000000
set_option maxRecDepth 100000
/-- k, k + 1, .. -/
def mkInts (k : Int) (n : Nat) : List Int := (List.range n).map fun i : Nat => k + (i : Int)
@[simp] theorem mkInts_len (k : Int) (n : Nat) : (mkInts k n).length = n := by simp [mkInts]
theorem mkInts_at {k : Int} {n j : Nat} (h : j < (mkInts k n).length) : (mkInts k n)[j] = k + j := by simp [mkInts]
theorem mkInts_snoc (k : Int) (n : Nat) : mkInts k (n + 1) = mkInts k n ++ [k + n] := by simp [mkInts, List.range_succ]
theorem set_step {α : Type} (p : List α) (l : List α) (x : α) (h : p.length < l.length) : (p ++ l.drop p.length).set p.length x = (p ++ [x]) ++ l.drop (p.length + 1) := by
  rw [List.set_append_right _ _ (Nat.le_refl _), Nat.sub_self, List.drop_eq_getElem_cons h, List.set_cons_zero, List.append_assoc]; rfl
theorem ints_set (l : List Int) (j : Nat) (x : Int) : (ints l).set j [D.a (.int .i64 x)] = ints (l.set j x) := by
  show (l.map _).set j _ = (l.set j x).map _
  rw [List.map_set]; rfl
/-- the first j are marked -/
def mkUpto (k : Int) (l : List Int) (j : Nat) : List Int := mkInts k j ++ l.drop j
theorem mkUpto_zero (k : Int) (l : List Int) : mkUpto k l 0 = l := by simp [mkUpto, mkInts]
theorem mkUpto_end (k : Int) (l : List Int) : mkUpto k l l.length = mkInts k l.length := by simp [mkUpto]
theorem mkUpto_len {k : Int} {l : List Int} {j : Nat} (h : j ≤ l.length) : (mkUpto k l j).length = l.length := by simp [mkUpto]; omega
theorem mkUpto_set {k : Int} {l : List Int} {j : Nat} (h : j < l.length) : (ints (mkUpto k l j)).set j [D.a (.int .i64 (k + j))] = ints (mkUpto k l (j + 1)) := by
  rw [ints_set]
  have := set_step (mkInts k j) l (k + j) (by simpa using h)
  rw [mkInts_len] at this
  unfold mkUpto
  rw [this, ← mkInts_snoc]
theorem E_lmarkIntS (l : List Int) (k : Int) (hl : l.length ≤ 1000000000) (hk : 0 ≤ k ∧ k ≤ 1000000000000) : M_lmarkIntS [.own 0, V.v (.int .i64 k)] [] [ints l] = some ⟨V.v (.int .i64 (k + l.length)), [], [(0, ints (mkInts k l.length))]⟩ := by
  unfold M_lmarkIntS
  simp [Tryz.func45, Tryz.f45]
  rw [loopV_go (fun j => .on ⟨[(5, V.v (.int .i64 ((j : Int)))), (1, V.v (.int .i64 (k + j))), (0, .own 1000000000)], [], [(1000000000, ints (mkUpto k l j))], []⟩) l.length ?_ ?_]
  · simp [mkUpto_len (k := k) (Nat.le_refl _), mkUpto_end]
  · simp [mkUpto_zero]
  · intro j hj
    have hw := w64 (j + 1) (by omega)
    have hw2 := w64 (k + j + 1) (by omega)
    have hw3 := w64 (k + j) (by omega)
    have hlen := mkUpto_len (k := k) (l := l) (j := j) (by omega)
    simp [hj, hw, hw2, hw3, hlen, mkUpto_set hj]
    omega
theorem E_lheldIntS (n : Nat) (k : Int) (hl : n ≤ 1000000000) (hk : 0 ≤ k ∧ k ≤ 1000000000000) : M_lheldIntS [.lst (some 0) (ints (mkInts k n)), V.v (.int .i64 k)] [] [] = some ⟨V.v (.int .i64 (k + n)), [], []⟩ := by
  unfold M_lheldIntS
  simp [Tryz.func55, Tryz.f55]
  rw [loopV_go (fun j => .on ⟨[(5, V.v (.int .i64 ((j : Int)))), (1, V.v (.int .i64 (k + j))), (0, .lst (some 0) (ints (mkInts k n)))], [], [], []⟩) n ?_ ?_]
  · simp
  · simp
  · intro j hj
    have hw := w64 (j + 1) (by omega)
    have hw2 := w64 (k + j + 1) (by omega)
    have hw3 := w64 (k + j) (by omega)
    simp [hj, hw, hw2, hw3, mkInts_at]
    omega
theorem E_lmarkGrid (w h x y : Int) (b : Bool) (l : List Int) (k : Int) (hl : l.length ≤ 1000000000) (hk : 0 ≤ k ∧ k ≤ 1000000000000) : M_lmarkGrid [.agg [V.v (.int .i64 w), V.v (.int .i64 h), .own 0, V.v (.int .i64 x), V.v (.int .i64 y), V.v (.bool b)], V.v (.int .i64 k)] [] [ints l] = some ⟨V.v (.int .i64 (k + l.length)), [], [(0, ints (mkInts k l.length))]⟩ := by
  unfold M_lmarkGrid
  simp [Tryz.func44, Tryz.f44, E_lmarkIntS l k hl hk]
theorem E_lheldGrid (w h x y : Int) (b : Bool) (n : Nat) (k : Int) (hl : n ≤ 1000000000) (hk : 0 ≤ k ∧ k ≤ 1000000000000) : M_lheldGrid [.agg [V.v (.int .i64 w), V.v (.int .i64 h), .lst (some 0) (ints (mkInts k n)), V.v (.int .i64 x), V.v (.int .i64 y), V.v (.bool b)], V.v (.int .i64 k)] [] [] = some ⟨V.v (.int .i64 (k + n)), [], []⟩ := by
  unfold M_lheldGrid
  have : ¬ (k + n < 0) := by omega
  simp [Tryz.func54, Tryz.f54, E_lheldIntS n k hl hk, this]
end Go.Proofs.YtacnbajcignacaaGreat
