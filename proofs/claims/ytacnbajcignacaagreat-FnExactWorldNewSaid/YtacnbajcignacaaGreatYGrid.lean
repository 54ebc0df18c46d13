/-
  What functions on grids compute: new grids.
-/
import Derived.Test.YtacnbajcignacaaGreatYT
import Derived.Test.YtacnbajcignacaaGreatMean
namespace Go.Proofs.YtacnbajcignacaaGreat
open Go.RowKit
set_option linter.unusedSimpArgs false
set_option linter.unusedVariables false
set_option maxHeartbeats 4000000
set_option maxRecDepth 10000

theorem E_iin (x a b : Int) : M_iin [V.v (.int .i64 x), V.v (.int .i64 a), V.v (.int .i64 b)] [] [] = some ⟨V.v (.bool (inR x a b)), [], []⟩ := by
  unfold M_iin
  by_cases h : a ≤ x <;> simp [Tryz.func25, Tryz.f25, h, inR]
def gridNewOk (w h : Int) : Bool := inR w 2 200 && inR h 1 200 && decide (w * h ≤ 8000)
theorem gridNewOk_of {w h : Int} (hn : gridNewOk w h = true) : (2 ≤ w ∧ w ≤ 200) ∧ (1 ≤ h ∧ h ≤ 200) ∧ w * h ≤ 8000 ∧ 0 ≤ w * h := by
  simp only [gridNewOk, Bool.and_eq_true, decide_eq_true_eq, inR_iff] at hn
  exact ⟨hn.1.1, hn.1.2, hn.2, Int.mul_nonneg (by omega) (by omega)⟩
theorem mul_range {w h : Int} (a : 2 ≤ w ∧ w ≤ 200) (b : 1 ≤ h ∧ h ≤ 200) : 0 ≤ w * h ∧ w * h ≤ 40000 :=
  ⟨Int.mul_nonneg (by omega) (by omega), by have := Int.mul_le_mul a.2 b.2 (by omega) (by omega); omega⟩
/-- a grid's cells, its list being p -/
def vGrid (w h : Int) (p : V) (x y : Int) (wr : Bool) : V := .agg [V.v (.int .i64 w), V.v (.int .i64 h), p, V.v (.int .i64 x), V.v (.int .i64 y), V.v (.bool wr)]
theorem E_iGridNew_no (w h : Int) (hn : gridNewOk w h = false) : M_iGridNew [V.v (.int .i64 w), V.v (.int .i64 h)] [] [] = some ⟨.tup [vGrid 0 0 (.own 0) 0 0 false, V.v (.bool false)], [], [(0, [])]⟩ := by
  unfold M_iGridNew
  by_cases h1 : inR w 2 200 = true
  · by_cases h2 : inR h 1 200 = true
    · have hr := mul_range (inR_of h1) (inR_of h2)
      have hw := w64 (w * h) (by omega)
      have h3 : 8000 < w * h := by simpa [gridNewOk, h1, h2] using hn
      simp [Tryz.func26, Tryz.f26, E_iin, h1, h2, hw, h3, vGrid]
    · simp [Tryz.func26, Tryz.f26, E_iin, h1, h2, vGrid]
  · simp [Tryz.func26, Tryz.f26, E_iin, h1, vGrid]
theorem E_sGridNew_no (w h : Int) (hn : gridNewOk w h = false) : M_sGridNew [V.v (.int .i64 w), V.v (.int .i64 h)] [] [] = some ⟨.tup [vGrid 0 0 (.own 0) 0 0 false, V.v (.bool false)], [], [(0, [])]⟩ := by
  unfold M_sGridNew
  by_cases h1 : w < 2
  · simp [Tryz.func22, Tryz.f22, h1, vGrid]
  by_cases h2 : 200 < w
  · simp [Tryz.func22, Tryz.f22, h1, h2, vGrid]
  by_cases h3 : h < 1
  · simp [Tryz.func22, Tryz.f22, h1, h2, h3, vGrid]
  by_cases h4 : 200 < h
  · simp [Tryz.func22, Tryz.f22, h1, h2, h3, h4, vGrid]
  have hr := mul_range (w := w) (h := h) (by omega) (by omega)
  have hw := w64 (w * h) (by omega)
  have h5 : 8000 < w * h := by
    have e1 : inR w 2 200 = true := inR_iff.2 (by omega)
    have e2 : inR h 1 200 = true := inR_iff.2 (by omega)
    simpa [gridNewOk, e1, e2] using hn
  simp [Tryz.func22, Tryz.f22, h1, h2, h3, h4, hw, h5, vGrid]
def blanks (n : Nat) : List Int := List.replicate n 32
theorem blanks_snoc (n : Nat) : ints (blanks n) ++ [[D.a (.int .i64 32)]] = ints (blanks (n + 1)) := by rw [ints_snoc, blanks, ← List.replicate_succ']; rfl
theorem blanks_len (n : Nat) : (blanks n).length = n := List.length_replicate ..
theorem E_iGridNew (w h : Int) (hn : gridNewOk w h = true) : M_iGridNew [V.v (.int .i64 w), V.v (.int .i64 h)] [] [] = some ⟨.tup [vGrid w h (.own 0) 0 0 false, V.v (.bool true)], [], [(0, ints (blanks (w * h).toNat))]⟩ := by
  unfold M_iGridNew
  obtain ⟨a, b, h3, hp⟩ := gridNewOk_of hn
  have h1 := inR_iff.2 a
  have h2 := inR_iff.2 b
  have h3' : ¬ (8000 < w * h) := by omega
  have hw := w64 (w * h) (by omega)
  obtain ⟨n, hn⟩ := Int.eq_ofNat_of_zero_le hp
  simp [Tryz.func26, Tryz.f26, E_iin, h1, h2, hw, h3', vGrid]
  rw [hn] at h3
  rw [loopV_go (fun k => .on ⟨[(28, V.v (.int .i64 ((k : Int)))), (27, V.v (.int .i64 (w * h))), (6, .ref 6 0), (4, .ref 4 0)], [(6, [V.v (.int .i64 w), V.v (.int .i64 h), .own 2000000000, V.v (.int .i64 0), V.v (.int .i64 0), V.v (.bool false)]), (4, [V.v (.int .i64 0), V.v (.int .i64 0), .own 2000000001, V.v (.int .i64 0), V.v (.int .i64 0), V.v (.bool false)])], [(2000000001, []), (2000000000, ints (blanks k))], []⟩) n ?_ ?_]
  · simp [hn]
  · simp [blanks, ints_nil]
  · intro j hj
    have hw := w64 (j + 1) (by omega)
    simp [hn, hj, hw, blanks_len, ← blanks_snoc]
    simp (disch := omega) only [grd_pos]
    simp [hw, blanks_snoc]
end Go.Proofs.YtacnbajcignacaaGreat
