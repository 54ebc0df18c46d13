/-
  Grids, plainly: when one is valid.
-/
import Derived.Test.YtohjjhoobikioaaDoorPure
namespace Go.Proofs.YtohjjhoobikioaaDoor

structure Gr where
  W : Int
  H : Int
  C : List Int
  X : Int
  Y : Int
  R : Bool

def cellB (C : List Int) (W : Int) (i : Nat) : Bool :=
  if C[i]?.getD 0 = -1 then decide (0 < (i : Int) % W) && decide (width (C[i - 1]?.getD 0) = 2)
  else if width (C[i]?.getD 0) = 2 then decide ((i : Int) % W + 1 < W) && decide (C[i + 1]?.getD 0 = -1)
  else decide (width (C[i]?.getD 0) = 1)
def dimsP (W H : Int) (n : Nat) : Prop := 2 ≤ W ∧ W ≤ 200 ∧ 1 ≤ H ∧ H ≤ 200 ∧ W * H ≤ 8000 ∧ (n : Int) = W * H
instance (W H : Int) (n : Nat) : Decidable (dimsP W H n) := by unfold dimsP; infer_instance
def curP (W H X Y : Int) (R : Bool) : Prop := 0 ≤ X ∧ X < W ∧ 0 ≤ Y ∧ Y < H ∧ (R = true → X = W - 1)
instance (W H X Y : Int) (R : Bool) : Decidable (curP W H X Y R) := by unfold curP; infer_instance
def cellsB (C : List Int) (W : Int) : Bool := (List.range C.length).all (cellB C W)
def gridOk (g : Gr) : Bool := decide (dimsP g.W g.H g.C.length) && decide (curP g.W g.H g.X g.Y g.R) && cellsB g.C g.W

theorem inB_iff {n l h : Int} : inB n l h = true ↔ l ≤ n ∧ n ≤ h := by simp [inB]
theorem inB_not {n l h : Int} : inB n l h = false ↔ ¬ (l ≤ n ∧ n ≤ h) := by rw [← inB_iff]; cases inB n l h <;> simp

theorem gridOk_dims {W H X Y : Int} {C : List Int} {R : Bool} {n : Nat} (hn : C.length = n) (h : ¬ dimsP W H n) : gridOk ⟨W, H, C, X, Y, R⟩ = false := by
  unfold gridOk; rw [hn]; simp [h]
theorem gridOk_cur {W H X Y : Int} {C : List Int} {R : Bool} (h : ¬ curP W H X Y R) : gridOk ⟨W, H, C, X, Y, R⟩ = false := by
  simp [gridOk, h]
theorem gridOk_cell {W H X Y : Int} {C : List Int} {R : Bool} {i : Nat} (hi : i < C.length) (h : cellB C W i = false) : gridOk ⟨W, H, C, X, Y, R⟩ = false := by
  have : cellsB C W = false := by
    unfold cellsB
    rw [List.all_eq_false]
    exact ⟨i, by simp [hi], by simp [h]⟩
  simp [gridOk, this]
theorem gridOk_yes {W H X Y : Int} {C : List Int} {R : Bool} (hd : dimsP W H C.length) (hc : curP W H X Y R) (h : ∀ i, i < C.length → cellB C W i = true) : gridOk ⟨W, H, C, X, Y, R⟩ = true := by
  have : cellsB C W = true := by
    unfold cellsB
    rw [List.all_eq_true]
    intro i hi
    exact h i (by simpa using hi)
  simp [gridOk, hd, hc, this]
theorem gridOk_iff {g : Gr} : gridOk g = true ↔ dimsP g.W g.H g.C.length ∧ curP g.W g.H g.X g.Y g.R ∧ ∀ i, i < g.C.length → cellB g.C g.W i = true := by
  unfold gridOk cellsB
  simp only [Bool.and_eq_true, decide_eq_true_eq, List.all_eq_true, List.mem_range]
  exact ⟨fun ⟨⟨a, b⟩, c⟩ => ⟨a, b, c⟩, fun ⟨a, b, c⟩ => ⟨⟨a, b⟩, c⟩⟩

theorem prod_bounds {W H : Int} (h1 : 2 ≤ W) (h2 : W ≤ 200) (h3 : 1 ≤ H) (h4 : H ≤ 200) : 2 ≤ W * H ∧ W * H ≤ 40000 := by
  have a : 2 * 1 ≤ W * H := Int.mul_le_mul h1 h3 (by omega) (by omega)
  have b : W * H ≤ 200 * 200 := Int.mul_le_mul h2 h4 (by omega) (by omega)
  omega
/-- within a row the next cell exists -/
theorem next_in {W H : Int} {n i : Nat} (hW : 2 ≤ W) (hn : (n : Int) = W * H) (hi : i < n) (hr : (i : Int) % W + 1 < W) : i + 1 < n := by
  have e := Int.mul_ediv_add_emod (i : Int) W
  have hr0 := Int.emod_nonneg (i : Int) (show W ≠ 0 by omega)
  have hq : (i : Int) / W < H := by
    have h1 : W * ((i : Int) / W) < W * H := by omega
    exact Int.lt_of_mul_lt_mul_left h1 (by omega)
  have h2 : W * ((i : Int) / W + 1) ≤ W * H := Int.mul_le_mul_of_nonneg_left (by omega) (by omega)
  rw [Int.mul_add] at h2
  omega
theorem prev_in {W : Int} {i : Nat} (hr : 0 < (i : Int) % W) : 0 < i := by
  rcases Nat.eq_zero_or_pos i with h | h
  · subst h; simp at hr
  · exact h
end Go.Proofs.YtohjjhoobikioaaDoor
