/-
  Of several texts: GPure, GOps, GOps2, Width, GOk, GOkS.
-/
import Derived.Test.YtohjjhoobikioaaDoorBase
/-! Grids, plainly: when one is valid. -/
namespace Go.Proofs.YtohjjhoobikioaaDoor

structure Gr where
  W : Int
  H : Int
  C : List Int
  X : Int
  Y : Int
  R : Bool

def cellB (C : List Int) (W : Int) (i : Nat) : Bool :=
  if C[i]?.getD 0 = -1 then decide (0 < (i : Int) % W) && decide (width (C[i - 1]?.getD 0) = 2)
  else if width (C[i]?.getD 0) = 2 then decide ((i : Int) % W + 1 < W) && decide (C[i + 1]?.getD 0 = -1)
  else decide (width (C[i]?.getD 0) = 1)
def dimsP (W H : Int) (n : Nat) : Prop := 2 ≤ W ∧ W ≤ 200 ∧ 1 ≤ H ∧ H ≤ 200 ∧ W * H ≤ 8000 ∧ (n : Int) = W * H
instance (W H : Int) (n : Nat) : Decidable (dimsP W H n) := by unfold dimsP; infer_instance
def curP (W H X Y : Int) (R : Bool) : Prop := 0 ≤ X ∧ X < W ∧ 0 ≤ Y ∧ Y < H ∧ (R = true → X = W - 1)
instance (W H X Y : Int) (R : Bool) : Decidable (curP W H X Y R) := by unfold curP; infer_instance
def cellsB (C : List Int) (W : Int) : Bool := (List.range C.length).all (cellB C W)
def gridOk (g : Gr) : Bool := decide (dimsP g.W g.H g.C.length) && decide (curP g.W g.H g.X g.Y g.R) && cellsB g.C g.W

theorem inB_iff {n l h : Int} : inB n l h = true ↔ l ≤ n ∧ n ≤ h := by simp [inB]
theorem inB_not {n l h : Int} : inB n l h = false ↔ ¬ (l ≤ n ∧ n ≤ h) := by rw [← inB_iff]; cases inB n l h <;> simp

theorem gridOk_dims {W H X Y : Int} {C : List Int} {R : Bool} {n : Nat} (hn : C.length = n) (h : ¬ dimsP W H n) : gridOk ⟨W, H, C, X, Y, R⟩ = false := by
  unfold gridOk; rw [hn]; simp [h]
theorem gridOk_cur {W H X Y : Int} {C : List Int} {R : Bool} (h : ¬ curP W H X Y R) : gridOk ⟨W, H, C, X, Y, R⟩ = false := by
  simp [gridOk, h]
theorem gridOk_cell {W H X Y : Int} {C : List Int} {R : Bool} {i : Nat} (hi : i < C.length) (h : cellB C W i = false) : gridOk ⟨W, H, C, X, Y, R⟩ = false := by
  have : cellsB C W = false := by
    unfold cellsB
    rw [List.all_eq_false]
    exact ⟨i, by simp [hi], by simp [h]⟩
  simp [gridOk, this]
theorem gridOk_yes {W H X Y : Int} {C : List Int} {R : Bool} (hd : dimsP W H C.length) (hc : curP W H X Y R) (h : ∀ i, i < C.length → cellB C W i = true) : gridOk ⟨W, H, C, X, Y, R⟩ = true := by
  have : cellsB C W = true := by
    unfold cellsB
    rw [List.all_eq_true]
    intro i hi
    exact h i (by simpa using hi)
  simp [gridOk, hd, hc, this]
theorem gridOk_iff {g : Gr} : gridOk g = true ↔ dimsP g.W g.H g.C.length ∧ curP g.W g.H g.X g.Y g.R ∧ ∀ i, i < g.C.length → cellB g.C g.W i = true := by
  unfold gridOk cellsB
  simp only [Bool.and_eq_true, decide_eq_true_eq, List.all_eq_true, List.mem_range]
  exact ⟨fun ⟨⟨a, b⟩, c⟩ => ⟨a, b, c⟩, fun ⟨a, b, c⟩ => ⟨⟨a, b⟩, c⟩⟩

theorem prod_bounds {W H : Int} (h1 : 2 ≤ W) (h2 : W ≤ 200) (h3 : 1 ≤ H) (h4 : H ≤ 200) : 2 ≤ W * H ∧ W * H ≤ 40000 := by
  have a : 2 * 1 ≤ W * H := Int.mul_le_mul h1 h3 (by omega) (by omega)
  have b : W * H ≤ 200 * 200 := Int.mul_le_mul h2 h4 (by omega) (by omega)
  omega
/-- within a row the next cell exists -/
theorem next_in {W H : Int} {n i : Nat} (hW : 2 ≤ W) (hn : (n : Int) = W * H) (hi : i < n) (hr : (i : Int) % W + 1 < W) : i + 1 < n := by
  have e := Int.mul_ediv_add_emod (i : Int) W
  have hr0 := Int.emod_nonneg (i : Int) (show W ≠ 0 by omega)
  have hq : (i : Int) / W < H := by
    have h1 : W * ((i : Int) / W) < W * H := by omega
    exact Int.lt_of_mul_lt_mul_left h1 (by omega)
  have h2 : W * ((i : Int) / W + 1) ≤ W * H := Int.mul_le_mul_of_nonneg_left (by omega) (by omega)
  rw [Int.mul_add] at h2
  omega
theorem prev_in {W : Int} {i : Nat} (hr : 0 < (i : Int) % W) : 0 < i := by
  rcases Nat.eq_zero_or_pos i with h | h
  · subst h; simp at hr
  · exact h
end Go.Proofs.YtohjjhoobikioaaDoor
/-! Grids, plainly: moving, scrolling, clearing, writing; each leaves a valid grid valid. -/
namespace Go.Proofs.YtohjjhoobikioaaDoor

abbrev gt (C : List Int) (i : Nat) : Int := C[i]?.getD 0
theorem gt_out {C : List Int} {i : Nat} (h : C.length ≤ i) : gt C i = 0 := by simp [gt, h]
theorem gt_set {C : List Int} {i j : Nat} {x : Int} (hi : i < C.length) : gt (C.set i x) j = if i = j then x else gt C j := by
  unfold gt
  rw [List.getElem?_set]
  split
  · subst_vars; simp
  · rfl
theorem gt_map {n i : Nat} {f : Nat → Int} (h : i < n) : gt ((List.range n).map f) i = f i := by simp [gt, h]
theorem ext_gt {C D : List Int} (hl : C.length = D.length) (h : ∀ i, i < C.length → gt C i = gt D i) : C = D := by
  apply List.ext_getElem hl
  intro i h1 h2
  have := h i h1
  simpa [gt, h1, h2] using this
theorem width_half : width (-1) = 0 := by decide
theorem width_32 : width 32 = 1 := by decide
theorem width_cases (r : Int) : width r = 0 ∨ width r = 1 ∨ width r = 2 := by have := width_bounds r; omega

def VC (C : List Int) (W : Int) : Prop := ∀ i, i < C.length → cellB C W i = true

theorem vc_half {C : List Int} {W : Int} (h : VC C W) {i : Nat} (hi : i < C.length) (e : gt C i = -1) : 0 < (i : Int) % W ∧ width (gt C (i - 1)) = 2 := by
  have := h i hi
  unfold cellB at this
  rw [if_pos e] at this
  simpa using this
theorem vc_wide {C : List Int} {W : Int} (h : VC C W) {i : Nat} (hi : i < C.length) (e : width (gt C i) = 2) : (i : Int) % W + 1 < W ∧ gt C (i + 1) = -1 := by
  have := h i hi
  unfold cellB at this
  rw [if_neg (by intro e2; rw [show C[i]?.getD 0 = gt C i from rfl] at e2; rw [e2, width_half] at e; omega), if_pos e] at this
  simpa using this
theorem vc_some {C : List Int} {W : Int} (h : VC C W) {i : Nat} (hi : i < C.length) (e : gt C i ≠ -1) : width (gt C i) = 1 ∨ width (gt C i) = 2 := by
  have := h i hi
  unfold cellB at this
  rw [if_neg e] at this
  by_cases h2 : width (gt C i) = 2
  · exact .inr h2
  · rw [if_neg h2] at this
    exact .inl (by simpa using this)
theorem cellB_intro {C : List Int} {W : Int} {i : Nat} (h1 : gt C i = -1 → 0 < (i : Int) % W ∧ width (gt C (i - 1)) = 2)
    (h2 : gt C i ≠ -1 → width (gt C i) = 1 ∨ (width (gt C i) = 2 ∧ (i : Int) % W + 1 < W ∧ gt C (i + 1) = -1)) : cellB C W i = true := by
  unfold cellB
  by_cases e : gt C i = -1
  · rw [if_pos e]; simpa using h1 e
  · rw [if_neg e]
    rcases h2 e with h | ⟨h, h3⟩
    · rw [if_neg (by rw [show C[i]?.getD 0 = gt C i from rfl, h]; omega)]; simpa using h
    · rw [if_pos h]; simpa using h3

/-! ### clearing -/
def other (C : List Int) (i : Nat) : Int := if width (gt C i) = 2 then (i : Int) + 1 else if gt C i = -1 then (i : Int) - 1 else i
def hit (C : List Int) (f t : Int) (i : Nat) : Bool := decide (f ≤ (i : Int) ∧ (i : Int) < t) || decide (f ≤ other C i ∧ other C i < t)
def clearC (C : List Int) (f t : Int) : List Int := (List.range C.length).map fun i => if hit C f t i then 32 else gt C i
theorem clearC_len (C : List Int) (f t : Int) : (clearC C f t).length = C.length := by simp [clearC]
theorem gt_clear {C : List Int} {f t : Int} {i : Nat} (h : i < C.length) : gt (clearC C f t) i = if hit C f t i then 32 else gt C i := gt_map h
theorem other_half {C : List Int} {i : Nat} (e : gt C i = -1) : other C i = (i : Int) - 1 := by
  unfold other; rw [if_neg (by rw [e, width_half]; omega), if_pos e]
theorem other_wide {C : List Int} {i : Nat} (e : width (gt C i) = 2) : other C i = (i : Int) + 1 := by unfold other; rw [if_pos e]
theorem other_one {C : List Int} {i : Nat} (e : width (gt C i) = 1) : other C i = i := by
  unfold other; rw [if_neg (by omega), if_neg (by intro e2; rw [e2, width_half] at e; omega)]
theorem hit_pair {C : List Int} {W f t : Int} (h : VC C W) {i : Nat} (hi : i < C.length) (e : width (gt C i) = 2) : hit C f t (i + 1) = hit C f t i := by
  have h2 := (vc_wide h hi e).2
  unfold hit
  rw [other_wide e, other_half h2, Bool.or_comm]
  simp
theorem clear_vc {C : List Int} {W : Int} {H : Int} (h : VC C W) (f t : Int) (hW : 2 ≤ W) (hn : (C.length : Int) = W * H) : VC (clearC C f t) W := by
  intro i hi
  rw [clearC_len] at hi
  apply cellB_intro
  · intro e
    rw [gt_clear hi] at e
    by_cases hh : hit C f t i = true
    · rw [if_pos hh] at e; omega
    · rw [if_neg hh] at e
      obtain ⟨h1, h2⟩ := vc_half h hi e
      have hp := prev_in h1
      refine ⟨h1, ?_⟩
      rw [gt_clear (by omega)]
      have := hit_pair (f := f) (t := t) h (i := i - 1) (by omega) h2
      rw [show i - 1 + 1 = i by omega] at this
      rw [if_neg (by rw [← this]; exact hh)]
      exact h2
  · intro e
    rw [gt_clear hi] at e ⊢
    by_cases hh : hit C f t i = true
    · rw [if_pos hh]; exact .inl width_32
    · rw [if_neg hh] at e ⊢
      rcases vc_some h hi e with h1 | h1
      · exact .inl h1
      · obtain ⟨h2, h3⟩ := vc_wide h hi h1
        refine .inr ⟨h1, h2, ?_⟩
        have hnx := next_in hW hn hi h2
        rw [gt_clear hnx, hit_pair h hi h1, if_neg hh]
        exact h3

/-! ### scrolling -/
def scrollC (C : List Int) (W : Nat) : List Int := C.drop W ++ List.replicate W 32
theorem scrollC_len {C : List Int} {W : Nat} (h : W ≤ C.length) : (scrollC C W).length = C.length := by simp [scrollC]; omega
theorem gt_scroll {C : List Int} {W i : Nat} (h : W ≤ C.length) (hi : i < C.length) : gt (scrollC C W) i = if i + W < C.length then gt C (i + W) else 32 := by
  unfold gt scrollC
  rw [List.getElem?_append, List.length_drop]
  split
  · rename_i h1
    rw [if_pos (by omega), List.getElem?_drop, Nat.add_comm]
  · rename_i h1
    rw [if_neg (by omega)]
    simp [show i - (C.length - W) < W by omega]
theorem scroll_vc {C : List Int} {W : Nat} {H : Int} (h : VC C W) (hW : 2 ≤ W) (hn : (C.length : Int) = (W : Int) * H) (hle : W ≤ C.length) : VC (scrollC C W) W := by
  intro i hi
  rw [scrollC_len hle] at hi
  have em : ((i + W : Nat) : Int) % (W : Int) = (i : Int) % (W : Int) := by rw [Int.natCast_add, Int.add_emod_right]
  apply cellB_intro
  · intro e
    rw [gt_scroll hle hi] at e
    split at e
    · rename_i h1
      obtain ⟨h2, h3⟩ := vc_half h h1 e
      rw [em] at h2
      have hp := prev_in h2
      refine ⟨h2, ?_⟩
      rw [gt_scroll hle (by omega), if_pos (by omega), show i - 1 + W = i + W - 1 by omega]
      exact h3
    · omega
  · intro e
    rw [gt_scroll hle hi] at e ⊢
    split at e
    · rename_i h1
      rw [if_pos h1]
      rcases vc_some h h1 e with h2 | h2
      · exact .inl h2
      · obtain ⟨h3, h4⟩ := vc_wide h h1 h2
        have hnx := next_in (by omega) hn h1 h3
        rw [em] at h3
        refine .inr ⟨h2, h3, ?_⟩
        rw [gt_scroll hle (by omega), if_pos (by omega), show i + 1 + W = i + W + 1 by omega]
        exact h4
    · rename_i h1
      rw [if_neg h1]; exact .inl width_32

/-! ### writing -/
def putC (C : List Int) (i : Nat) (r : Int) : List Int :=
  if width r = 2 then ((clearC C i ((i : Int) + width r)).set i r).set (i + 1) (-1) else (clearC C i ((i : Int) + width r)).set i r
theorem putC_len (C : List Int) (i : Nat) (r : Int) : (putC C i r).length = C.length := by unfold putC; split <;> simp [clearC_len]
theorem put_vc {C : List Int} {W H : Int} (h : VC C W) (hW : 2 ≤ W) (hn : (C.length : Int) = W * H) {i : Nat} (hi : i < C.length) {r : Int} (hw : width r = 1 ∨ (width r = 2 ∧ (i : Int) % W + 1 < W)) : VC (putC C i r) W := by
  have hne : r ≠ -1 := by intro e; subst e; rw [width_half] at hw; omega
  have hv := clear_vc (W := W) (H := H) h i ((i : Int) + width r) hW hn
  obtain ⟨D, hD⟩ : ∃ D, D = clearC C i ((i : Int) + width r) := ⟨_, rfl⟩
  have hDl : D.length = C.length := by rw [hD, clearC_len]
  have hDi : gt D i = 32 := by
    rw [hD, gt_clear hi, if_pos]
    unfold hit
    simp only [Bool.or_eq_true, decide_eq_true_eq]
    left; omega
  rw [← hD] at hv
  -- the cell ahead is not wide, since the cell at i was no half
  have hprev : ∀ j, j + 1 = i → width (gt D j) ≠ 2 := by
    intro j hj hw2
    have := (vc_wide hv (by omega) hw2).2
    rw [hj, hDi] at this; omega
  rcases hw with hw1 | ⟨hw2, hx⟩
  · have e : putC C i r = D.set i r := by unfold putC; rw [if_neg (by omega), ← hD]
    rw [e]
    intro j hj
    rw [List.length_set] at hj
    apply cellB_intro
    · intro e1
      rw [gt_set (by omega)] at e1
      split at e1
      · exact absurd e1 hne
      · rename_i hij
        obtain ⟨h1, h2⟩ := vc_half hv hj e1
        have hp := prev_in h1
        refine ⟨h1, ?_⟩
        rw [gt_set (by omega), if_neg (by intro e2; subst e2; rw [hDi, width_32] at h2; omega)]
        exact h2
    · intro e1
      rw [gt_set (by omega)] at e1 ⊢
      split at e1
      · rename_i hij; rw [if_pos hij]; exact .inl hw1
      · rename_i hij
        rw [if_neg hij]
        rcases vc_some hv hj e1 with h1 | h1
        · exact .inl h1
        · obtain ⟨h2, h3⟩ := vc_wide hv hj h1
          refine .inr ⟨h1, h2, ?_⟩
          rw [gt_set (by omega), if_neg (by intro e2; exact hprev j e2.symm h1)]
          exact h3
  · have hi1 : i + 1 < C.length := next_in hW hn hi hx
    have e : putC C i r = (D.set i r).set (i + 1) (-1) := by unfold putC; rw [if_pos hw2, ← hD]
    have hDi1 : gt D (i + 1) = 32 := by
      rw [hD, gt_clear hi1, if_pos]
      unfold hit
      simp only [Bool.or_eq_true, decide_eq_true_eq]
      left; omega
    have g : ∀ j, gt ((D.set i r).set (i + 1) (-1)) j = if i + 1 = j then -1 else if i = j then r else gt D j := by
      intro j
      rw [gt_set (by rw [List.length_set]; omega), gt_set (by omega)]
    rw [e]
    intro j hj
    rw [List.length_set, List.length_set] at hj
    apply cellB_intro
    · intro e1
      rw [g] at e1
      by_cases h1 : i + 1 = j
      · subst h1
        refine ⟨?_, ?_⟩
        · have e3 : ((i + 1 : Nat) : Int) % W = (i : Int) % W + 1 := by
            rw [Int.natCast_add, Int.add_emod, show ((1 : Nat) : Int) % W = 1 from Int.emod_eq_of_lt (by omega) (by omega)]
            exact Int.emod_eq_of_lt (by have := Int.emod_nonneg (i : Int) (show W ≠ 0 by omega); omega) hx
          rw [e3]
          have := Int.emod_nonneg (i : Int) (show W ≠ 0 by omega)
          omega
        · rw [g, if_neg (by omega), if_pos (by omega)]; exact hw2
      · rw [if_neg h1] at e1
        by_cases h2 : i = j
        · rw [if_pos h2] at e1; exact absurd e1 hne
        · rw [if_neg h2] at e1
          obtain ⟨h3, h4⟩ := vc_half hv (by omega) e1
          have hp := prev_in h3
          refine ⟨h3, ?_⟩
          have a1 : i + 1 ≠ j - 1 := by intro e2; rw [← e2, hDi1, width_32] at h4; omega
          have a2 : i ≠ j - 1 := by intro e2; omega
          rw [g, if_neg a1, if_neg a2]
          exact h4
    · intro e1
      rw [g] at e1 ⊢
      by_cases h1 : i + 1 = j
      · rw [if_pos h1] at e1; exact absurd rfl e1
      · rw [if_neg h1] at e1 ⊢
        by_cases h2 : i = j
        · subst h2
          rw [if_pos rfl]
          refine .inr ⟨hw2, hx, ?_⟩
          rw [g, if_pos rfl]
        · rw [if_neg h2] at e1 ⊢
          rcases vc_some hv (by omega) e1 with h3 | h3
          · exact .inl h3
          · obtain ⟨h4, h5⟩ := vc_wide hv (by omega) h3
            refine .inr ⟨h3, h4, ?_⟩
            have a1 : i + 1 ≠ j + 1 := by omega
            have a2 : i ≠ j + 1 := by intro e2; exact hprev j e2.symm h3
            rw [g, if_neg a1, if_neg a2]
            exact h5
end Go.Proofs.YtohjjhoobikioaaDoor
/-! Grids, plainly: the operations on whole grids; what the program's own erase leaves is what clearing leaves. -/
namespace Go.Proofs.YtohjjhoobikioaaDoor

def clampI (n hi : Int) : Int := max 0 (min n hi)
def goG (g : Gr) (x y : Int) : Gr := { g with X := clampI x (g.W - 1), Y := clampI y (g.H - 1), R := false }
def scrollG (g : Gr) : Gr := { g with C := scrollC g.C g.W.toNat }
def clearG (g : Gr) (f t : Int) : Gr := { g with C := clearC g.C f t }
def downG (g : Gr) : Gr := if g.Y = g.H - 1 then scrollG { g with X := 0, R := false } else { g with X := 0, Y := g.Y + 1, R := false }
def wrapG (g : Gr) (n : Int) : Gr := if g.R = true ∨ (n = 2 ∧ g.X = g.W - 1) then downG g else g
def stepG (g : Gr) (n : Int) : Gr := if g.W ≤ g.X + n then { g with X := g.W - 1, R := true } else { g with X := g.X + n }
def putG (g : Gr) (r : Int) : Gr :=
  if width r = 0 then g else stepG { wrapG g (width r) with C := putC (wrapG g (width r)).C ((wrapG g (width r)).Y * g.W + (wrapG g (width r)).X).toNat r } (width r)

theorem gridOk_of {g : Gr} (hd : dimsP g.W g.H g.C.length) (hc : curP g.W g.H g.X g.Y g.R) (hv : VC g.C g.W) : gridOk g = true := gridOk_iff.2 ⟨hd, hc, hv⟩
theorem gridOk_vc {g : Gr} (h : gridOk g = true) : VC g.C g.W := (gridOk_iff.1 h).2.2
theorem gridOk_d {g : Gr} (h : gridOk g = true) : dimsP g.W g.H g.C.length := (gridOk_iff.1 h).1
theorem gridOk_c {g : Gr} (h : gridOk g = true) : curP g.W g.H g.X g.Y g.R := (gridOk_iff.1 h).2.1
theorem clampI_in {n hi : Int} (h : 0 ≤ hi) : 0 ≤ clampI n hi ∧ clampI n hi ≤ hi := by unfold clampI; omega
theorem clampI_id {n hi : Int} (h0 : 0 ≤ n) (h : n ≤ hi) : clampI n hi = n := by unfold clampI; omega
theorem goG_ok {g : Gr} (h : gridOk g = true) (x y : Int) : gridOk (goG g x y) = true := by
  have hd := gridOk_d h
  have hd2 := hd
  unfold dimsP at hd2
  have h1 := clampI_in (n := x) (hi := g.W - 1) (by omega)
  have h2 := clampI_in (n := y) (hi := g.H - 1) (by omega)
  exact gridOk_of hd ⟨by show 0 ≤ clampI x (g.W - 1); omega, by show clampI x (g.W - 1) < g.W; omega, by show 0 ≤ clampI y (g.H - 1); omega, by show clampI y (g.H - 1) < g.H; omega, fun e => by cases e⟩ (show VC g.C g.W from gridOk_vc h)
theorem row_le {g : Gr} (h : gridOk g = true) : g.W.toNat ≤ g.C.length := by
  have hd := gridOk_d h
  unfold dimsP at hd
  have : g.W * 1 ≤ g.W * g.H := Int.mul_le_mul_of_nonneg_left (by omega) (by omega)
  omega
theorem scrollG_ok {g : Gr} (h : gridOk g = true) : gridOk (scrollG g) = true := by
  have hd := gridOk_d h
  have hle := row_le h
  have hd2 := hd
  unfold dimsP at hd2
  have hW : ((g.W.toNat : Nat) : Int) = g.W := by omega
  have hv := scroll_vc (C := g.C) (W := g.W.toNat) (H := g.H) (by rw [hW]; exact gridOk_vc h) (by omega) (by rw [hW]; omega) hle
  rw [hW] at hv
  refine gridOk_of ?_ (show curP g.W g.H g.X g.Y g.R from gridOk_c h) hv
  show dimsP g.W g.H (scrollC g.C g.W.toNat).length
  rw [scrollC_len hle]; exact hd
theorem clearG_ok {g : Gr} (h : gridOk g = true) (f t : Int) : gridOk (clearG g f t) = true := by
  have hd := gridOk_d h
  have hd2 := hd
  unfold dimsP at hd2
  refine gridOk_of ?_ (show curP g.W g.H g.X g.Y g.R from gridOk_c h) (clear_vc (H := g.H) (gridOk_vc h) f t (by omega) (by omega))
  show dimsP g.W g.H (clearC g.C f t).length
  rw [clearC_len]; exact hd
theorem downG_ok {g : Gr} (h : gridOk g = true) : gridOk (downG g) = true := by
  have hd := gridOk_d h
  have hc := gridOk_c h
  have hd2 := hd
  unfold dimsP at hd2
  unfold curP at hc
  have h0 : gridOk { g with X := 0, R := false } = true := gridOk_of hd ⟨Int.le_refl _, by show 0 < g.W; omega, hc.2.2.1, hc.2.2.2.1, fun e => by cases e⟩ (show VC g.C g.W from gridOk_vc h)
  unfold downG
  split
  · exact scrollG_ok h0
  · exact gridOk_of hd ⟨Int.le_refl _, by show 0 < g.W; omega, by show 0 ≤ g.Y + 1; omega, by show g.Y + 1 < g.H; omega, fun e => by cases e⟩ (show VC g.C g.W from gridOk_vc h)
theorem downG_dims (g : Gr) : (downG g).W = g.W ∧ (downG g).H = g.H ∧ (downG g).X = 0 ∧ (downG g).R = false := by unfold downG; split <;> simp [scrollG]
theorem wrapG_ok {g : Gr} (h : gridOk g = true) (n : Int) : gridOk (wrapG g n) = true := by unfold wrapG; split; exact downG_ok h; exact h
theorem wrapG_dims (g : Gr) (n : Int) : (wrapG g n).W = g.W ∧ (wrapG g n).H = g.H := by
  unfold wrapG; split
  · exact ⟨(downG_dims g).1, (downG_dims g).2.1⟩
  · exact ⟨rfl, rfl⟩
/-- where a rune is written: inside, and with room for it -/
theorem wrapG_cur {g : Gr} (h : gridOk g = true) {n : Int} (hn : n = 1 ∨ n = 2) : (wrapG g n).R = false ∧ 0 ≤ (wrapG g n).X ∧ (wrapG g n).X + n ≤ g.W ∧ 0 ≤ (wrapG g n).Y ∧ (wrapG g n).Y < g.H := by
  have hd := gridOk_d h
  have hc := gridOk_c h
  have h2 := gridOk_c (wrapG_ok h n)
  have e := wrapG_dims g n
  unfold dimsP at hd
  unfold curP at hc h2
  rw [e.1, e.2] at h2
  by_cases hw : g.R = true ∨ (n = 2 ∧ g.X = g.W - 1)
  · have e2 : wrapG g n = downG g := by unfold wrapG; rw [if_pos hw]
    have e3 := downG_dims g
    rw [e2] at h2 ⊢
    rw [e3.2.2.1, e3.2.2.2]
    exact ⟨rfl, by omega, by omega, h2.2.2.1, h2.2.2.2.1⟩
  · have e2 : wrapG g n = g := by unfold wrapG; rw [if_neg hw]
    rw [e2]
    simp only [not_or, not_and, Bool.not_eq_true] at hw
    refine ⟨hw.1, by omega, ?_, by omega, by omega⟩
    rcases hn with h3 | h3
    · omega
    · have := hw.2 h3; omega
theorem pos_in {W H X Y : Int} {n : Nat} (hn : (n : Int) = W * H) (hW : 2 ≤ W) (h1 : 0 ≤ X) (h2 : X < W) (h3 : 0 ≤ Y) (h4 : Y < H) : 0 ≤ Y * W + X ∧ (Y * W + X).toNat < n ∧ (Y * W + X) % W = X := by
  have a : 0 ≤ Y * W := Int.mul_nonneg h3 (by omega)
  have b : W * (Y + 1) ≤ W * H := Int.mul_le_mul_of_nonneg_left (by omega) (by omega)
  rw [Int.mul_add, Int.mul_comm] at b
  refine ⟨by omega, by omega, ?_⟩
  rw [Int.add_comm, Int.add_mul_emod_self_right]
  exact Int.emod_eq_of_lt h1 h2
theorem putG_ok {g : Gr} (h : gridOk g = true) (r : Int) : gridOk (putG g r) = true := by
  unfold putG
  split
  · exact h
  · rename_i h0
    have hn : width r = 1 ∨ width r = 2 := by have := width_cases r; omega
    have hd := gridOk_d h
    obtain ⟨c1, c2, c3, c4, c5⟩ := wrapG_cur h hn
    obtain ⟨e1, e2⟩ := wrapG_dims g (width r)
    have hw := wrapG_ok h (width r)
    have hwd := gridOk_d hw
    have hwv := gridOk_vc hw
    rw [e1] at hwv
    rw [e1, e2] at hwd
    have hwd2 := hwd
    unfold dimsP at hwd2
    obtain ⟨p1, p2, p3⟩ := pos_in (W := g.W) (H := g.H) (X := (wrapG g (width r)).X) (Y := (wrapG g (width r)).Y) hwd2.2.2.2.2.2 (by omega) c2 (by omega) c4 c5
    have pv := put_vc (H := g.H) hwv (by omega) hwd2.2.2.2.2.2 p2 (r := r) (by
      rcases hn with h3 | h3
      · exact .inl h3
      · refine .inr ⟨h3, ?_⟩
        rw [Int.toNat_of_nonneg p1, p3]; omega)
    unfold stepG
    split
    · rename_i h5
      refine gridOk_of ?_ ?_ ?_
      · show dimsP (wrapG g (width r)).W (wrapG g (width r)).H (putC _ _ r).length
        rw [putC_len, e1, e2]; exact hwd
      · show curP (wrapG g (width r)).W (wrapG g (width r)).H ((wrapG g (width r)).W - 1) (wrapG g (width r)).Y true
        rw [e1, e2]; exact ⟨by omega, by omega, c4, c5, fun _ => rfl⟩
      · show VC _ (wrapG g (width r)).W
        rw [e1]; exact pv
    · rename_i h5
      have h5' : ¬ g.W ≤ (wrapG g (width r)).X + width r := by rw [← e1]; exact h5
      refine gridOk_of ?_ ?_ ?_
      · show dimsP (wrapG g (width r)).W (wrapG g (width r)).H (putC _ _ r).length
        rw [putC_len, e1, e2]; exact hwd
      · show curP (wrapG g (width r)).W (wrapG g (width r)).H ((wrapG g (width r)).X + width r) (wrapG g (width r)).Y (wrapG g (width r)).R
        rw [e1, e2, c1]; exact ⟨by omega, by omega, c4, c5, fun e => by cases e⟩
      · show VC _ (wrapG g (width r)).W
        rw [e1]; exact pv

/-! ### the program's own erase -/
def eraseC (C : List Int) (f t : Nat) : List Int :=
  (List.range C.length).map fun i => if f ≤ i ∧ i < t then 32 else if i + 1 = f ∧ gt C f = -1 then 32 else if i = t ∧ gt C t = -1 then 32 else gt C i
theorem erase_clear {C : List Int} {W : Int} (h : VC C W) {f t : Nat} (hft : f < t) (ht : t ≤ C.length) : eraseC C f t = clearC C f t := by
  apply ext_gt
  · simp [eraseC, clearC]
  intro i hi
  have hi' : i < C.length := by simpa [eraseC] using hi
  rw [gt_clear hi', show gt (eraseC C f t) i = _ from gt_map hi']
  by_cases h1 : f ≤ i ∧ i < t
  · rw [if_pos h1, if_pos]
    unfold hit
    simp only [Bool.or_eq_true, decide_eq_true_eq]
    left; omega
  · rw [if_neg h1]
    by_cases h2 : i + 1 = f ∧ gt C f = -1
    · rw [if_pos h2, if_pos]
      have hp := (vc_half h (i := f) (by omega) h2.2).2
      rw [show f - 1 = i by omega] at hp
      unfold hit
      rw [other_wide hp]
      simp only [Bool.or_eq_true, decide_eq_true_eq]
      right; omega
    · rw [if_neg h2]
      by_cases h3 : i = t ∧ gt C t = -1
      · rw [if_pos h3, if_pos]
        unfold hit
        rw [h3.1, other_half h3.2]
        simp only [Bool.or_eq_true, decide_eq_true_eq]
        right; omega
      · rw [if_neg h3, if_neg]
        intro hh
        unfold hit at hh
        simp only [Bool.or_eq_true, decide_eq_true_eq] at hh
        rcases hh with hh | hh
        · omega
        · by_cases e1 : gt C i = -1
          · rw [other_half e1] at hh
            exact h3 ⟨by omega, by rw [show t = i by omega]; exact e1⟩
          · rcases vc_some h hi' e1 with e2 | e2
            · rw [other_one e2] at hh; omega
            · rw [other_wide e2] at hh
              have h4 := (vc_wide h hi' e2).2
              exact h2 ⟨by omega, by rw [show f = i + 1 by omega]; exact h4⟩
theorem clear_none {C : List Int} {f t : Int} (h : t ≤ f) : clearC C f t = C := by
  apply ext_gt (clearC_len _ _ _)
  intro i hi
  rw [clearC_len] at hi
  rw [gt_clear hi, if_neg]
  unfold hit
  simp only [Bool.or_eq_true, decide_eq_true_eq]
  omega
/-- only what lies inside counts -/
theorem clear_clamp {C : List Int} {W H : Int} (h : VC C W) (hW : 2 ≤ W) (hn : (C.length : Int) = W * H) (f t : Int) : clearC C f t = clearC C (max f 0) (min t C.length) := by
  apply ext_gt (by rw [clearC_len, clearC_len])
  intro i hi
  rw [clearC_len] at hi
  rw [gt_clear hi, gt_clear hi]
  have : hit C f t i = hit C (max f 0) (min t C.length) i := by
    have ho : 0 ≤ other C i ∧ other C i < C.length := by
      by_cases e1 : gt C i = -1
      · rw [other_half e1]
        have := prev_in (vc_half h hi e1).1
        omega
      · rcases vc_some h hi e1 with e2 | e2
        · rw [other_one e2]; omega
        · rw [other_wide e2]
          have := next_in hW hn hi (vc_wide h hi e2).1
          omega
    unfold hit
    congr 1
    · rw [decide_eq_decide]; omega
    · rw [decide_eq_decide]; omega
  rw [this]
end Go.Proofs.YtohjjhoobikioaaDoor
/-! Width of both packages. -/
namespace Go.Proofs.YtohjjhoobikioaaDoor
open Go.RowKit


set_option maxHeartbeats 1000000 in
theorem impl_Width (r : Int) (w : World) : Calls Tryd.prog 107 #[.int .i64 r] w fun e w' => e = .returned (.int .i64 (width r)) ∧ Ext w w' := by
  cases h1 : printable r
  · go_enter Tryd.func107, Tryd.ntmps107
    go_wp2_with (go_at_call 130; refine (impl_Printable _ _).mono ?_; rintro e w' ⟨rfl, rfl⟩)
    go_ret
    exact ⟨ret_i (by simp [width, h1]), Ext.refl _⟩
  · go_enter Tryd.func107, Tryd.ntmps107
    go_wp2_with (go_at_call 130; refine (impl_Printable _ _).mono ?_; rintro e w' ⟨rfl, rfl⟩)
    refine wp_loop_rounds 9 ?_
    repeat any_goals (rw [rounds_succ]; go_wp2_with (go_at_call 97; refine (impl_in _ _ _ _).mono ?_; rintro e w' ⟨rfl, rfl⟩))
    all_goals
      go_ret
      exact ⟨ret_i (by simp [width, wide, *]), by unfold Ext; go_grown⟩

theorem spec_l02Wide (w : World) : Calls Tryd.prog 118 #[] w fun e w' => e = .returned (.slice (some ⟨w.heap.size, 0, none⟩) 16 16) ∧
    w' = w.alloc (.cells #[.int .i64 4352, .int .i64 4447, .int .i64 11904, .int .i64 42191, .int .i64 44032, .int .i64 55203, .int .i64 63744, .int .i64 64255, .int .i64 65280, .int .i64 65376, .int .i64 65504, .int .i64 65510, .int .i64 127744, .int .i64 129791, .int .i64 131072, .int .i64 262141] 3) := by
  go_enter Tryd.func118, Tryd.ntmps118
  go_wp2
  go_ret
  exact ⟨rfl, rfl⟩

set_option maxHeartbeats 1000000 in
theorem spec_Width (r : Int) (w : World) : Calls Tryd.prog 78 #[.int .i64 r] w fun e w' => e = .returned (.int .i64 (width r)) ∧ Ext w w' := by
  cases h1 : printable r
  · go_enter Tryd.func78, Tryd.ntmps78
    go_wp2_with (go_at_call 117; refine (spec_Printable _ _).mono ?_; rintro e w' ⟨rfl, rfl⟩)
    go_ret
    exact ⟨ret_i (by simp [width, h1]), Ext.refl _⟩
  · go_enter Tryd.func78, Tryd.ntmps78
    go_wp2_with (first | (go_at_call 117; refine (spec_Printable _ _).mono ?_; rintro e w' ⟨rfl, rfl⟩) | (go_at_call 118; refine (spec_l02Wide _).mono ?_; rintro e w' ⟨rfl, rfl⟩))
    refine wp_loop_rounds 9 ?_
    repeat any_goals (rw [rounds_succ]; go_wp2_with fail)
    all_goals
      go_ret
      exact ⟨ret_i (by simp [width, wide, inB, *] <;> omega), by unfold Ext; go_grown⟩
end Go.Proofs.YtohjjhoobikioaaDoor
/-! cellOk and GridOk of both packages. -/
namespace Go.Proofs.YtohjjhoobikioaaDoor
open Go.RowKit

theorem Ext.look {w w' : World} (h : Ext w w') : (∀ b o, b < w.heap.size → w'.cell? ⟨b, o, none⟩ = w.cell? ⟨b, o, none⟩) ∧ (∀ b o, b < w.heap.size → w'.frozen? ⟨b, o, none⟩ = w.frozen? ⟨b, o, none⟩) ∧ w.heap.size ≤ w'.heap.size :=
  ⟨fun b o hb => Below.cell h (p := ⟨b, o, none⟩) hb, fun b o hb => Below.frozen h (p := ⟨b, o, none⟩) hb, Below.size h⟩
theorem RI.lt {w : World} {b o n c : Nat} {l : List Int} (h : RI w (some ⟨b, o, none⟩) n c l) (hn : 0 < n) : b < w.heap.size := by
  obtain ⟨b', o', e, hc⟩ := h.at_ hn
  injection e with e; injection e with e1 e2; subst e1
  exact World.block_lt_of_cell? w ⟨b, o' + 0, none⟩ (hc 0 hn)

set_option maxRecDepth 100000 in
set_option maxHeartbeats 1000000 in
theorem impl_cellOk (W H X Y : Int) (R : Bool) (C : List Int) (A : Option Addr) (n c i : Nat) (w : World) (hC : RI w A n c C) (hW : 2 ≤ W) (hW2 : W ≤ 200) (hn : (n : Int) = W * H) (hi : i < n) (hn2 : n ≤ 40000) :
    Calls Tryd.prog 112 #[.agg #[.int .i64 W, .int .i64 H, .slice A n c, .int .i64 X, .int .i64 Y, .bool R], .int .i64 i] w fun e w' => e = .returned (.bool (cellB C W i)) ∧ Ext w w' := by
  have hm0 := Int.emod_nonneg (i : Int) (show W ≠ 0 by omega)
  have hm1 := Int.emod_lt_of_pos (i : Int) (show 0 < W by omega)
  obtain ⟨b, o, rfl, hcells⟩ := hC.at_ (by omega)
  have hci := hcells i hi
  have hb := World.block_lt_of_cell? w _ hci
  have Hn := Lib.hid hn; clear hn
  by_cases h1 : C[i]?.getD 0 = -1
  · have h1b : (C[i]?.getD 0 == -1) = true := by simp [h1]
    by_cases h2 : 0 < (i : Int) % W
    · have hi0 := prev_in h2
      have hcp := hcells (i - 1) (by omega)
      have E : cellB C W i = (width (C[i - 1]?.getD 0) == 2) := by
        unfold cellB; rw [if_pos h1]; simp [h2]; rw [Bool.eq_iff_iff]; simp
      have HE := Lib.hid E; clear E hcells
      rw [HE.out]
      clear h1
      go_enter Tryd.func112, Tryd.ntmps112
      go_wp2_with fail
      go_quiet (fail)
      go_wp2_with fail
      refine (impl_Width _ _).mono ?_; rintro e w1 ⟨rfl, x1⟩
      go_wp2_with fail
      go_ret
      exact ⟨rfl, (((Ext.refl w).alloc _).drewN _).trans x1⟩
    · have E : cellB C W i = false := by unfold cellB; rw [if_pos h1]; simp [h2]
      have HE := Lib.hid E; clear E hcells
      rw [HE.out]
      clear h1
      go_enter Tryd.func112, Tryd.ntmps112
      go_wp2_with fail
      go_quiet (fail)
      go_wp2_with fail
      go_ret
      exact ⟨rfl, ((Ext.refl w).alloc _).drewN _⟩
  · have h1b : (C[i]?.getD 0 == -1) = false := by simp [h1]
    by_cases h3 : width (C[i]?.getD 0) = 2
    · have h3b : (width (C[i]?.getD 0) == 2) = true := by simp [h3]
      by_cases h4 : (i : Int) % W + 1 < W
      · have hi1 := next_in hW Hn.out hi h4
        have hcn := hcells (i + 1) hi1
        have E : cellB C W i = (C[i + 1]?.getD 0 == -1) := by
          unfold cellB; rw [if_neg h1, if_pos h3]; simp [h4]; rw [Bool.eq_iff_iff]; simp
        have HE := Lib.hid E; clear E hcells
        rw [HE.out]
        clear h1 h3
        go_enter Tryd.func112, Tryd.ntmps112
        go_wp2_with fail
        go_quiet (fail)
        go_wp2_with fail
        refine (impl_Width _ _).mono ?_; rintro e w1 ⟨rfl, x1⟩
        have X1 := (((Ext.refl w).alloc _).drewN _).trans x1
        obtain ⟨lc, lf, ls⟩ := x1.look
        go_wp2_with fail
        go_ret
        exact ⟨rfl, X1⟩
      · have E : cellB C W i = false := by unfold cellB; rw [if_neg h1, if_pos h3]; simp [h4]
        have HE := Lib.hid E; clear E hcells
        rw [HE.out]
        clear h1 h3
        go_enter Tryd.func112, Tryd.ntmps112
        go_wp2_with fail
        go_quiet (fail)
        go_wp2_with fail
        refine (impl_Width _ _).mono ?_; rintro e w1 ⟨rfl, x1⟩
        obtain ⟨lc, lf, ls⟩ := x1.look
        go_wp2_with fail
        go_ret
        exact ⟨rfl, (((Ext.refl w).alloc _).drewN _).trans x1⟩
    · have h3b : (width (C[i]?.getD 0) == 2) = false := by simp [h3]
      have E : cellB C W i = (width (C[i]?.getD 0) == 1) := by unfold cellB; rw [if_neg h1, if_neg h3]; rw [Bool.eq_iff_iff]; simp
      have HE := Lib.hid E; clear E hcells
      rw [HE.out]
      clear h1 h3
      go_enter Tryd.func112, Tryd.ntmps112
      go_wp2_with fail
      go_quiet (fail)
      go_wp2_with fail
      refine (impl_Width _ _).mono ?_; rintro e w1 ⟨rfl, x1⟩
      go_wp2_with fail
      refine (impl_Width _ _).mono ?_; rintro e w2 ⟨rfl, x2⟩
      go_wp2_with fail
      go_ret
      exact ⟨rfl, ((((Ext.refl w).alloc _).drewN _).trans x1).trans x2⟩

set_option maxRecDepth 100000 in
set_option maxHeartbeats 2000000 in
theorem impl_GridOk (W H X Y : Int) (R : Bool) (C : List Int) (A : Option Addr) (n c : Nat) (w : World) (hC : RI w A n c C) :
    Calls Tryd.prog 71 #[.agg #[.int .i64 W, .int .i64 H, .slice A n c, .int .i64 X, .int .i64 Y, .bool R]] w fun e w' => e = .returned (.bool (gridOk ⟨W, H, C, X, Y, R⟩)) ∧ Ext w w' := by
  have hnm := hC.nmax
  cases h1 : inB W 2 200
  · go_enter Tryd.func71, Tryd.ntmps71
    go_wp2_with (go_at_call 97; refine (impl_in _ _ _ _).mono ?_; rintro e w' ⟨rfl, rfl⟩)
    go_ret
    exact ⟨ret_b (gridOk_dims hC.len (by have := inB_not.1 h1; unfold dimsP; omega)).symm, by first | exact (Ext.refl _).alloc _ | exact ((Ext.refl _).alloc _).drewN _⟩
  cases h2 : inB H 1 200
  · go_enter Tryd.func71, Tryd.ntmps71
    go_wp2_with (go_at_call 97; refine (impl_in _ _ _ _).mono ?_; rintro e w' ⟨rfl, rfl⟩)
    go_ret
    exact ⟨ret_b (gridOk_dims hC.len (by have := inB_not.1 h2; unfold dimsP; omega)).symm, by first | exact (Ext.refl _).alloc _ | exact ((Ext.refl _).alloc _).drewN _⟩
  obtain ⟨a1, a2⟩ := inB_iff.1 h1
  obtain ⟨a3, a4⟩ := inB_iff.1 h2
  obtain ⟨p1, p2⟩ := prod_bounds a1 a2 a3 a4
  by_cases h3 : 8000 < W * H
  · go_enter Tryd.func71, Tryd.ntmps71
    go_wp2_with (go_at_call 97; refine (impl_in _ _ _ _).mono ?_; rintro e w' ⟨rfl, rfl⟩)
    go_ret
    exact ⟨ret_b (gridOk_dims hC.len (by unfold dimsP; omega)).symm, by first | exact (Ext.refl _).alloc _ | exact ((Ext.refl _).alloc _).drewN _⟩
  by_cases h4 : (n : Int) = W * H
  case neg =>
    have h4b : ((n : Int) != W * H) = true := by simp; omega
    go_enter Tryd.func71, Tryd.ntmps71
    go_wp2_with (go_at_call 97; refine (impl_in _ _ _ _).mono ?_; rintro e w' ⟨rfl, rfl⟩)
    go_ret
    exact ⟨ret_b (gridOk_dims hC.len (by unfold dimsP; omega)).symm, by first | exact (Ext.refl _).alloc _ | exact ((Ext.refl _).alloc _).drewN _⟩
  have h4b : ((n : Int) != W * H) = false := by simp; omega
  have H4 := Lib.hid h4; clear h4
  cases h5 : inB X 0 (W - 1)
  · go_enter Tryd.func71, Tryd.ntmps71
    go_wp2_with (go_at_call 97; refine (impl_in _ _ _ _).mono ?_; rintro e w' ⟨rfl, rfl⟩)
    go_ret
    exact ⟨ret_b (gridOk_cur (by have := inB_not.1 h5; unfold curP; omega)).symm, by first | exact (Ext.refl _).alloc _ | exact ((Ext.refl _).alloc _).drewN _⟩
  cases h6 : inB Y 0 (H - 1)
  · go_enter Tryd.func71, Tryd.ntmps71
    go_wp2_with (go_at_call 97; refine (impl_in _ _ _ _).mono ?_; rintro e w' ⟨rfl, rfl⟩)
    go_ret
    exact ⟨ret_b (gridOk_cur (by have := inB_not.1 h6; unfold curP; omega)).symm, by first | exact (Ext.refl _).alloc _ | exact ((Ext.refl _).alloc _).drewN _⟩
  obtain ⟨a5, a6⟩ := inB_iff.1 h5
  obtain ⟨a7, a8⟩ := inB_iff.1 h6
  by_cases h7 : R = true ∧ ¬ X = W - 1
  · obtain ⟨rfl, h7⟩ := h7
    have h7b : (X != W - 1) = true := by simp [h7]
    go_enter Tryd.func71, Tryd.ntmps71
    go_wp2_with (go_at_call 97; refine (impl_in _ _ _ _).mono ?_; rintro e w' ⟨rfl, rfl⟩)
    go_ret
    exact ⟨ret_b (gridOk_cur (by unfold curP; simp; omega)).symm, by first | exact (Ext.refl _).alloc _ | exact ((Ext.refl _).alloc _).drewN _⟩
  have hcur : curP W H X Y R := ⟨by omega, by omega, by omega, by omega, fun hr => by
    rcases Decidable.em (X = W - 1) with h | h
    · exact h
    · exact absurd ⟨hr, h⟩ h7⟩
  have hR : (R = true ∧ (X != W - 1) = false) ∨ R = false := by
    cases R
    · exact .inr rfl
    · exact .inl ⟨rfl, by simp [hcur.2.2.2.2 rfl]⟩
  have Hc := Lib.hid hcur; clear hcur h7
  have Hd : Hid (dimsP W H n) := ⟨a1, a2, a3, a4, by omega, H4.out⟩
  have KEY : ∀ R' : Bool, R' = R → ((R' = true ∧ (X != W - 1) = false) ∨ R' = false) → Calls Tryd.prog 71 #[.agg #[.int .i64 W, .int .i64 H, .slice A n c, .int .i64 X, .int .i64 Y, .bool R']] w fun e w' => e = .returned (.bool (gridOk ⟨W, H, C, X, Y, R⟩)) ∧ Ext w w' := by
    intro R' hR' hR2
    have HR := Lib.hid hR'; clear hR'
    have main : ∀ Q : Bool, (Q = true → (X != W - 1) = false) → Q = R' → Calls Tryd.prog 71 #[.agg #[.int .i64 W, .int .i64 H, .slice A n c, .int .i64 X, .int .i64 Y, .bool Q]] w fun e w' => e = .returned (.bool (gridOk ⟨W, H, C, X, Y, R⟩)) ∧ Ext w w' := by
      intro Q hQ hQR
      have HQ := Lib.hid hQR; clear hQR
      cases Q
      all_goals
        try have hQ := hQ rfl
        go_enter Tryd.func71, Tryd.ntmps71
        go_wp2_with (go_at_call 97; refine (impl_in _ _ _ _).mono ?_; rintro e w' ⟨rfl, rfl⟩)
        go_loopw [64] (fun vi wr => ∃ k : Nat, k ≤ n ∧ vi = .int .i64 k ∧ Hid (∀ i, i < k → cellB C W i = true) ∧ Ext (w.alloc (.cells _ 40)) wr) (fun vi _ => n - (intOf vi).toNat)
        case atStart => exact ⟨0, by omega, rfl, fun i hi => absurd hi (by omega), Ext.refl _⟩
        case round =>
          obtain ⟨k, hk, rfl, hp, hx⟩ := hrel
          obtain ⟨lc, lf, ls⟩ := hx.look
          by_cases hlt : k < n
          · cases hcb : cellB C W k
            · go_wp2_with fail
              refine (impl_cellOk W H X Y _ C A n c k _ (hC.ext (((Ext.refl w).alloc _).trans hx)) a1 a2 H4.out hlt (by have := H4.out; omega)).mono ?_; rintro e w1 ⟨rfl, x1⟩
              go_wp2_with fail
              go_ret
              exact ⟨ret_b (gridOk_cell (i := k) (by rw [hC.len]; exact hlt) hcb).symm, (((Ext.refl w).alloc _).trans hx).trans x1⟩
            · go_wp2_with fail
              refine (impl_cellOk W H X Y _ C A n c k _ (hC.ext (((Ext.refl w).alloc _).trans hx)) a1 a2 H4.out hlt (by have := H4.out; omega)).mono ?_; rintro e w1 ⟨rfl, x1⟩
              go_wp2_with fail
              go_roundw
              case rel =>
                refine ⟨k + 1, by omega, by go_num, fun i hi => ?_, hx.trans x1⟩
                rcases Nat.lt_or_ge i k with h | h
                · exact hp.out i h
                · obtain rfl : i = k := by omega
                  exact hcb
              case measure => simp [intOf]; omega
          · go_wp2_with fail
            go_ret
            obtain rfl : k = n := by omega
            exact ⟨ret_b (gridOk_yes (by rw [hC.len]; exact Hd.out) Hc.out (fun i hi => hp.out i (by rw [hC.len] at hi; exact hi))).symm, ((Ext.refl w).alloc _).trans hx⟩
    exact main R' (fun h => by rcases hR2 with h2 | h2; exact h2.2; rw [h2] at h; cases h) rfl
  exact KEY R rfl hR
end Go.Proofs.YtohjjhoobikioaaDoor
/-! GridOk of the reference. -/
namespace Go.Proofs.YtohjjhoobikioaaDoor
open Go.RowKit

set_option maxRecDepth 100000 in
set_option maxHeartbeats 2000000 in
theorem spec_GridOk (W H X Y : Int) (R : Bool) (C : List Int) (A : Option Addr) (n c : Nat) (w : World) (hC : RI w A n c C) :
    Calls Tryd.prog 86 #[.agg #[.int .i64 W, .int .i64 H, .slice A n c, .int .i64 X, .int .i64 Y, .bool R]] w fun e w' => e = .returned (.bool (gridOk ⟨W, H, C, X, Y, R⟩)) ∧ Ext w w' := by
  have hnm := hC.nmax
  by_cases h1 : W < 2
  case pos =>
    go_enter Tryd.func86, Tryd.ntmps86
    go_wp2_with fail
    go_ret
    exact ⟨ret_b (gridOk_dims hC.len (by unfold dimsP; omega)).symm, by first | exact (Ext.refl _).alloc _ | exact ((Ext.refl _).alloc _).drewN _⟩
  by_cases h2 : 200 < W
  case pos =>
    go_enter Tryd.func86, Tryd.ntmps86
    go_wp2_with fail
    go_ret
    exact ⟨ret_b (gridOk_dims hC.len (by unfold dimsP; omega)).symm, by first | exact (Ext.refl _).alloc _ | exact ((Ext.refl _).alloc _).drewN _⟩
  by_cases h3 : H < 1
  case pos =>
    go_enter Tryd.func86, Tryd.ntmps86
    go_wp2_with fail
    go_ret
    exact ⟨ret_b (gridOk_dims hC.len (by unfold dimsP; omega)).symm, by first | exact (Ext.refl _).alloc _ | exact ((Ext.refl _).alloc _).drewN _⟩
  by_cases h3b : 200 < H
  case pos =>
    go_enter Tryd.func86, Tryd.ntmps86
    go_wp2_with fail
    go_ret
    exact ⟨ret_b (gridOk_dims hC.len (by unfold dimsP; omega)).symm, by first | exact (Ext.refl _).alloc _ | exact ((Ext.refl _).alloc _).drewN _⟩
  obtain ⟨p1, p2⟩ := prod_bounds (W := W) (H := H) (by omega) (by omega) (by omega) (by omega)
  by_cases h5 : 8000 < W * H
  case pos =>
    go_enter Tryd.func86, Tryd.ntmps86
    go_wp2_with fail
    go_ret
    exact ⟨ret_b (gridOk_dims hC.len (by unfold dimsP; omega)).symm, by first | exact (Ext.refl _).alloc _ | exact ((Ext.refl _).alloc _).drewN _⟩
  by_cases h4 : (n : Int) = W * H
  case neg =>
    have h4b : ((n : Int) != W * H) = true := by simp; omega
    go_enter Tryd.func86, Tryd.ntmps86
    go_wp2_with fail
    go_ret
    exact ⟨ret_b (gridOk_dims hC.len (by unfold dimsP; omega)).symm, by first | exact (Ext.refl _).alloc _ | exact ((Ext.refl _).alloc _).drewN _⟩
  have h4b : ((n : Int) != W * H) = false := by simp; omega
  have H4 := Lib.hid h4; clear h4
  have Hd : Hid (dimsP W H n) := ⟨by omega, by omega, by omega, by omega, by omega, H4.out⟩
  have hm0 : ∀ k : Nat, 0 ≤ (k : Int) % W ∧ (k : Int) % W < W := fun k => ⟨Int.emod_nonneg (k : Int) (show W ≠ 0 by omega), Int.emod_lt_of_pos (k : Int) (show 0 < W by omega)⟩
  have Hm0 := Lib.hid hm0; clear hm0
  go_enter Tryd.func86, Tryd.ntmps86
  go_wp2_with fail
  go_loopw [47] (fun vi wr => ∃ k : Nat, k ≤ n ∧ vi = .int .i64 k ∧ Hid (∀ i, i < k → cellB C W i = true) ∧ Ext (w.alloc (.cells _ 40)) wr) (fun vi _ => n - (intOf vi).toNat)
  case atStart => exact ⟨0, by omega, rfl, fun i hi => absurd hi (by omega), Ext.refl _⟩
  case round =>
    obtain ⟨k, hk, rfl, hp, hx⟩ := hrel
    obtain ⟨lc, lf, ls⟩ := hx.look
    have hX := ((Ext.refl w).alloc _).trans hx
    by_cases hlt : k < n
    · obtain ⟨m0, m1⟩ := Hm0.out k
      obtain ⟨b, o, rfl, hcells⟩ := (hC.ext hX).at_ (by omega)
      have Hcells := Lib.hid hcells
      have hck := hcells k hlt
      have hb := World.block_lt_of_cell? wr _ hck
      clear hcells
      by_cases h1 : C[k]?.getD 0 = -1
      · have h1b : (C[k]?.getD 0 == -1) = true := by simp [h1]
        by_cases h2 : 0 < (k : Int) % W
        · have hk0 := prev_in h2
          have hcp := Hcells.out (k - 1) (by omega)
          have E : cellB C W k = (width (C[k - 1]?.getD 0) == 2) := by
            unfold cellB; rw [if_pos h1]; simp [h2]; rw [Bool.eq_iff_iff]; simp
          have HE := Lib.hid E; clear E h1
          by_cases h3 : width (C[k - 1]?.getD 0) = 2
          · have h3b : (width (C[k - 1]?.getD 0) != 2) = false := by simp [h3]
            have h3c : cellB C W k = true := by rw [HE.out]; simp [h3]
            have H3c := Lib.hid h3c; clear h3c h3
            go_wp2_with fail
            go_quiet (fail)
            go_wp2_with fail
            refine (spec_Width _ _).mono ?_; rintro e w1 ⟨rfl, x1⟩
            go_wp2_with fail
            go_roundw
            case rel =>
              refine ⟨k + 1, by omega, by go_num, fun i hi => ?_, hx.trans (((Ext.refl wr).drewN _).trans x1)⟩
              rcases Nat.lt_or_ge i k with h | h
              · exact hp.out i h
              · obtain rfl : i = k := by omega
                exact H3c.out
            case measure => simp [intOf]; omega
          · have h3b : (width (C[k - 1]?.getD 0) != 2) = true := by simp [h3]
            have h3c : cellB C W k = false := by rw [HE.out]; simp [h3]
            have H3c := Lib.hid h3c; clear h3c h3
            go_wp2_with fail
            go_quiet (fail)
            go_wp2_with fail
            refine (spec_Width _ _).mono ?_; rintro e w1 ⟨rfl, x1⟩
            go_wp2_with fail
            go_ret
            exact ⟨ret_b (gridOk_cell (i := k) (by rw [hC.len]; exact hlt) (H3c.out)).symm, hX.trans (((Ext.refl wr).drewN _).trans x1)⟩
        · have h2b : ((k : Int) % W == 0) = true := by simp; omega
          have E : cellB C W k = false := by unfold cellB; rw [if_pos h1]; simp [h2]
          have HE := Lib.hid E; clear E h1
          go_wp2_with fail
          go_quiet (fail)
          go_wp2_with fail
          go_ret
          exact ⟨ret_b (gridOk_cell (i := k) (by rw [hC.len]; exact hlt) (HE.out)).symm, hX.trans ((Ext.refl wr).drewN _)⟩
      · have h1b : (C[k]?.getD 0 == -1) = false := by simp [h1]
        rcases Int.lt_trichotomy (width (C[k]?.getD 0)) 1 with h3 | h3 | h3
        · have h3' : width (C[k]?.getD 0) = 0 := by have := (width_bounds (C[k]?.getD 0)).1; omega
          have h3b : (width (C[k]?.getD 0) == 0) = true := by simp [h3']
          have E : cellB C W k = false := by unfold cellB; rw [if_neg h1, if_neg (by omega)]; simp; omega
          have HE := Lib.hid E; clear E h1 h3 h3'
          go_wp2_with fail
          go_quiet (fail)
          go_wp2_with fail
          refine (spec_Width _ _).mono ?_; rintro e w1 ⟨rfl, x1⟩
          go_wp2_with fail
          go_ret
          exact ⟨ret_b (gridOk_cell (i := k) (by rw [hC.len]; exact hlt) (HE.out)).symm, hX.trans (((Ext.refl wr).drewN _).trans x1)⟩
        · have h3b : (width (C[k]?.getD 0) == 0) = false := by simp [h3]
          have h3c : (width (C[k]?.getD 0) == 2) = false := by simp [h3]
          have E : cellB C W k = true := by unfold cellB; rw [if_neg h1, if_neg (by omega)]; simp [h3]
          have HE := Lib.hid E; clear E h1 h3
          go_wp2_with fail
          go_quiet (fail)
          go_wp2_with fail
          refine (spec_Width _ _).mono ?_; rintro e w1 ⟨rfl, x1⟩
          go_wp2_with fail
          go_roundw
          case rel =>
            refine ⟨k + 1, by omega, by go_num, fun i hi => ?_, hx.trans (((Ext.refl wr).drewN _).trans x1)⟩
            rcases Nat.lt_or_ge i k with h | h
            · exact hp.out i h
            · obtain rfl : i = k := by omega
              exact HE.out
          case measure => simp [intOf]; omega
        · have h3' : width (C[k]?.getD 0) = 2 := by have := (width_bounds (C[k]?.getD 0)).2; omega
          have h3b : (width (C[k]?.getD 0) == 0) = false := by simp [h3']
          have h3c : (width (C[k]?.getD 0) == 2) = true := by simp [h3']
          by_cases h4 : (k : Int) % W + 1 < W
          · have h4b : ((k : Int) % W == W - 1) = false := by simp; omega
            have hk1 := next_in (by omega) H4.out hlt h4
            have hcn := Hcells.out (k + 1) hk1
            have E : cellB C W k = (C[k + 1]?.getD 0 == -1) := by
              unfold cellB; rw [if_neg h1, if_pos h3']; simp [h4]; rw [Bool.eq_iff_iff]; simp
            have HE := Lib.hid E; clear E h1 h3 h3'
            by_cases h5 : C[k + 1]?.getD 0 = -1
            · have h5b : (C[k + 1]?.getD 0 != -1) = false := by simp [h5]
              have H5 : Hid (cellB C W k = true) := by show cellB C W k = true; rw [HE.out]; simp [h5]
              clear h5
              go_wp2_with fail
              go_quiet (fail)
              go_wp2_with fail
              refine (spec_Width _ _).mono ?_; rintro e w1 ⟨rfl, x1⟩
              obtain ⟨lc1, _, _⟩ := (hx.trans (((Ext.refl wr).drewN _).trans x1)).look
              have hcn1 := (((Ext.refl wr).drewN _).trans x1).cell hcn
              go_wp2_with fail
              go_roundw
              case rel =>
                refine ⟨k + 1, by omega, by go_num, fun i hi => ?_, hx.trans (((Ext.refl wr).drewN _).trans x1)⟩
                rcases Nat.lt_or_ge i k with h | h
                · exact hp.out i h
                · obtain rfl : i = k := by omega
                  exact H5.out
              case measure => simp [intOf]; omega
            · have h5b : (C[k + 1]?.getD 0 != -1) = true := by simp [h5]
              have H5 : Hid (cellB C W k = false) := by show cellB C W k = false; rw [HE.out]; simp [h5]
              clear h5
              go_wp2_with fail
              go_quiet (fail)
              go_wp2_with fail
              refine (spec_Width _ _).mono ?_; rintro e w1 ⟨rfl, x1⟩
              obtain ⟨lc1, _, _⟩ := (hx.trans (((Ext.refl wr).drewN _).trans x1)).look
              have hcn1 := (((Ext.refl wr).drewN _).trans x1).cell hcn
              go_wp2_with fail
              go_ret
              exact ⟨ret_b (gridOk_cell (i := k) (by rw [hC.len]; exact hlt) (H5.out)).symm, hX.trans (((Ext.refl wr).drewN _).trans x1)⟩
          · have h4b : ((k : Int) % W == W - 1) = true := by simp; omega
            have E : cellB C W k = false := by unfold cellB; rw [if_neg h1, if_pos h3']; simp [h4]
            have HE := Lib.hid E; clear E h1 h3 h3'
            go_wp2_with fail
            go_quiet (fail)
            go_wp2_with fail
            refine (spec_Width _ _).mono ?_; rintro e w1 ⟨rfl, x1⟩
            go_wp2_with fail
            go_ret
            exact ⟨ret_b (gridOk_cell (i := k) (by rw [hC.len]; exact hlt) (HE.out)).symm, hX.trans (((Ext.refl wr).drewN _).trans x1)⟩
    · obtain rfl : k = n := by omega
      by_cases c1 : 0 ≤ X
      case neg =>
        go_wp2_with fail
        try go_quiet (fail)
        try go_wp2_with fail
        go_ret
        exact ⟨ret_b (gridOk_cur (by unfold curP; omega)).symm, by first | exact hX | exact hX.drewN _⟩
      by_cases c2 : X < W
      case neg =>
        go_wp2_with fail
        try go_quiet (fail)
        try go_wp2_with fail
        go_ret
        exact ⟨ret_b (gridOk_cur (by unfold curP; omega)).symm, by first | exact hX | exact hX.drewN _⟩
      by_cases c3 : 0 ≤ Y
      case neg =>
        go_wp2_with fail
        try go_quiet (fail)
        try go_wp2_with fail
        go_ret
        exact ⟨ret_b (gridOk_cur (by unfold curP; omega)).symm, by first | exact hX | exact hX.drewN _⟩
      by_cases c4 : Y < H
      case neg =>
        go_wp2_with fail
        try go_quiet (fail)
        try go_wp2_with fail
        go_ret
        exact ⟨ret_b (gridOk_cur (by unfold curP; omega)).symm, by first | exact hX | exact hX.drewN _⟩
      have hall : Hid (∀ i, i < C.length → cellB C W i = true) := fun i hi => hp.out i (by rw [hC.len] at hi; exact hi)
      have Hd2 : Hid (dimsP W H C.length) := by show dimsP W H C.length; rw [hC.len]; exact Hd.out
      cases R
      · go_wp2_with fail
        try go_quiet (fail)
        try go_wp2_with fail
        go_ret
        exact ⟨ret_b (gridOk_yes Hd2.out ⟨c1, c2, c3, c4, fun h => by cases h⟩ hall.out).symm, by first | exact hX | exact hX.drewN _⟩
      · by_cases c5 : X = W - 1
        · have c5b : (X == W - 1) = true := by simp [c5]
          have C5 := Lib.hid c5; clear c5
          go_wp2_with fail
          try go_quiet (fail)
          try go_wp2_with fail
          go_ret
          exact ⟨ret_b (gridOk_yes Hd2.out ⟨c1, c2, c3, c4, fun _ => C5.out⟩ hall.out).symm, by first | exact hX | exact hX.drewN _⟩
        · have c5b : (X == W - 1) = false := by simp [c5]
          have C5 := Lib.hid c5; clear c5
          go_wp2_with fail
          try go_quiet (fail)
          try go_wp2_with fail
          go_ret
          exact ⟨ret_b (gridOk_cur (fun h => C5.out (h.2.2.2.2 rfl))).symm, by first | exact hX | exact hX.drewN _⟩
end Go.Proofs.YtohjjhoobikioaaDoor
