/-
  Grids, plainly: moving, scrolling, clearing, writing; each leaves a valid grid valid.
-/
import Derived.Test.YtohjjhoobikioaaDoorGPure
namespace Go.Proofs.YtohjjhoobikioaaDoor

abbrev gt (C : List Int) (i : Nat) : Int := C[i]?.getD 0
theorem gt_out {C : List Int} {i : Nat} (h : C.length ≤ i) : gt C i = 0 := by simp [gt, h]
theorem gt_set {C : List Int} {i j : Nat} {x : Int} (hi : i < C.length) : gt (C.set i x) j = if i = j then x else gt C j := by
  unfold gt
  rw [List.getElem?_set]
  split
  · subst_vars; simp
  · rfl
theorem gt_map {n i : Nat} {f : Nat → Int} (h : i < n) : gt ((List.range n).map f) i = f i := by simp [gt, h]
theorem ext_gt {C D : List Int} (hl : C.length = D.length) (h : ∀ i, i < C.length → gt C i = gt D i) : C = D := by
  apply List.ext_getElem hl
  intro i h1 h2
  have := h i h1
  simpa [gt, h1, h2] using this
theorem width_half : width (-1) = 0 := by decide
theorem width_32 : width 32 = 1 := by decide
theorem width_cases (r : Int) : width r = 0 ∨ width r = 1 ∨ width r = 2 := by have := width_bounds r; omega

def VC (C : List Int) (W : Int) : Prop := ∀ i, i < C.length → cellB C W i = true

theorem vc_half {C : List Int} {W : Int} (h : VC C W) {i : Nat} (hi : i < C.length) (e : gt C i = -1) : 0 < (i : Int) % W ∧ width (gt C (i - 1)) = 2 := by
  have := h i hi
  unfold cellB at this
  rw [if_pos e] at this
  simpa using this
theorem vc_wide {C : List Int} {W : Int} (h : VC C W) {i : Nat} (hi : i < C.length) (e : width (gt C i) = 2) : (i : Int) % W + 1 < W ∧ gt C (i + 1) = -1 := by
  have := h i hi
  unfold cellB at this
  rw [if_neg (by intro e2; rw [show C[i]?.getD 0 = gt C i from rfl] at e2; rw [e2, width_half] at e; omega), if_pos e] at this
  simpa using this
theorem vc_some {C : List Int} {W : Int} (h : VC C W) {i : Nat} (hi : i < C.length) (e : gt C i ≠ -1) : width (gt C i) = 1 ∨ width (gt C i) = 2 := by
  have := h i hi
  unfold cellB at this
  rw [if_neg e] at this
  by_cases h2 : width (gt C i) = 2
  · exact .inr h2
  · rw [if_neg h2] at this
    exact .inl (by simpa using this)
theorem cellB_intro {C : List Int} {W : Int} {i : Nat} (h1 : gt C i = -1 → 0 < (i : Int) % W ∧ width (gt C (i - 1)) = 2)
    (h2 : gt C i ≠ -1 → width (gt C i) = 1 ∨ (width (gt C i) = 2 ∧ (i : Int) % W + 1 < W ∧ gt C (i + 1) = -1)) : cellB C W i = true := by
  unfold cellB
  by_cases e : gt C i = -1
  · rw [if_pos e]; simpa using h1 e
  · rw [if_neg e]
    rcases h2 e with h | ⟨h, h3⟩
    · rw [if_neg (by rw [show C[i]?.getD 0 = gt C i from rfl, h]; omega)]; simpa using h
    · rw [if_pos h]; simpa using h3

/-! ### clearing -/
def other (C : List Int) (i : Nat) : Int := if width (gt C i) = 2 then (i : Int) + 1 else if gt C i = -1 then (i : Int) - 1 else i
def hit (C : List Int) (f t : Int) (i : Nat) : Bool := decide (f ≤ (i : Int) ∧ (i : Int) < t) || decide (f ≤ other C i ∧ other C i < t)
def clearC (C : List Int) (f t : Int) : List Int := (List.range C.length).map fun i => if hit C f t i then 32 else gt C i
theorem clearC_len (C : List Int) (f t : Int) : (clearC C f t).length = C.length := by simp [clearC]
theorem gt_clear {C : List Int} {f t : Int} {i : Nat} (h : i < C.length) : gt (clearC C f t) i = if hit C f t i then 32 else gt C i := gt_map h
theorem other_half {C : List Int} {i : Nat} (e : gt C i = -1) : other C i = (i : Int) - 1 := by
  unfold other; rw [if_neg (by rw [e, width_half]; omega), if_pos e]
theorem other_wide {C : List Int} {i : Nat} (e : width (gt C i) = 2) : other C i = (i : Int) + 1 := by unfold other; rw [if_pos e]
theorem other_one {C : List Int} {i : Nat} (e : width (gt C i) = 1) : other C i = i := by
  unfold other; rw [if_neg (by omega), if_neg (by intro e2; rw [e2, width_half] at e; omega)]
theorem hit_pair {C : List Int} {W f t : Int} (h : VC C W) {i : Nat} (hi : i < C.length) (e : width (gt C i) = 2) : hit C f t (i + 1) = hit C f t i := by
  have h2 := (vc_wide h hi e).2
  unfold hit
  rw [other_wide e, other_half h2, Bool.or_comm]
  simp
theorem clear_vc {C : List Int} {W : Int} {H : Int} (h : VC C W) (f t : Int) (hW : 2 ≤ W) (hn : (C.length : Int) = W * H) : VC (clearC C f t) W := by
  intro i hi
  rw [clearC_len] at hi
  apply cellB_intro
  · intro e
    rw [gt_clear hi] at e
    by_cases hh : hit C f t i = true
    · rw [if_pos hh] at e; omega
    · rw [if_neg hh] at e
      obtain ⟨h1, h2⟩ := vc_half h hi e
      have hp := prev_in h1
      refine ⟨h1, ?_⟩
      rw [gt_clear (by omega)]
      have := hit_pair (f := f) (t := t) h (i := i - 1) (by omega) h2
      rw [show i - 1 + 1 = i by omega] at this
      rw [if_neg (by rw [← this]; exact hh)]
      exact h2
  · intro e
    rw [gt_clear hi] at e ⊢
    by_cases hh : hit C f t i = true
    · rw [if_pos hh]; exact .inl width_32
    · rw [if_neg hh] at e ⊢
      rcases vc_some h hi e with h1 | h1
      · exact .inl h1
      · obtain ⟨h2, h3⟩ := vc_wide h hi h1
        refine .inr ⟨h1, h2, ?_⟩
        have hnx := next_in hW hn hi h2
        rw [gt_clear hnx, hit_pair h hi h1, if_neg hh]
        exact h3

/-! ### scrolling -/
def scrollC (C : List Int) (W : Nat) : List Int := C.drop W ++ List.replicate W 32
theorem scrollC_len {C : List Int} {W : Nat} (h : W ≤ C.length) : (scrollC C W).length = C.length := by simp [scrollC]; omega
theorem gt_scroll {C : List Int} {W i : Nat} (h : W ≤ C.length) (hi : i < C.length) : gt (scrollC C W) i = if i + W < C.length then gt C (i + W) else 32 := by
  unfold gt scrollC
  rw [List.getElem?_append, List.length_drop]
  split
  · rename_i h1
    rw [if_pos (by omega), List.getElem?_drop, Nat.add_comm]
  · rename_i h1
    rw [if_neg (by omega)]
    simp [show i - (C.length - W) < W by omega]
theorem scroll_vc {C : List Int} {W : Nat} {H : Int} (h : VC C W) (hW : 2 ≤ W) (hn : (C.length : Int) = (W : Int) * H) (hle : W ≤ C.length) : VC (scrollC C W) W := by
  intro i hi
  rw [scrollC_len hle] at hi
  have em : ((i + W : Nat) : Int) % (W : Int) = (i : Int) % (W : Int) := by rw [Int.natCast_add, Int.add_emod_right]
  apply cellB_intro
  · intro e
    rw [gt_scroll hle hi] at e
    split at e
    · rename_i h1
      obtain ⟨h2, h3⟩ := vc_half h h1 e
      rw [em] at h2
      have hp := prev_in h2
      refine ⟨h2, ?_⟩
      rw [gt_scroll hle (by omega), if_pos (by omega), show i - 1 + W = i + W - 1 by omega]
      exact h3
    · omega
  · intro e
    rw [gt_scroll hle hi] at e ⊢
    split at e
    · rename_i h1
      rw [if_pos h1]
      rcases vc_some h h1 e with h2 | h2
      · exact .inl h2
      · obtain ⟨h3, h4⟩ := vc_wide h h1 h2
        have hnx := next_in (by omega) hn h1 h3
        rw [em] at h3
        refine .inr ⟨h2, h3, ?_⟩
        rw [gt_scroll hle (by omega), if_pos (by omega), show i + 1 + W = i + W + 1 by omega]
        exact h4
    · rename_i h1
      rw [if_neg h1]; exact .inl width_32

/-! ### writing -/
def putC (C : List Int) (i : Nat) (r : Int) : List Int :=
  if width r = 2 then ((clearC C i ((i : Int) + width r)).set i r).set (i + 1) (-1) else (clearC C i ((i : Int) + width r)).set i r
theorem putC_len (C : List Int) (i : Nat) (r : Int) : (putC C i r).length = C.length := by unfold putC; split <;> simp [clearC_len]
theorem put_vc {C : List Int} {W H : Int} (h : VC C W) (hW : 2 ≤ W) (hn : (C.length : Int) = W * H) {i : Nat} (hi : i < C.length) {r : Int} (hw : width r = 1 ∨ (width r = 2 ∧ (i : Int) % W + 1 < W)) : VC (putC C i r) W := by
  have hne : r ≠ -1 := by intro e; subst e; rw [width_half] at hw; omega
  have hv := clear_vc (W := W) (H := H) h i ((i : Int) + width r) hW hn
  obtain ⟨D, hD⟩ : ∃ D, D = clearC C i ((i : Int) + width r) := ⟨_, rfl⟩
  have hDl : D.length = C.length := by rw [hD, clearC_len]
  have hDi : gt D i = 32 := by
    rw [hD, gt_clear hi, if_pos]
    unfold hit
    simp only [Bool.or_eq_true, decide_eq_true_eq]
    left; omega
  rw [← hD] at hv
  -- the cell ahead is not wide, since the cell at i was no half
  have hprev : ∀ j, j + 1 = i → width (gt D j) ≠ 2 := by
    intro j hj hw2
    have := (vc_wide hv (by omega) hw2).2
    rw [hj, hDi] at this; omega
  rcases hw with hw1 | ⟨hw2, hx⟩
  · have e : putC C i r = D.set i r := by unfold putC; rw [if_neg (by omega), ← hD]
    rw [e]
    intro j hj
    rw [List.length_set] at hj
    apply cellB_intro
    · intro e1
      rw [gt_set (by omega)] at e1
      split at e1
      · exact absurd e1 hne
      · rename_i hij
        obtain ⟨h1, h2⟩ := vc_half hv hj e1
        have hp := prev_in h1
        refine ⟨h1, ?_⟩
        rw [gt_set (by omega), if_neg (by intro e2; subst e2; rw [hDi, width_32] at h2; omega)]
        exact h2
    · intro e1
      rw [gt_set (by omega)] at e1 ⊢
      split at e1
      · rename_i hij; rw [if_pos hij]; exact .inl hw1
      · rename_i hij
        rw [if_neg hij]
        rcases vc_some hv hj e1 with h1 | h1
        · exact .inl h1
        · obtain ⟨h2, h3⟩ := vc_wide hv hj h1
          refine .inr ⟨h1, h2, ?_⟩
          rw [gt_set (by omega), if_neg (by intro e2; exact hprev j e2.symm h1)]
          exact h3
  · have hi1 : i + 1 < C.length := next_in hW hn hi hx
    have e : putC C i r = (D.set i r).set (i + 1) (-1) := by unfold putC; rw [if_pos hw2, ← hD]
    have hDi1 : gt D (i + 1) = 32 := by
      rw [hD, gt_clear hi1, if_pos]
      unfold hit
      simp only [Bool.or_eq_true, decide_eq_true_eq]
      left; omega
    have g : ∀ j, gt ((D.set i r).set (i + 1) (-1)) j = if i + 1 = j then -1 else if i = j then r else gt D j := by
      intro j
      rw [gt_set (by rw [List.length_set]; omega), gt_set (by omega)]
    rw [e]
    intro j hj
    rw [List.length_set, List.length_set] at hj
    apply cellB_intro
    · intro e1
      rw [g] at e1
      by_cases h1 : i + 1 = j
      · subst h1
        refine ⟨?_, ?_⟩
        · have e3 : ((i + 1 : Nat) : Int) % W = (i : Int) % W + 1 := by
            rw [Int.natCast_add, Int.add_emod, show ((1 : Nat) : Int) % W = 1 from Int.emod_eq_of_lt (by omega) (by omega)]
            exact Int.emod_eq_of_lt (by have := Int.emod_nonneg (i : Int) (show W ≠ 0 by omega); omega) hx
          rw [e3]
          have := Int.emod_nonneg (i : Int) (show W ≠ 0 by omega)
          omega
        · rw [g, if_neg (by omega), if_pos (by omega)]; exact hw2
      · rw [if_neg h1] at e1
        by_cases h2 : i = j
        · rw [if_pos h2] at e1; exact absurd e1 hne
        · rw [if_neg h2] at e1
          obtain ⟨h3, h4⟩ := vc_half hv (by omega) e1
          have hp := prev_in h3
          refine ⟨h3, ?_⟩
          have a1 : i + 1 ≠ j - 1 := by intro e2; rw [← e2, hDi1, width_32] at h4; omega
          have a2 : i ≠ j - 1 := by intro e2; omega
          rw [g, if_neg a1, if_neg a2]
          exact h4
    · intro e1
      rw [g] at e1 ⊢
      by_cases h1 : i + 1 = j
      · rw [if_pos h1] at e1; exact absurd rfl e1
      · rw [if_neg h1] at e1 ⊢
        by_cases h2 : i = j
        · subst h2
          rw [if_pos rfl]
          refine .inr ⟨hw2, hx, ?_⟩
          rw [g, if_pos rfl]
        · rw [if_neg h2] at e1 ⊢
          rcases vc_some hv (by omega) e1 with h3 | h3
          · exact .inl h3
          · obtain ⟨h4, h5⟩ := vc_wide hv (by omega) h3
            refine .inr ⟨h3, h4, ?_⟩
            have a1 : i + 1 ≠ j + 1 := by omega
            have a2 : i ≠ j + 1 := by intro e2; exact hprev j e2.symm h3
            rw [g, if_neg a1, if_neg a2]
            exact h5
end Go.Proofs.YtohjjhoobikioaaDoor
