/-
  Grids, plainly: the operations on whole grids; what the program's own erase leaves is what clearing leaves.
-/
import Derived.Test.YtohjjhoobikioaaDoorGOps
namespace Go.Proofs.YtohjjhoobikioaaDoor

def clampI (n hi : Int) : Int := max 0 (min n hi)
def goG (g : Gr) (x y : Int) : Gr := { g with X := clampI x (g.W - 1), Y := clampI y (g.H - 1), R := false }
def scrollG (g : Gr) : Gr := { g with C := scrollC g.C g.W.toNat }
def clearG (g : Gr) (f t : Int) : Gr := { g with C := clearC g.C f t }
def downG (g : Gr) : Gr := if g.Y = g.H - 1 then scrollG { g with X := 0, R := false } else { g with X := 0, Y := g.Y + 1, R := false }
def wrapG (g : Gr) (n : Int) : Gr := if g.R = true ∨ (n = 2 ∧ g.X = g.W - 1) then downG g else g
def stepG (g : Gr) (n : Int) : Gr := if g.W ≤ g.X + n then { g with X := g.W - 1, R := true } else { g with X := g.X + n }
def putG (g : Gr) (r : Int) : Gr :=
  if width r = 0 then g else stepG { wrapG g (width r) with C := putC (wrapG g (width r)).C ((wrapG g (width r)).Y * g.W + (wrapG g (width r)).X).toNat r } (width r)

theorem gridOk_of {g : Gr} (hd : dimsP g.W g.H g.C.length) (hc : curP g.W g.H g.X g.Y g.R) (hv : VC g.C g.W) : gridOk g = true := gridOk_iff.2 ⟨hd, hc, hv⟩
theorem gridOk_vc {g : Gr} (h : gridOk g = true) : VC g.C g.W := (gridOk_iff.1 h).2.2
theorem gridOk_d {g : Gr} (h : gridOk g = true) : dimsP g.W g.H g.C.length := (gridOk_iff.1 h).1
theorem gridOk_c {g : Gr} (h : gridOk g = true) : curP g.W g.H g.X g.Y g.R := (gridOk_iff.1 h).2.1
theorem clampI_in {n hi : Int} (h : 0 ≤ hi) : 0 ≤ clampI n hi ∧ clampI n hi ≤ hi := by unfold clampI; omega
theorem clampI_id {n hi : Int} (h0 : 0 ≤ n) (h : n ≤ hi) : clampI n hi = n := by unfold clampI; omega
theorem goG_ok {g : Gr} (h : gridOk g = true) (x y : Int) : gridOk (goG g x y) = true := by
  have hd := gridOk_d h
  have hd2 := hd
  unfold dimsP at hd2
  have h1 := clampI_in (n := x) (hi := g.W - 1) (by omega)
  have h2 := clampI_in (n := y) (hi := g.H - 1) (by omega)
  exact gridOk_of hd ⟨by show 0 ≤ clampI x (g.W - 1); omega, by show clampI x (g.W - 1) < g.W; omega, by show 0 ≤ clampI y (g.H - 1); omega, by show clampI y (g.H - 1) < g.H; omega, fun e => by cases e⟩ (show VC g.C g.W from gridOk_vc h)
theorem row_le {g : Gr} (h : gridOk g = true) : g.W.toNat ≤ g.C.length := by
  have hd := gridOk_d h
  unfold dimsP at hd
  have : g.W * 1 ≤ g.W * g.H := Int.mul_le_mul_of_nonneg_left (by omega) (by omega)
  omega
theorem scrollG_ok {g : Gr} (h : gridOk g = true) : gridOk (scrollG g) = true := by
  have hd := gridOk_d h
  have hle := row_le h
  have hd2 := hd
  unfold dimsP at hd2
  have hW : ((g.W.toNat : Nat) : Int) = g.W := by omega
  have hv := scroll_vc (C := g.C) (W := g.W.toNat) (H := g.H) (by rw [hW]; exact gridOk_vc h) (by omega) (by rw [hW]; omega) hle
  rw [hW] at hv
  refine gridOk_of ?_ (show curP g.W g.H g.X g.Y g.R from gridOk_c h) hv
  show dimsP g.W g.H (scrollC g.C g.W.toNat).length
  rw [scrollC_len hle]; exact hd
theorem clearG_ok {g : Gr} (h : gridOk g = true) (f t : Int) : gridOk (clearG g f t) = true := by
  have hd := gridOk_d h
  have hd2 := hd
  unfold dimsP at hd2
  refine gridOk_of ?_ (show curP g.W g.H g.X g.Y g.R from gridOk_c h) (clear_vc (H := g.H) (gridOk_vc h) f t (by omega) (by omega))
  show dimsP g.W g.H (clearC g.C f t).length
  rw [clearC_len]; exact hd
theorem downG_ok {g : Gr} (h : gridOk g = true) : gridOk (downG g) = true := by
  have hd := gridOk_d h
  have hc := gridOk_c h
  have hd2 := hd
  unfold dimsP at hd2
  unfold curP at hc
  have h0 : gridOk { g with X := 0, R := false } = true := gridOk_of hd ⟨Int.le_refl _, by show 0 < g.W; omega, hc.2.2.1, hc.2.2.2.1, fun e => by cases e⟩ (show VC g.C g.W from gridOk_vc h)
  unfold downG
  split
  · exact scrollG_ok h0
  · exact gridOk_of hd ⟨Int.le_refl _, by show 0 < g.W; omega, by show 0 ≤ g.Y + 1; omega, by show g.Y + 1 < g.H; omega, fun e => by cases e⟩ (show VC g.C g.W from gridOk_vc h)
theorem downG_dims (g : Gr) : (downG g).W = g.W ∧ (downG g).H = g.H ∧ (downG g).X = 0 ∧ (downG g).R = false := by unfold downG; split <;> simp [scrollG]
theorem wrapG_ok {g : Gr} (h : gridOk g = true) (n : Int) : gridOk (wrapG g n) = true := by unfold wrapG; split; exact downG_ok h; exact h
theorem wrapG_dims (g : Gr) (n : Int) : (wrapG g n).W = g.W ∧ (wrapG g n).H = g.H := by
  unfold wrapG; split
  · exact ⟨(downG_dims g).1, (downG_dims g).2.1⟩
  · exact ⟨rfl, rfl⟩
/-- where a rune is written: inside, and with room for it -/
theorem wrapG_cur {g : Gr} (h : gridOk g = true) {n : Int} (hn : n = 1 ∨ n = 2) : (wrapG g n).R = false ∧ 0 ≤ (wrapG g n).X ∧ (wrapG g n).X + n ≤ g.W ∧ 0 ≤ (wrapG g n).Y ∧ (wrapG g n).Y < g.H := by
  have hd := gridOk_d h
  have hc := gridOk_c h
  have h2 := gridOk_c (wrapG_ok h n)
  have e := wrapG_dims g n
  unfold dimsP at hd
  unfold curP at hc h2
  rw [e.1, e.2] at h2
  by_cases hw : g.R = true ∨ (n = 2 ∧ g.X = g.W - 1)
  · have e2 : wrapG g n = downG g := by unfold wrapG; rw [if_pos hw]
    have e3 := downG_dims g
    rw [e2] at h2 ⊢
    rw [e3.2.2.1, e3.2.2.2]
    exact ⟨rfl, by omega, by omega, h2.2.2.1, h2.2.2.2.1⟩
  · have e2 : wrapG g n = g := by unfold wrapG; rw [if_neg hw]
    rw [e2]
    simp only [not_or, not_and, Bool.not_eq_true] at hw
    refine ⟨hw.1, by omega, ?_, by omega, by omega⟩
    rcases hn with h3 | h3
    · omega
    · have := hw.2 h3; omega
theorem pos_in {W H X Y : Int} {n : Nat} (hn : (n : Int) = W * H) (hW : 2 ≤ W) (h1 : 0 ≤ X) (h2 : X < W) (h3 : 0 ≤ Y) (h4 : Y < H) : 0 ≤ Y * W + X ∧ (Y * W + X).toNat < n ∧ (Y * W + X) % W = X := by
  have a : 0 ≤ Y * W := Int.mul_nonneg h3 (by omega)
  have b : W * (Y + 1) ≤ W * H := Int.mul_le_mul_of_nonneg_left (by omega) (by omega)
  rw [Int.mul_add, Int.mul_comm] at b
  refine ⟨by omega, by omega, ?_⟩
  rw [Int.add_comm, Int.add_mul_emod_self_right]
  exact Int.emod_eq_of_lt h1 h2
theorem putG_ok {g : Gr} (h : gridOk g = true) (r : Int) : gridOk (putG g r) = true := by
  unfold putG
  split
  · exact h
  · rename_i h0
    have hn : width r = 1 ∨ width r = 2 := by have := width_cases r; omega
    have hd := gridOk_d h
    obtain ⟨c1, c2, c3, c4, c5⟩ := wrapG_cur h hn
    obtain ⟨e1, e2⟩ := wrapG_dims g (width r)
    have hw := wrapG_ok h (width r)
    have hwd := gridOk_d hw
    have hwv := gridOk_vc hw
    rw [e1] at hwv
    rw [e1, e2] at hwd
    have hwd2 := hwd
    unfold dimsP at hwd2
    obtain ⟨p1, p2, p3⟩ := pos_in (W := g.W) (H := g.H) (X := (wrapG g (width r)).X) (Y := (wrapG g (width r)).Y) hwd2.2.2.2.2.2 (by omega) c2 (by omega) c4 c5
    have pv := put_vc (H := g.H) hwv (by omega) hwd2.2.2.2.2.2 p2 (r := r) (by
      rcases hn with h3 | h3
      · exact .inl h3
      · refine .inr ⟨h3, ?_⟩
        rw [Int.toNat_of_nonneg p1, p3]; omega)
    unfold stepG
    split
    · rename_i h5
      refine gridOk_of ?_ ?_ ?_
      · show dimsP (wrapG g (width r)).W (wrapG g (width r)).H (putC _ _ r).length
        rw [putC_len, e1, e2]; exact hwd
      · show curP (wrapG g (width r)).W (wrapG g (width r)).H ((wrapG g (width r)).W - 1) (wrapG g (width r)).Y true
        rw [e1, e2]; exact ⟨by omega, by omega, c4, c5, fun _ => rfl⟩
      · show VC _ (wrapG g (width r)).W
        rw [e1]; exact pv
    · rename_i h5
      have h5' : ¬ g.W ≤ (wrapG g (width r)).X + width r := by rw [← e1]; exact h5
      refine gridOk_of ?_ ?_ ?_
      · show dimsP (wrapG g (width r)).W (wrapG g (width r)).H (putC _ _ r).length
        rw [putC_len, e1, e2]; exact hwd
      · show curP (wrapG g (width r)).W (wrapG g (width r)).H ((wrapG g (width r)).X + width r) (wrapG g (width r)).Y (wrapG g (width r)).R
        rw [e1, e2, c1]; exact ⟨by omega, by omega, c4, c5, fun e => by cases e⟩
      · show VC _ (wrapG g (width r)).W
        rw [e1]; exact pv

/-! ### the program's own erase -/
def eraseC (C : List Int) (f t : Nat) : List Int :=
  (List.range C.length).map fun i => if f ≤ i ∧ i < t then 32 else if i + 1 = f ∧ gt C f = -1 then 32 else if i = t ∧ gt C t = -1 then 32 else gt C i
theorem erase_clear {C : List Int} {W : Int} (h : VC C W) {f t : Nat} (hft : f < t) (ht : t ≤ C.length) : eraseC C f t = clearC C f t := by
  apply ext_gt
  · simp [eraseC, clearC]
  intro i hi
  have hi' : i < C.length := by simpa [eraseC] using hi
  rw [gt_clear hi', show gt (eraseC C f t) i = _ from gt_map hi']
  by_cases h1 : f ≤ i ∧ i < t
  · rw [if_pos h1, if_pos]
    unfold hit
    simp only [Bool.or_eq_true, decide_eq_true_eq]
    left; omega
  · rw [if_neg h1]
    by_cases h2 : i + 1 = f ∧ gt C f = -1
    · rw [if_pos h2, if_pos]
      have hp := (vc_half h (i := f) (by omega) h2.2).2
      rw [show f - 1 = i by omega] at hp
      unfold hit
      rw [other_wide hp]
      simp only [Bool.or_eq_true, decide_eq_true_eq]
      right; omega
    · rw [if_neg h2]
      by_cases h3 : i = t ∧ gt C t = -1
      · rw [if_pos h3, if_pos]
        unfold hit
        rw [h3.1, other_half h3.2]
        simp only [Bool.or_eq_true, decide_eq_true_eq]
        right; omega
      · rw [if_neg h3, if_neg]
        intro hh
        unfold hit at hh
        simp only [Bool.or_eq_true, decide_eq_true_eq] at hh
        rcases hh with hh | hh
        · omega
        · by_cases e1 : gt C i = -1
          · rw [other_half e1] at hh
            exact h3 ⟨by omega, by rw [show t = i by omega]; exact e1⟩
          · rcases vc_some h hi' e1 with e2 | e2
            · rw [other_one e2] at hh; omega
            · rw [other_wide e2] at hh
              have h4 := (vc_wide h hi' e2).2
              exact h2 ⟨by omega, by rw [show f = i + 1 by omega]; exact h4⟩
theorem clear_none {C : List Int} {f t : Int} (h : t ≤ f) : clearC C f t = C := by
  apply ext_gt (clearC_len _ _ _)
  intro i hi
  rw [clearC_len] at hi
  rw [gt_clear hi, if_neg]
  unfold hit
  simp only [Bool.or_eq_true, decide_eq_true_eq]
  omega
/-- only what lies inside counts -/
theorem clear_clamp {C : List Int} {W H : Int} (h : VC C W) (hW : 2 ≤ W) (hn : (C.length : Int) = W * H) (f t : Int) : clearC C f t = clearC C (max f 0) (min t C.length) := by
  apply ext_gt (by rw [clearC_len, clearC_len])
  intro i hi
  rw [clearC_len] at hi
  rw [gt_clear hi, gt_clear hi]
  have : hit C f t i = hit C (max f 0) (min t C.length) i := by
    have ho : 0 ≤ other C i ∧ other C i < C.length := by
      by_cases e1 : gt C i = -1
      · rw [other_half e1]
        have := prev_in (vc_half h hi e1).1
        omega
      · rcases vc_some h hi e1 with e2 | e2
        · rw [other_one e2]; omega
        · rw [other_wide e2]
          have := next_in hW hn hi (vc_wide h hi e2).1
          omega
    unfold hit
    congr 1
    · rw [decide_eq_decide]; omega
    · rw [decide_eq_decide]; omega
  rw [this]
end Go.Proofs.YtohjjhoobikioaaDoor
