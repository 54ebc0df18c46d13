/-
  cellOk and GridOk of both packages.
-/
import Derived.Test.YtohjjhoobikioaaDoorWidth
import Derived.Test.YtohjjhoobikioaaDoorInts
import Derived.Test.YtohjjhoobikioaaDoorGPure
namespace Go.Proofs.YtohjjhoobikioaaDoor
open Go.RowKit

theorem Ext.look {w w' : World} (h : Ext w w') : (∀ b o, b < w.heap.size → w'.cell? ⟨b, o, none⟩ = w.cell? ⟨b, o, none⟩) ∧ (∀ b o, b < w.heap.size → w'.frozen? ⟨b, o, none⟩ = w.frozen? ⟨b, o, none⟩) ∧ w.heap.size ≤ w'.heap.size :=
  ⟨fun b o hb => Below.cell h (p := ⟨b, o, none⟩) hb, fun b o hb => Below.frozen h (p := ⟨b, o, none⟩) hb, Below.size h⟩
theorem RI.lt {w : World} {b o n c : Nat} {l : List Int} (h : RI w (some ⟨b, o, none⟩) n c l) (hn : 0 < n) : b < w.heap.size := by
  obtain ⟨b', o', e, hc⟩ := h.at_ hn
  injection e with e; injection e with e1 e2; subst e1
  exact World.block_lt_of_cell? w ⟨b, o' + 0, none⟩ (hc 0 hn)

set_option maxRecDepth 100000 in
set_option maxHeartbeats 1000000 in
theorem impl_cellOk (W H X Y : Int) (R : Bool) (C : List Int) (A : Option Addr) (n c i : Nat) (w : World) (hC : RI w A n c C) (hW : 2 ≤ W) (hW2 : W ≤ 200) (hn : (n : Int) = W * H) (hi : i < n) (hn2 : n ≤ 40000) :
    Calls Tryd.prog 112 #[.agg #[.int .i64 W, .int .i64 H, .slice A n c, .int .i64 X, .int .i64 Y, .bool R], .int .i64 i] w fun e w' => e = .returned (.bool (cellB C W i)) ∧ Ext w w' := by
  have hm0 := Int.emod_nonneg (i : Int) (show W ≠ 0 by omega)
  have hm1 := Int.emod_lt_of_pos (i : Int) (show 0 < W by omega)
  obtain ⟨b, o, rfl, hcells⟩ := hC.at_ (by omega)
  have hci := hcells i hi
  have hb := World.block_lt_of_cell? w _ hci
  have Hn := Lib.hid hn; clear hn
  by_cases h1 : C[i]?.getD 0 = -1
  · have h1b : (C[i]?.getD 0 == -1) = true := by simp [h1]
    by_cases h2 : 0 < (i : Int) % W
    · have hi0 := prev_in h2
      have hcp := hcells (i - 1) (by omega)
      have E : cellB C W i = (width (C[i - 1]?.getD 0) == 2) := by
        unfold cellB; rw [if_pos h1]; simp [h2]; rw [Bool.eq_iff_iff]; simp
      have HE := Lib.hid E; clear E hcells
      rw [HE.out]
      clear h1
      go_enter Tryd.func112, Tryd.ntmps112
      go_wp2_with fail
      go_quiet (fail)
      go_wp2_with fail
      refine (impl_Width _ _).mono ?_; rintro e w1 ⟨rfl, x1⟩
      go_wp2_with fail
      go_ret
      exact ⟨rfl, (((Ext.refl w).alloc _).drewN _).trans x1⟩
    · have E : cellB C W i = false := by unfold cellB; rw [if_pos h1]; simp [h2]
      have HE := Lib.hid E; clear E hcells
      rw [HE.out]
      clear h1
      go_enter Tryd.func112, Tryd.ntmps112
      go_wp2_with fail
      go_quiet (fail)
      go_wp2_with fail
      go_ret
      exact ⟨rfl, ((Ext.refl w).alloc _).drewN _⟩
  · have h1b : (C[i]?.getD 0 == -1) = false := by simp [h1]
    by_cases h3 : width (C[i]?.getD 0) = 2
    · have h3b : (width (C[i]?.getD 0) == 2) = true := by simp [h3]
      by_cases h4 : (i : Int) % W + 1 < W
      · have hi1 := next_in hW Hn.out hi h4
        have hcn := hcells (i + 1) hi1
        have E : cellB C W i = (C[i + 1]?.getD 0 == -1) := by
          unfold cellB; rw [if_neg h1, if_pos h3]; simp [h4]; rw [Bool.eq_iff_iff]; simp
        have HE := Lib.hid E; clear E hcells
        rw [HE.out]
        clear h1 h3
        go_enter Tryd.func112, Tryd.ntmps112
        go_wp2_with fail
        go_quiet (fail)
        go_wp2_with fail
        refine (impl_Width _ _).mono ?_; rintro e w1 ⟨rfl, x1⟩
        have X1 := (((Ext.refl w).alloc _).drewN _).trans x1
        obtain ⟨lc, lf, ls⟩ := x1.look
        go_wp2_with fail
        go_ret
        exact ⟨rfl, X1⟩
      · have E : cellB C W i = false := by unfold cellB; rw [if_neg h1, if_pos h3]; simp [h4]
        have HE := Lib.hid E; clear E hcells
        rw [HE.out]
        clear h1 h3
        go_enter Tryd.func112, Tryd.ntmps112
        go_wp2_with fail
        go_quiet (fail)
        go_wp2_with fail
        refine (impl_Width _ _).mono ?_; rintro e w1 ⟨rfl, x1⟩
        obtain ⟨lc, lf, ls⟩ := x1.look
        go_wp2_with fail
        go_ret
        exact ⟨rfl, (((Ext.refl w).alloc _).drewN _).trans x1⟩
    · have h3b : (width (C[i]?.getD 0) == 2) = false := by simp [h3]
      have E : cellB C W i = (width (C[i]?.getD 0) == 1) := by unfold cellB; rw [if_neg h1, if_neg h3]; rw [Bool.eq_iff_iff]; simp
      have HE := Lib.hid E; clear E hcells
      rw [HE.out]
      clear h1 h3
      go_enter Tryd.func112, Tryd.ntmps112
      go_wp2_with fail
      go_quiet (fail)
      go_wp2_with fail
      refine (impl_Width _ _).mono ?_; rintro e w1 ⟨rfl, x1⟩
      go_wp2_with fail
      refine (impl_Width _ _).mono ?_; rintro e w2 ⟨rfl, x2⟩
      go_wp2_with fail
      go_ret
      exact ⟨rfl, ((((Ext.refl w).alloc _).drewN _).trans x1).trans x2⟩

set_option maxRecDepth 100000 in
set_option maxHeartbeats 2000000 in
theorem impl_GridOk (W H X Y : Int) (R : Bool) (C : List Int) (A : Option Addr) (n c : Nat) (w : World) (hC : RI w A n c C) :
    Calls Tryd.prog 71 #[.agg #[.int .i64 W, .int .i64 H, .slice A n c, .int .i64 X, .int .i64 Y, .bool R]] w fun e w' => e = .returned (.bool (gridOk ⟨W, H, C, X, Y, R⟩)) ∧ Ext w w' := by
  have hnm := hC.nmax
  cases h1 : inB W 2 200
  · go_enter Tryd.func71, Tryd.ntmps71
    go_wp2_with (go_at_call 97; refine (impl_in _ _ _ _).mono ?_; rintro e w' ⟨rfl, rfl⟩)
    go_ret
    exact ⟨ret_b (gridOk_dims hC.len (by have := inB_not.1 h1; unfold dimsP; omega)).symm, by first | exact (Ext.refl _).alloc _ | exact ((Ext.refl _).alloc _).drewN _⟩
  cases h2 : inB H 1 200
  · go_enter Tryd.func71, Tryd.ntmps71
    go_wp2_with (go_at_call 97; refine (impl_in _ _ _ _).mono ?_; rintro e w' ⟨rfl, rfl⟩)
    go_ret
    exact ⟨ret_b (gridOk_dims hC.len (by have := inB_not.1 h2; unfold dimsP; omega)).symm, by first | exact (Ext.refl _).alloc _ | exact ((Ext.refl _).alloc _).drewN _⟩
  obtain ⟨a1, a2⟩ := inB_iff.1 h1
  obtain ⟨a3, a4⟩ := inB_iff.1 h2
  obtain ⟨p1, p2⟩ := prod_bounds a1 a2 a3 a4
  by_cases h3 : 8000 < W * H
  · go_enter Tryd.func71, Tryd.ntmps71
    go_wp2_with (go_at_call 97; refine (impl_in _ _ _ _).mono ?_; rintro e w' ⟨rfl, rfl⟩)
    go_ret
    exact ⟨ret_b (gridOk_dims hC.len (by unfold dimsP; omega)).symm, by first | exact (Ext.refl _).alloc _ | exact ((Ext.refl _).alloc _).drewN _⟩
  by_cases h4 : (n : Int) = W * H
  case neg =>
    have h4b : ((n : Int) != W * H) = true := by simp; omega
    go_enter Tryd.func71, Tryd.ntmps71
    go_wp2_with (go_at_call 97; refine (impl_in _ _ _ _).mono ?_; rintro e w' ⟨rfl, rfl⟩)
    go_ret
    exact ⟨ret_b (gridOk_dims hC.len (by unfold dimsP; omega)).symm, by first | exact (Ext.refl _).alloc _ | exact ((Ext.refl _).alloc _).drewN _⟩
  have h4b : ((n : Int) != W * H) = false := by simp; omega
  have H4 := Lib.hid h4; clear h4
  cases h5 : inB X 0 (W - 1)
  · go_enter Tryd.func71, Tryd.ntmps71
    go_wp2_with (go_at_call 97; refine (impl_in _ _ _ _).mono ?_; rintro e w' ⟨rfl, rfl⟩)
    go_ret
    exact ⟨ret_b (gridOk_cur (by have := inB_not.1 h5; unfold curP; omega)).symm, by first | exact (Ext.refl _).alloc _ | exact ((Ext.refl _).alloc _).drewN _⟩
  cases h6 : inB Y 0 (H - 1)
  · go_enter Tryd.func71, Tryd.ntmps71
    go_wp2_with (go_at_call 97; refine (impl_in _ _ _ _).mono ?_; rintro e w' ⟨rfl, rfl⟩)
    go_ret
    exact ⟨ret_b (gridOk_cur (by have := inB_not.1 h6; unfold curP; omega)).symm, by first | exact (Ext.refl _).alloc _ | exact ((Ext.refl _).alloc _).drewN _⟩
  obtain ⟨a5, a6⟩ := inB_iff.1 h5
  obtain ⟨a7, a8⟩ := inB_iff.1 h6
  by_cases h7 : R = true ∧ ¬ X = W - 1
  · obtain ⟨rfl, h7⟩ := h7
    have h7b : (X != W - 1) = true := by simp [h7]
    go_enter Tryd.func71, Tryd.ntmps71
    go_wp2_with (go_at_call 97; refine (impl_in _ _ _ _).mono ?_; rintro e w' ⟨rfl, rfl⟩)
    go_ret
    exact ⟨ret_b (gridOk_cur (by unfold curP; simp; omega)).symm, by first | exact (Ext.refl _).alloc _ | exact ((Ext.refl _).alloc _).drewN _⟩
  have hcur : curP W H X Y R := ⟨by omega, by omega, by omega, by omega, fun hr => by
    rcases Decidable.em (X = W - 1) with h | h
    · exact h
    · exact absurd ⟨hr, h⟩ h7⟩
  have hR : (R = true ∧ (X != W - 1) = false) ∨ R = false := by
    cases R
    · exact .inr rfl
    · exact .inl ⟨rfl, by simp [hcur.2.2.2.2 rfl]⟩
  have Hc := Lib.hid hcur; clear hcur h7
  have Hd : Hid (dimsP W H n) := ⟨a1, a2, a3, a4, by omega, H4.out⟩
  have KEY : ∀ R' : Bool, R' = R → ((R' = true ∧ (X != W - 1) = false) ∨ R' = false) → Calls Tryd.prog 71 #[.agg #[.int .i64 W, .int .i64 H, .slice A n c, .int .i64 X, .int .i64 Y, .bool R']] w fun e w' => e = .returned (.bool (gridOk ⟨W, H, C, X, Y, R⟩)) ∧ Ext w w' := by
    intro R' hR' hR2
    have HR := Lib.hid hR'; clear hR'
    have main : ∀ Q : Bool, (Q = true → (X != W - 1) = false) → Q = R' → Calls Tryd.prog 71 #[.agg #[.int .i64 W, .int .i64 H, .slice A n c, .int .i64 X, .int .i64 Y, .bool Q]] w fun e w' => e = .returned (.bool (gridOk ⟨W, H, C, X, Y, R⟩)) ∧ Ext w w' := by
      intro Q hQ hQR
      have HQ := Lib.hid hQR; clear hQR
      cases Q
      all_goals
        try have hQ := hQ rfl
        go_enter Tryd.func71, Tryd.ntmps71
        go_wp2_with (go_at_call 97; refine (impl_in _ _ _ _).mono ?_; rintro e w' ⟨rfl, rfl⟩)
        go_loopw [64] (fun vi wr => ∃ k : Nat, k ≤ n ∧ vi = .int .i64 k ∧ Hid (∀ i, i < k → cellB C W i = true) ∧ Ext (w.alloc (.cells _ 40)) wr) (fun vi _ => n - (intOf vi).toNat)
        case atStart => exact ⟨0, by omega, rfl, fun i hi => absurd hi (by omega), Ext.refl _⟩
        case round =>
          obtain ⟨k, hk, rfl, hp, hx⟩ := hrel
          obtain ⟨lc, lf, ls⟩ := hx.look
          by_cases hlt : k < n
          · cases hcb : cellB C W k
            · go_wp2_with fail
              refine (impl_cellOk W H X Y _ C A n c k _ (hC.ext (((Ext.refl w).alloc _).trans hx)) a1 a2 H4.out hlt (by have := H4.out; omega)).mono ?_; rintro e w1 ⟨rfl, x1⟩
              go_wp2_with fail
              go_ret
              exact ⟨ret_b (gridOk_cell (i := k) (by rw [hC.len]; exact hlt) hcb).symm, (((Ext.refl w).alloc _).trans hx).trans x1⟩
            · go_wp2_with fail
              refine (impl_cellOk W H X Y _ C A n c k _ (hC.ext (((Ext.refl w).alloc _).trans hx)) a1 a2 H4.out hlt (by have := H4.out; omega)).mono ?_; rintro e w1 ⟨rfl, x1⟩
              go_wp2_with fail
              go_roundw
              case rel =>
                refine ⟨k + 1, by omega, by go_num, fun i hi => ?_, hx.trans x1⟩
                rcases Nat.lt_or_ge i k with h | h
                · exact hp.out i h
                · obtain rfl : i = k := by omega
                  exact hcb
              case measure => simp [intOf]; omega
          · go_wp2_with fail
            go_ret
            obtain rfl : k = n := by omega
            exact ⟨ret_b (gridOk_yes (by rw [hC.len]; exact Hd.out) Hc.out (fun i hi => hp.out i (by rw [hC.len] at hi; exact hi))).symm, ((Ext.refl w).alloc _).trans hx⟩
    exact main R' (fun h => by rcases hR2 with h2 | h2; exact h2.2; rw [h2] at h; cases h) rfl
  exact KEY R rfl hR
end Go.Proofs.YtohjjhoobikioaaDoor
