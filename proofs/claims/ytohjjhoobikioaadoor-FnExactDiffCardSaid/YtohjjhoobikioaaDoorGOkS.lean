/-
  GridOk of the reference.
-/
import Derived.Test.YtohjjhoobikioaaDoorGOk
namespace Go.Proofs.YtohjjhoobikioaaDoor
open Go.RowKit

set_option maxRecDepth 100000 in
set_option maxHeartbeats 2000000 in
theorem spec_GridOk (W H X Y : Int) (R : Bool) (C : List Int) (A : Option Addr) (n c : Nat) (w : World) (hC : RI w A n c C) :
    Calls Tryd.prog 86 #[.agg #[.int .i64 W, .int .i64 H, .slice A n c, .int .i64 X, .int .i64 Y, .bool R]] w fun e w' => e = .returned (.bool (gridOk ⟨W, H, C, X, Y, R⟩)) ∧ Ext w w' := by
  have hnm := hC.nmax
  by_cases h1 : W < 2
  case pos =>
    go_enter Tryd.func86, Tryd.ntmps86
    go_wp2_with fail
    go_ret
    exact ⟨ret_b (gridOk_dims hC.len (by unfold dimsP; omega)).symm, by first | exact (Ext.refl _).alloc _ | exact ((Ext.refl _).alloc _).drewN _⟩
  by_cases h2 : 200 < W
  case pos =>
    go_enter Tryd.func86, Tryd.ntmps86
    go_wp2_with fail
    go_ret
    exact ⟨ret_b (gridOk_dims hC.len (by unfold dimsP; omega)).symm, by first | exact (Ext.refl _).alloc _ | exact ((Ext.refl _).alloc _).drewN _⟩
  by_cases h3 : H < 1
  case pos =>
    go_enter Tryd.func86, Tryd.ntmps86
    go_wp2_with fail
    go_ret
    exact ⟨ret_b (gridOk_dims hC.len (by unfold dimsP; omega)).symm, by first | exact (Ext.refl _).alloc _ | exact ((Ext.refl _).alloc _).drewN _⟩
  by_cases h3b : 200 < H
  case pos =>
    go_enter Tryd.func86, Tryd.ntmps86
    go_wp2_with fail
    go_ret
    exact ⟨ret_b (gridOk_dims hC.len (by unfold dimsP; omega)).symm, by first | exact (Ext.refl _).alloc _ | exact ((Ext.refl _).alloc _).drewN _⟩
  obtain ⟨p1, p2⟩ := prod_bounds (W := W) (H := H) (by omega) (by omega) (by omega) (by omega)
  by_cases h5 : 8000 < W * H
  case pos =>
    go_enter Tryd.func86, Tryd.ntmps86
    go_wp2_with fail
    go_ret
    exact ⟨ret_b (gridOk_dims hC.len (by unfold dimsP; omega)).symm, by first | exact (Ext.refl _).alloc _ | exact ((Ext.refl _).alloc _).drewN _⟩
  by_cases h4 : (n : Int) = W * H
  case neg =>
    have h4b : ((n : Int) != W * H) = true := by simp; omega
    go_enter Tryd.func86, Tryd.ntmps86
    go_wp2_with fail
    go_ret
    exact ⟨ret_b (gridOk_dims hC.len (by unfold dimsP; omega)).symm, by first | exact (Ext.refl _).alloc _ | exact ((Ext.refl _).alloc _).drewN _⟩
  have h4b : ((n : Int) != W * H) = false := by simp; omega
  have H4 := Lib.hid h4; clear h4
  have Hd : Hid (dimsP W H n) := ⟨by omega, by omega, by omega, by omega, by omega, H4.out⟩
  have hm0 : ∀ k : Nat, 0 ≤ (k : Int) % W ∧ (k : Int) % W < W := fun k => ⟨Int.emod_nonneg (k : Int) (show W ≠ 0 by omega), Int.emod_lt_of_pos (k : Int) (show 0 < W by omega)⟩
  have Hm0 := Lib.hid hm0; clear hm0
  go_enter Tryd.func86, Tryd.ntmps86
  go_wp2_with fail
  go_loopw [47] (fun vi wr => ∃ k : Nat, k ≤ n ∧ vi = .int .i64 k ∧ Hid (∀ i, i < k → cellB C W i = true) ∧ Ext (w.alloc (.cells _ 40)) wr) (fun vi _ => n - (intOf vi).toNat)
  case atStart => exact ⟨0, by omega, rfl, fun i hi => absurd hi (by omega), Ext.refl _⟩
  case round =>
    obtain ⟨k, hk, rfl, hp, hx⟩ := hrel
    obtain ⟨lc, lf, ls⟩ := hx.look
    have hX := ((Ext.refl w).alloc _).trans hx
    by_cases hlt : k < n
    · obtain ⟨m0, m1⟩ := Hm0.out k
      obtain ⟨b, o, rfl, hcells⟩ := (hC.ext hX).at_ (by omega)
      have Hcells := Lib.hid hcells
      have hck := hcells k hlt
      have hb := World.block_lt_of_cell? wr _ hck
      clear hcells
      by_cases h1 : C[k]?.getD 0 = -1
      · have h1b : (C[k]?.getD 0 == -1) = true := by simp [h1]
        by_cases h2 : 0 < (k : Int) % W
        · have hk0 := prev_in h2
          have hcp := Hcells.out (k - 1) (by omega)
          have E : cellB C W k = (width (C[k - 1]?.getD 0) == 2) := by
            unfold cellB; rw [if_pos h1]; simp [h2]; rw [Bool.eq_iff_iff]; simp
          have HE := Lib.hid E; clear E h1
          by_cases h3 : width (C[k - 1]?.getD 0) = 2
          · have h3b : (width (C[k - 1]?.getD 0) != 2) = false := by simp [h3]
            have h3c : cellB C W k = true := by rw [HE.out]; simp [h3]
            have H3c := Lib.hid h3c; clear h3c h3
            go_wp2_with fail
            go_quiet (fail)
            go_wp2_with fail
            refine (spec_Width _ _).mono ?_; rintro e w1 ⟨rfl, x1⟩
            go_wp2_with fail
            go_roundw
            case rel =>
              refine ⟨k + 1, by omega, by go_num, fun i hi => ?_, hx.trans (((Ext.refl wr).drewN _).trans x1)⟩
              rcases Nat.lt_or_ge i k with h | h
              · exact hp.out i h
              · obtain rfl : i = k := by omega
                exact H3c.out
            case measure => simp [intOf]; omega
          · have h3b : (width (C[k - 1]?.getD 0) != 2) = true := by simp [h3]
            have h3c : cellB C W k = false := by rw [HE.out]; simp [h3]
            have H3c := Lib.hid h3c; clear h3c h3
            go_wp2_with fail
            go_quiet (fail)
            go_wp2_with fail
            refine (spec_Width _ _).mono ?_; rintro e w1 ⟨rfl, x1⟩
            go_wp2_with fail
            go_ret
            exact ⟨ret_b (gridOk_cell (i := k) (by rw [hC.len]; exact hlt) (H3c.out)).symm, hX.trans (((Ext.refl wr).drewN _).trans x1)⟩
        · have h2b : ((k : Int) % W == 0) = true := by simp; omega
          have E : cellB C W k = false := by unfold cellB; rw [if_pos h1]; simp [h2]
          have HE := Lib.hid E; clear E h1
          go_wp2_with fail
          go_quiet (fail)
          go_wp2_with fail
          go_ret
          exact ⟨ret_b (gridOk_cell (i := k) (by rw [hC.len]; exact hlt) (HE.out)).symm, hX.trans ((Ext.refl wr).drewN _)⟩
      · have h1b : (C[k]?.getD 0 == -1) = false := by simp [h1]
        rcases Int.lt_trichotomy (width (C[k]?.getD 0)) 1 with h3 | h3 | h3
        · have h3' : width (C[k]?.getD 0) = 0 := by have := (width_bounds (C[k]?.getD 0)).1; omega
          have h3b : (width (C[k]?.getD 0) == 0) = true := by simp [h3']
          have E : cellB C W k = false := by unfold cellB; rw [if_neg h1, if_neg (by omega)]; simp; omega
          have HE := Lib.hid E; clear E h1 h3 h3'
          go_wp2_with fail
          go_quiet (fail)
          go_wp2_with fail
          refine (spec_Width _ _).mono ?_; rintro e w1 ⟨rfl, x1⟩
          go_wp2_with fail
          go_ret
          exact ⟨ret_b (gridOk_cell (i := k) (by rw [hC.len]; exact hlt) (HE.out)).symm, hX.trans (((Ext.refl wr).drewN _).trans x1)⟩
        · have h3b : (width (C[k]?.getD 0) == 0) = false := by simp [h3]
          have h3c : (width (C[k]?.getD 0) == 2) = false := by simp [h3]
          have E : cellB C W k = true := by unfold cellB; rw [if_neg h1, if_neg (by omega)]; simp [h3]
          have HE := Lib.hid E; clear E h1 h3
          go_wp2_with fail
          go_quiet (fail)
          go_wp2_with fail
          refine (spec_Width _ _).mono ?_; rintro e w1 ⟨rfl, x1⟩
          go_wp2_with fail
          go_roundw
          case rel =>
            refine ⟨k + 1, by omega, by go_num, fun i hi => ?_, hx.trans (((Ext.refl wr).drewN _).trans x1)⟩
            rcases Nat.lt_or_ge i k with h | h
            · exact hp.out i h
            · obtain rfl : i = k := by omega
              exact HE.out
          case measure => simp [intOf]; omega
        · have h3' : width (C[k]?.getD 0) = 2 := by have := (width_bounds (C[k]?.getD 0)).2; omega
          have h3b : (width (C[k]?.getD 0) == 0) = false := by simp [h3']
          have h3c : (width (C[k]?.getD 0) == 2) = true := by simp [h3']
          by_cases h4 : (k : Int) % W + 1 < W
          · have h4b : ((k : Int) % W == W - 1) = false := by simp; omega
            have hk1 := next_in (by omega) H4.out hlt h4
            have hcn := Hcells.out (k + 1) hk1
            have E : cellB C W k = (C[k + 1]?.getD 0 == -1) := by
              unfold cellB; rw [if_neg h1, if_pos h3']; simp [h4]; rw [Bool.eq_iff_iff]; simp
            have HE := Lib.hid E; clear E h1 h3 h3'
            by_cases h5 : C[k + 1]?.getD 0 = -1
            · have h5b : (C[k + 1]?.getD 0 != -1) = false := by simp [h5]
              have H5 : Hid (cellB C W k = true) := by show cellB C W k = true; rw [HE.out]; simp [h5]
              clear h5
              go_wp2_with fail
              go_quiet (fail)
              go_wp2_with fail
              refine (spec_Width _ _).mono ?_; rintro e w1 ⟨rfl, x1⟩
              obtain ⟨lc1, _, _⟩ := (hx.trans (((Ext.refl wr).drewN _).trans x1)).look
              have hcn1 := (((Ext.refl wr).drewN _).trans x1).cell hcn
              go_wp2_with fail
              go_roundw
              case rel =>
                refine ⟨k + 1, by omega, by go_num, fun i hi => ?_, hx.trans (((Ext.refl wr).drewN _).trans x1)⟩
                rcases Nat.lt_or_ge i k with h | h
                · exact hp.out i h
                · obtain rfl : i = k := by omega
                  exact H5.out
              case measure => simp [intOf]; omega
            · have h5b : (C[k + 1]?.getD 0 != -1) = true := by simp [h5]
              have H5 : Hid (cellB C W k = false) := by show cellB C W k = false; rw [HE.out]; simp [h5]
              clear h5
              go_wp2_with fail
              go_quiet (fail)
              go_wp2_with fail
              refine (spec_Width _ _).mono ?_; rintro e w1 ⟨rfl, x1⟩
              obtain ⟨lc1, _, _⟩ := (hx.trans (((Ext.refl wr).drewN _).trans x1)).look
              have hcn1 := (((Ext.refl wr).drewN _).trans x1).cell hcn
              go_wp2_with fail
              go_ret
              exact ⟨ret_b (gridOk_cell (i := k) (by rw [hC.len]; exact hlt) (H5.out)).symm, hX.trans (((Ext.refl wr).drewN _).trans x1)⟩
          · have h4b : ((k : Int) % W == W - 1) = true := by simp; omega
            have E : cellB C W k = false := by unfold cellB; rw [if_neg h1, if_pos h3']; simp [h4]
            have HE := Lib.hid E; clear E h1 h3 h3'
            go_wp2_with fail
            go_quiet (fail)
            go_wp2_with fail
            refine (spec_Width _ _).mono ?_; rintro e w1 ⟨rfl, x1⟩
            go_wp2_with fail
            go_ret
            exact ⟨ret_b (gridOk_cell (i := k) (by rw [hC.len]; exact hlt) (HE.out)).symm, hX.trans (((Ext.refl wr).drewN _).trans x1)⟩
    · obtain rfl : k = n := by omega
      by_cases c1 : 0 ≤ X
      case neg =>
        go_wp2_with fail
        try go_quiet (fail)
        try go_wp2_with fail
        go_ret
        exact ⟨ret_b (gridOk_cur (by unfold curP; omega)).symm, by first | exact hX | exact hX.drewN _⟩
      by_cases c2 : X < W
      case neg =>
        go_wp2_with fail
        try go_quiet (fail)
        try go_wp2_with fail
        go_ret
        exact ⟨ret_b (gridOk_cur (by unfold curP; omega)).symm, by first | exact hX | exact hX.drewN _⟩
      by_cases c3 : 0 ≤ Y
      case neg =>
        go_wp2_with fail
        try go_quiet (fail)
        try go_wp2_with fail
        go_ret
        exact ⟨ret_b (gridOk_cur (by unfold curP; omega)).symm, by first | exact hX | exact hX.drewN _⟩
      by_cases c4 : Y < H
      case neg =>
        go_wp2_with fail
        try go_quiet (fail)
        try go_wp2_with fail
        go_ret
        exact ⟨ret_b (gridOk_cur (by unfold curP; omega)).symm, by first | exact hX | exact hX.drewN _⟩
      have hall : Hid (∀ i, i < C.length → cellB C W i = true) := fun i hi => hp.out i (by rw [hC.len] at hi; exact hi)
      have Hd2 : Hid (dimsP W H C.length) := by show dimsP W H C.length; rw [hC.len]; exact Hd.out
      cases R
      · go_wp2_with fail
        try go_quiet (fail)
        try go_wp2_with fail
        go_ret
        exact ⟨ret_b (gridOk_yes Hd2.out ⟨c1, c2, c3, c4, fun h => by cases h⟩ hall.out).symm, by first | exact hX | exact hX.drewN _⟩
      · by_cases c5 : X = W - 1
        · have c5b : (X == W - 1) = true := by simp [c5]
          have C5 := Lib.hid c5; clear c5
          go_wp2_with fail
          try go_quiet (fail)
          try go_wp2_with fail
          go_ret
          exact ⟨ret_b (gridOk_yes Hd2.out ⟨c1, c2, c3, c4, fun _ => C5.out⟩ hall.out).symm, by first | exact hX | exact hX.drewN _⟩
        · have c5b : (X == W - 1) = false := by simp [c5]
          have C5 := Lib.hid c5; clear c5
          go_wp2_with fail
          try go_quiet (fail)
          try go_wp2_with fail
          go_ret
          exact ⟨ret_b (gridOk_cur (fun h => C5.out (h.2.2.2.2 rfl))).symm, by first | exact hX | exact hX.drewN _⟩
end Go.Proofs.YtohjjhoobikioaaDoor
