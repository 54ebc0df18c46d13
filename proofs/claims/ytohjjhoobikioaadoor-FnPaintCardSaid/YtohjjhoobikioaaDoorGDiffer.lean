/-
  Differ of both packages.
-/
import Derived.Test.YtohjjhoobikioaaDoorGrid
import Derived.Test.YtohjjhoobikioaaDoorLawKit
namespace Go.Proofs.YtohjjhoobikioaaDoor
open Go.RowKit

def cnt (C D : List Int) (k : Nat) : Nat := (List.range k).countP fun i => gt C i != gt D i
theorem cnt_le (C D : List Int) (k : Nat) : cnt C D k ≤ k := by
  have := List.countP_le_length (p := fun i => gt C i != gt D i) (l := List.range k)
  simpa [cnt] using this
theorem cnt_succ (C D : List Int) (k : Nat) : cnt C D (k + 1) = cnt C D k + if gt C k != gt D k then 1 else 0 := by
  unfold cnt; rw [List.range_succ, List.countP_append]; simp [List.countP_cons]
def differ (a b : Gr) : Int := if gridOk a && gridOk b && decide (a.W = b.W) && decide (a.H = b.H) then (cnt a.C b.C a.C.length : Int) else -1

set_option maxRecDepth 100000 in
set_option maxHeartbeats 2000000 in
theorem impl_Differ (W H X Y : Int) (R : Bool) (C : List Int) (A : Option Addr) (n c : Nat) (W' H' X' Y' : Int) (R' : Bool) (C' : List Int) (A' : Option Addr) (n' c' : Nat) (w : World) (hC : RI w A n c C) (hC' : RI w A' n' c' C') :
    Calls Tryd.prog 25 #[.agg #[.int .i64 W, .int .i64 H, .slice A n c, .int .i64 X, .int .i64 Y, .bool R], .agg #[.int .i64 W', .int .i64 H', .slice A' n' c', .int .i64 X', .int .i64 Y', .bool R']] w fun e w' =>
      e = .returned (.int .i64 (differ ⟨W, H, C, X, Y, R⟩ ⟨W', H', C', X', Y', R'⟩)) ∧ Ext w w' := by
  have X0 := (((Ext.refl w).alloc (.cells #[.int .i64 W, .int .i64 H, .slice A n c, .int .i64 X, .int .i64 Y, .bool R] 40)).alloc (.cells #[.int .i64 W', .int .i64 H', .slice A' n' c', .int .i64 X', .int .i64 Y', .bool R'] 40))
  cases h1 : gridOk ⟨W, H, C, X, Y, R⟩
  · go_enter Tryd.func25, Tryd.ntmps25
    go_wp2_with fail
    have k1 := impl_GridOk W H X Y R C A n c _ (hC.ext X0)
    rw [h1] at k1
    refine k1.mono ?_; rintro e w1 ⟨rfl, x1⟩
    clear k1
    go_wp2_with fail
    go_ret
    exact ⟨ret_i (by simp [differ, h1]), X0.trans x1⟩
  cases h2 : gridOk ⟨W', H', C', X', Y', R'⟩
  · go_enter Tryd.func25, Tryd.ntmps25
    go_wp2_with fail
    have k1 := impl_GridOk W H X Y R C A n c _ (hC.ext X0)
    rw [h1] at k1
    refine k1.mono ?_; rintro e w1 ⟨rfl, x1⟩
    clear k1
    obtain ⟨lc, lf, ls⟩ := x1.look
    go_wp2_with fail
    have k1 := impl_GridOk W' H' X' Y' R' C' A' n' c' _ (hC'.ext (X0.trans x1))
    rw [h2] at k1
    refine k1.mono ?_; rintro e w2 ⟨rfl, x2⟩
    clear k1
    go_wp2_with fail
    go_ret
    exact ⟨ret_i (by simp [differ, h2]), (X0.trans x1).trans x2⟩
  have Hd : Hid (dimsP W H C.length ∧ dimsP W' H' C'.length) := ⟨gridOk_d h1, gridOk_d h2⟩
  have Hgo : Hid (differ ⟨W, H, C, X, Y, R⟩ ⟨W', H', C', X', Y', R'⟩ = if W = W' ∧ H = H' then (cnt C C' n : Int) else -1) := by
    show differ _ _ = _
    simp only [differ, h1, h2, Bool.true_and, Bool.and_eq_true, decide_eq_true_eq, hC.len]
  have H1 := Lib.hid h1; have H2 := Lib.hid h2; clear h1 h2
  have KEY : ∀ r : Int, Hid (differ ⟨W, H, C, X, Y, R⟩ ⟨W', H', C', X', Y', R'⟩ = r) → (Hid (r = -1) ∧ ((W != W') = true ∨ ((W != W') = false ∧ (H != H') = true)) ∨ ((W != W') = false ∧ (H != H') = false ∧ Hid (r = (cnt C C' n : Int)) ∧ n = n')) →
      Calls Tryd.prog 25 #[.agg #[.int .i64 W, .int .i64 H, .slice A n c, .int .i64 X, .int .i64 Y, .bool R], .agg #[.int .i64 W', .int .i64 H', .slice A' n' c', .int .i64 X', .int .i64 Y', .bool R']] w fun e w' =>
        e = .returned (.int .i64 r) ∧ Ext w w' := by
    intro r Hr hcase
    rcases hcase with ⟨hr, ha | ⟨hb, ha⟩⟩ | ⟨ha, hb, hr, hnn⟩
    case inl.inl =>
      go_enter Tryd.func25, Tryd.ntmps25
      go_wp2_with fail
      have k1 := impl_GridOk W H X Y R C A n c _ (hC.ext X0)
      rw [H1.out] at k1
      refine k1.mono ?_; rintro e w1 ⟨rfl, x1⟩
      clear k1
      obtain ⟨lc, lf, ls⟩ := x1.look
      go_wp2_with fail
      have k1 := impl_GridOk W' H' X' Y' R' C' A' n' c' _ (hC'.ext (X0.trans x1))
      rw [H2.out] at k1
      refine k1.mono ?_; rintro e w2 ⟨rfl, x2⟩
      clear k1 lc lf ls
      obtain ⟨lc, lf, ls⟩ := (x1.trans x2).look
      go_wp2_with fail
      go_ret
      exact ⟨ret_i hr.out.symm, (X0.trans x1).trans x2⟩
    case inl.inr =>
      go_enter Tryd.func25, Tryd.ntmps25
      go_wp2_with fail
      have k1 := impl_GridOk W H X Y R C A n c _ (hC.ext X0)
      rw [H1.out] at k1
      refine k1.mono ?_; rintro e w1 ⟨rfl, x1⟩
      clear k1
      obtain ⟨lc, lf, ls⟩ := x1.look
      go_wp2_with fail
      have k1 := impl_GridOk W' H' X' Y' R' C' A' n' c' _ (hC'.ext (X0.trans x1))
      rw [H2.out] at k1
      refine k1.mono ?_; rintro e w2 ⟨rfl, x2⟩
      clear k1 lc lf ls
      obtain ⟨lc, lf, ls⟩ := (x1.trans x2).look
      go_wp2_with fail
      go_ret
      exact ⟨ret_i hr.out.symm, (X0.trans x1).trans x2⟩
    subst hnn
    have hn4 : n ≤ 8000 := by have := Hd.out.1; unfold dimsP at this; rw [hC.len] at this; omega
    go_enter Tryd.func25, Tryd.ntmps25
    go_wp2_with fail
    have k1 := impl_GridOk W H X Y R C A n c _ (hC.ext X0)
    rw [H1.out] at k1
    refine k1.mono ?_; rintro e w1 ⟨rfl, x1⟩
    clear k1
    obtain ⟨lc, lf, ls⟩ := x1.look
    go_wp2_with fail
    have k1 := impl_GridOk W' H' X' Y' R' C' A' n c' _ (hC'.ext (X0.trans x1))
    rw [H2.out] at k1
    refine k1.mono ?_; rintro e w2 ⟨rfl, x2⟩
    clear k1 lc lf ls
    have x12 := x1.trans x2
    obtain ⟨lc, lf, ls⟩ := x12.look
    go_wp2_with fail
    go_loopw [5, 32] (fun vs vi wr => ∃ k : Nat, k ≤ n ∧ vi = .int .i64 k ∧ vs = .int .i64 (cnt C C' k : Nat) ∧ Ext ((w.alloc (.cells _ 40)).alloc (.cells _ 40)) wr) (fun _ vi _ => n - (intOf vi).toNat)
    case atStart => exact ⟨0, by omega, rfl, rfl, x12⟩
    case round =>
      clear lc lf ls
      obtain ⟨k, hk, rfl, rfl, hx⟩ := hrel
      obtain ⟨lc, lf, ls⟩ := hx.look
      have hX := X0.trans hx
      have hck := cnt_le C C' k
      by_cases hlt : k < n
      · obtain ⟨b, o, rfl, hcell⟩ := (hC.ext hX).at1 hlt
        obtain ⟨b', o', rfl, hcell'⟩ := (hC'.ext hX).at1 hlt
        have hs := Lib.hid (cnt_succ C C' k)
        by_cases hq : C[k]?.getD 0 = C'[k]?.getD 0
        · have hqb : (C[k]?.getD 0 != C'[k]?.getD 0) = false := by simp [hq]
          have HQ := Lib.hid hq; clear hq
          go_wp2_with fail
          go_quiet (fail)
          go_wp2_with fail
          go_roundw
          case rel => exact ⟨k + 1, by omega, by go_num, by rw [hs.out]; simp [gt, hqb], hx.drewN _⟩
          case measure => simp [intOf]; omega
        · have hqb : (C[k]?.getD 0 != C'[k]?.getD 0) = true := by simp [hq]
          go_wp2_with fail
          go_quiet (fail)
          go_wp2_with fail
          go_roundw
          case rel => exact ⟨k + 1, by omega, by go_num, by rw [hs.out]; simp [gt, hqb], hx.drewN _⟩
          case measure => simp [intOf]; omega
      · go_wp2_with fail
        go_ret
        obtain rfl : k = n := by omega
        exact ⟨ret_i hr.out.symm, hX⟩
  refine KEY _ rfl ?_
  show _ ∨ _
  by_cases hw : W = W'
  · by_cases hh : H = H'
    · refine .inr ⟨by simp [hw], by simp [hh], ?_, ?_⟩
      · show differ _ _ = _
        rw [Hgo.out, if_pos ⟨hw, hh⟩]
      · have a := Hd.out.1; have b := Hd.out.2
        unfold dimsP at a b
        rw [hC.len] at a; rw [hC'.len] at b
        have : W * H = W' * H' := by rw [hw, hh]
        omega
    · refine .inl ⟨?_, .inr ⟨by simp [hw], by simp [hh]⟩⟩
      show differ _ _ = _
      rw [Hgo.out, if_neg (fun h => hh h.2)]
  · refine .inl ⟨?_, .inl (by simp [hw])⟩
    show differ _ _ = _
    rw [Hgo.out, if_neg (fun h => hw h.1)]

set_option maxRecDepth 100000 in
set_option maxHeartbeats 2000000 in
theorem spec_Differ (W H X Y : Int) (R : Bool) (C : List Int) (A : Option Addr) (n c : Nat) (W' H' X' Y' : Int) (R' : Bool) (C' : List Int) (A' : Option Addr) (n' c' : Nat) (w : World) (hC : RI w A n c C) (hC' : RI w A' n' c' C') :
    Calls Tryd.prog 72 #[.agg #[.int .i64 W, .int .i64 H, .slice A n c, .int .i64 X, .int .i64 Y, .bool R], .agg #[.int .i64 W', .int .i64 H', .slice A' n' c', .int .i64 X', .int .i64 Y', .bool R']] w fun e w' =>
      e = .returned (.int .i64 (differ ⟨W, H, C, X, Y, R⟩ ⟨W', H', C', X', Y', R'⟩)) ∧ Ext w w' := by
  have X0 := (((Ext.refl w).alloc (.cells #[.int .i64 W, .int .i64 H, .slice A n c, .int .i64 X, .int .i64 Y, .bool R] 40)).alloc (.cells #[.int .i64 W', .int .i64 H', .slice A' n' c', .int .i64 X', .int .i64 Y', .bool R'] 40))
  cases h1 : gridOk ⟨W, H, C, X, Y, R⟩
  · go_enter Tryd.func72, Tryd.ntmps72
    go_wp2_with fail
    have k1 := spec_GridOk W H X Y R C A n c _ (hC.ext X0)
    rw [h1] at k1
    refine k1.mono ?_; rintro e w1 ⟨rfl, x1⟩
    clear k1
    go_wp2_with fail
    go_ret
    exact ⟨ret_i (by simp [differ, h1]), X0.trans x1⟩
  cases h2 : gridOk ⟨W', H', C', X', Y', R'⟩
  · go_enter Tryd.func72, Tryd.ntmps72
    go_wp2_with fail
    have k1 := spec_GridOk W H X Y R C A n c _ (hC.ext X0)
    rw [h1] at k1
    refine k1.mono ?_; rintro e w1 ⟨rfl, x1⟩
    clear k1
    obtain ⟨lc, lf, ls⟩ := x1.look
    go_wp2_with fail
    have k1 := spec_GridOk W' H' X' Y' R' C' A' n' c' _ (hC'.ext (X0.trans x1))
    rw [h2] at k1
    refine k1.mono ?_; rintro e w2 ⟨rfl, x2⟩
    clear k1
    go_wp2_with fail
    go_ret
    exact ⟨ret_i (by simp [differ, h2]), (X0.trans x1).trans x2⟩
  have Hd : Hid (dimsP W H C.length ∧ dimsP W' H' C'.length) := ⟨gridOk_d h1, gridOk_d h2⟩
  have Hgo : Hid (differ ⟨W, H, C, X, Y, R⟩ ⟨W', H', C', X', Y', R'⟩ = if W = W' ∧ H = H' then (cnt C C' n : Int) else -1) := by
    show differ _ _ = _
    simp only [differ, h1, h2, Bool.true_and, Bool.and_eq_true, decide_eq_true_eq, hC.len]
  have H1 := Lib.hid h1; have H2 := Lib.hid h2; clear h1 h2
  have KEY : ∀ r : Int, Hid (differ ⟨W, H, C, X, Y, R⟩ ⟨W', H', C', X', Y', R'⟩ = r) → (Hid (r = -1) ∧ ((W != W') = true ∨ ((W != W') = false ∧ (H != H') = true)) ∨ ((W != W') = false ∧ (H != H') = false ∧ Hid (r = (cnt C C' n : Int)) ∧ n = n')) →
      Calls Tryd.prog 72 #[.agg #[.int .i64 W, .int .i64 H, .slice A n c, .int .i64 X, .int .i64 Y, .bool R], .agg #[.int .i64 W', .int .i64 H', .slice A' n' c', .int .i64 X', .int .i64 Y', .bool R']] w fun e w' =>
        e = .returned (.int .i64 r) ∧ Ext w w' := by
    intro r Hr hcase
    rcases hcase with ⟨hr, ha | ⟨hb, ha⟩⟩ | ⟨ha, hb, hr, hnn⟩
    case inl.inl =>
      go_enter Tryd.func72, Tryd.ntmps72
      go_wp2_with fail
      have k1 := spec_GridOk W H X Y R C A n c _ (hC.ext X0)
      rw [H1.out] at k1
      refine k1.mono ?_; rintro e w1 ⟨rfl, x1⟩
      clear k1
      obtain ⟨lc, lf, ls⟩ := x1.look
      go_wp2_with fail
      have k1 := spec_GridOk W' H' X' Y' R' C' A' n' c' _ (hC'.ext (X0.trans x1))
      rw [H2.out] at k1
      refine k1.mono ?_; rintro e w2 ⟨rfl, x2⟩
      clear k1 lc lf ls
      obtain ⟨lc, lf, ls⟩ := (x1.trans x2).look
      go_wp2_with fail
      go_ret
      exact ⟨ret_i hr.out.symm, (X0.trans x1).trans x2⟩
    case inl.inr =>
      go_enter Tryd.func72, Tryd.ntmps72
      go_wp2_with fail
      have k1 := spec_GridOk W H X Y R C A n c _ (hC.ext X0)
      rw [H1.out] at k1
      refine k1.mono ?_; rintro e w1 ⟨rfl, x1⟩
      clear k1
      obtain ⟨lc, lf, ls⟩ := x1.look
      go_wp2_with fail
      have k1 := spec_GridOk W' H' X' Y' R' C' A' n' c' _ (hC'.ext (X0.trans x1))
      rw [H2.out] at k1
      refine k1.mono ?_; rintro e w2 ⟨rfl, x2⟩
      clear k1 lc lf ls
      obtain ⟨lc, lf, ls⟩ := (x1.trans x2).look
      go_wp2_with fail
      go_ret
      exact ⟨ret_i hr.out.symm, (X0.trans x1).trans x2⟩
    subst hnn
    have hn4 : n ≤ 8000 := by have := Hd.out.1; unfold dimsP at this; rw [hC.len] at this; omega
    go_enter Tryd.func72, Tryd.ntmps72
    go_wp2_with fail
    have k1 := spec_GridOk W H X Y R C A n c _ (hC.ext X0)
    rw [H1.out] at k1
    refine k1.mono ?_; rintro e w1 ⟨rfl, x1⟩
    clear k1
    obtain ⟨lc, lf, ls⟩ := x1.look
    go_wp2_with fail
    have k1 := spec_GridOk W' H' X' Y' R' C' A' n c' _ (hC'.ext (X0.trans x1))
    rw [H2.out] at k1
    refine k1.mono ?_; rintro e w2 ⟨rfl, x2⟩
    clear k1 lc lf ls
    have x12 := x1.trans x2
    obtain ⟨lc, lf, ls⟩ := x12.look
    go_wp2_with fail
    go_loopw [5, 32] (fun vs vi wr => ∃ k : Nat, k ≤ n ∧ vi = .int .i64 k ∧ vs = .int .i64 (cnt C C' k : Nat) ∧ Ext ((w.alloc (.cells _ 40)).alloc (.cells _ 40)) wr) (fun _ vi _ => n - (intOf vi).toNat)
    case atStart => exact ⟨0, by omega, rfl, rfl, x12⟩
    case round =>
      clear lc lf ls
      obtain ⟨k, hk, rfl, rfl, hx⟩ := hrel
      obtain ⟨lc, lf, ls⟩ := hx.look
      have hX := X0.trans hx
      have hck := cnt_le C C' k
      by_cases hlt : k < n
      · obtain ⟨b, o, rfl, hcell⟩ := (hC.ext hX).at1 hlt
        obtain ⟨b', o', rfl, hcell'⟩ := (hC'.ext hX).at1 hlt
        have hs := Lib.hid (cnt_succ C C' k)
        by_cases hq : C[k]?.getD 0 = C'[k]?.getD 0
        · have hqb : (C[k]?.getD 0 != C'[k]?.getD 0) = false := by simp [hq]
          have HQ := Lib.hid hq; clear hq
          go_wp2_with fail
          go_quiet (fail)
          go_wp2_with fail
          go_roundw
          case rel => exact ⟨k + 1, by omega, by go_num, by rw [hs.out]; simp [gt, hqb], hx.drewN _⟩
          case measure => simp [intOf]; omega
        · have hqb : (C[k]?.getD 0 != C'[k]?.getD 0) = true := by simp [hq]
          go_wp2_with fail
          go_quiet (fail)
          go_wp2_with fail
          go_roundw
          case rel => exact ⟨k + 1, by omega, by go_num, by rw [hs.out]; simp [gt, hqb], hx.drewN _⟩
          case measure => simp [intOf]; omega
      · go_wp2_with fail
        go_ret
        obtain rfl : k = n := by omega
        exact ⟨ret_i hr.out.symm, hX⟩
  refine KEY _ rfl ?_
  show _ ∨ _
  by_cases hw : W = W'
  · by_cases hh : H = H'
    · refine .inr ⟨by simp [hw], by simp [hh], ?_, ?_⟩
      · show differ _ _ = _
        rw [Hgo.out, if_pos ⟨hw, hh⟩]
      · have a := Hd.out.1; have b := Hd.out.2
        unfold dimsP at a b
        rw [hC.len] at a; rw [hC'.len] at b
        have : W * H = W' * H' := by rw [hw, hh]
        omega
    · refine .inl ⟨?_, .inr ⟨by simp [hw], by simp [hh]⟩⟩
      show differ _ _ = _
      rw [Hgo.out, if_neg (fun h => hh h.2)]
  · refine .inl ⟨?_, .inl (by simp [hw])⟩
    show differ _ _ = _
    rw [Hgo.out, if_neg (fun h => hw h.1)]
end Go.Proofs.YtohjjhoobikioaaDoor
