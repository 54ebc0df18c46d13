/-
  FnExactDiffer: the law's walk.
-/
import Derived.Test.YthphmhbcpjmkoaaGDiffer
import Derived.Test.YthphmhbcpjmkoaaGBox
namespace Go.Proofs.Ythphmhbcpjmkoaa
open Go.RowKit

set_option maxRecDepth 100000 in
set_option maxHeartbeats 4000000 in
theorem law_FnExactDiffer (W H X Y : Int) (R : Bool) (C : List Int) (A : Option Addr) (n c : Nat) (W' H' X' Y' : Int) (R' : Bool) (C' : List Int) (A' : Option Addr) (n' c' : Nat) (w : World) (hC : RI w A n c C) (hC' : RI w A' n' c' C') :
    Calls Try.prog 3 #[.agg #[.int .i64 W, .int .i64 H, .slice A n c, .int .i64 X, .int .i64 Y, .bool R], .agg #[.int .i64 W', .int .i64 H', .slice A' n' c', .int .i64 X', .int .i64 Y', .bool R']] w fun e w' => e = .returned (.bool true) ∧ Ext w w' := by
  have hn := hC.nmax
  have hn' := hC'.nmax
  have X0 := (((Ext.refl w).alloc (.cells #[.int .i64 W, .int .i64 H, .slice A n c, .int .i64 X, .int .i64 Y, .bool R] 24)).alloc (.cells #[.int .i64 W', .int .i64 H', .slice A' n' c', .int .i64 X', .int .i64 Y', .bool R'] 24))
  have bA0 := (GBox.made w W H (.slice A n c) X Y R 24).ext ((Ext.refl _).alloc (.cells #[.int .i64 W', .int .i64 H', .slice A' n' c', .int .i64 X', .int .i64 Y', .bool R'] 24))
  have bB0 := GBox.made (w.alloc (.cells #[.int .i64 W, .int .i64 H, .slice A n c, .int .i64 X, .int .i64 Y, .bool R] 24)) W' H' (.slice A' n' c') X' Y' R' 24
  rw [World.size_alloc] at bB0
  have HA0 := Lib.hid bA0; have HB0 := Lib.hid bB0; clear bA0 bB0
  go_enter Try.func3, Try.ntmps3
  go_wp2_with fail
  refine (laws_szGrid W H X Y R A n c 1048576 _ (by omega) (by omega) hn).mono ?_; rintro e w1 ⟨rfl, x1⟩
  obtain ⟨q0, q1, q2, q3, q4, q5⟩ := HB0.out.ext x1
  rcases szN_cases 1048576 n with ⟨h1, e1⟩ | ⟨h1, e1⟩ <;> rw [e1] <;> clear e1
  · go_wp2_with fail
    go_ret
    exact ⟨rfl, X0.trans x1⟩
  go_wp2_with fail
  clear q0 q1 q2 q3 q4 q5
  refine (laws_szGrid W' H' X' Y' R' A' n' c' _ _ (by omega) (by omega) hn').mono ?_; rintro e w2 ⟨rfl, x2⟩
  have x12 := x1.trans x2
  clear x1 x2
  rcases szN_cases (1048576 - (n : Int)) n' with ⟨h2, e1⟩ | ⟨h2, e1⟩ <;> rw [e1] <;> clear e1
  · go_wp2_with fail
    go_ret
    exact ⟨rfl, X0.trans x12⟩
  have HA2 := Lib.hid (HA0.out.ext x12); have HB2 := Lib.hid (HB0.out.ext x12)
  have X2 := X0.trans x12
  clear X0 x12 HA0 HB0
  go_wp2_with fail
  go_region_held3 (fun w' => GBox w' w.heap.size W H (.slice A n c) X Y R ∧ GBox w' (w.heap.size + 1) W' H' (.slice A' n' c') X' Y' R' ∧ Ext w w')
    ((first | exact ⟨HA2.out.ext (Ext.refl _).drew, HB2.out.ext (Ext.refl _).drew, X2.drew⟩ | exact ⟨HA2.out.ext ((Ext.refl _).drewN _), HB2.out.ext ((Ext.refl _).drewN _), X2.drewN _⟩ | (refine keep2 ?_ (by assumption); assumption)))
    (first
      | (go_at_call 9; (with_reducible refine (laws_toGrid W H X Y R C A n c _ (hC.ext (And.right (And.right (by assumption)))) (by omega)).mono ?_); rintro e w3 ⟨v3, rfl, own3, x3⟩; obtain ⟨A3, c3, rfl, r3⟩ := own3.form)
      | (go_at_call 9; (with_reducible refine (laws_toGrid W' H' X' Y' R' C' A' n' c' _ (hC'.ext (And.right (And.right (by assumption)))) (by omega)).mono ?_); rintro e w4 ⟨v4, rfl, own4, x4⟩; obtain ⟨A4, c4, rfl, r4⟩ := own4.form)
      | (go_at_call 8; (refine (spec_Differ W H X Y R C A3 _ c3 W' H' X' Y' R' C' A4 _ c4 _ (r3.ext x4) r4).mono ?_); rintro e w5 ⟨rfl, x5⟩))
  have hS5 : GBox w5 w.heap.size W H (.slice A n c) X Y R ∧ GBox w5 (w.heap.size + 1) W' H' (.slice A' n' c') X' Y' R' ∧ Ext w w5 := by assumption
  clear own3 own4 r3 r4 x3 x4 x5
  have HA5 := Lib.hid hS5.1; have HB5 := Lib.hid hS5.2.1; have X5 := hS5.2.2
  obtain ⟨⟨q0, q1, q2, q3, q4, q5⟩, -, -⟩ := hS5
  go_wp2_with fail
  refine (laws_toGrid W H X Y R C A n c _ (hC.ext X5) (by omega)).mono ?_; rintro e w6 ⟨v6, rfl, own6, x6⟩; obtain ⟨A6, c6, rfl, r6⟩ := own6.form
  clear q0 q1 q2 q3 q4 q5
  obtain ⟨q0, q1, q2, q3, q4, q5⟩ := (HB5.out.ext x6)
  have q1l := World.block_lt_of_cell? w6 _ q0
  go_wp2_with fail
  have X6 := (X5.trans x6).alloc (.cells #[.int .i64 W, .int .i64 H, .slice A6 C.length c6, .int .i64 X, .int .i64 Y, .bool R] 27)
  have bX6 := GBox.made w6 W H (.slice A6 C.length c6) X Y R 27
  refine (laws_toGrid W' H' X' Y' R' C' A' n' c' _ (hC'.ext X6) (by omega)).mono ?_; rintro e w7 ⟨v7, rfl, own7, x7⟩; obtain ⟨A7, c7, rfl, r7⟩ := own7.form
  clear q0 q1 q2 q3 q4 q5
  have bX7 := bX6.ext x7
  have x67 := ((Ext.refl w6).alloc (.cells #[.int .i64 W, .int .i64 H, .slice A6 C.length c6, .int .i64 X, .int .i64 Y, .bool R] 27)).trans x7
  have r67 := r6.ext x67
  obtain ⟨q0, q1, q2, q3, q4, q5⟩ := bX7
  have q1l := World.block_lt_of_cell? w7 _ q0
  go_wp2_with fail
  have a7 := (Ext.refl w7).alloc (.cells #[.int .i64 W', .int .i64 H', .slice A7 C'.length c7, .int .i64 X', .int .i64 Y', .bool R'] 27)
  have bY7 := GBox.made w7 W' H' (.slice A7 C'.length c7) X' Y' R' 27
  refine (impl_Differ W H X Y R C A6 _ c6 W' H' X' Y' R' C' A7 _ c7 _ (r67.ext a7) (r7.ext a7)).mono ?_; rintro e w8 ⟨rfl, x8⟩
  clear q0 q1 q2 q3 q4 q5
  have x78 := a7.trans x8
  have HX8 := Lib.hid ((bX6.ext x7).ext x78)
  have HY8 := Lib.hid (bY7.ext x8)
  have HA8 := Lib.hid (HA5.out.ext (x6.trans (x67.trans x78)))
  have HB8 := Lib.hid (HB5.out.ext (x6.trans (x67.trans x78)))
  have X8 := (X5.trans x6).trans (x67.trans x78)
  have r68 := r67.ext x78
  have r78 := r7.ext x78
  clear bX6 bY7 a7 x8 x7 x6 own6 own7 r6 r7 r67 x67 X5 X6 HA5 HB5 HA2 HB2
  go_wp2_with fail
  go_region_held3 (fun w' => GBox w' w6.heap.size W H (.slice A6 C.length c6) X Y R ∧ GBox w' w.heap.size W H (.slice A n c) X Y R ∧ Ext w8 w')
    ((first | exact ⟨HX8.out.ext (Ext.refl _).drew, HA8.out.ext (Ext.refl _).drew, (Ext.refl _).drew⟩ | exact ⟨HX8.out.ext ((Ext.refl _).drewN _), HA8.out.ext ((Ext.refl _).drewN _), (Ext.refl _).drewN _⟩ | (refine keep2 ?_ (by assumption); assumption)))
    (first
      | (go_at_call 9; (refine (laws_toGrid W H X Y R C A n c _ (hC.ext (X8.trans (And.right (And.right (by assumption))))) (by omega)).mono ?_); rintro e w9 ⟨v9, rfl, own9, x9⟩; obtain ⟨A9, c9, rfl, r9⟩ := own9.form)
      | (go_at_call 11; (refine (laws_eqGrid W H X Y R C A6 A9 _ c6 _ c9 _ (r68.ext (And.right (And.right (by assumption)))) r9).mono ?_); rintro e w10 ⟨rfl, x10⟩))
  have hS : GBox w10 w6.heap.size W H (.slice A6 C.length c6) X Y R ∧ GBox w10 w.heap.size W H (.slice A n c) X Y R ∧ Ext w8 w10 := by assumption
  have x810 := hS.2.2
  have HY10 := Lib.hid (HY8.out.ext x810)
  have HB10 := Lib.hid (HB8.out.ext x810)
  have X10 := X8.trans x810
  have r710 := r78.ext x810
  clear hS x810 X8 r9 own9 x9 x10 r68 r78
  go_wp2_with fail
  go_region_held3 (fun w' => GBox w' w7.heap.size W' H' (.slice A7 C'.length c7) X' Y' R' ∧ GBox w' (w.heap.size + 1) W' H' (.slice A' n' c') X' Y' R' ∧ Ext w10 w')
    ((first | exact ⟨HY10.out.ext (Ext.refl _).drew, HB10.out.ext (Ext.refl _).drew, (Ext.refl _).drew⟩ | exact ⟨HY10.out.ext ((Ext.refl _).drewN _), HB10.out.ext ((Ext.refl _).drewN _), (Ext.refl _).drewN _⟩ | (refine keep2 ?_ (by assumption); assumption)))
    (first
      | (go_at_call 9; (refine (laws_toGrid W' H' X' Y' R' C' A' n' c' _ (hC'.ext (X10.trans (And.right (And.right (by assumption))))) (by omega)).mono ?_); rintro e w11 ⟨v11, rfl, own11, x11⟩; obtain ⟨A11, c11, rfl, r11⟩ := own11.form)
      | (go_at_call 11; (refine (laws_eqGrid W' H' X' Y' R' C' A7 A11 _ c7 _ c11 _ (r710.ext (And.right (And.right (by assumption)))) r11).mono ?_); rintro e w12 ⟨rfl, x12⟩))
  have hS : GBox w12 w7.heap.size W' H' (.slice A7 C'.length c7) X' Y' R' ∧ GBox w12 (w.heap.size + 1) W' H' (.slice A' n' c') X' Y' R' ∧ Ext w10 w12 := by assumption
  have X12 := X10.trans hS.2.2
  clear hS
  go_wp2_with fail
  go_ret
  exact ⟨rfl, X12⟩
end Go.Proofs.Ythphmhbcpjmkoaa
