/-
  FnExactGridText: the law's walk.
-/
import Derived.Test.YthphmhbcpjmkoaaGridTextI
import Derived.Test.YthphmhbcpjmkoaaGBox
namespace Go.Proofs.Ythphmhbcpjmkoaa
open Go.RowKit

set_option maxRecDepth 100000 in
set_option maxHeartbeats 2000000 in
theorem law_FnExactGridText (W H X Y : Int) (R : Bool) (C : List Int) (A : Option Addr) (n c : Nat) (w : World) (hC : RI w A n c C) :
    Calls Try.prog 6 #[.agg #[.int .i64 W, .int .i64 H, .slice A n c, .int .i64 X, .int .i64 Y, .bool R]] w fun e w' => e = .returned (.bool true) ∧ Ext w w' := by
  have hn := hC.nmax
  have X0 := (Ext.refl w).alloc (.cells #[.int .i64 W, .int .i64 H, .slice A n c, .int .i64 X, .int .i64 Y, .bool R] 24)
  have HA0 := Lib.hid (GBox.made w W H (.slice A n c) X Y R 24)
  go_enter Try.func6, Try.ntmps6
  go_wp2_with fail
  refine (laws_szGrid W H X Y R A n c 1048576 _ (by omega) (by omega) hn).mono ?_; rintro e w1 ⟨rfl, x1⟩
  rcases szN_cases 1048576 n with ⟨h1, e1⟩ | ⟨h1, e1⟩ <;> rw [e1] <;> clear e1
  · go_wp2_with fail
    go_ret
    exact ⟨rfl, X0.trans x1⟩
  have X1 := X0.trans x1
  obtain ⟨q0, q1, q2, q3, q4, q5⟩ := HA0.out.ext x1
  go_wp2_with fail
  refine (laws_toGrid W H X Y R C A n c _ (hC.ext X1) (by omega)).mono ?_; rintro e w2 ⟨v2, rfl, own2, x2⟩
  obtain ⟨A2, c2, rfl, r2⟩ := own2.form
  clear q0 q1 q2 q3 q4 q5 own2
  go_wp2_with fail
  refine (spec_GridText W H X Y R C A2 _ c2 _ r2).mono ?_; rintro e w3 ⟨rfl, x3⟩
  have x13 := (x1.trans (x2.trans x3))
  have X3 := X0.trans x13
  obtain ⟨q0, q1, q2, q3, q4, q5⟩ := HA0.out.ext x13
  go_wp2_with fail
  refine (laws_toGrid W H X Y R C A n c _ (hC.ext X3) (by omega)).mono ?_; rintro e w4 ⟨v4, rfl, own4, x4⟩
  obtain ⟨A4, c4, rfl, r4⟩ := own4.form
  clear q0 q1 q2 q3 q4 q5 own4
  have bX4 := GBox.made w4 W H (.slice A4 C.length c4) X Y R 27
  have a4 := (Ext.refl w4).alloc (.cells #[.int .i64 W, .int .i64 H, .slice A4 C.length c4, .int .i64 X, .int .i64 Y, .bool R] 27)
  go_wp2_with fail
  refine (impl_GridText W H X Y R C A4 _ c4 _ (r4.ext a4)).mono ?_; rintro e w5 ⟨rfl, x5⟩
  have x45 := a4.trans x5
  have x15 := x13.trans (x4.trans x45)
  have X5 := X0.trans x15
  have HA5 := Lib.hid (HA0.out.ext x15)
  have HX5 := Lib.hid (bX4.ext x5)
  have r45 := r4.ext x45
  clear bX4 a4 x5 x45 x4 x13 x1 x2 x3 HA0 X3 X1 X0 x15
  go_wp2_with fail
  go_region_held3 (fun w' => GBox w' w4.heap.size W H (.slice A4 C.length c4) X Y R ∧ GBox w' w.heap.size W H (.slice A n c) X Y R ∧ Ext w5 w')
    ((first | exact ⟨HX5.out.ext (Ext.refl _).drew, HA5.out.ext (Ext.refl _).drew, (Ext.refl _).drew⟩ | exact ⟨HX5.out.ext ((Ext.refl _).drewN _), HA5.out.ext ((Ext.refl _).drewN _), (Ext.refl _).drewN _⟩ | (refine keep2 ?_ (by assumption); assumption)))
    (first
      | (go_at_call 9; (refine (laws_toGrid W H X Y R C A n c _ (hC.ext (X5.trans (And.right (And.right (by assumption))))) (by omega)).mono ?_); rintro e w9 ⟨v9, rfl, own9, x9⟩; obtain ⟨A9, c9, rfl, r9⟩ := own9.form)
      | (go_at_call 11; (refine (laws_eqGrid W H X Y R C A4 A9 _ c4 _ c9 _ (r45.ext (And.right (And.right (by assumption)))) r9).mono ?_); rintro e w10 ⟨rfl, x10⟩))
  have hS : GBox w10 w4.heap.size W H (.slice A4 C.length c4) X Y R ∧ GBox w10 w.heap.size W H (.slice A n c) X Y R ∧ Ext w5 w10 := by assumption
  have X10 := X5.trans hS.2.2
  clear hS
  go_wp2_with fail
  go_ret
  exact ⟨rfl, X10⟩
end Go.Proofs.Ythphmhbcpjmkoaa
