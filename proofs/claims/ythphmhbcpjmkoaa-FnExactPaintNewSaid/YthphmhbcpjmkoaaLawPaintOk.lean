/-
  FnExactPaintOk: the law's walk.
-/
import Derived.Test.YthphmhbcpjmkoaaPOk
import Derived.Test.YthphmhbcpjmkoaaGBox
namespace Go.Proofs.Ythphmhbcpjmkoaa
open Go.RowKit

abbrev PBox (w : World) (b : Nat) (PW PH : Int) (K : Bool) (W H : Int) (v : Value) (X Y : Int) (R : Bool) : Prop :=
  w.cell? ⟨b, 0, none⟩ = some (.int .i64 PW) ∧ w.cell? ⟨b, 1, none⟩ = some (.int .i64 PH) ∧ w.cell? ⟨b, 2, none⟩ = some (.bool K) ∧ w.cell? ⟨b, 3, none⟩ = some (.int .i64 W) ∧ w.cell? ⟨b, 4, none⟩ = some (.int .i64 H) ∧ w.cell? ⟨b, 5, none⟩ = some v ∧ w.cell? ⟨b, 6, none⟩ = some (.int .i64 X) ∧ w.cell? ⟨b, 7, none⟩ = some (.int .i64 Y) ∧ w.cell? ⟨b, 8, none⟩ = some (.bool R)
theorem PBox.ext {w w' : World} {b : Nat} {PW PH W H X Y : Int} {K R : Bool} {v : Value} (h : PBox w b PW PH K W H v X Y R) (x : Ext w w') : PBox w' b PW PH K W H v X Y R :=
  ⟨x.cell h.1, x.cell h.2.1, x.cell h.2.2.1, x.cell h.2.2.2.1, x.cell h.2.2.2.2.1, x.cell h.2.2.2.2.2.1, x.cell h.2.2.2.2.2.2.1, x.cell h.2.2.2.2.2.2.2.1, x.cell h.2.2.2.2.2.2.2.2⟩
theorem PBox.made (w : World) (PW PH : Int) (K : Bool) (W H : Int) (v : Value) (X Y : Int) (R : Bool) (T : TypeId) : PBox (w.alloc (.cells #[.int .i64 PW, .int .i64 PH, .bool K, .int .i64 W, .int .i64 H, v, .int .i64 X, .int .i64 Y, .bool R] T)) w.heap.size PW PH K W H v X Y R := by
  refine ⟨?_, ?_, ?_, ?_, ?_, ?_, ?_, ?_, ?_⟩ <;> (rw [cell_of_row _ w.heap.size _ _ _ (0, 0) (heap_alloc_new w _)]; rfl)
theorem keepP2 {wb w' w1 : World} {b b' : Nat} {PW PH W H X Y PW' PH' W' H' X' Y' : Int} {K R K' R' : Bool} {v v' : Value} (h : PBox w' b PW PH K W H v X Y R ∧ PBox w' b' PW' PH' K' W' H' v' X' Y' R' ∧ Ext wb w') (x : Ext w' w1) : PBox w1 b PW PH K W H v X Y R ∧ PBox w1 b' PW' PH' K' W' H' v' X' Y' R' ∧ Ext wb w1 :=
  ⟨h.1.ext x, h.2.1.ext x, h.2.2.trans x⟩

set_option maxRecDepth 100000 in
set_option maxHeartbeats 2000000 in
theorem law_FnExactPaintOk (PW PH W H X Y : Int) (K R : Bool) (C : List Int) (A : Option Addr) (n c : Nat) (w : World) (hC : RI w A n c C) :
    Calls Try.prog 4 #[.agg #[.int .i64 PW, .int .i64 PH, .bool K, .int .i64 W, .int .i64 H, .slice A n c, .int .i64 X, .int .i64 Y, .bool R]] w fun e w' => e = .returned (.bool true) ∧ Ext w w' := by
  have hn := hC.nmax
  have X0 := (Ext.refl w).alloc (.cells #[.int .i64 PW, .int .i64 PH, .bool K, .int .i64 W, .int .i64 H, .slice A n c, .int .i64 X, .int .i64 Y, .bool R] 32)
  have bA0 := PBox.made w PW PH K W H (.slice A n c) X Y R 32
  have HA0 := Lib.hid bA0; clear bA0
  go_enter Try.func4, Try.ntmps4
  go_wp2_with fail
  refine (laws_szPaint PW PH W H X Y K R A n c 1048576 _ (by omega) (by omega) hn).mono ?_; rintro e w1 ⟨rfl, x1⟩
  rcases szN_cases 1048576 n with ⟨h1, e1⟩ | ⟨h1, e1⟩ <;> rw [e1] <;> clear e1
  · go_wp2_with fail
    go_ret
    exact ⟨rfl, X0.trans x1⟩
  have X1 := X0.trans x1
  obtain ⟨q0, q1, q2, q3, q4, q5, q6, q7, q8⟩ := HA0.out.ext x1
  go_wp2_with fail
  refine (laws_toPaint PW PH W H X Y K R C A n c _ (hC.ext X1) (by omega)).mono ?_; rintro e w2 ⟨v2, rfl, own2, x2⟩; obtain ⟨A2, c2, rfl, r2⟩ := own2.form
  clear q0 q1 q2 q3 q4 q5 q6 q7 q8 own2
  go_wp2_with fail
  refine (spec_PaintOk PW PH W H X Y K R C A2 _ c2 _ r2).mono ?_; rintro e w3 ⟨rfl, x3⟩
  have x13 := (x1.trans (x2.trans x3))
  have X3 := X0.trans x13
  obtain ⟨q0, q1, q2, q3, q4, q5, q6, q7, q8⟩ := HA0.out.ext x13
  go_wp2_with fail
  refine (laws_toPaint PW PH W H X Y K R C A n c _ (hC.ext X3) (by omega)).mono ?_; rintro e w4 ⟨v4, rfl, own4, x4⟩; obtain ⟨A4, c4, rfl, r4⟩ := own4.form
  clear q0 q1 q2 q3 q4 q5 q6 q7 q8 own4
  have bX4 := PBox.made w4 PW PH K W H (.slice A4 C.length c4) X Y R 36
  have a4 := (Ext.refl w4).alloc (.cells #[.int .i64 PW, .int .i64 PH, .bool K, .int .i64 W, .int .i64 H, .slice A4 C.length c4, .int .i64 X, .int .i64 Y, .bool R] 36)
  go_wp2_with fail
  refine (impl_PaintOk PW PH W H X Y K R C A4 _ c4 _ (r4.ext a4)).mono ?_; rintro e w5 ⟨rfl, x5⟩
  have x45 := a4.trans x5
  have x15 := x13.trans (x4.trans x45)
  have X5 := X0.trans x15
  have HA5 := Lib.hid (HA0.out.ext x15)
  have HX5 := Lib.hid (bX4.ext x5)
  have r45 := r4.ext x45
  clear bX4 a4 x5 x45 x4 x13 x1 x2 x3 HA0 X3 X1 X0 x15
  go_wp2_with fail
  go_region_held3 (fun w' => PBox w' w4.heap.size PW PH K W H (.slice A4 C.length c4) X Y R ∧ PBox w' w.heap.size PW PH K W H (.slice A n c) X Y R ∧ Ext w5 w')
    ((first | exact ⟨HX5.out.ext (Ext.refl _).drew, HA5.out.ext (Ext.refl _).drew, (Ext.refl _).drew⟩ | exact ⟨HX5.out.ext ((Ext.refl _).drewN _), HA5.out.ext ((Ext.refl _).drewN _), (Ext.refl _).drewN _⟩ | (refine keepP2 ?_ (by assumption); assumption)))
    (first
      | (go_at_call 14; (refine (laws_toPaint PW PH W H X Y K R C A n c _ (hC.ext (X5.trans (And.right (And.right (by assumption))))) (by omega)).mono ?_); rintro e w6 ⟨v6, rfl, own6, x6⟩; obtain ⟨A6, c6, rfl, r6⟩ := own6.form)
      | (go_at_call 16; (refine (laws_eqPaint PW PH W H X Y K R C A4 A6 _ c4 _ c6 _ (r45.ext (And.right (And.right (by assumption)))) r6).mono ?_); rintro e w7 ⟨rfl, x7⟩))
  have hS : PBox w7 w4.heap.size PW PH K W H (.slice A4 C.length c4) X Y R ∧ PBox w7 w.heap.size PW PH K W H (.slice A n c) X Y R ∧ Ext w5 w7 := by assumption
  have X7 := X5.trans hS.2.2
  clear hS
  go_wp2_with fail
  go_ret
  exact ⟨rfl, X7⟩
end Go.Proofs.Ythphmhbcpjmkoaa
