/-
  A painter in a variable of its own: its nine cells.
-/
import Derived.Test.YtohjjhoobikioaaDoorPOk
import Derived.Test.YtohjjhoobikioaaDoorLawKit
namespace Go.Proofs.YtohjjhoobikioaaDoor
open Go.RowKit

abbrev PBox (w : World) (b : Nat) (PW PH : Int) (K : Bool) (W H : Int) (v : Value) (X Y : Int) (R : Bool) : Prop :=
  w.cell? ⟨b, 0, none⟩ = some (.int .i64 PW) ∧ w.cell? ⟨b, 1, none⟩ = some (.int .i64 PH) ∧ w.cell? ⟨b, 2, none⟩ = some (.bool K) ∧ w.cell? ⟨b, 3, none⟩ = some (.int .i64 W) ∧ w.cell? ⟨b, 4, none⟩ = some (.int .i64 H) ∧ w.cell? ⟨b, 5, none⟩ = some v ∧ w.cell? ⟨b, 6, none⟩ = some (.int .i64 X) ∧ w.cell? ⟨b, 7, none⟩ = some (.int .i64 Y) ∧ w.cell? ⟨b, 8, none⟩ = some (.bool R)
theorem PBox.ext {w w' : World} {b : Nat} {PW PH W H X Y : Int} {K R : Bool} {v : Value} (h : PBox w b PW PH K W H v X Y R) (x : Ext w w') : PBox w' b PW PH K W H v X Y R :=
  ⟨x.cell h.1, x.cell h.2.1, x.cell h.2.2.1, x.cell h.2.2.2.1, x.cell h.2.2.2.2.1, x.cell h.2.2.2.2.2.1, x.cell h.2.2.2.2.2.2.1, x.cell h.2.2.2.2.2.2.2.1, x.cell h.2.2.2.2.2.2.2.2⟩
theorem PBox.made (w : World) (PW PH : Int) (K : Bool) (W H : Int) (v : Value) (X Y : Int) (R : Bool) (T : TypeId) : PBox (w.alloc (.cells #[.int .i64 PW, .int .i64 PH, .bool K, .int .i64 W, .int .i64 H, v, .int .i64 X, .int .i64 Y, .bool R] T)) w.heap.size PW PH K W H v X Y R := by
  refine ⟨?_, ?_, ?_, ?_, ?_, ?_, ?_, ?_, ?_⟩ <;> (rw [cell_of_row _ w.heap.size _ _ _ (0, 0) (heap_alloc_new w _)]; rfl)
theorem keepP2 {wb w' w1 : World} {b b' : Nat} {PW PH W H X Y PW' PH' W' H' X' Y' : Int} {K R K' R' : Bool} {v v' : Value} (h : PBox w' b PW PH K W H v X Y R ∧ PBox w' b' PW' PH' K' W' H' v' X' Y' R' ∧ Ext wb w') (x : Ext w' w1) : PBox w1 b PW PH K W H v X Y R ∧ PBox w1 b' PW' PH' K' W' H' v' X' Y' R' ∧ Ext wb w1 :=
  ⟨h.1.ext x, h.2.1.ext x, h.2.2.trans x⟩

end Go.Proofs.YtohjjhoobikioaaDoor
