/-
  A grid in a variable of its own: its six cells; what is kept while the world grows.
-/
import Derived.Test.YtohjjhoobikioaaDoorGHelp
import Derived.Deep.RegionHeld3
namespace Go.Proofs.YtohjjhoobikioaaDoor
open Go.RowKit

abbrev GBox (w : World) (b : Nat) (W H : Int) (v : Value) (X Y : Int) (R : Bool) : Prop :=
  w.cell? ⟨b, 0, none⟩ = some (.int .i64 W) ∧ w.cell? ⟨b, 1, none⟩ = some (.int .i64 H) ∧ w.cell? ⟨b, 2, none⟩ = some v ∧ w.cell? ⟨b, 3, none⟩ = some (.int .i64 X) ∧ w.cell? ⟨b, 4, none⟩ = some (.int .i64 Y) ∧ w.cell? ⟨b, 5, none⟩ = some (.bool R)
theorem GBox.ext {w w' : World} {b : Nat} {W H X Y : Int} {R : Bool} {v : Value} (h : GBox w b W H v X Y R) (x : Ext w w') : GBox w' b W H v X Y R :=
  ⟨x.cell h.1, x.cell h.2.1, x.cell h.2.2.1, x.cell h.2.2.2.1, x.cell h.2.2.2.2.1, x.cell h.2.2.2.2.2⟩
theorem GBox.made (w : World) (W H : Int) (v : Value) (X Y : Int) (R : Bool) (T : TypeId) : GBox (w.alloc (.cells #[.int .i64 W, .int .i64 H, v, .int .i64 X, .int .i64 Y, .bool R] T)) w.heap.size W H v X Y R := by
  refine ⟨?_, ?_, ?_, ?_, ?_, ?_⟩ <;> (rw [cell_of_row _ w.heap.size _ _ _ (0, 0) (heap_alloc_new w _)]; rfl)
/-- two variables and a world that they are seen from -/
theorem keep2 {wb w' w1 : World} {b b' : Nat} {W H X Y W' H' X' Y' : Int} {R R' : Bool} {v v' : Value} (h : GBox w' b W H v X Y R ∧ GBox w' b' W' H' v' X' Y' R' ∧ Ext wb w') (x : Ext w' w1) : GBox w1 b W H v X Y R ∧ GBox w1 b' W' H' v' X' Y' R' ∧ Ext wb w1 :=
  ⟨h.1.ext x, h.2.1.ext x, h.2.2.trans x⟩
end Go.Proofs.YtohjjhoobikioaaDoor
