/-
  GridRow of both packages.
-/
import Derived.Test.YtohjjhoobikioaaDoorRowText
import Derived.Test.YtohjjhoobikioaaDoorGOkS
import Derived.Test.YtohjjhoobikioaaDoorRow
namespace Go.Proofs.YtohjjhoobikioaaDoor
open Go.RowKit

/-- x[lo:hi]: an arm of the walk -/
theorem wp_cutLH {ops : Array Oper} {rest : List Oper} {d : Option Tmp} {ty : TypeId} {pos : String} {af : Array Edge} {a : Act} {Q : Exit → Act → World → Prop} {w : World} {x lo hi : Operand}
    {A : Option Addr} {n c k m : Nat} (hx : a.eval x = .slice A n c) (hl : a.eval lo = .int .i64 k) (hh : a.eval hi = .int .i64 m) (hkm : k ≤ m) (hm : m ≤ c)
    (h : wpList Tryd.prog ops Q rest (a.put d (.slice (subA A c k) (m - k) (c - k))) w) :
    wpList Tryd.prog ops Q (⟨d, Op.slice 22 x (some lo) (some hi) none, ty, pos, af, none⟩ :: rest) a w := by
  refine wpList_plain rfl fun K hK => ?_
  have e := run_slice_lh (P := Tryd.prog) w 22 A n c elem_ints .i64 .i64 (k : Int) (m : Int) (by omega) (by omega) (by omega)
  have e1 : Tryd.prog.elem 22 = 3 := by kernel_rfl
  rw [e1, size_int] at e
  unfold Oper.wp execOp
  simp [hx, hl, hh, run_sliceAt_slice w _ _ _ _ _ elem_ints, e, sliced, Oper.upon, Result.andThen]
  exact hK _ _ (by simpa [subA] using h)


end Go.Proofs.YtohjjhoobikioaaDoor
