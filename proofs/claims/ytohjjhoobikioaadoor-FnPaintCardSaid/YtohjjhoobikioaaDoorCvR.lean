/-
  A drawn region that loads whole blocks beside calls.
-/
import Derived.Test.YtohjjhoobikioaaDoorBase
import Derived.Deep.RegionHeld3
namespace Go.Proofs.YtohjjhoobikioaaDoor
open Go.RowKit

theorem yieldsIf_row {ops : Array Oper} {S : World → Prop} {op : Oper} {a : Act} (hw : Region.wanted op (yielded ops a.tmps) = true) (ty : TypeId) (x : Operand) (ho : op.op = .load ty x)
    (g : Nat) (hx : a.eval x = .pointer (some ⟨g, 0, none⟩)) (t : TypeId) (cs : Array Value) (d : TypeDesc) (hS : ∀ w, S w → w.heap[g]? = some (.cells cs t (0, 0)))
    (hu : Tryd.prog.underlying ty = some d) (hd : d.isRow = true) (hi : (Tryd.prog.info? ty).map (·.size) = some cs.size) : YieldsIf Tryd.prog ops S op (.agg cs) a :=
  .inl ⟨hw, fun w hw' => by
    unfold execOp
    simp only [ho, hx, Instr.loadAt, Instr.sureAddr, Sem.run_bind, Sem.run_pure, Result.andThen_ok, run_loadVar_row w g t ty cs (0, 0) d (hS w hw') hu (by cases d <;> simp_all [TypeDesc.isRow]) hi]⟩
end Go.Proofs.YtohjjhoobikioaaDoor
