/-
  A store into a block that is known whole: the world behind it is any world that has the new row there, all else as it was.
-/
import Derived.Test.YtohjjhoobikioaaDoorMem
import Derived.Laws.CopyRow
import Derived.WalkSpells
namespace Go.Proofs.YtohjjhoobikioaaDoor
open Go.RowKit

/-- what the walk reads of a block that is known whole -/
theorem rowAll {w : World} {g : Nat} {T : TypeId} {cs : Array Value} (h : w.heap[g]? = some (.cells cs T (0, 0))) : (∀ i, w.cell? ⟨g, i, none⟩ = cs[i]?) ∧ (∀ i, w.frozen? ⟨g, i, none⟩ = false) ∧ g < w.heap.size :=
  ⟨fun i => cell_of_row w g i cs T (0, 0) h, fun i => frozen_of_row w g i cs T h, (Array.getElem?_eq_some_iff.1 h).1⟩
theorem row_new (w : World) (o : Obj) : (w.alloc o).heap[w.heap.size]? = some o := heap_alloc_new w o
theorem row_ext {w w' : World} {g : Nat} {o : Obj} (h : w.heap[g]? = some o) (x : Ext w w') : w'.heap[g]? = some o := (Below.block x g (Array.getElem?_eq_some_iff.1 h).1).trans h
theorem row_grown {w w' : World} {g : Nat} {o : Obj} {row : Option Nat} (h : w.heap[g]? = some o) (x : w.grownBy w' row) (hne : some g ≠ row) : w'.heap[g]? = some o := (x.block g (Array.getElem?_eq_some_iff.1 h).1 hne).trans h
theorem row_alloc {w : World} {g : Nat} {o : Obj} (h : w.heap[g]? = some o) (o' : Obj) : (w.alloc o').heap[g]? = some o := row_ext h ((Ext.refl w).alloc o')
theorem Ext.row {W w w' : World} {g : Nat} (h : Ext W w) (x : w.grownBy w' (some g)) (hg : W.heap.size ≤ g) : Ext W w' := Below.grown h x h.size (fun k hk => by injection hk with hk; omega)

theorem wp_storeAt {ops : Array Oper} {rest : List Oper} {d : Option Tmp} {tp : TypeId} {pos : String} {af : Array Edge} {a : Act} {w : World} {Q : Exit → Act → World → Prop} {ty : TypeId} {x y : Operand}
    {g off : Nat} {v : Value} {E : TypeId} {old : Array Value} (new : Array Value) (hg : w.heap[g]? = some (.cells old E (0, 0))) (hx : a.eval x = .pointer (some ⟨g, off, none⟩)) (hy : a.eval y = v)
    (hi : (Tryd.prog.info? ty).map (·.size) = some v.cells.size) (h1 : v.cells.all (·.oneCell') = true) (hfit : off + v.cells.toList.length ≤ old.size)
    (hnew : (old.toList.take off ++ v.cells.toList ++ old.toList.drop (off + v.cells.toList.length)).toArray = new)
    (h : ∀ w', w'.heap[g]? = some (.cells new E (0, 0)) → w.grownBy w' (some g) → wpList Tryd.prog ops Q rest (a.put d undef) w') : wpList Tryd.prog ops Q (⟨d, Op.store ty x y, tp, pos, af, none⟩ :: rest) a w := by
  refine wpList_plain rfl fun K hK => ?_
  have hrun := run_storeCells_at (P := Tryd.prog) g off E v.cells.toList 0 old w hg (by simpa using hfit) (fun u hu => (Array.all_eq_true_iff_forall_mem.1 h1) u (by simpa using hu))
  have hst : (storeVar ty ⟨g, off, none⟩ v).run Tryd.prog w = .ok () (w.setRow g new) := by
    cases hq : Tryd.prog.info? ty with
    | none => simp [hq] at hi
    | some i =>
      have hs : v.cells.size = i.size := by simp [hq] at hi; omega
      simp only [Nat.add_zero] at hrun
      rw [hnew] at hrun
      simp [storeVar, sizeOf, typeInfo, hq, hs, hrun]
  unfold Oper.wp execOp
  simp only [hx, hy, Instr.storeAt, Instr.sureAddr, Sem.run_bind, Sem.run_pure, Result.andThen_ok, hst]
  refine hK _ _ (h _ (setRow_heap w g old new E _ hg) ⟨rfl, rfl, rfl, by simp, fun k _ hk => setRow_other w g k new (fun e => hk (by rw [e]))⟩)
end Go.Proofs.YtohjjhoobikioaaDoor
