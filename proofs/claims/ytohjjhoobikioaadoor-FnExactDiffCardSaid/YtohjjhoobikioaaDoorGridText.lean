/-
  GridText, plainly; spec.GridText.
-/
import Derived.Test.YtohjjhoobikioaaDoorGridRow
import Derived.ShutString
import Derived.Laws.Concat
namespace Go.Proofs.YtohjjhoobikioaaDoor
open Go.RowKit

/-- s + t on strings: an arm of the walk -/
theorem wp_addS {ops : Array Oper} {rest : List Oper} {d : Option Tmp} {t1 t2 ty : TypeId} {pos : String} {af : Array Edge} {a : Act} {Q : Exit → Act → World → Prop} {w : World} {x y : Operand}
    {l m : List UInt8} (hx : a.eval x = .string ⟨l.toArray⟩) (hy : a.eval y = .string ⟨m.toArray⟩) (hlen : l.length + m.length ≤ 9223372036854775807)
    (h : wpList Tryd.prog ops Q rest (a.put d (.string ⟨(l ++ m).toArray⟩)) w) :
    wpList Tryd.prog ops Q (⟨d, Op.binOp .add t1 x y t2, ty, pos, af, none⟩ :: rest) a w := by
  refine wpList_plain rfl fun K hK => ?_
  have e := run_string_add_sum (P := Tryd.prog) (w := w) ⟨l.toArray⟩ ⟨m.toArray⟩ (by rw [size_of_list, size_of_list]; exact hlen)
  have e2 : (⟨l.toArray⟩ ++ ⟨m.toArray⟩ : ByteArray) = ⟨(l ++ m).toArray⟩ := by
    apply ByteArray.ext; simp
  rw [e2] at e
  unfold Oper.wp execOp
  simp only [hx, hy]
  simp [go_sem, e]
  exact hK _ _ h

theorem cat_bytes (a b : Array UInt8) : (⟨a⟩ ++ ⟨b⟩ : ByteArray) = ⟨a ++ b⟩ := by apply ByteArray.ext; simp

/-- what is out and what waits after k rows -/
def gtS (g : Gr) : Nat → List UInt8 × List UInt8
  | 0 => ([], [])
  | k + 1 => if gridRow g k = [] then ((gtS g k).1, (gtS g k).2 ++ gridRow g k ++ [10]) else ((gtS g k).1 ++ ((gtS g k).2 ++ gridRow g k ++ [10]), [])
def gridText (g : Gr) : List UInt8 := if gridOk g = true then (gtS g g.H.toNat).1 else []
theorem gtS_none (g : Gr) (k : Nat) (h : gridRow g k = []) : gtS g (k + 1) = ((gtS g k).1, (gtS g k).2 ++ gridRow g k ++ [10]) := by
  show (if _ then _ else _) = _; rw [if_pos h]
theorem gtS_some (g : Gr) (k : Nat) (h : gridRow g k ≠ []) : gtS g (k + 1) = ((gtS g k).1 ++ ((gtS g k).2 ++ gridRow g k ++ [10]), []) := by
  show (if _ then _ else _) = _; rw [if_neg h]

theorem gridRow_len (g : Gr) (y : Int) : (gridRow g y).length ≤ 800 := by
  unfold gridRow
  split
  · rename_i h
    have h1 := textOf_len (trimR (rowOf g y))
    have h2 : (trimR (rowOf g y)).length ≤ (rowOf g y).length := by unfold trimR; rw [List.length_take]; omega
    have h3 : (rowOf g y).length ≤ g.W.toNat := by unfold rowOf; rw [List.length_take]; omega
    obtain ⟨⟨-, a2, -⟩, -, -⟩ := gridOk_iff.1 h.1
    omega
  · simp
theorem gtS_len (g : Gr) (k : Nat) : (gtS g k).1.length + (gtS g k).2.length ≤ 801 * k := by
  induction k with
  | zero => simp [gtS]
  | succ k ih =>
    have h := gridRow_len g k
    by_cases hs : gridRow g k = []
    · rw [gtS_none g k hs]; simp; omega
    · rw [gtS_some g k hs]; simp; omega

end Go.Proofs.YtohjjhoobikioaaDoor
