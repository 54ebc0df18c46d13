/-
  Lists that are not too long, whatever lies in them.
-/
import Derived.Test.YtacnbajcignacaaYT
namespace Go.Proofs.Ytacnbajcignacaa
open Go.RowKit
mutual
def smD : D → Bool
  | .a _ => true
  | .l rows => decide (rows.length ≤ 1000000000) && smT rows
def smR : List D → Bool
  | [] => true
  | d :: r => smD d && smR r
def smT : List (List D) → Bool
  | [] => true
  | r :: rows => smR r && smT rows
end
def smL (rows : List (List D)) : Bool := decide (rows.length ≤ 1000000000) && smT rows
@[simp] theorem smD_a (v : Value) : smD (.a v) = true := id rfl
@[simp] theorem smD_l (rows : List (List D)) : smD (.l rows) = smL rows := id rfl
@[simp] theorem smR_nil : smR [] = true := id rfl
@[simp] theorem smR_cons (d : D) (r : List D) : smR (d :: r) = (smD d && smR r) := id rfl
@[simp] theorem smL_nil : smL [] = true := id rfl
theorem smL_len {rows : List (List D)} (h : smL rows = true) : rows.length ≤ 1000000000 := by
  unfold smL at h; rw [Bool.and_eq_true, decide_eq_true_eq] at h; exact h.1
theorem smT_at : ∀ {rows : List (List D)} {j : Nat} {r : List D}, smT rows = true → rows[j]? = some r → smR r = true
  | [], j, r, _, e => by simp at e
  | x :: rows, 0, r, h, e => by simp at e; subst e; unfold smT at h; rw [Bool.and_eq_true] at h; exact h.1
  | x :: rows, j + 1, r, h, e => by unfold smT at h; rw [Bool.and_eq_true] at h; exact smT_at h.2 (by simpa using e)
theorem smL_at {rows : List (List D)} {j : Nat} {r : List D} (h : smL rows = true) (e : rows[j]? = some r) : smR r = true := by
  unfold smL at h; rw [Bool.and_eq_true] at h; exact smT_at h.2 e
end Go.Proofs.Ytacnbajcignacaa
