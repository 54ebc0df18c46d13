/-
  Lists that are not too long, whatever lies in them.
-/
import Derived.Test.YtacnbajcignacaaGreatYT
namespace Go.Proofs.YtacnbajcignacaaGreat
open Go.RowKit
mutual
def smD : D → Bool
  | .a _ => true
  | .l rows => decide (rows.length ≤ 1000000000) && smT rows
def smR : List D → Bool
  | [] => true
  | d :: r => smD d && smR r
def smT : List (List D) → Bool
  | [] => true
  | r :: rows => smR r && smT rows
end
def smL (rows : List (List D)) : Bool := decide (rows.length ≤ 1000000000) && smT rows
@[simp] theorem smD_a (v : Value) : smD (.a v) = true := id rfl
@[simp] theorem smD_l (rows : List (List D)) : smD (.l rows) = smL rows := id rfl
@[simp] theorem smR_nil : smR [] = true := id rfl
@[simp] theorem smR_cons (d : D) (r : List D) : smR (d :: r) = (smD d && smR r) := id rfl
@[simp] theorem smL_nil : smL [] = true := id rfl
theorem smL_len {rows : List (List D)} (h : smL rows = true) : rows.length ≤ 1000000000 := by
  unfold smL at h; rw [Bool.and_eq_true, decide_eq_true_eq] at h; exact h.1
theorem smT_at : ∀ {rows : List (List D)} {j : Nat} {r : List D}, smT rows = true → rows[j]? = some r → smR r = true
  | [], j, r, _, e => by simp at e
  | x :: rows, 0, r, h, e => by simp at e; subst e; unfold smT at h; rw [Bool.and_eq_true] at h; exact h.1
  | x :: rows, j + 1, r, h, e => by unfold smT at h; rw [Bool.and_eq_true] at h; exact smT_at h.2 (by simpa using e)
theorem smL_at {rows : List (List D)} {j : Nat} {r : List D} (h : smL rows = true) (e : rows[j]? = some r) : smR r = true := by
  unfold smL at h; rw [Bool.and_eq_true] at h; exact smT_at h.2 e
theorem smT_flat : ∀ {rows : List (List D)}, rowsFlat rows = true → smT rows = true
  | [], _ => rfl
  | r :: rows, h => by
    have h : (r.all flatD && rowsFlat rows) = true := h
    rw [Bool.and_eq_true] at h
    have : ∀ l : List D, l.all flatD = true → smR l = true := by
      intro l; induction l with
      | nil => intro _; rfl
      | cons d l ih =>
        intro h
        rw [List.all_cons, Bool.and_eq_true] at h
        rw [smR_cons, ih h.2]
        cases d with
        | a v => rfl
        | l rows => cases h.1
    show (smR r && smT rows) = true
    rw [this r h.1, smT_flat h.2]; rfl
theorem smL_flat {rows : List (List D)} (h : rowsFlat rows = true) (hl : rows.length ≤ 1000000000) : smL rows = true := by
  unfold smL; rw [smT_flat h, decide_eq_true hl]; rfl
theorem smL_ints {l : List Int} (h : l.length ≤ 1000000000) : smL (ints l) = true := smL_flat (ints_flat l) (by simpa using h)
theorem smL_byts {l : List UInt8} (h : l.length ≤ 1000000000) : smL (byts l) = true := smL_flat (byts_flat l) (by simpa using h)
theorem smL_strs {l : List ByteArray} (h : l.length ≤ 1000000000) : smL (strs l) = true := smL_flat (strs_flat l) (by simpa using h)
end Go.Proofs.YtacnbajcignacaaGreat
