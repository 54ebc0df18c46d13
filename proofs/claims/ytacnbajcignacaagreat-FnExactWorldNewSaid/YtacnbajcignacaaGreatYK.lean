/-
  The evaluator in use: loops, numbers, lists of numbers.
-/
import Derived.Test.YtacnbajcignacaaGreatTy
namespace Go.Proofs.YtacnbajcignacaaGreat
open Go.RowKit

/-! ### loops -/
/-- the rounds from s on -/
noncomputable def nextV (f : Q → Option (Ex × Q)) : Option (Ex × Q) → Option (Ex × Q)
  | some (.normal, s) => loopV f s
  | some (.exit i, s) => some (.exit i, s)
  | some (.ret, s) => some (.ret, s)
  | none => none
section
variable (f : Q → Option (Ex × Q)) (s : Q)
@[simp ↓, go_sem ↓] theorem nextV_normal : nextV f (some (.normal, s)) = loopV f s := id rfl
@[simp ↓, go_sem ↓] theorem nextV_exit (i : Nat) : nextV f (some (.exit i, s)) = some (.exit i, s) := id rfl
@[simp ↓, go_sem ↓] theorem nextV_ret : nextV f (some (.ret, s)) = some (.ret, s) := id rfl
@[simp ↓, go_sem ↓] theorem nextV_none : nextV f none = none := id rfl
end
@[congr] theorem nextV_congr {r r' : Option (Ex × Q)} (f : Q → Option (Ex × Q)) (h : r = r') : nextV f r = nextV f r' := by rw [h]
theorem loopV_none {f : Q → Option (Ex × Q)} {s : Q} (h : ∀ n r, rounds f n s ≠ some r) : loopV f s = none := by
  unfold loopV
  exact dif_neg fun ⟨n, r, e⟩ => h n r e
theorem loopV_unf (f : Q → Option (Ex × Q)) (s : Q) : loopV f s = nextV f (f s) := by
  cases hl : loopV f s with
  | some r =>
    obtain ⟨n, hn⟩ := loopV_some hl
    cases n with
    | zero => cases hn
    | succ n =>
      unfold rounds at hn
      split at hn
      · rename_i s' e; rw [e, nextV_normal]; exact (loopV_of hn).symm
      · rw [hn]
        obtain ⟨e, q⟩ := r
        cases e
        · exact absurd hn (by rename_i h; exact h _)
        · rfl
        · rfl
  | none =>
    cases e : f s with
    | none => rfl
    | some r =>
      obtain ⟨ex, q⟩ := r
      cases ex with
      | normal =>
        rw [nextV_normal]
        cases h2 : loopV f q with
        | none => rfl
        | some r2 =>
          obtain ⟨n, hn⟩ := loopV_some h2
          have : rounds f (n + 1) s = some r2 := by unfold rounds; rw [e]; exact hn
          rw [loopV_of this] at hl; cases hl
      | exit i =>
        have : rounds f 1 s = some (.exit i, q) := by unfold rounds; rw [e]
        rw [loopV_of this] at hl; cases hl
      | ret =>
        have : rounds f 1 s = some (.ret, q) := by unfold rounds; rw [e]
        rw [loopV_of this] at hl; cases hl
/-- n rounds -/
theorem loopV_go {f : Q → Option (Ex × Q)} {s : Q} (st : Nat → Q) (n : Nat) (h0 : s = st 0) (hs : ∀ j, j < n → f (st j) = some (.normal, st (j + 1))) : loopV f s = nextV f (f (st n)) := by
  rw [h0, ← loopV_unf]
  have : ∀ k, k ≤ n → loopV f (st 0) = loopV f (st k) := by
    intro k; induction k with
    | zero => intro _; rfl
    | succ k ih =>
      intro h
      rw [ih (by omega), loopV_unf, hs k (by omega), nextV_normal]
  exact this n (Nat.le_refl _)
/-! ### numbers -/
theorem w64 (n : Int) (h : -9223372036854775808 ≤ n ∧ n ≤ 9223372036854775807) : IntKind.i64.wrap n = n := IntWalk.i64_in n h
theorem w64' {n : Int} (h1 : -9223372036854775808 ≤ n) (h2 : n ≤ 9223372036854775807) : IntKind.i64.wrap n = n := IntWalk.i64_in n ⟨h1, h2⟩
/-- an int of 64 bits -/
def R64 (n : Int) : Prop := -9223372036854775808 ≤ n ∧ n ≤ 9223372036854775807
theorem R64.wrap {n : Int} (h : R64 n) : IntKind.i64.wrap n = n := IntWalk.i64_in n h
def inR (x a b : Int) : Bool := decide (a ≤ x) && decide (x ≤ b)
theorem inR_iff {x a b : Int} : inR x a b = true ↔ a ≤ x ∧ x ≤ b := by simp [inR]
theorem inR_of {x a b : Int} (h : inR x a b = true) : a ≤ x ∧ x ≤ b := inR_iff.1 h
theorem inR_no {x a b : Int} (h : ¬ (inR x a b = true)) : inR x a b = false := by simpa using h
end Go.Proofs.YtacnbajcignacaaGreat
