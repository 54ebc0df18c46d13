/-
  onlyBlanks, l28Tail: whether only blanks follow in the row.
-/
import Derived.Test.YtohjjhoobikioaaDoorInts
import Derived.Test.YtohjjhoobikioaaDoorGOps2
namespace Go.Proofs.YtohjjhoobikioaaDoor
open Go.RowKit

def blanks (l : List Int) : Bool := l.all fun r => r == 32
theorem blanks_no {l : List Int} {k : Nat} (hk : k < l.length) (h : l[k]?.getD 0 ≠ 32) : blanks l = false := by
  unfold blanks
  rw [List.all_eq_false]
  refine ⟨l[k], List.getElem_mem hk, ?_⟩
  rw [List.getElem?_eq_getElem hk] at h; simpa using h
theorem blanks_yes {l : List Int} (h : ∀ k, k < l.length → l[k]?.getD 0 = 32) : blanks l = true := by
  unfold blanks
  rw [List.all_eq_true]
  intro x hx
  obtain ⟨k, hk, rfl⟩ := List.getElem_of_mem hx
  have := h k hk
  rw [List.getElem?_eq_getElem hk] at this
  simpa using this

set_option maxHeartbeats 1000000 in
theorem impl_onlyBlanks (A : Option Addr) (n c : Nat) (l : List Int) (W : World) (h : RI W A n c l) :
    Calls Tryd.prog 103 #[.slice A n c] W fun e w' => e = .returned (.bool (blanks l)) ∧ W = w' := by
  have hn := h.nmax
  go_enter Tryd.func103, Tryd.ntmps103
  go_wp2_with fail
  go_loop [7] (fun vi => ∃ k : Nat, k ≤ n ∧ vi = .int .i64 k ∧ Hid (∀ i, i < k → l[i]?.getD 0 = 32)) (fun vi => n - (intOf vi).toNat)
  case atStart => exact ⟨0, by omega, rfl, (by show ∀ i, _; intro i hi; omega)⟩
  case round =>
    obtain ⟨k, hk, rfl, hp⟩ := hrel
    by_cases hlt : k < n
    · obtain ⟨b, o, rfl, hcell⟩ := h.at1 hlt
      by_cases hq : l[k]?.getD 0 = 32
      · have hqb : (l[k]?.getD 0 != 32) = false := by simp [hq]
        have HQ := Lib.hid hq; clear hq
        go_wp2_with fail
        go_round
        case rel =>
          refine ⟨k + 1, by omega, by go_num, ?_⟩
          show ∀ i, _
          intro i hi
          rcases Nat.lt_or_ge i k with h1 | h1
          · exact hp.out i h1
          · obtain rfl : i = k := by omega
            exact HQ.out
        case measure => simp [intOf]; omega
      · have hqb : (l[k]?.getD 0 != 32) = true := by simp [hq]
        have E := Lib.hid (blanks_no (by rw [h.len]; exact hlt) hq)
        clear hq
        go_wp2_with fail
        go_ret
        exact ⟨by rw [E.out]; rfl, rfl⟩
    · have E := Lib.hid (blanks_yes (l := l) (fun i hi => hp.out i (by rw [h.len] at hi; omega)))
      go_wp2_with fail
      go_ret
      exact ⟨by rw [E.out]; rfl, rfl⟩
end Go.Proofs.YtohjjhoobikioaaDoor
