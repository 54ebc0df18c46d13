/-
  The contracts of the leaves: in, RuneOk, Printable, Width of both packages.
-/
import Derived.Test.YtohjjhoobikioaaDoorMem
namespace Go.Proofs.YtohjjhoobikioaaDoor
open Go.RowKit

theorem impl_in (n l h : Int) (w : World) : Calls Tryd.prog 97 #[.int .i64 n, .int .i64 l, .int .i64 h] w fun e w' => e = .returned (.bool (inB n l h)) ∧ w = w' := by
  by_cases h1 : l ≤ n
  · by_cases h2 : n ≤ h
    · have e1 : inB n l h = true := by simp [inB, h1, h2]
      rw [e1]
      go_enter Tryd.func97, Tryd.ntmps97
      go_wp2
      all_goals go_ret
      all_goals simp_all
    · have e1 : inB n l h = false := by simp [inB, h1, h2]
      rw [e1]
      go_enter Tryd.func97, Tryd.ntmps97
      go_wp2
      all_goals go_ret
      all_goals simp_all
  · have e1 : inB n l h = false := by simp [inB, h1]
    rw [e1]
    go_enter Tryd.func97, Tryd.ntmps97
    go_wp2
    all_goals go_ret
    all_goals simp_all

theorem impl_RuneOk (r : Int) (w : World) : Calls Tryd.prog 128 #[.int .i64 r] w fun e w' => e = .returned (.bool (runeOk r)) ∧ w = w' := by
  unfold runeOk
  cases h1 : inB r 0 1114111 <;> cases h2 : inB r 55296 57343
  all_goals
    go_enter Tryd.func128, Tryd.ntmps128
    go_wp2_with (go_at_call 97; refine (impl_in _ _ _ _).mono ?_; rintro e w' ⟨rfl, rfl⟩)
    go_ret
    exact ⟨rfl, rfl⟩

theorem impl_Printable (r : Int) (w : World) : Calls Tryd.prog 130 #[.int .i64 r] w fun e w' => e = .returned (.bool (printable r)) ∧ w = w' := by
  unfold printable
  cases h1 : runeOk r <;> cases h2 : inB r 127 159 <;> by_cases h3 : 32 ≤ r
  all_goals
    go_enter Tryd.func130, Tryd.ntmps130
    go_wp2_with (first | (go_at_call 97; refine (impl_in _ _ _ _).mono ?_; rintro e w' ⟨rfl, rfl⟩) | (go_at_call 128; refine (impl_RuneOk _ _).mono ?_; rintro e w' ⟨rfl, rfl⟩))
    go_ret
    exact ⟨by simp [h3], rfl⟩

theorem spec_RuneOk (r : Int) (w : World) : Calls Tryd.prog 115 #[.int .i64 r] w fun e w' => e = .returned (.bool (runeOk r)) ∧ w = w' := by
  by_cases h1 : 0 ≤ r <;> by_cases h2 : r ≤ 1114111 <;> by_cases h3 : r < 55296 <;> by_cases h4 : 57343 < r
  all_goals (try (exfalso; omega))
  all_goals
    have e1 : runeOk r = true ∨ runeOk r = false := by cases runeOk r <;> simp
    rcases e1 with e1 | e1 <;> rw [e1] <;> simp [runeOk, inB] at e1 <;> (try (exfalso; omega)) <;> clear e1
    go_enter Tryd.func115, Tryd.ntmps115
    go_wp2
    all_goals go_ret
    all_goals simp_all

theorem spec_Printable (r : Int) (w : World) : Calls Tryd.prog 117 #[.int .i64 r] w fun e w' => e = .returned (.bool (printable r)) ∧ w = w' := by
  cases h1 : runeOk r <;> by_cases h2 : 32 ≤ r <;> by_cases h3 : r < 127 <;> by_cases h4 : 159 < r
  all_goals (try (exfalso; omega))
  all_goals
    have e1 : printable r = true ∨ printable r = false := by cases printable r <;> simp
    rcases e1 with e1 | e1 <;> rw [e1] <;> simp [printable, inB, h1] at e1 <;> (try (exfalso; omega)) <;> (try clear e1)
    go_enter Tryd.func117, Tryd.ntmps117
    go_wp2_with (go_at_call 115; refine (spec_RuneOk _ _).mono ?_; rintro e w' ⟨rfl, rfl⟩)
    all_goals go_ret
    all_goals simp_all
end Go.Proofs.YtohjjhoobikioaaDoor
