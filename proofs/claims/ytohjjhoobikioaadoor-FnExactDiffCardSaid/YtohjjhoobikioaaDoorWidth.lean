/-
  Width of both packages.
-/
import Derived.Test.YtohjjhoobikioaaDoorLeaf
namespace Go.Proofs.YtohjjhoobikioaaDoor
open Go.RowKit


set_option maxHeartbeats 1000000 in
theorem impl_Width (r : Int) (w : World) : Calls Tryd.prog 107 #[.int .i64 r] w fun e w' => e = .returned (.int .i64 (width r)) ∧ Ext w w' := by
  cases h1 : printable r
  · go_enter Tryd.func107, Tryd.ntmps107
    go_wp2_with (go_at_call 130; refine (impl_Printable _ _).mono ?_; rintro e w' ⟨rfl, rfl⟩)
    go_ret
    exact ⟨ret_i (by simp [width, h1]), Ext.refl _⟩
  · go_enter Tryd.func107, Tryd.ntmps107
    go_wp2_with (go_at_call 130; refine (impl_Printable _ _).mono ?_; rintro e w' ⟨rfl, rfl⟩)
    refine wp_loop_rounds 9 ?_
    repeat any_goals (rw [rounds_succ]; go_wp2_with (go_at_call 97; refine (impl_in _ _ _ _).mono ?_; rintro e w' ⟨rfl, rfl⟩))
    all_goals
      go_ret
      exact ⟨ret_i (by simp [width, wide, *]), by unfold Ext; go_grown⟩

theorem spec_l02Wide (w : World) : Calls Tryd.prog 118 #[] w fun e w' => e = .returned (.slice (some ⟨w.heap.size, 0, none⟩) 16 16) ∧
    w' = w.alloc (.cells #[.int .i64 4352, .int .i64 4447, .int .i64 11904, .int .i64 42191, .int .i64 44032, .int .i64 55203, .int .i64 63744, .int .i64 64255, .int .i64 65280, .int .i64 65376, .int .i64 65504, .int .i64 65510, .int .i64 127744, .int .i64 129791, .int .i64 131072, .int .i64 262141] 3) := by
  go_enter Tryd.func118, Tryd.ntmps118
  go_wp2
  go_ret
  exact ⟨rfl, rfl⟩

set_option maxHeartbeats 1000000 in
theorem spec_Width (r : Int) (w : World) : Calls Tryd.prog 78 #[.int .i64 r] w fun e w' => e = .returned (.int .i64 (width r)) ∧ Ext w w' := by
  cases h1 : printable r
  · go_enter Tryd.func78, Tryd.ntmps78
    go_wp2_with (go_at_call 117; refine (spec_Printable _ _).mono ?_; rintro e w' ⟨rfl, rfl⟩)
    go_ret
    exact ⟨ret_i (by simp [width, h1]), Ext.refl _⟩
  · go_enter Tryd.func78, Tryd.ntmps78
    go_wp2_with (first | (go_at_call 117; refine (spec_Printable _ _).mono ?_; rintro e w' ⟨rfl, rfl⟩) | (go_at_call 118; refine (spec_l02Wide _).mono ?_; rintro e w' ⟨rfl, rfl⟩))
    refine wp_loop_rounds 9 ?_
    repeat any_goals (rw [rounds_succ]; go_wp2_with fail)
    all_goals
      go_ret
      exact ⟨ret_i (by simp [width, wide, inB, *] <;> omega), by unfold Ext; go_grown⟩
end Go.Proofs.YtohjjhoobikioaaDoor
