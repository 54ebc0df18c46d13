/-
  The reference's EmitGoto, l10Shorter, EmitStep.
-/
import Derived.Test.YtohjjhoobikioaaDoorEmit
import Derived.Test.YtohjjhoobikioaaDoorGOkS
import Derived.Test.YtohjjhoobikioaaDoorSep2
namespace Go.Proofs.YtohjjhoobikioaaDoor
open Go.RowKit

set_option maxRecDepth 100000 in
set_option maxHeartbeats 1500000 in
theorem spec_EmitGoto (x y : Int) (w : World) (hx0 : 0 ≤ x) (hx1 : x < 200) (hy0 : 0 ≤ y) (hy1 : y < 200) :
    Calls Tryd.prog 113 #[.int .i64 x, .int .i64 y] w fun e w' => ∃ A n c, e = .returned (.slice A n c) ∧ RB w' A n c (emitGoto x y) ∧ Ext w w' := by
  have h1 := numText_len (x + 1); have h2 := numText_len (y + 1)
  have E : Hid (emitGoto x y = [27, 91] ++ (numText (y + 1) ++ [59] ++ numText (x + 1) ++ [72])) := rfl
  have K1 := Lib.hid (fun w => spec_NumText (y + 1) w)
  have K2 := Lib.hid (fun w => spec_NumText (x + 1) w)
  generalize numText (y + 1) = s1 at *
  generalize numText (x + 1) = s2 at *
  go_enter Tryd.func113, Tryd.ntmps113
  go_wp2_with fail
  refine Calls.mono (K1.out _) ?_; rintro e w1 ⟨rfl, x1⟩
  go_wp2_with (first
    | ((with_reducible refine wp_addS (y := .tmp 21) (l := [27, 91]) (m := s1) ?_ ?_ ?_ ?_); exact rfl; exact rfl; go_must (simp; omega))
    | ((with_reducible refine wp_addS (x := .tmp 22) (l := [27, 91] ++ s1) (m := [59]) ?_ ?_ ?_ ?_); exact rfl; exact rfl; go_must (simp; omega)))
  refine Calls.mono (K2.out _) ?_; rintro e w2 ⟨rfl, x2⟩
  go_wp2_with (first
    | ((with_reducible refine wp_addS (x := .tmp 23) (y := .tmp 26) (l := [27, 91] ++ s1 ++ [59]) (m := s2) ?_ ?_ ?_ ?_); exact rfl; exact rfl; go_must (simp; omega))
    | ((with_reducible refine wp_addS (x := .tmp 27) (l := [27, 91] ++ s1 ++ [59] ++ s2) (m := [72]) ?_ ?_ ?_ ?_); exact rfl; exact rfl; go_must (simp; omega))
    | ((with_reducible refine wp_toBytes (l := [27, 91] ++ s1 ++ [59] ++ s2 ++ [72]) ?_ ?_ ?_); go_must (exact rfl); go_must (simp; omega)))
  intro A3 c3 w3 r3 x3
  go_wp2_with fail
  go_ret
  exact ⟨_, _, _, rfl, by rw [E.out]; simpa using r3, (x1.trans x2).trans x3⟩

theorem spec_l10Shorter (ok : Bool) (A : Option Addr) (n c : Nat) (l : List UInt8) (A' : Option Addr) (n' c' : Nat) (l' : List UInt8) (w : World) (h : RB w A n c l) (h' : RB w A' n' c' l') :
    Calls Tryd.prog 114 #[.slice A n c, .bool ok, .slice A' n' c'] w fun e w' => ∃ A2 n2 c2, e = .returned (.slice A2 n2 c2) ∧ RB w' A2 n2 c2 (better ok l l') ∧ w = w' := by
  have h1 := h.nmax; have h2 := h'.nmax
  have hl := Lib.hid h.len; have hl' := Lib.hid h'.len
  cases ok
  · have E := Lib.hid (better_no l l')
    go_enter Tryd.func114, Tryd.ntmps114
    go_wp2_with fail
    go_ret
    exact ⟨A', n', c', rfl, by rw [E.out]; exact h', rfl⟩
  by_cases hle : n ≤ n'
  · have E : Hid (better true l l' = l) := by show _ = _; unfold better; rw [if_pos ⟨rfl, by rw [hl.out, hl'.out]; exact hle⟩]
    go_enter Tryd.func114, Tryd.ntmps114
    go_wp2_with fail
    go_ret
    exact ⟨A, n, c, rfl, by rw [E.out]; exact h, rfl⟩
  · have E : Hid (better true l l' = l') := by show _ = _; unfold better; rw [if_neg (by rintro ⟨_, h⟩; rw [hl.out, hl'.out] at h; exact hle h)]
    go_enter Tryd.func114, Tryd.ntmps114
    go_wp2_with fail
    go_ret
    exact ⟨A', n', c', rfl, by rw [E.out]; exact h', rfl⟩
end Go.Proofs.YtohjjhoobikioaaDoor
