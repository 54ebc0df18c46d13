/-
  spec.EventText: bytes and other kinds.
-/
import Derived.Test.YtohjjhoobikioaaDoorEv8
namespace Go.Proofs.YtohjjhoobikioaaDoor
open Go.RowKit

set_option maxRecDepth 100000 in
set_option maxHeartbeats 2000000 in
theorem spec_EventText_none (kind a b : Int) (A : Option Addr) (n c : Nat) (l : List Int) (w : World) (h1 : kind ≠ 1) (h2 : kind ≠ 2) (h3 : kind ≠ 3) (h4 : kind ≠ 4) (h5 : kind ≠ 5) (h6 : kind ≠ 6) (h7 : kind ≠ 7) :
    Calls Tryd.prog 14 #[.agg #[.int .i64 kind, .int .i64 a, .int .i64 b, .slice A n c]] w fun e w' => e = .returned (.string ⟨(eventText kind a b l).toArray⟩) ∧ Ext w w' := by
  have S := (St.refl w).alloc #[.int .i64 kind, .int .i64 a, .int .i64 b, .slice A n c] 27
  have E : Hid (eventText kind a b l = []) := by
    show _ = _
    unfold eventText
    simp [h1, h2, h3, h4, h5, h6, h7]
  have b1 : (kind == 1) = false := by simpa using h1
  have b2 : (kind == 2) = false := by simpa using h2
  have b3 : (kind == 3) = false := by simpa using h3
  have b4 : (kind == 4) = false := by simpa using h4
  have b5 : (kind == 5) = false := by simpa using h5
  have b6 : (kind == 6) = false := by simpa using h6
  have b7 : (kind == 7) = false := by simpa using h7
  have c6 : (kind != 6) = true := by simpa using h6
  have c3 : (kind != 3) = true := by simpa using h3
  clear h1 h2 h3 h4 h5 h6 h7
  by_cases hn : 0 < n
  · go_enter Tryd.func14, Tryd.ntmps14
    go_wp2_with fail
    go_ret
    exact ⟨by rw [E.out]; rfl, S.ext⟩
  obtain rfl : n = 0 := by omega
  rcases Bool.eq_false_or_eq_true (b != 0) with hb | hb <;> rcases Bool.eq_false_or_eq_true (a != 0) with ha | ha
  all_goals
    go_enter Tryd.func14, Tryd.ntmps14
    go_wp2_with fail
    go_ret
    exact ⟨by rw [E.out]; rfl, S.ext⟩
end Go.Proofs.YtohjjhoobikioaaDoor
