/-
  FnExactFlow: the law's walk.
-/
import Derived.Test.YthmclngeboiikaaFlow
import Derived.Test.YthmclngeboiikaaHelp
namespace Go.Proofs.Ythmclngeboiikaa
open Go.RowKit

set_option maxHeartbeats 1000000 in
theorem law_FnExactFlow (A : Option Addr) (n c : Nat) (t : List Int) (w x y : Int) (W : World) (ht : RI W A n c t) (_ : -9223372036854775808 ≤ w ∧ w ≤ 9223372036854775807) (_ : -9223372036854775808 ≤ x ∧ x ≤ 9223372036854775807) (_ : -9223372036854775808 ≤ y ∧ y ≤ 9223372036854775807) :
    Calls Try.prog 4 #[.slice A n c, .int .i64 w, .int .i64 x, .int .i64 y] W fun e w' => e = .returned (.bool true) ∧ Ext W w' := by
  have hn := ht.nmax
  by_cases hbig : 1048576 < n
  · go_enter Try.func4, Try.ntmps4
    go_wp2_with fail
    go_ret
    exact ⟨rfl, Ext.refl _⟩
  have hlen := Lib.hid ht.len
  go_enter Try.func4, Try.ntmps4
  go_wp2_with fail
  refine (laws_toIntS A n c t _ ht (by omega)).mono ?_; rintro e w1 ⟨v1, rfl, own1, x1⟩
  obtain ⟨A1, c1, rfl, r1⟩ := own1.form
  go_wp2_with fail
  refine (spec_Flow A1 _ c1 t _ _ _ _ r1).mono ?_; rintro e w2 ⟨rfl, x2⟩
  go_wp2_with fail
  refine (laws_toIntS A n c t _ (ht.ext (x1.trans x2)) (by omega)).mono ?_; rintro e w3 ⟨vx, rfl, ownx, x3⟩
  obtain ⟨Ax, cx, rfl, rx⟩ := ownx.form
  go_wp2_with fail
  refine (impl_Flow Ax _ cx t _ _ _ _ rx).mono ?_; rintro e w4 ⟨rfl, x4⟩
  have X4 := x1.trans (x2.trans (x3.trans x4))
  go_wp2_with fail
  refine (laws_toIntS A n c t _ (ht.ext X4) (by omega)).mono ?_; rintro e w5 ⟨v6, rfl, own6, x5⟩
  obtain ⟨A6, c6, rfl, r6⟩ := own6.form
  go_wp2_with fail
  refine (laws_eqIntS Ax _ cx _ A6 _ c6 _ _ (rx.ext (x4.trans x5)) r6).mono ?_; rintro e w6 ⟨rfl, x6⟩
  go_wp2_with fail
  go_ret
  exact ⟨rfl, X4.trans (x5.trans x6)⟩
end Go.Proofs.Ythmclngeboiikaa
