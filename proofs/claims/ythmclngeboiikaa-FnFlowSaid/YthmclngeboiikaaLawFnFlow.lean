/-
  FnFlow: the law's walk.
-/
import Derived.Test.YthmclngeboiikaaFlowLaw
import Derived.Test.YthmclngeboiikaaCur
import Derived.WalkSpells
namespace Go.Proofs.Ythmclngeboiikaa
open Go.RowKit

set_option maxRecDepth 100000 in
set_option maxHeartbeats 1000000 in
theorem law_FnFlow (A : Option Addr) (n c : Nat) (l : List UInt8) (W : World) (hr : RB W A n c l) :
    Calls Try.prog 5 #[.slice A n c] W fun e w' => e = .returned (.bool true) ∧ Ext W w' := by
  have hn := hr.nmax
  by_cases hbig : 1048576 < n
  · go_enter Try.func5, Try.ntmps5
    go_wp2_with fail
    go_ret
    exact ⟨rfl, Ext.refl _⟩
  go_enter Try.func5, Try.ntmps5
  go_wp2_with fail
  refine (spec_MakeRunes A n c l _ hr (by omega)).mono ?_; rintro e w1 ⟨v1, t, rfl, own1, hlen, hp, x1⟩
  have Hp := Lib.hid hp; clear hp
  obtain ⟨A1, c1, rfl, r1⟩ := own1.form
  obtain ⟨m, hm⟩ : ∃ m, m = t.length := ⟨_, rfl⟩
  rw [← hm] at r1 hlen ⊢
  have Hm := Lib.hid hm; clear hm
  go_wp2_with fail
  refine (spec_MakeNum A n c l 9 _ (hr.ext x1) (by omega) (by omega)).mono ?_; rintro e w2 ⟨x, rfl, hx0, hx1, x2⟩
  go_wp2_with fail
  have hmc := r1.cap
  have htl : t.length ≤ 900 := by rw [← Hm.out]; omega
  obtain ⟨q0, q1, q2, q3, q4, q5⟩ := flow_parts (w := 2 + x) (by omega) (by omega) t htl (m / 2)
  obtain ⟨wq0, wq1⟩ := widthOf_bounds t
  have Q0 := Lib.hid q0; clear q0
  have hS := Lib.hid (shown_self Hp.out)
  have hmul : 0 ≤ (flow t (2 + x) 0 0).2 * (2 + x) := Int.mul_nonneg q3 (by omega)
  have hmul2 : (flow t (2 + x) 0 0).2 * (2 + x) ≤ 900 * 11 := Int.mul_le_mul q4 (by omega) (by omega) (by omega)
  refine (impl_Flow A1 m c1 t _ _ _ _ (r1.ext x2)).mono ?_; rintro e w3 ⟨rfl, x3⟩
  have r3 := (r1.ext x2).ext x3
  go_wp2_with fail
  refine (impl_Flow A1 _ c1 (t.take (m / 2)) _ _ _ _ (r3.pre (by omega))).mono ?_; rintro e w4 ⟨rfl, x4⟩
  go_wp2_with ((with_reducible refine wp_cutI (A := A1) (n := m) (c := c1) (k := m / 2) ?_ ?_ ?_ ?_); go_must (exact rfl); go_must (exact rfl); go_must (omega))
  have hsub := (r3.ext x4).subA (lo := m / 2) (hi := m) (by omega) (by omega)
  rw [List.take_of_length_le (by rw [List.length_drop, ← Hm.out]; omega)] at hsub
  have h5 := impl_Flow _ _ _ (t.drop (m / 2)) (2 + x) (flow (t.take (m / 2)) (2 + x) 0 0).1 (flow (t.take (m / 2)) (2 + x) 0 0).2 w4 hsub
  rw [Q0.out] at h5
  refine h5.mono ?_; rintro e w5 ⟨rfl, x5⟩
  clear h5 hsub
  have r5 := (r3.ext x4).ext x5
  go_wp2_with fail
  refine (impl_Shown A1 m c1 t _ r5 (by omega)).mono ?_; rintro e w6 ⟨vs, rfl, owns, x6⟩
  rw [hS.out] at owns
  obtain ⟨As, cs, rfl, rs⟩ := owns.form
  have r6 := r5.ext x6
  go_wp2_with fail
  refine (impl_Flow _ _ _ [97, 98, 99] 2 0 0 _ (RI.new w6 [97, 98, 99] (by simp))).mono ?_; rintro e w7 ⟨rfl, x7⟩
  rw [flow_abc]
  have x67 : Ext w6 w7 := ((Ext.refl w6).alloc _).trans x7
  go_wp2_with fail
  refine (laws_sameInts _ _ _ _ _ _ _ _ _ (rs.ext x67) (r6.ext x67)).mono ?_; rintro e w8 ⟨rfl, x8⟩
  go_wp2_with fail
  refine (impl_WidthOf _ _ _ t _ ((r6.ext x67).ext x8) (by omega)).mono ?_; rintro e w9 ⟨rfl, x9⟩
  go_wp2_with fail
  all_goals go_ret
  exact ⟨by simp, x1.trans (x2.trans (x3.trans (x4.trans (x5.trans (x6.trans (x67.trans (x8.trans x9)))))))⟩
end Go.Proofs.Ythmclngeboiikaa
