/-
  The laws' helpers on events: szEvent, toEvent.
-/
import Derived.Test.YtohjjhoobikioaaDoorLawKit
namespace Go.Proofs.YtohjjhoobikioaaDoor
open Go.RowKit

theorem laws_szEvent (kind a b : Int) (A : Option Addr) (n c : Nat) (left : Int) (w : World) (h0 : -1 ≤ left) (h1 : left ≤ 1048576) (hn : n ≤ 9223372036854775807) :
    Calls Tryd.prog 13 #[.agg #[.int .i64 kind, .int .i64 a, .int .i64 b, .slice A n c], .int .i64 left] w fun e w' => e = .returned (.int .i64 (szN left n)) ∧ Ext w w' := by
  go_enter Tryd.func13, Tryd.ntmps13
  go_wp2_with fail
  refine (laws_szIntS A n c left _ h0 h1 hn).mono ?_; rintro e w1 ⟨rfl, x1⟩
  rcases szN_cases left n with ⟨h, e⟩ | ⟨h, e⟩ <;> rw [e] <;> clear e
  · go_wp2_with fail
    go_ret
    exact ⟨ret_i (szN_neg h).symm, ((Ext.refl w).alloc _).trans x1⟩
  · go_wp2_with fail
    go_ret
    exact ⟨ret_i (szN_pos (by omega)).symm, ((Ext.refl w).alloc _).trans x1⟩
set_option maxRecDepth 100000 in
set_option maxHeartbeats 1000000 in
theorem laws_toEvent (kind a b : Int) (C : List Int) (A : Option Addr) (n c : Nat) (w : World) (hC : RI w A n c C) (hs : n ≤ 4294967296) :
    Calls Tryd.prog 15 #[.agg #[.int .i64 kind, .int .i64 a, .int .i64 b, .slice A n c]] w fun e w' =>
      ∃ v, e = .returned (.agg #[.int .i64 kind, .int .i64 a, .int .i64 b, v]) ∧ OwnI w' w.heap.size v C ∧ Ext w w' := by
  go_enter Tryd.func15, Tryd.ntmps15
  go_wp2_with fail
  refine (laws_toIntS A n c C _ (hC.ext ((((Ext.refl w).alloc _).alloc _).alloc _)) hs).mono ?_; rintro e w1 ⟨v, rfl, own1, x1⟩
  have X1 := ((((Ext.refl w).alloc _).alloc _).alloc _).trans x1
  simp only [World.size_alloc] at own1
  obtain ⟨A1, c1, rfl, r1⟩ := own1.form
  obtain ⟨lc, lf, ls⟩ := x1.look
  go_wp2_with fail
  refine bodyPost_ret (v := .agg #[.int .i64 kind, .int .i64 a, .int .i64 b, .slice A1 C.length c1]) (by simp [results, Tryd.results15, go_sem, lc]) rfl ⟨_, rfl, ?_, ?_⟩
  · refine OwnI.mono (B := w.heap.size + 1 + 1 + 1) ?_ (by omega)
    repeat (with_reducible refine OwnI.off ?_ (by dsimp only; omega) _)
    exact own1
  · repeat (with_reducible refine Ext.set ?_ (by dsimp only; omega) _)
    exact X1
theorem laws_eqEvent (kind a b : Int) (C : List Int) (A A' : Option Addr) (n c n' c' : Nat) (w : World) (hC : RI w A n c C) (hC' : RI w A' n' c' C) :
    Calls Tryd.prog 17 #[.agg #[.int .i64 kind, .int .i64 a, .int .i64 b, .slice A n c], .agg #[.int .i64 kind, .int .i64 a, .int .i64 b, .slice A' n' c']] w fun e w' => e = .returned (.bool true) ∧ Ext w w' := by
  have X0 := (((Ext.refl w).alloc (.cells #[.int .i64 kind, .int .i64 a, .int .i64 b, .slice A n c] 27)).alloc (.cells #[.int .i64 kind, .int .i64 a, .int .i64 b, .slice A' n' c'] 27))
  go_enter Tryd.func17, Tryd.ntmps17
  go_wp2_with fail
  refine (laws_eqIntS A n c C A' n' c' C _ (hC.ext X0) (hC'.ext X0)).mono ?_; rintro e w1 ⟨rfl, x1⟩
  go_wp2_with fail
  go_ret
  exact ⟨by simp, X0.trans x1⟩
end Go.Proofs.YtohjjhoobikioaaDoor
