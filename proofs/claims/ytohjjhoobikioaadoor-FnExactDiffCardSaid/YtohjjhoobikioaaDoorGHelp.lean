/-
  The laws' helpers on grids: szIntS, szGrid, toGrid, eqGrid.
-/
import Derived.Test.YtohjjhoobikioaaDoorHelp
import Derived.Test.YtohjjhoobikioaaDoorGOk
namespace Go.Proofs.YtohjjhoobikioaaDoor
open Go.RowKit

theorem OwnI.get {w : World} {B : Nat} {v : Value} {l : List Int} (h : OwnI w B v l) {A : Option Addr} {n c : Nat} (hv : v = .slice A n c) : RI w A n c l := by
  obtain ⟨A', c', e, r⟩ := h.form
  rw [hv] at e
  injection e with e1 e2 e3
  subst e1; subst e2; subst e3
  exact r

theorem OwnI.off {w : World} {B : Nat} {v : Value} {l : List Int} (h : OwnI w B v l) {a : Addr} (ha : a.block < B) (u : Value) : OwnI (w.setCell a u) B v l :=
  h.kept (grown_setCell w a u) (by
    rcases hv : v.ownBlock with _ | k
    · exact .inl rfl
    · exact .inr (by have := (h.lt k hv).1; simp; omega))
theorem Ext.set {W w : World} (h : Ext W w) {a : Addr} (ha : W.heap.size ≤ a.block) (u : Value) : Ext W (w.setCell a u) := Below.setCell h ha u

/-- what is left of the size -/
def szN (left : Int) (n : Nat) : Int := if left < n then -1 else left - n
theorem szN_neg {left : Int} {n : Nat} (h : left < n) : szN left n = -1 := by unfold szN; rw [if_pos h]
theorem szN_pos {left : Int} {n : Nat} (h : ¬ left < n) : szN left n = left - n := by unfold szN; rw [if_neg h]
theorem szN_cases (left : Int) (n : Nat) : (left < n ∧ szN left n = -1) ∨ (¬ left < n ∧ szN left n = left - n) := by
  by_cases h : left < n
  · exact .inl ⟨h, szN_neg h⟩
  · exact .inr ⟨h, szN_pos h⟩

theorem laws_szIntS (A : Option Addr) (n c : Nat) (left : Int) (w : World) (h0 : -1 ≤ left) (h1 : left ≤ 1048576) (hn : n ≤ 9223372036854775807) :
    Calls Tryd.prog 56 #[.slice A n c, .int .i64 left] w fun e w' => e = .returned (.int .i64 (szN left n)) ∧ Ext w w' := by
  by_cases h : left < n
  · rw [szN_neg h]
    go_enter Tryd.func56, Tryd.ntmps56
    go_wp2_with fail
    go_ret
    exact ⟨rfl, Ext.refl _⟩
  · rw [szN_pos h]
    go_enter Tryd.func56, Tryd.ntmps56
    go_wp2_with fail
    go_ret
    exact ⟨rfl, Ext.refl _⟩

set_option maxRecDepth 100000 in
theorem laws_szGrid (W H X Y : Int) (R : Bool) (A : Option Addr) (n c : Nat) (left : Int) (w : World) (h0 : -1 ≤ left) (h1 : left ≤ 1048576) (hn : n ≤ 9223372036854775807) :
    Calls Tryd.prog 26 #[.agg #[.int .i64 W, .int .i64 H, .slice A n c, .int .i64 X, .int .i64 Y, .bool R], .int .i64 left] w fun e w' => e = .returned (.int .i64 (szN left n)) ∧ Ext w w' := by
  go_enter Tryd.func26, Tryd.ntmps26
  go_wp2_with fail
  refine (laws_szIntS A n c left _ h0 h1 hn).mono ?_; rintro e w1 ⟨rfl, x1⟩
  rcases szN_cases left n with ⟨h, e⟩ | ⟨h, e⟩ <;> rw [e] <;> clear e
  · go_wp2_with fail
    go_ret
    exact ⟨ret_i (szN_neg h).symm, ((Ext.refl w).alloc _).trans x1⟩
  · go_wp2_with fail
    go_ret
    exact ⟨ret_i (szN_pos (by omega)).symm, ((Ext.refl w).alloc _).trans x1⟩

set_option maxRecDepth 100000 in
set_option maxHeartbeats 1000000 in
theorem laws_toGrid (W H X Y : Int) (R : Bool) (C : List Int) (A : Option Addr) (n c : Nat) (w : World) (hC : RI w A n c C) (hs : n ≤ 4294967296) :
    Calls Tryd.prog 28 #[.agg #[.int .i64 W, .int .i64 H, .slice A n c, .int .i64 X, .int .i64 Y, .bool R]] w fun e w' =>
      ∃ v, e = .returned (.agg #[.int .i64 W, .int .i64 H, v, .int .i64 X, .int .i64 Y, .bool R]) ∧ OwnI w' w.heap.size v C ∧ Ext w w' := by
  go_enter Tryd.func28, Tryd.ntmps28
  go_wp2_with fail
  refine (laws_toIntS A n c C _ (hC.ext ((((Ext.refl w).alloc _).alloc _).alloc _)) hs).mono ?_; rintro e w1 ⟨v, rfl, own1, x1⟩
  have X1 := ((((Ext.refl w).alloc _).alloc _).alloc _).trans x1
  simp only [World.size_alloc] at own1
  obtain ⟨A1, c1, rfl, r1⟩ := own1.form
  obtain ⟨lc, lf, ls⟩ := x1.look
  go_wp2_with fail
  refine bodyPost_ret (v := .agg #[.int .i64 W, .int .i64 H, .slice A1 C.length c1, .int .i64 X, .int .i64 Y, .bool R]) (by simp [results, Tryd.results28, go_sem, lc]) rfl ⟨_, rfl, ?_, ?_⟩
  · refine OwnI.mono (B := w.heap.size + 1 + 1 + 1) ?_ (by omega)
    repeat (with_reducible refine OwnI.off ?_ (by dsimp only; omega) _)
    exact own1
  · repeat (with_reducible refine Ext.set ?_ (by dsimp only; omega) _)
    exact X1

set_option maxRecDepth 100000 in
set_option maxHeartbeats 1000000 in
theorem laws_eqGrid (W H X Y : Int) (R : Bool) (C : List Int) (A A' : Option Addr) (n c n' c' : Nat) (w : World) (hC : RI w A n c C) (hC' : RI w A' n' c' C) :
    Calls Tryd.prog 30 #[.agg #[.int .i64 W, .int .i64 H, .slice A n c, .int .i64 X, .int .i64 Y, .bool R], .agg #[.int .i64 W, .int .i64 H, .slice A' n' c', .int .i64 X, .int .i64 Y, .bool R]] w fun e w' =>
      e = .returned (.bool true) ∧ Ext w w' := by
  have X0 := (((Ext.refl w).alloc (.cells #[.int .i64 W, .int .i64 H, .slice A n c, .int .i64 X, .int .i64 Y, .bool R] 40)).alloc (.cells #[.int .i64 W, .int .i64 H, .slice A' n' c', .int .i64 X, .int .i64 Y, .bool R] 40))
  cases R
  all_goals
    go_enter Tryd.func30, Tryd.ntmps30
    go_wp2_with fail
    refine (laws_eqIntS A n c C A' n' c' C _ (hC.ext X0) (hC'.ext X0)).mono ?_; rintro e w1 ⟨rfl, x1⟩
    obtain ⟨lc, lf, ls⟩ := x1.look
    go_wp2_with fail
    go_ret
    exact ⟨rfl, X0.trans x1⟩
end Go.Proofs.YtohjjhoobikioaaDoor
