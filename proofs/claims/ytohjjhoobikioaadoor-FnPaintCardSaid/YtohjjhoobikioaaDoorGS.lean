/-
  The reference's operations on grids.
-/
import Derived.Test.YtohjjhoobikioaaDoorGM
import Derived.Test.YtohjjhoobikioaaDoorGrid
import Derived.Test.YtohjjhoobikioaaDoorSep
namespace Go.Proofs.YtohjjhoobikioaaDoor
open Go.RowKit

abbrev zeroG : Array Value := #[.int .i64 0, .int .i64 0, .slice none 0 0, .int .i64 0, .int .i64 0, .bool false]

theorem spec_l08Clamp (n m : Int) (w : World) (hm : 0 ≤ m) : Calls Tryd.prog 92 #[.int .i64 n, .int .i64 m] w fun e w' => e = .returned (.int .i64 (clampI n m)) ∧ w = w' := by
  by_cases h1 : n < 0
  · have E : Hid (clampI n m = 0) := by show _ = _; unfold clampI; omega
    go_enter Tryd.func92, Tryd.ntmps92
    go_wp2_with fail
    go_ret
    exact ⟨by rw [E.out]; rfl, rfl⟩
  by_cases h2 : m < n
  · have E : Hid (clampI n m = m) := by show _ = _; unfold clampI; omega
    go_enter Tryd.func92, Tryd.ntmps92
    go_wp2_with fail
    go_ret
    exact ⟨by rw [E.out]; rfl, rfl⟩
  · have E : Hid (clampI n m = n) := by show _ = _; unfold clampI; omega
    go_enter Tryd.func92, Tryd.ntmps92
    go_wp2_with fail
    go_ret
    exact ⟨by rw [E.out]; rfl, rfl⟩

theorem OwnI.emptyAt {w : World} {B b : Nat} (hb : b = w.heap.size) (hB : B ≤ w.heap.size) : OwnI (w.alloc (.cells #[] 3)) B (.slice (some ⟨b, 0, none⟩) 0 0) [] := by
  subst hb; exact OwnI.empty hB
theorem OwnB.emptyAt {w : World} {B b : Nat} (hb : b = w.heap.size) (hB : B ≤ w.heap.size) : OwnB (w.alloc (.cells #[] 5)) B (.slice (some ⟨b, 0, none⟩) 0 0) [] := by
  subst hb; exact OwnB.empty hB

set_option maxRecDepth 100000 in
set_option maxHeartbeats 4000000 in
theorem spec_l08Copy (g : Gr) (A : Option Addr) (n c : Nat) (w : World) (hC : RI w A n c g.C) (hn : n ≤ 4294967296) :
    Calls Tryd.prog 64 #[.agg #[.int .i64 g.W, .int .i64 g.H, .slice A n c, .int .i64 g.X, .int .i64 g.Y, .bool g.R]] w fun e w' => ∃ v, e = .returned (.agg #[.int .i64 g.W, .int .i64 g.H, v, .int .i64 g.X, .int .i64 g.Y, .bool g.R]) ∧ OwnI w' w.heap.size v g.C ∧ Ext w w' := by
  have S := ((St.refl w).alloc #[.int .i64 g.W, .int .i64 g.H, .slice A n c, .int .i64 g.X, .int .i64 g.Y, .bool g.R] 40).alloc zeroG 40
  simp only [World.size_alloc] at S
  go_enter Tryd.func64, Tryd.ntmps64
  have S2 := S.newI (OwnI.emptyAt (b := w.heap.size + 1 + 1) (by simp) (Nat.le_refl _)) ((Ext.refl _).alloc (.cells #[] 3))
  go_wp2_with (at_builtin; go_must (refine wp_addI rfl _ _ rfl S2 0 rfl rfl rfl (hC.ext S2.ext) ?_ ?_); go_must (simp; omega))
  intro v1 w1 S3
  obtain ⟨A1, c1, rfl, r1⟩ := (S3.ownI 0 rfl).form
  obtain ⟨lc, lf, ls⟩ := S3.cells 2 rfl
  obtain ⟨lc2, lf2, ls2⟩ := S3.cells 1 rfl
  go_wp2_with fail
  have S5 := (S3.setc 2 rfl 2 (.slice A1 g.C.length c1)).set6 1 rfl rfl (.int .i64 g.W) (.int .i64 g.H) (.slice A1 g.C.length c1) (.int .i64 g.X) (.int .i64 g.Y) (.bool g.R)
  obtain ⟨lc5, -, -⟩ := S5.cells 1 rfl
  exact bodyPost_ret (v := .agg #[.int .i64 g.W, .int .i64 g.H, .slice A1 g.C.length c1, .int .i64 g.X, .int .i64 g.Y, .bool g.R]) (by simp [results, Tryd.results64, go_sem, lc5]) rfl ⟨_, rfl, S5.outI 0 rfl, S5.ext⟩
theorem eta_ok {g : Gr} (h : gridOk g = true) : gridOk ⟨g.W, g.H, g.C, g.X, g.Y, g.R⟩ = true := h

set_option maxRecDepth 100000 in
set_option maxHeartbeats 800000 in
theorem spec_GridGo (g : Gr) (A : Option Addr) (n c : Nat) (x y : Int) (w : World) (hC : RI w A n c g.C) (hg : gridOk g = true) :
    Calls Tryd.prog 54 #[.agg #[.int .i64 g.W, .int .i64 g.H, .slice A n c, .int .i64 g.X, .int .i64 g.Y, .bool g.R], .int .i64 x, .int .i64 y] w fun e w' => ∃ v, e = .returned (.agg #[.int .i64 g.W, .int .i64 g.H, v, .int .i64 (goG g x y).X, .int .i64 (goG g x y).Y, .bool false]) ∧ OwnI w' w.heap.size v g.C ∧ Ext w w' := by
  obtain ⟨d1, d2, d3, d4, d5, d6⟩ := gridOk_d hg
  have hn8 : n ≤ 8000 := by have := hC.len; omega
  clear d5 d6
  have S := ((St.refl w).alloc #[.int .i64 g.W, .int .i64 g.H, .slice A n c, .int .i64 g.X, .int .i64 g.Y, .bool g.R] 40).alloc zeroG 40
  simp only [World.size_alloc] at S
  have hx : Hid ((goG g x y).X = clampI x (g.W - 1)) := rfl
  have hy : Hid ((goG g x y).Y = clampI y (g.H - 1)) := rfl
  rw [hx.out, hy.out]
  go_enter Tryd.func54, Tryd.ntmps54
  go_wp2_with fail
  have k1 := spec_GridOk g.W g.H g.X g.Y g.R g.C A n c _ (hC.ext S.ext)
  rw [eta_ok hg] at k1
  refine (k1).mono ?_; rintro e w1 ⟨rfl, x1⟩
  clear k1
  have S1 := S.call x1
  obtain ⟨lc, lf, ls⟩ := S1.cells 1 rfl
  go_wp2_with fail
  refine Calls.mono (spec_l08Copy g A n c _ (hC.ext S1.ext) (by omega)) ?_; rintro e w2 ⟨v, rfl, own, x2⟩
  have S2 := S1.newI own x2
  obtain ⟨A1, c1, rfl, -⟩ := own.form
  obtain ⟨m, hm⟩ : ∃ m, m = g.C.length := ⟨_, rfl⟩
  rw [← hm] at S2 ⊢
  clear lc lf ls own hm
  obtain ⟨lc, lf, ls⟩ := S2.cells 2 rfl
  obtain ⟨lc2, lf2, ls2⟩ := S2.cells 1 rfl
  go_wp2_with fail
  refine Calls.mono (spec_l08Clamp _ _ _ (by omega)) ?_; rintro e w3 ⟨rfl, rfl⟩
  generalize hX : clampI x (g.W - 1) = X'
  have HX := Lib.hid hX; clear hX
  go_wp2_with fail
  refine Calls.mono (spec_l08Clamp _ _ _ (by omega)) ?_; rintro e w3 ⟨rfl, rfl⟩
  generalize hY : clampI y (g.H - 1) = Y'
  have HY := Lib.hid hY; clear hY
  go_upto_region 7 with fail
  have S3 := S2.alloc #[.int .i64 g.W, .int .i64 g.H, .slice A1 m c1, .int .i64 X', .int .i64 Y', .bool false] 40
  have hw3 : w2.heap.size < (w2.alloc (.cells #[.int .i64 g.W, .int .i64 g.H, .slice A1 m c1, .int .i64 X', .int .i64 Y', .bool false] 40)).heap.size := by simp
  generalize (w2.alloc (.cells #[.int .i64 g.W, .int .i64 g.H, .slice A1 m c1, .int .i64 X', .int .i64 Y', .bool false] 40)) = w3 at S3 hw3 ⊢
  generalize w2.heap.size = b7 at *
  clear lc lf ls lc2 lf2 ls2 S2
  obtain ⟨lc, lf, ls⟩ := S3.cells 0 rfl
  go_wp2_with ((with_reducible refine wp_setA (k := 0) (u := .agg #[.int .i64 g.W, .int .i64 g.H, .slice A1 m c1, .int .i64 X', .int .i64 Y', .bool false]) #[.int .i64 g.W, .int .i64 g.H, .slice A1 m c1, .int .i64 X', .int .i64 Y', .bool false] S3 2 rfl ?_ ?_ ?_ ?_ ?_ ?_ ?_); go_must (exact rfl); go_must (exact rfl); go_must (kernel_rfl); go_must (kernel_rfl); go_must (exact Nat.le_of_ble_eq_true (by kernel_rfl)); go_must (kernel_rfl))
  intro w4 S5
  go_wp2_with fail
  obtain ⟨lc5, -, -⟩ := S5.cells 2 rfl
  exact bodyPost_ret (v := .agg #[.int .i64 g.W, .int .i64 g.H, .slice A1 m c1, .int .i64 X', .int .i64 Y', .bool false]) (by simp [results, Tryd.results54, go_sem, lc5]) rfl ⟨_, by rw [HX.out, HY.out], S5.outI 1 rfl, S5.ext⟩
end Go.Proofs.YtohjjhoobikioaaDoor
