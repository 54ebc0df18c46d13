/-
  impl.emitStep where it does not stay in its row.
-/
import Derived.Test.YtohjjhoobikioaaDoorEmit
namespace Go.Proofs.YtohjjhoobikioaaDoor
open Go.RowKit

set_option maxRecDepth 100000 in
set_option maxHeartbeats 3000000 in
theorem impl_emitStep_B (g : Gr) (v : Value) (x y : Int) (w : World) (ht : Tab w) (hg : gridOk g = true) (hx0 : 0 ≤ x) (hx1 : x < g.W) (hy0 : 0 ≤ y) (hy1 : y < g.H) (hyY : y = g.Y) (hR : g.R = true) (h0 : x = 0) :
    Calls Tryd.prog 70 #[.agg #[.int .i64 g.W, .int .i64 g.H, v, .int .i64 g.X, .int .i64 g.Y, .bool g.R], .int .i64 x, .int .i64 y] w fun e w' => ∃ A n c, e = .returned (.slice A n c) ∧ RB w' A n c (emitStep g x y) ∧ Ext w w' := by
  obtain ⟨d1, d2, d3, d4, -, -⟩ := gridOk_d hg
  have S0 := (St.refl w).alloc #[.int .i64 g.W, .int .i64 g.H, v, .int .i64 g.X, .int .i64 g.Y, .bool g.R] 40
  have hq : (decide (y = g.Y) && !g.R) = false := by simp [hR]
  have E : Hid (emitStep g x y = step4 g x y) := by show _ = _; unfold emitStep; rw [if_neg (by simp [hR])]
  have F1 : Hid (step1 g x y = emitGoto x y) := by show _ = _; unfold step1; rw [hq, Bool.false_and, better_no]
  have F2 : Hid (step2 g x y = step1 g x y) := by show _ = _; unfold step2; rw [hq, Bool.false_and, better_no]
  have F3 : Hid (step3 g x y = step2 g x y) := by show _ = _; unfold step3; rw [hq, Bool.false_and, better_no]
  have F4 : Hid (step4 g x y = better true [13] (step3 g x y)) := by show _ = _; unfold step4; congr 1; simp [hyY, h0]
  have hyb : (y == g.Y) = true := by simpa using hyY
  have h0b : (x == 0) = true := by simpa using h0
  rw [hR] at S0 ⊢
  clear hq hyY hR h0
  by_cases hxX : x = g.X
  · have hxb : (x == g.X) = true := by simpa using hxX
    clear hxX
    go_enter Tryd.func70, Tryd.ntmps70
    go_wp2_with fail
    refine (impl_EmitGoto x y _ (ht.ext S0.ext) hx0 (by omega) hy0 (by omega)).mono ?_; rintro e w1 ⟨A0, n0, c0, rfl, r, x1⟩
    have S := (S0.call x1).alloc #[.slice A0 n0 c0] 38
    have r := r.ext ((Ext.refl w1).alloc (.cells #[.slice A0 n0 c0] 38))
    have hs : (w1.alloc (.cells #[.slice A0 n0 c0] 38)).heap.size = w1.heap.size + 1 := World.size_alloc _ _
    have h13 := RB.lit (w1.alloc (.cells #[.slice A0 n0 c0] 38)) [.int .u8 13] [13] rfl (by simp)
    rw [hs] at h13
    obtain ⟨lc, lf, ls⟩ := S.cells 1 rfl
    go_wp2_with fail
    clear lc lf ls
    refine (impl_try _ _ _ _ _ _ _ _ _ _ _ _ h13 (r.ext ((Ext.refl _).alloc _)) (S.skip _)).mono ?_; rintro e wc10 ⟨rfl, A10', n10', c10', r, S⟩
    obtain ⟨lc, lf, ls⟩ := S.cells 1 rfl
    obtain ⟨lc2, lf2, ls2⟩ := S.cells 0 rfl
    go_wp2_with fail
    go_ret
    exact ⟨_, _, _, rfl, by rw [E.out, F4.out, F3.out, F2.out, F1.out]; exact r, S.ext⟩
  · have hxb : (x == g.X) = false := by simpa using hxX
    clear hxX
    go_enter Tryd.func70, Tryd.ntmps70
    go_wp2_with fail
    refine (impl_EmitGoto x y _ (ht.ext S0.ext) hx0 (by omega) hy0 (by omega)).mono ?_; rintro e w1 ⟨A0, n0, c0, rfl, r, x1⟩
    have S := (S0.call x1).alloc #[.slice A0 n0 c0] 38
    have r := r.ext ((Ext.refl w1).alloc (.cells #[.slice A0 n0 c0] 38))
    have hs : (w1.alloc (.cells #[.slice A0 n0 c0] 38)).heap.size = w1.heap.size + 1 := World.size_alloc _ _
    have h13 := RB.lit (w1.alloc (.cells #[.slice A0 n0 c0] 38)) [.int .u8 13] [13] rfl (by simp)
    rw [hs] at h13
    obtain ⟨lc, lf, ls⟩ := S.cells 1 rfl
    go_wp2_with fail
    clear lc lf ls
    refine (impl_try _ _ _ _ _ _ _ _ _ _ _ _ h13 (r.ext ((Ext.refl _).alloc _)) (S.skip _)).mono ?_; rintro e wc10 ⟨rfl, A10', n10', c10', r, S⟩
    obtain ⟨lc, lf, ls⟩ := S.cells 1 rfl
    obtain ⟨lc2, lf2, ls2⟩ := S.cells 0 rfl
    go_wp2_with fail
    go_ret
    exact ⟨_, _, _, rfl, by rw [E.out, F4.out, F3.out, F2.out, F1.out]; exact r, S.ext⟩
set_option maxRecDepth 100000 in
set_option maxHeartbeats 3000000 in
theorem impl_emitStep_B0 (g : Gr) (v : Value) (x y : Int) (w : World) (ht : Tab w) (hg : gridOk g = true) (hx0 : 0 ≤ x) (hx1 : x < g.W) (hy0 : 0 ≤ y) (hy1 : y < g.H) (hyY : y = g.Y) (hR : g.R = true) (h0 : ¬ x = 0) :
    Calls Tryd.prog 70 #[.agg #[.int .i64 g.W, .int .i64 g.H, v, .int .i64 g.X, .int .i64 g.Y, .bool g.R], .int .i64 x, .int .i64 y] w fun e w' => ∃ A n c, e = .returned (.slice A n c) ∧ RB w' A n c (emitStep g x y) ∧ Ext w w' := by
  obtain ⟨d1, d2, d3, d4, -, -⟩ := gridOk_d hg
  have S0 := (St.refl w).alloc #[.int .i64 g.W, .int .i64 g.H, v, .int .i64 g.X, .int .i64 g.Y, .bool g.R] 40
  have hq : (decide (y = g.Y) && !g.R) = false := by simp [hR]
  have E : Hid (emitStep g x y = step4 g x y) := by show _ = _; unfold emitStep; rw [if_neg (by simp [hR])]
  have F1 : Hid (step1 g x y = emitGoto x y) := by show _ = _; unfold step1; rw [hq, Bool.false_and, better_no]
  have F2 : Hid (step2 g x y = step1 g x y) := by show _ = _; unfold step2; rw [hq, Bool.false_and, better_no]
  have F3 : Hid (step3 g x y = step2 g x y) := by show _ = _; unfold step3; rw [hq, Bool.false_and, better_no]
  have F4 : Hid (step4 g x y = step3 g x y) := by show _ = _; unfold step4; rw [show decide (x = 0) = false by simp [h0], Bool.and_false, better_no]
  have hyb : (y == g.Y) = true := by simpa using hyY
  have h0b : (x == 0) = false := by simpa using h0
  rw [hR] at S0 ⊢
  clear hq hyY hR h0
  by_cases hxX : x = g.X
  · have hxb : (x == g.X) = true := by simpa using hxX
    clear hxX
    go_enter Tryd.func70, Tryd.ntmps70
    go_wp2_with fail
    refine (impl_EmitGoto x y _ (ht.ext S0.ext) hx0 (by omega) hy0 (by omega)).mono ?_; rintro e w1 ⟨A0, n0, c0, rfl, r, x1⟩
    have S := (S0.call x1).alloc #[.slice A0 n0 c0] 38
    have r := r.ext ((Ext.refl w1).alloc (.cells #[.slice A0 n0 c0] 38))
    obtain ⟨lc, lf, ls⟩ := S.cells 1 rfl
    obtain ⟨lc2, lf2, ls2⟩ := S.cells 0 rfl
    go_wp2_with fail
    go_ret
    exact ⟨_, _, _, rfl, by rw [E.out, F4.out, F3.out, F2.out, F1.out]; exact r, S.ext⟩
  · have hxb : (x == g.X) = false := by simpa using hxX
    clear hxX
    go_enter Tryd.func70, Tryd.ntmps70
    go_wp2_with fail
    refine (impl_EmitGoto x y _ (ht.ext S0.ext) hx0 (by omega) hy0 (by omega)).mono ?_; rintro e w1 ⟨A0, n0, c0, rfl, r, x1⟩
    have S := (S0.call x1).alloc #[.slice A0 n0 c0] 38
    have r := r.ext ((Ext.refl w1).alloc (.cells #[.slice A0 n0 c0] 38))
    obtain ⟨lc, lf, ls⟩ := S.cells 1 rfl
    obtain ⟨lc2, lf2, ls2⟩ := S.cells 0 rfl
    go_wp2_with fail
    go_ret
    exact ⟨_, _, _, rfl, by rw [E.out, F4.out, F3.out, F2.out, F1.out]; exact r, S.ext⟩
set_option maxRecDepth 100000 in
set_option maxHeartbeats 3000000 in
theorem impl_emitStep_C (g : Gr) (v : Value) (x y : Int) (w : World) (ht : Tab w) (hg : gridOk g = true) (hx0 : 0 ≤ x) (hx1 : x < g.W) (hy0 : 0 ≤ y) (hy1 : y < g.H) (hyY : ¬ y = g.Y) (h0 : x = 0) :
    Calls Tryd.prog 70 #[.agg #[.int .i64 g.W, .int .i64 g.H, v, .int .i64 g.X, .int .i64 g.Y, .bool g.R], .int .i64 x, .int .i64 y] w fun e w' => ∃ A n c, e = .returned (.slice A n c) ∧ RB w' A n c (emitStep g x y) ∧ Ext w w' := by
  obtain ⟨d1, d2, d3, d4, -, -⟩ := gridOk_d hg
  have S0 := (St.refl w).alloc #[.int .i64 g.W, .int .i64 g.H, v, .int .i64 g.X, .int .i64 g.Y, .bool g.R] 40
  have hq : (decide (y = g.Y) && !g.R) = false := by simp [hyY]
  have E : Hid (emitStep g x y = step4 g x y) := by show _ = _; unfold emitStep; rw [if_neg (by simp [hyY])]
  have F1 : Hid (step1 g x y = emitGoto x y) := by show _ = _; unfold step1; rw [hq, Bool.false_and, better_no]
  have F2 : Hid (step2 g x y = step1 g x y) := by show _ = _; unfold step2; rw [hq, Bool.false_and, better_no]
  have F3 : Hid (step3 g x y = step2 g x y) := by show _ = _; unfold step3; rw [hq, Bool.false_and, better_no]
  have F4 : Hid (step4 g x y = step3 g x y) := by show _ = _; unfold step4; rw [show decide (y = g.Y) = false by simp [hyY], Bool.false_and, better_no]
  have hyb : (y == g.Y) = false := by simpa using hyY
  have h0b : (x == 0) = true := by simpa using h0
  clear hq hyY h0
  by_cases hxX : x = g.X
  · have hxb : (x == g.X) = true := by simpa using hxX
    clear hxX
    go_enter Tryd.func70, Tryd.ntmps70
    go_wp2_with fail
    refine (impl_EmitGoto x y _ (ht.ext S0.ext) hx0 (by omega) hy0 (by omega)).mono ?_; rintro e w1 ⟨A0, n0, c0, rfl, r, x1⟩
    have S := (S0.call x1).alloc #[.slice A0 n0 c0] 38
    have r := r.ext ((Ext.refl w1).alloc (.cells #[.slice A0 n0 c0] 38))
    obtain ⟨lc, lf, ls⟩ := S.cells 1 rfl
    obtain ⟨lc2, lf2, ls2⟩ := S.cells 0 rfl
    go_wp2_with fail
    go_ret
    exact ⟨_, _, _, rfl, by rw [E.out, F4.out, F3.out, F2.out, F1.out]; exact r, S.ext⟩
  · have hxb : (x == g.X) = false := by simpa using hxX
    clear hxX
    go_enter Tryd.func70, Tryd.ntmps70
    go_wp2_with fail
    refine (impl_EmitGoto x y _ (ht.ext S0.ext) hx0 (by omega) hy0 (by omega)).mono ?_; rintro e w1 ⟨A0, n0, c0, rfl, r, x1⟩
    have S := (S0.call x1).alloc #[.slice A0 n0 c0] 38
    have r := r.ext ((Ext.refl w1).alloc (.cells #[.slice A0 n0 c0] 38))
    obtain ⟨lc, lf, ls⟩ := S.cells 1 rfl
    obtain ⟨lc2, lf2, ls2⟩ := S.cells 0 rfl
    go_wp2_with fail
    go_ret
    exact ⟨_, _, _, rfl, by rw [E.out, F4.out, F3.out, F2.out, F1.out]; exact r, S.ext⟩
set_option maxRecDepth 100000 in
set_option maxHeartbeats 3000000 in
theorem impl_emitStep_C0 (g : Gr) (v : Value) (x y : Int) (w : World) (ht : Tab w) (hg : gridOk g = true) (hx0 : 0 ≤ x) (hx1 : x < g.W) (hy0 : 0 ≤ y) (hy1 : y < g.H) (hyY : ¬ y = g.Y) (h0 : ¬ x = 0) :
    Calls Tryd.prog 70 #[.agg #[.int .i64 g.W, .int .i64 g.H, v, .int .i64 g.X, .int .i64 g.Y, .bool g.R], .int .i64 x, .int .i64 y] w fun e w' => ∃ A n c, e = .returned (.slice A n c) ∧ RB w' A n c (emitStep g x y) ∧ Ext w w' := by
  obtain ⟨d1, d2, d3, d4, -, -⟩ := gridOk_d hg
  have S0 := (St.refl w).alloc #[.int .i64 g.W, .int .i64 g.H, v, .int .i64 g.X, .int .i64 g.Y, .bool g.R] 40
  have hq : (decide (y = g.Y) && !g.R) = false := by simp [hyY]
  have E : Hid (emitStep g x y = step4 g x y) := by show _ = _; unfold emitStep; rw [if_neg (by simp [hyY])]
  have F1 : Hid (step1 g x y = emitGoto x y) := by show _ = _; unfold step1; rw [hq, Bool.false_and, better_no]
  have F2 : Hid (step2 g x y = step1 g x y) := by show _ = _; unfold step2; rw [hq, Bool.false_and, better_no]
  have F3 : Hid (step3 g x y = step2 g x y) := by show _ = _; unfold step3; rw [hq, Bool.false_and, better_no]
  have F4 : Hid (step4 g x y = step3 g x y) := by show _ = _; unfold step4; rw [show decide (y = g.Y) = false by simp [hyY], Bool.false_and, better_no]
  have hyb : (y == g.Y) = false := by simpa using hyY
  have h0b : (x == 0) = false := by simpa using h0
  clear hq hyY h0
  by_cases hxX : x = g.X
  · have hxb : (x == g.X) = true := by simpa using hxX
    clear hxX
    go_enter Tryd.func70, Tryd.ntmps70
    go_wp2_with fail
    refine (impl_EmitGoto x y _ (ht.ext S0.ext) hx0 (by omega) hy0 (by omega)).mono ?_; rintro e w1 ⟨A0, n0, c0, rfl, r, x1⟩
    have S := (S0.call x1).alloc #[.slice A0 n0 c0] 38
    have r := r.ext ((Ext.refl w1).alloc (.cells #[.slice A0 n0 c0] 38))
    obtain ⟨lc, lf, ls⟩ := S.cells 1 rfl
    obtain ⟨lc2, lf2, ls2⟩ := S.cells 0 rfl
    go_wp2_with fail
    go_ret
    exact ⟨_, _, _, rfl, by rw [E.out, F4.out, F3.out, F2.out, F1.out]; exact r, S.ext⟩
  · have hxb : (x == g.X) = false := by simpa using hxX
    clear hxX
    go_enter Tryd.func70, Tryd.ntmps70
    go_wp2_with fail
    refine (impl_EmitGoto x y _ (ht.ext S0.ext) hx0 (by omega) hy0 (by omega)).mono ?_; rintro e w1 ⟨A0, n0, c0, rfl, r, x1⟩
    have S := (S0.call x1).alloc #[.slice A0 n0 c0] 38
    have r := r.ext ((Ext.refl w1).alloc (.cells #[.slice A0 n0 c0] 38))
    obtain ⟨lc, lf, ls⟩ := S.cells 1 rfl
    obtain ⟨lc2, lf2, ls2⟩ := S.cells 0 rfl
    go_wp2_with fail
    go_ret
    exact ⟨_, _, _, rfl, by rw [E.out, F4.out, F3.out, F2.out, F1.out]; exact r, S.ext⟩
theorem impl_emitStep (g : Gr) (v : Value) (x y : Int) (w : World) (ht : Tab w) (hg : gridOk g = true) (hx0 : 0 ≤ x) (hx1 : x < g.W) (hy0 : 0 ≤ y) (hy1 : y < g.H) :
    Calls Tryd.prog 70 #[.agg #[.int .i64 g.W, .int .i64 g.H, v, .int .i64 g.X, .int .i64 g.Y, .bool g.R], .int .i64 x, .int .i64 y] w fun e w' => ∃ A n c, e = .returned (.slice A n c) ∧ RB w' A n c (emitStep g x y) ∧ Ext w w' := by
  by_cases hy : y = g.Y
  · by_cases hR : g.R = true
    · by_cases h0 : x = 0
      · exact impl_emitStep_B g v x y w ht hg hx0 hx1 hy0 hy1 hy hR h0
      · exact impl_emitStep_B0 g v x y w ht hg hx0 hx1 hy0 hy1 hy hR h0
    · exact impl_emitStep_A g v x y w ht hg hx0 hx1 hy0 hy1 hy hR
  · by_cases h0 : x = 0
    · exact impl_emitStep_C g v x y w ht hg hx0 hx1 hy0 hy1 hy h0
    · exact impl_emitStep_C0 g v x y w ht hg hx0 hx1 hy0 hy1 hy h0
end Go.Proofs.YtohjjhoobikioaaDoor
