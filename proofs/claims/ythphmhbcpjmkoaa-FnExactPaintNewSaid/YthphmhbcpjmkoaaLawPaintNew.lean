/-
  PaintNew of both packages; FnExactPaintNew: the law's walk.
-/
import Derived.Test.YthphmhbcpjmkoaaLawPaintOk
namespace Go.Proofs.Ythphmhbcpjmkoaa
open Go.RowKit

theorem paintOk_fresh {w h : Int} : paintOk w h false ⟨0, 0, [], 0, 0, false⟩ = decide (newOk w h) := by
  simp [paintOk, sameG, noG]

set_option maxRecDepth 100000 in
set_option maxHeartbeats 1000000 in
theorem impl_PaintNew_yes (w hh : Int) (W : World) (hok : newOk w hh) :
    Calls Try.prog 18 #[.int .i64 w, .int .i64 hh] W fun e w' => e = .returned (.tuple #[.agg #[.int .i64 w, .int .i64 hh, .bool false, .int .i64 0, .int .i64 0, .slice none 0 0, .int .i64 0, .int .i64 0, .bool false], .bool true]) ∧ Ext W w' := by
  have hp : paintOk w hh false ⟨0, 0, [], 0, 0, false⟩ = true := by rw [paintOk_fresh]; simp [hok]
  have bP := PBox.made (W.alloc (.cells #[.int .i64 0, .int .i64 0, .bool false, .int .i64 0, .int .i64 0, .slice none 0 0, .int .i64 0, .int .i64 0, .bool false] 36)) w hh false 0 0 (.slice none 0 0) 0 0 false 36
  have X0 := ((Ext.refl W).alloc (.cells #[.int .i64 0, .int .i64 0, .bool false, .int .i64 0, .int .i64 0, .slice none 0 0, .int .i64 0, .int .i64 0, .bool false] 36)).alloc (.cells #[.int .i64 w, .int .i64 hh, .bool false, .int .i64 0, .int .i64 0, .slice none 0 0, .int .i64 0, .int .i64 0, .bool false] 36)
  rw [World.size_alloc] at bP
  have HP := Lib.hid bP; clear bP
  go_enter Try.func18, Try.ntmps18
  go_wp2_with fail
  have k1 := impl_PaintOk w hh 0 0 0 0 false false [] none 0 0 _ ((RI.nil W).ext X0)
  rw [hp] at k1
  refine k1.mono ?_; rintro e w1 ⟨rfl, x1⟩
  clear k1
  obtain ⟨q0, q1, q2, q3, q4, q5, q6, q7, q8⟩ := HP.out.ext x1
  have ql := World.block_lt_of_cell? w1 _ q0
  have Hr := Lib.hid (row_ext (row_alloc (row_new W _) _) x1)
  obtain ⟨z, zf, zl⟩ := rowAll Hr.out
  go_wp2_with ((with_reducible refine wp_storeAt (off := 0) (v := .agg #[.int .i64 w, .int .i64 hh, .bool false, .int .i64 0, .int .i64 0, .slice none 0 0, .int .i64 0, .int .i64 0, .bool false]) #[.int .i64 w, .int .i64 hh, .bool false, .int .i64 0, .int .i64 0, .slice none 0 0, .int .i64 0, .int .i64 0, .bool false] Hr.out ?_ ?_ ?_ ?_ ?_ ?_ ?_); exact rfl; exact rfl; kernel_rfl; kernel_rfl; (exact Nat.le_of_ble_eq_true (by kernel_rfl)); kernel_rfl)
  intro w2 hr g2
  have X2 := (X0.trans x1).row g2 (by omega)
  obtain ⟨u, -, -⟩ := rowAll hr
  clear z zf zl Hr hr q0 q1 q2 q3 q4 q5 q6 q7 q8 ql
  go_wp2_with fail
  refine bodyPost_ret (v := .tuple #[.agg #[.int .i64 w, .int .i64 hh, .bool false, .int .i64 0, .int .i64 0, .slice none 0 0, .int .i64 0, .int .i64 0, .bool false], .bool true]) (by simp [results, Try.results18, go_sem, u]) rfl ⟨rfl, X2⟩

set_option maxRecDepth 100000 in
set_option maxHeartbeats 1000000 in
theorem impl_PaintNew_no (w hh : Int) (W : World) (hok : ¬ newOk w hh) :
    Calls Try.prog 18 #[.int .i64 w, .int .i64 hh] W fun e w' => e = .returned (.tuple #[.agg #[.int .i64 0, .int .i64 0, .bool false, .int .i64 0, .int .i64 0, .slice none 0 0, .int .i64 0, .int .i64 0, .bool false], .bool false]) ∧ Ext W w' := by
  have hp : paintOk w hh false ⟨0, 0, [], 0, 0, false⟩ = false := by rw [paintOk_fresh]; simp [hok]
  have bP := PBox.made (W.alloc (.cells #[.int .i64 0, .int .i64 0, .bool false, .int .i64 0, .int .i64 0, .slice none 0 0, .int .i64 0, .int .i64 0, .bool false] 36)) w hh false 0 0 (.slice none 0 0) 0 0 false 36
  have X0 := ((Ext.refl W).alloc (.cells #[.int .i64 0, .int .i64 0, .bool false, .int .i64 0, .int .i64 0, .slice none 0 0, .int .i64 0, .int .i64 0, .bool false] 36)).alloc (.cells #[.int .i64 w, .int .i64 hh, .bool false, .int .i64 0, .int .i64 0, .slice none 0 0, .int .i64 0, .int .i64 0, .bool false] 36)
  rw [World.size_alloc] at bP
  have HP := Lib.hid bP; clear bP
  go_enter Try.func18, Try.ntmps18
  go_wp2_with fail
  have k1 := impl_PaintOk w hh 0 0 0 0 false false [] none 0 0 _ ((RI.nil W).ext X0)
  rw [hp] at k1
  refine k1.mono ?_; rintro e w1 ⟨rfl, x1⟩
  clear k1
  obtain ⟨q0, q1, q2, q3, q4, q5, q6, q7, q8⟩ := HP.out.ext x1
  have ql := World.block_lt_of_cell? w1 _ q0
  have Hr := Lib.hid (row_ext (row_alloc (row_new W _) _) x1)
  obtain ⟨z, zf, zl⟩ := rowAll Hr.out
  go_wp2_with ((with_reducible refine wp_storeAt (off := 0) (v := .agg #[.int .i64 0, .int .i64 0, .bool false, .int .i64 0, .int .i64 0, .slice none 0 0, .int .i64 0, .int .i64 0, .bool false]) #[.int .i64 0, .int .i64 0, .bool false, .int .i64 0, .int .i64 0, .slice none 0 0, .int .i64 0, .int .i64 0, .bool false] Hr.out ?_ ?_ ?_ ?_ ?_ ?_ ?_); exact rfl; exact rfl; kernel_rfl; kernel_rfl; (exact Nat.le_of_ble_eq_true (by kernel_rfl)); kernel_rfl)
  intro w2 hr g2
  have X2 := (X0.trans x1).row g2 (by omega)
  obtain ⟨u, -, -⟩ := rowAll hr
  clear z zf zl Hr hr q0 q1 q2 q3 q4 q5 q6 q7 q8 ql
  go_wp2_with fail
  refine bodyPost_ret (v := .tuple #[.agg #[.int .i64 0, .int .i64 0, .bool false, .int .i64 0, .int .i64 0, .slice none 0 0, .int .i64 0, .int .i64 0, .bool false], .bool false]) (by simp [results, Try.results18, go_sem, u]) rfl ⟨rfl, X2⟩

set_option maxRecDepth 100000 in
set_option maxHeartbeats 1000000 in
theorem spec_PaintNew_yes (w hh : Int) (W : World) (hok : newOk w hh) :
    Calls Try.prog 17 #[.int .i64 w, .int .i64 hh] W fun e w' => e = .returned (.tuple #[.agg #[.int .i64 w, .int .i64 hh, .bool false, .int .i64 0, .int .i64 0, .slice none 0 0, .int .i64 0, .int .i64 0, .bool false], .bool true]) ∧ Ext W w' := by
  have hp : paintOk w hh false ⟨0, 0, [], 0, 0, false⟩ = true := by rw [paintOk_fresh]; simp [hok]
  have bP := PBox.made (W.alloc (.cells #[.int .i64 0, .int .i64 0, .bool false, .int .i64 0, .int .i64 0, .slice none 0 0, .int .i64 0, .int .i64 0, .bool false] 36)) w hh false 0 0 (.slice none 0 0) 0 0 false 36
  have X0 := ((Ext.refl W).alloc (.cells #[.int .i64 0, .int .i64 0, .bool false, .int .i64 0, .int .i64 0, .slice none 0 0, .int .i64 0, .int .i64 0, .bool false] 36)).alloc (.cells #[.int .i64 w, .int .i64 hh, .bool false, .int .i64 0, .int .i64 0, .slice none 0 0, .int .i64 0, .int .i64 0, .bool false] 36)
  rw [World.size_alloc] at bP
  have HP := Lib.hid bP; clear bP
  go_enter Try.func17, Try.ntmps17
  go_wp2_with fail
  have k1 := spec_PaintOk w hh 0 0 0 0 false false [] none 0 0 _ ((RI.nil W).ext X0)
  rw [hp] at k1
  refine k1.mono ?_; rintro e w1 ⟨rfl, x1⟩
  clear k1
  obtain ⟨q0, q1, q2, q3, q4, q5, q6, q7, q8⟩ := HP.out.ext x1
  have ql := World.block_lt_of_cell? w1 _ q0
  have Hr := Lib.hid (row_ext (row_alloc (row_new W _) _) x1)
  obtain ⟨z, zf, zl⟩ := rowAll Hr.out
  go_wp2_with ((with_reducible refine wp_storeAt (off := 0) (v := .agg #[.int .i64 w, .int .i64 hh, .bool false, .int .i64 0, .int .i64 0, .slice none 0 0, .int .i64 0, .int .i64 0, .bool false]) #[.int .i64 w, .int .i64 hh, .bool false, .int .i64 0, .int .i64 0, .slice none 0 0, .int .i64 0, .int .i64 0, .bool false] Hr.out ?_ ?_ ?_ ?_ ?_ ?_ ?_); exact rfl; exact rfl; kernel_rfl; kernel_rfl; (exact Nat.le_of_ble_eq_true (by kernel_rfl)); kernel_rfl)
  intro w2 hr g2
  have X2 := (X0.trans x1).row g2 (by omega)
  obtain ⟨u, -, -⟩ := rowAll hr
  clear z zf zl Hr hr q0 q1 q2 q3 q4 q5 q6 q7 q8 ql
  go_wp2_with fail
  refine bodyPost_ret (v := .tuple #[.agg #[.int .i64 w, .int .i64 hh, .bool false, .int .i64 0, .int .i64 0, .slice none 0 0, .int .i64 0, .int .i64 0, .bool false], .bool true]) (by simp [results, Try.results17, go_sem, u]) rfl ⟨rfl, X2⟩

set_option maxRecDepth 100000 in
set_option maxHeartbeats 1000000 in
theorem spec_PaintNew_no (w hh : Int) (W : World) (hok : ¬ newOk w hh) :
    Calls Try.prog 17 #[.int .i64 w, .int .i64 hh] W fun e w' => e = .returned (.tuple #[.agg #[.int .i64 0, .int .i64 0, .bool false, .int .i64 0, .int .i64 0, .slice none 0 0, .int .i64 0, .int .i64 0, .bool false], .bool false]) ∧ Ext W w' := by
  have hp : paintOk w hh false ⟨0, 0, [], 0, 0, false⟩ = false := by rw [paintOk_fresh]; simp [hok]
  have bP := PBox.made (W.alloc (.cells #[.int .i64 0, .int .i64 0, .bool false, .int .i64 0, .int .i64 0, .slice none 0 0, .int .i64 0, .int .i64 0, .bool false] 36)) w hh false 0 0 (.slice none 0 0) 0 0 false 36
  have X0 := ((Ext.refl W).alloc (.cells #[.int .i64 0, .int .i64 0, .bool false, .int .i64 0, .int .i64 0, .slice none 0 0, .int .i64 0, .int .i64 0, .bool false] 36)).alloc (.cells #[.int .i64 w, .int .i64 hh, .bool false, .int .i64 0, .int .i64 0, .slice none 0 0, .int .i64 0, .int .i64 0, .bool false] 36)
  rw [World.size_alloc] at bP
  have HP := Lib.hid bP; clear bP
  go_enter Try.func17, Try.ntmps17
  go_wp2_with fail
  have k1 := spec_PaintOk w hh 0 0 0 0 false false [] none 0 0 _ ((RI.nil W).ext X0)
  rw [hp] at k1
  refine k1.mono ?_; rintro e w1 ⟨rfl, x1⟩
  clear k1
  obtain ⟨q0, q1, q2, q3, q4, q5, q6, q7, q8⟩ := HP.out.ext x1
  have ql := World.block_lt_of_cell? w1 _ q0
  have Hr := Lib.hid (row_ext (row_alloc (row_new W _) _) x1)
  obtain ⟨z, zf, zl⟩ := rowAll Hr.out
  go_wp2_with ((with_reducible refine wp_storeAt (off := 0) (v := .agg #[.int .i64 0, .int .i64 0, .bool false, .int .i64 0, .int .i64 0, .slice none 0 0, .int .i64 0, .int .i64 0, .bool false]) #[.int .i64 0, .int .i64 0, .bool false, .int .i64 0, .int .i64 0, .slice none 0 0, .int .i64 0, .int .i64 0, .bool false] Hr.out ?_ ?_ ?_ ?_ ?_ ?_ ?_); exact rfl; exact rfl; kernel_rfl; kernel_rfl; (exact Nat.le_of_ble_eq_true (by kernel_rfl)); kernel_rfl)
  intro w2 hr g2
  have X2 := (X0.trans x1).row g2 (by omega)
  obtain ⟨u, -, -⟩ := rowAll hr
  clear z zf zl Hr hr q0 q1 q2 q3 q4 q5 q6 q7 q8 ql
  go_wp2_with fail
  refine bodyPost_ret (v := .tuple #[.agg #[.int .i64 0, .int .i64 0, .bool false, .int .i64 0, .int .i64 0, .slice none 0 0, .int .i64 0, .int .i64 0, .bool false], .bool false]) (by simp [results, Try.results17, go_sem, u]) rfl ⟨rfl, X2⟩

abbrev pObj (P Q : Int) : Obj := .cells #[.int .i64 P, .int .i64 Q, .bool false, .int .i64 0, .int .i64 0, .slice none 0 0, .int .i64 0, .int .i64 0, .bool false] 36
set_option maxRecDepth 100000 in
set_option maxHeartbeats 2000000 in
theorem law_PaintNew_aux (w hh P Q : Int) (b : Bool) (W : World)
    (hs : Hid (∀ W, Calls Try.prog 17 #[.int .i64 w, .int .i64 hh] W fun e w' => e = .returned (.tuple #[.agg #[.int .i64 P, .int .i64 Q, .bool false, .int .i64 0, .int .i64 0, .slice none 0 0, .int .i64 0, .int .i64 0, .bool false], .bool b]) ∧ Ext W w'))
    (hi : Hid (∀ W, Calls Try.prog 18 #[.int .i64 w, .int .i64 hh] W fun e w' => e = .returned (.tuple #[.agg #[.int .i64 P, .int .i64 Q, .bool false, .int .i64 0, .int .i64 0, .slice none 0 0, .int .i64 0, .int .i64 0, .bool false], .bool b]) ∧ Ext W w')) :
    Calls Try.prog 5 #[.int .i64 w, .int .i64 hh] W fun e w' => e = .returned (.bool true) ∧ Ext W w' := by
  go_enter Try.func5, Try.ntmps5
  go_wp2_with fail
  refine (hs.out _).mono ?_; rintro e w1 ⟨rfl, x1⟩
  go_wp2_with fail
  refine (hi.out _).mono ?_; rintro e w2 ⟨rfl, x2⟩
  have r1 := row_ext (row_new w1 (pObj P Q)) x2
  have X2 := (x1.alloc (pObj P Q)).trans x2
  obtain ⟨q1, -, l1⟩ := rowAll r1
  cases b
  all_goals
    go_wp2_with fail
    refine (laws_eqPaint P Q 0 0 0 0 false false [] none none 0 0 0 0 _ (RI.nil _) (RI.nil _)).mono ?_; rintro e w3 ⟨rfl, x3⟩
    have r13 := row_ext (row_alloc r1 (pObj P Q)) x3
    have r2 := row_ext (row_new w2 (pObj P Q)) x3
    have X3 := (X2.alloc (pObj P Q)).trans x3
    clear q1 l1
    obtain ⟨q1, -, l1⟩ := rowAll r13
    obtain ⟨q2, -, l2⟩ := rowAll r2
    have s1 := x1.size
    go_wp2_with fail
    refine (laws_markPaint P Q 0 0 0 0 false false [] (.slice none 0 0) W.heap.size 1 _ (OwnI.nil _ _) (by omega) (by omega) (by simp)).mono ?_; rintro e w4 ⟨rfl, -, g4⟩
    have x4 : Ext w3 w4 := Below.grown (Ext.refl _) g4 (Nat.le_refl _) (fun k hk => nomatch hk)
    have R14 := Lib.hid (row_ext r13 x4); have R24 := Lib.hid (row_ext r2 x4)
    have X4 := X3.trans x4
    clear q1 q2 l1 l2 r1 r13 r2 x3 x4 X2 X3 g4
    obtain ⟨q2, -, l2⟩ := rowAll R24.out
    go_wp2_with fail
    refine (laws_heldPaint P Q 0 0 0 0 false false none 0 0 1 _ (RI.nil _) (by omega) (by omega) (by omega)).mono ?_; rintro e w5 ⟨rfl, x5⟩
    go_wp2_with fail
    refine (hi.out _).mono ?_; rintro e w6 ⟨rfl, x6⟩
    have x46 := x5.trans x6
    have X6 := X4.trans x46
    have r16 := row_ext R14.out x46
    have r26 := row_ext R24.out x46
    clear q2 l2 x5 x6 x46 X4 R14 R24
    obtain ⟨q1, -, l1⟩ := rowAll r16
    go_wp2_with fail
    refine (laws_eqPaint P Q 0 0 0 0 false false [] none none 0 0 0 0 _ (RI.nil _) (RI.nil _)).mono ?_; rintro e w7 ⟨rfl, x7⟩
    have x67 := (((Ext.refl w6).alloc (pObj P Q)).trans x7)
    have r36 := row_ext (row_new w6 (pObj P Q)) x7
    clear q1 l1
    obtain ⟨q1, -, l1⟩ := rowAll (row_ext r16 x67)
    obtain ⟨q2, -, l2⟩ := rowAll (row_ext r26 x67)
    obtain ⟨q3, -, l3⟩ := rowAll r36
    have X7 := X6.trans x67
    go_wp2_with fail
    refine (laws_heldPaint P Q 0 0 0 0 false false none 0 0 1 _ (RI.nil _) (by omega) (by omega) (by omega)).mono ?_; rintro e w8 ⟨rfl, x8⟩
    go_wp2_with fail
    go_ret
    exact ⟨rfl, X7.trans x8⟩

theorem law_FnExactPaintNew (w hh : Int) (W : World) (_h0 : -9223372036854775808 ≤ w ∧ w ≤ 9223372036854775807) (_h1 : -9223372036854775808 ≤ hh ∧ hh ≤ 9223372036854775807) :
    Calls Try.prog 5 #[.int .i64 w, .int .i64 hh] W fun e w' => e = .returned (.bool true) ∧ Ext W w' := by
  by_cases hok : newOk w hh
  · exact law_PaintNew_aux w hh w hh true W (fun W => spec_PaintNew_yes w hh W hok) (fun W => impl_PaintNew_yes w hh W hok)
  · exact law_PaintNew_aux w hh 0 0 false W (fun W => spec_PaintNew_no w hh W hok) (fun W => impl_PaintNew_no w hh W hok)
end Go.Proofs.Ythphmhbcpjmkoaa
