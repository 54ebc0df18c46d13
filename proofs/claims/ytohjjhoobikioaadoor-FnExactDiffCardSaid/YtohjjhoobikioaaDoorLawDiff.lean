/-
  FnExactDiff: the law's walk.
-/
import Derived.Test.YtohjjhoobikioaaDoorDiffT
import Derived.Test.YtohjjhoobikioaaDoorLawKit
namespace Go.Proofs.YtohjjhoobikioaaDoor
open Go.RowKit

set_option maxRecDepth 100000 in
set_option maxHeartbeats 8000000 in
theorem law_FnExactDiff (W H X Y : Int) (R : Bool) (C : List Int) (A : Option Addr) (n c : Nat) (W' H' X' Y' : Int) (R' : Bool) (C' : List Int) (A' : Option Addr) (n' c' : Nat) (w : World) (ht : Tab w) (hC : RI w A n c C) (hC' : RI w A' n' c' C') :
    Calls Tryd.prog 6 #[.agg #[.int .i64 W, .int .i64 H, .slice A n c, .int .i64 X, .int .i64 Y, .bool R], .agg #[.int .i64 W', .int .i64 H', .slice A' n' c', .int .i64 X', .int .i64 Y', .bool R']] w fun e w' => e = .returned (.bool true) ∧ Ext w w' := by
  have hn := hC.nmax
  have hn' := hC'.nmax
  have S := ((St.refl w).alloc #[.int .i64 W, .int .i64 H, .slice A n c, .int .i64 X, .int .i64 Y, .bool R] 47).alloc #[.int .i64 W', .int .i64 H', .slice A' n' c', .int .i64 X', .int .i64 Y', .bool R'] 47
  rw [World.size_alloc] at S
  have HT : Hid (∀ w1, Ext w w1 → Tab w1) := fun _ x => ht.ext x
  obtain ⟨ok, hok⟩ : ∃ ok, ok = diffOk ⟨W, H, C, X, Y, R⟩ ⟨W', H', C', X', Y', R'⟩ := ⟨_, rfl⟩
  obtain ⟨D, hD⟩ : ∃ D, D = diffD ⟨W, H, C, X, Y, R⟩ ⟨W', H', C', X', Y', R'⟩ := ⟨_, rfl⟩
  have hDl : D.length ≤ 1600024 := by rw [hD]; exact diffD_len _ _
  have K1 : Hid (∀ A n c A' n' c' w1, Ext w w1 → RI w1 A n c C → RI w1 A' n' c' C' → Calls Tryd.prog 24 #[.agg #[.int .i64 W, .int .i64 H, .slice A n c, .int .i64 X, .int .i64 Y, .bool R], .agg #[.int .i64 W', .int .i64 H', .slice A' n' c', .int .i64 X', .int .i64 Y', .bool R']] w1 fun e w' =>
      ∃ A2 n2 c2, e = .returned (.tuple #[.slice A2 n2 c2, .bool ok]) ∧ OwnB w' w1.heap.size (.slice A2 n2 c2) D ∧ Ext w1 w') := fun A n c A' n' c' w1 x h1 h2 => by
    rw [hok, hD]
    refine (impl_Diff ⟨W, H, C, X, Y, R⟩ ⟨W', H', C', X', Y', R'⟩ A n c A' n' c' w1 (HT.out _ x) h1 h2).mono ?_
    rintro r w2 ⟨v, rfl, own, x2⟩
    obtain ⟨A2, n2, c2, rfl⟩ := own.form'
    exact ⟨_, _, _, rfl, own, x2⟩
  have K2 : Hid (∀ A n c A' n' c' w1, RI w1 A n c C → RI w1 A' n' c' C' → Calls Tryd.prog 27 #[.agg #[.int .i64 W, .int .i64 H, .slice A n c, .int .i64 X, .int .i64 Y, .bool R], .agg #[.int .i64 W', .int .i64 H', .slice A' n' c', .int .i64 X', .int .i64 Y', .bool R']] w1 fun e w' =>
      ∃ A2 n2 c2, e = .returned (.tuple #[.slice A2 n2 c2, .bool ok]) ∧ OwnB w' w1.heap.size (.slice A2 n2 c2) D ∧ Ext w1 w') := fun A n c A' n' c' w1 h1 h2 => by
    rw [hok, hD]
    refine (spec_Diff ⟨W, H, C, X, Y, R⟩ ⟨W', H', C', X', Y', R'⟩ A n c A' n' c' w1 h1 h2).mono ?_
    rintro r w2 ⟨v, rfl, own, x2⟩
    obtain ⟨A2, n2, c2, rfl⟩ := own.form'
    exact ⟨_, _, _, rfl, own, x2⟩
  have HL := Lib.hid hC.len; have HL' := Lib.hid hC'.len
  clear hok hD ht
  have SS := Lib.hid S; clear S
  go_enter Tryd.func6, Tryd.ntmps6
  go_wp2_with fail
  refine Calls.mono (laws_szGrid W H X Y R A n c 1048576 _ (by omega) (by omega) hn) ?_; rintro e w1 ⟨rfl, x1⟩
  have S := SS.out.call x1
  obtain ⟨q0, q1, q2, q3, q4, q5⟩ := S.gb 0 rfl
  rcases szN_cases 1048576 n with ⟨h1, e1⟩ | ⟨h1, e1⟩ <;> rw [e1] <;> clear e1
  · go_wp2_with fail
    go_ret
    exact ⟨rfl, S.ext⟩
  go_wp2_with fail
  clear q0 q1 q2 q3 q4 q5
  refine Calls.mono (laws_szGrid W' H' X' Y' R' A' n' c' _ _ (by omega) (by omega) hn') ?_; rintro e w2 ⟨rfl, x2⟩
  have S := S.call x2
  clear x1 x2 SS
  rcases szN_cases (1048576 - (n : Int)) n' with ⟨h2, e1⟩ | ⟨h2, e1⟩ <;> rw [e1] <;> clear e1
  · go_wp2_with fail
    go_ret
    exact ⟨rfl, S.ext⟩
  have SS := Lib.hid S; clear S
  go_wp2_with fail
  -- the reference's answer
  go_region_held3 (fun w' => GBox w' w.heap.size W H (.slice A n c) X Y R ∧ GBox w' (w.heap.size + 1) W' H' (.slice A' n' c') X' Y' R' ∧ St w w' [row (w.heap.size + 1) 47 #[.int .i64 W', .int .i64 H', .slice A' n' c', .int .i64 X', .int .i64 Y', .bool R'], row w.heap.size 47 #[.int .i64 W, .int .i64 H, .slice A n c, .int .i64 X, .int .i64 Y, .bool R]])
    ((first | exact ⟨SS.out.drew.gb 1 rfl, SS.out.drew.gb 0 rfl, SS.out.drew⟩ | exact ⟨(SS.out.drewN _).gb 1 rfl, (SS.out.drewN _).gb 0 rfl, SS.out.drewN _⟩ | (refine keepS2 ?_ (by assumption); assumption)))
    (first
      | (go_at_call 28; (with_reducible refine (laws_toGrid W H X Y R C A n c _ (hC.ext (St.ext (And.right (And.right (by assumption))))) (by omega)).mono ?_); rintro e w3 ⟨v3, rfl, own3, x3⟩; obtain ⟨A3, c3, rfl, r3⟩ := own3.form)
      | (go_at_call 28; (with_reducible refine (laws_toGrid W' H' X' Y' R' C' A' n' c' _ (hC'.ext (St.ext (And.right (And.right (by assumption))))) (by omega)).mono ?_); rintro e w4 ⟨v4, rfl, own4, x4⟩; obtain ⟨A4, c4, rfl, r4⟩ := own4.form)
      | (go_at_call 27; have S4 : St w _ [row (w.heap.size + 1) 47 #[.int .i64 W', .int .i64 H', .slice A' n' c', .int .i64 X', .int .i64 Y', .bool R'], row w.heap.size 47 #[.int .i64 W, .int .i64 H, .slice A n c, .int .i64 X, .int .i64 Y, .bool R]] := And.right (And.right (by assumption)); (refine (K2.out A3 _ c3 A4 _ c4 _ (r3.ext x4) r4).mono ?_); rintro e w5 ⟨A5, n5, c5, rfl, own5, x5⟩; have S5 := S4.newB own5 x5))
  have SS := Lib.hid S5
  clear own3 own4 r3 r4 x3 x4 x5 S4 S5 own5
  obtain ⟨q0, q1, q2, q3, q4, q5⟩ := SS.out.gb 2 rfl
  go_wp2_with fail
  refine Calls.mono (laws_toGrid W H X Y R C A n c _ (hC.ext SS.out.ext) (by omega)) ?_; rintro e w6 ⟨v6, rfl, own6, x6⟩; obtain ⟨A6, c6, rfl, -⟩ := own6.form
  have S6 := SS.out.newI own6 x6
  clear SS q0 q1 q2 q3 q4 q5 own6 x6
  have SS := Lib.hid (S6.alloc #[.int .i64 W, .int .i64 H, .slice A6 C.length c6, .int .i64 X, .int .i64 Y, .bool R] 40)
  obtain ⟨q0, q1, q2, q3, q4, q5⟩ := S6.gb 2 rfl
  have q1l := World.block_lt_of_cell? w6 _ q0
  clear S6
  go_wp2_with fail
  refine Calls.mono (laws_toGrid W' H' X' Y' R' C' A' n' c' _ (hC'.ext SS.out.ext) (by omega)) ?_; rintro e w7 ⟨v7, rfl, own7, x7⟩; obtain ⟨A7, c7, rfl, -⟩ := own7.form
  have S7 := SS.out.newI own7 x7
  clear SS q0 q1 q2 q3 q4 q5 q1l own7 x7
  generalize w6.heap.size = b6 at S7 ⊢
  have SS := Lib.hid (S7.alloc #[.int .i64 W', .int .i64 H', .slice A7 C'.length c7, .int .i64 X', .int .i64 Y', .bool R'] 40)
  obtain ⟨q0, q1, q2, q3, q4, q5⟩ := S7.gb 1 rfl
  have q1l := World.block_lt_of_cell? w7 _ q0
  clear S7
  go_wp2_with fail
  -- the program's
  refine Calls.mono (K1.out A6 _ c6 A7 _ c7 _ SS.out.ext (SS.out.ownI 3 rfl).ri (SS.out.ownI 1 rfl).ri) ?_; rintro e w8 ⟨A8, n8, c8, rfl, own8, x8⟩
  obtain rfl : n8 = D.length := own8.rb.len.symm
  have S8 := SS.out.newB own8 x8
  clear SS q0 q1 q2 q3 q4 q5 q1l own8 x8
  generalize w7.heap.size = b7 at S8 ⊢
  have hoo : (ok != ok) = false := by simp
  go_wp2_with fail
  refine Calls.mono (laws_eqByteS D _ _ _ _ _ _ _ (S8.ownB 0 rfl).rb (S8.ownB 5 rfl).rb) ?_; rintro e w9 ⟨rfl, x9⟩
  have SS : Hid (St w w9 [ownB (.slice A8 D.length c8) (D), row b7 40 #[.int .i64 W', .int .i64 H', .slice A7 C'.length c7, .int .i64 X', .int .i64 Y', .bool R'], ownI (.slice A7 C'.length c7) (C'), row b6 40 #[.int .i64 W, .int .i64 H, .slice A6 C.length c6, .int .i64 X, .int .i64 Y, .bool R], ownI (.slice A6 C.length c6) (C), ownB (.slice A5 n5 c5) D, row (w.heap.size + 1) 47 #[.int .i64 W', .int .i64 H', .slice A' n' c', .int .i64 X', .int .i64 Y', .bool R'], row w.heap.size 47 #[.int .i64 W, .int .i64 H, .slice A n c, .int .i64 X, .int .i64 Y, .bool R]]) := S8.call x9
  clear S8 x9
  go_wp2_with fail
  go_region_held3 (fun w' => GBox w' b6 W H (.slice A6 C.length c6) X Y R ∧ GBox w' w.heap.size W H (.slice A n c) X Y R ∧ St w w' [ownB (.slice A8 D.length c8) (D), row b7 40 #[.int .i64 W', .int .i64 H', .slice A7 C'.length c7, .int .i64 X', .int .i64 Y', .bool R'], ownI (.slice A7 C'.length c7) (C'), row b6 40 #[.int .i64 W, .int .i64 H, .slice A6 C.length c6, .int .i64 X, .int .i64 Y, .bool R], ownI (.slice A6 C.length c6) (C), ownB (.slice A5 n5 c5) D, row (w.heap.size + 1) 47 #[.int .i64 W', .int .i64 H', .slice A' n' c', .int .i64 X', .int .i64 Y', .bool R'], row w.heap.size 47 #[.int .i64 W, .int .i64 H, .slice A n c, .int .i64 X, .int .i64 Y, .bool R]])
    ((first | exact ⟨SS.out.drew.gb 3 rfl, SS.out.drew.gb 7 rfl, SS.out.drew⟩ | exact ⟨(SS.out.drewN _).gb 3 rfl, (SS.out.drewN _).gb 7 rfl, SS.out.drewN _⟩ | (refine keepS2 ?_ (by assumption); assumption)))
    (first
      | (go_at_call 28; (refine (laws_toGrid W H X Y R C A n c _ (hC.ext (St.ext (And.right (And.right (by assumption))))) (by omega)).mono ?_); rintro e w10 ⟨v10, rfl, own10, x10⟩; obtain ⟨A10, c10, rfl, r10⟩ := own10.form)
      | (go_at_call 30; have S10 : St w _ [ownB (.slice A8 D.length c8) (D), row b7 40 #[.int .i64 W', .int .i64 H', .slice A7 C'.length c7, .int .i64 X', .int .i64 Y', .bool R'], ownI (.slice A7 C'.length c7) (C'), row b6 40 #[.int .i64 W, .int .i64 H, .slice A6 C.length c6, .int .i64 X, .int .i64 Y, .bool R], ownI (.slice A6 C.length c6) (C), ownB (.slice A5 n5 c5) D, row (w.heap.size + 1) 47 #[.int .i64 W', .int .i64 H', .slice A' n' c', .int .i64 X', .int .i64 Y', .bool R'], row w.heap.size 47 #[.int .i64 W, .int .i64 H, .slice A n c, .int .i64 X, .int .i64 Y, .bool R]] := And.right (And.right (by assumption)); (refine (laws_eqGrid W H X Y R C A6 A10 _ c6 _ c10 _ (S10.ownI 4 rfl).ri r10).mono ?_); rintro e w11 ⟨rfl, x11⟩; have S11 := S10.call x11))
  have SS := Lib.hid S11
  clear own10 r10 x10 x11 S10 S11
  go_wp2_with fail
  go_region_held3 (fun w' => GBox w' b7 W' H' (.slice A7 C'.length c7) X' Y' R' ∧ GBox w' (w.heap.size + 1) W' H' (.slice A' n' c') X' Y' R' ∧ St w w' [ownB (.slice A8 D.length c8) (D), row b7 40 #[.int .i64 W', .int .i64 H', .slice A7 C'.length c7, .int .i64 X', .int .i64 Y', .bool R'], ownI (.slice A7 C'.length c7) (C'), row b6 40 #[.int .i64 W, .int .i64 H, .slice A6 C.length c6, .int .i64 X, .int .i64 Y, .bool R], ownI (.slice A6 C.length c6) (C), ownB (.slice A5 n5 c5) D, row (w.heap.size + 1) 47 #[.int .i64 W', .int .i64 H', .slice A' n' c', .int .i64 X', .int .i64 Y', .bool R'], row w.heap.size 47 #[.int .i64 W, .int .i64 H, .slice A n c, .int .i64 X, .int .i64 Y, .bool R]])
    ((first | exact ⟨SS.out.drew.gb 1 rfl, SS.out.drew.gb 6 rfl, SS.out.drew⟩ | exact ⟨(SS.out.drewN _).gb 1 rfl, (SS.out.drewN _).gb 6 rfl, SS.out.drewN _⟩ | (refine keepS2 ?_ (by assumption); assumption)))
    (first
      | (go_at_call 28; (refine (laws_toGrid W' H' X' Y' R' C' A' n' c' _ (hC'.ext (St.ext (And.right (And.right (by assumption))))) (by omega)).mono ?_); rintro e w12 ⟨v12, rfl, own12, x12⟩; obtain ⟨A12, c12, rfl, r12⟩ := own12.form)
      | (go_at_call 30; have S12 : St w _ [ownB (.slice A8 D.length c8) (D), row b7 40 #[.int .i64 W', .int .i64 H', .slice A7 C'.length c7, .int .i64 X', .int .i64 Y', .bool R'], ownI (.slice A7 C'.length c7) (C'), row b6 40 #[.int .i64 W, .int .i64 H, .slice A6 C.length c6, .int .i64 X, .int .i64 Y, .bool R], ownI (.slice A6 C.length c6) (C), ownB (.slice A5 n5 c5) D, row (w.heap.size + 1) 47 #[.int .i64 W', .int .i64 H', .slice A' n' c', .int .i64 X', .int .i64 Y', .bool R'], row w.heap.size 47 #[.int .i64 W, .int .i64 H, .slice A n c, .int .i64 X, .int .i64 Y, .bool R]] := And.right (And.right (by assumption)); (refine (laws_eqGrid W' H' X' Y' R' C' A7 A12 _ c7 _ c12 _ (S12.ownI 2 rfl).ri r12).mono ?_); rintro e w13 ⟨rfl, x13⟩; have S13 := S12.call x13))
  have SS := Lib.hid S13
  clear own12 r12 x12 x13 S12 S13
  obtain ⟨q0, q1, q2, q3, q4, q5⟩ := SS.out.gb 3 rfl
  go_wp2_with fail
  refine Calls.mono (laws_markGrid W H X Y R C _ _ 1 _ (SS.out.ownI 4 rfl) (by omega) (by omega) (by have := HL.out; omega)) ?_; rintro e w14 ⟨rfl, own14, g14⟩
  have S14 : St w w14 [ownB (.slice A8 D.length c8) (D), row b7 40 #[.int .i64 W', .int .i64 H', .slice A7 C'.length c7, .int .i64 X', .int .i64 Y', .bool R'], ownI (.slice A7 C'.length c7) (C'), row b6 40 #[.int .i64 W, .int .i64 H, .slice A6 C.length c6, .int .i64 X, .int .i64 Y, .bool R], ownI (.slice A6 C.length c6) (marks 1 C.length), ownB (.slice A5 n5 c5) D, row (w.heap.size + 1) 47 #[.int .i64 W', .int .i64 H', .slice A' n' c', .int .i64 X', .int .i64 Y', .bool R'], row w.heap.size 47 #[.int .i64 W, .int .i64 H, .slice A n c, .int .i64 X, .int .i64 Y, .bool R]] := SS.out.markI 4 rfl own14 g14
  clear SS q0 q1 q2 q3 q4 q5 own14 g14
  obtain ⟨q0, q1, q2, q3, q4, q5⟩ := S14.gb 1 rfl
  have hCl : C.length ≤ 1048576 := by have := HL.out; omega
  have hCl' : C'.length ≤ 1048576 := by have := HL'.out; omega
  go_wp2_with fail
  refine Calls.mono (laws_markGrid W' H' X' Y' R' C' _ _ (1 + C.length) _ (S14.ownI 2 rfl) (by omega) (by omega) (by omega)) ?_; rintro e w15 ⟨rfl, own15, g15⟩
  have S15 : St w w15 [ownB (.slice A8 D.length c8) (D), row b7 40 #[.int .i64 W', .int .i64 H', .slice A7 C'.length c7, .int .i64 X', .int .i64 Y', .bool R'], ownI (.slice A7 C'.length c7) (marks (1 + C.length) C'.length), row b6 40 #[.int .i64 W, .int .i64 H, .slice A6 C.length c6, .int .i64 X, .int .i64 Y, .bool R], ownI (.slice A6 C.length c6) (marks 1 C.length), ownB (.slice A5 n5 c5) D, row (w.heap.size + 1) 47 #[.int .i64 W', .int .i64 H', .slice A' n' c', .int .i64 X', .int .i64 Y', .bool R'], row w.heap.size 47 #[.int .i64 W, .int .i64 H, .slice A n c, .int .i64 X, .int .i64 Y, .bool R]] := S14.markI 2 rfl own15 g15
  clear S14 q0 q1 q2 q3 q4 q5 own15 g15
  go_wp2_with fail
  refine Calls.mono (laws_eqByteS D _ _ _ _ _ _ _ (S15.ownB 0 rfl).rb (S15.ownB 5 rfl).rb) ?_; rintro e w16 ⟨rfl, x16⟩
  have S16 : St w w16 [ownB (.slice A8 D.length c8) (D), row b7 40 #[.int .i64 W', .int .i64 H', .slice A7 C'.length c7, .int .i64 X', .int .i64 Y', .bool R'], ownI (.slice A7 C'.length c7) (marks (1 + C.length) C'.length), row b6 40 #[.int .i64 W, .int .i64 H, .slice A6 C.length c6, .int .i64 X, .int .i64 Y, .bool R], ownI (.slice A6 C.length c6) (marks 1 C.length), ownB (.slice A5 n5 c5) D, row (w.heap.size + 1) 47 #[.int .i64 W', .int .i64 H', .slice A' n' c', .int .i64 X', .int .i64 Y', .bool R'], row w.heap.size 47 #[.int .i64 W, .int .i64 H, .slice A n c, .int .i64 X, .int .i64 Y, .bool R]] := S15.call x16
  clear S15 x16
  go_wp2_with fail
  refine Calls.mono (laws_markByteS _ D _ 1 _ (S16.ownB 0 rfl) (by omega) (by omega) (by omega)) ?_; rintro e w17 ⟨rfl, own17, g17⟩
  have S17 : St w w17 [ownB (.slice A8 D.length c8) (marksB 1 D.length), row b7 40 #[.int .i64 W', .int .i64 H', .slice A7 C'.length c7, .int .i64 X', .int .i64 Y', .bool R'], ownI (.slice A7 C'.length c7) (marks (1 + C.length) C'.length), row b6 40 #[.int .i64 W, .int .i64 H, .slice A6 C.length c6, .int .i64 X, .int .i64 Y, .bool R], ownI (.slice A6 C.length c6) (marks 1 C.length), ownB (.slice A5 n5 c5) D, row (w.heap.size + 1) 47 #[.int .i64 W', .int .i64 H', .slice A' n' c', .int .i64 X', .int .i64 Y', .bool R'], row w.heap.size 47 #[.int .i64 W, .int .i64 H, .slice A n c, .int .i64 X, .int .i64 Y, .bool R]] := S16.markB 0 rfl own17 g17
  clear S16 own17 g17
  go_wp2_with fail
  refine Calls.mono (laws_heldByteS _ D.length _ 1 _ (S17.ownB 0 rfl).rb (by omega) (by omega) (by omega)) ?_; rintro e w18 ⟨rfl, x18⟩
  have SS : Hid (St w w18 [ownB (.slice A8 D.length c8) (marksB 1 D.length), row b7 40 #[.int .i64 W', .int .i64 H', .slice A7 C'.length c7, .int .i64 X', .int .i64 Y', .bool R'], ownI (.slice A7 C'.length c7) (marks (1 + C.length) C'.length), row b6 40 #[.int .i64 W, .int .i64 H, .slice A6 C.length c6, .int .i64 X, .int .i64 Y, .bool R], ownI (.slice A6 C.length c6) (marks 1 C.length), ownB (.slice A5 n5 c5) D, row (w.heap.size + 1) 47 #[.int .i64 W', .int .i64 H', .slice A' n' c', .int .i64 X', .int .i64 Y', .bool R'], row w.heap.size 47 #[.int .i64 W, .int .i64 H, .slice A n c, .int .i64 X, .int .i64 Y, .bool R]]) := S17.call x18
  clear S17 x18
  go_wp2_with fail
  go_region_held3 (fun w' => GBox w' w.heap.size W H (.slice A n c) X Y R ∧ GBox w' (w.heap.size + 1) W' H' (.slice A' n' c') X' Y' R' ∧ St w w' [ownB (.slice A8 D.length c8) (marksB 1 D.length), row b7 40 #[.int .i64 W', .int .i64 H', .slice A7 C'.length c7, .int .i64 X', .int .i64 Y', .bool R'], ownI (.slice A7 C'.length c7) (marks (1 + C.length) C'.length), row b6 40 #[.int .i64 W, .int .i64 H, .slice A6 C.length c6, .int .i64 X, .int .i64 Y, .bool R], ownI (.slice A6 C.length c6) (marks 1 C.length), ownB (.slice A5 n5 c5) D, row (w.heap.size + 1) 47 #[.int .i64 W', .int .i64 H', .slice A' n' c', .int .i64 X', .int .i64 Y', .bool R'], row w.heap.size 47 #[.int .i64 W, .int .i64 H, .slice A n c, .int .i64 X, .int .i64 Y, .bool R]])
    ((first | exact ⟨SS.out.drew.gb 7 rfl, SS.out.drew.gb 6 rfl, SS.out.drew⟩ | exact ⟨(SS.out.drewN _).gb 7 rfl, (SS.out.drewN _).gb 6 rfl, SS.out.drewN _⟩ | (refine keepS2 ?_ (by assumption); assumption)))
    (first
      | (go_at_call 28; (with_reducible refine (laws_toGrid W H X Y R C A n c _ (hC.ext (St.ext (And.right (And.right (by assumption))))) (by omega)).mono ?_); rintro e w20 ⟨v20, rfl, own20, x20⟩; obtain ⟨A20, c20, rfl, r20⟩ := own20.form)
      | (go_at_call 28; (with_reducible refine (laws_toGrid W' H' X' Y' R' C' A' n' c' _ (hC'.ext (St.ext (And.right (And.right (by assumption))))) (by omega)).mono ?_); rintro e w21 ⟨v21, rfl, own21, x21⟩; obtain ⟨A21, c21, rfl, r21⟩ := own21.form)
      | (go_at_call 24; have S21 : St w _ [ownB (.slice A8 D.length c8) (marksB 1 D.length), row b7 40 #[.int .i64 W', .int .i64 H', .slice A7 C'.length c7, .int .i64 X', .int .i64 Y', .bool R'], ownI (.slice A7 C'.length c7) (marks (1 + C.length) C'.length), row b6 40 #[.int .i64 W, .int .i64 H, .slice A6 C.length c6, .int .i64 X, .int .i64 Y, .bool R], ownI (.slice A6 C.length c6) (marks 1 C.length), ownB (.slice A5 n5 c5) D, row (w.heap.size + 1) 47 #[.int .i64 W', .int .i64 H', .slice A' n' c', .int .i64 X', .int .i64 Y', .bool R'], row w.heap.size 47 #[.int .i64 W, .int .i64 H, .slice A n c, .int .i64 X, .int .i64 Y, .bool R]] := And.right (And.right (by assumption)); (refine (K1.out A20 _ c20 A21 _ c21 _ S21.ext (r20.ext x21) r21).mono ?_); rintro e w22 ⟨A22, n22, c22, rfl, own22, x22⟩; have S22 := S21.newB own22 x22))
  have S23 := Lib.hid S22
  clear own20 r20 x20 own21 r21 x21 own22 x22 S21 S22
  go_wp2_with fail
  refine Calls.mono (laws_eqByteS D _ _ _ _ _ _ _ (S23.out.ownB 0 rfl).rb (S23.out.ownB 6 rfl).rb) ?_; rintro e w24 ⟨rfl, x24⟩
  have S24 := S23.out.call x24
  clear S23 x24
  go_wp2_with fail
  refine Calls.mono (laws_heldByteS _ D.length _ 1 _ (S24.ownB 1 rfl).rb (by omega) (by omega) (by omega)) ?_; rintro e w25 ⟨rfl, x25⟩
  have S25 := S24.call x25
  clear S24 x25
  go_wp2_with fail
  go_ret
  exact ⟨rfl, S25.ext⟩
end Go.Proofs.YtohjjhoobikioaaDoor
