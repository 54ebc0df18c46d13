/-
  FnExactFull: the law's walk.
-/
import Derived.Test.YtohjjhoobikioaaDoorFull
namespace Go.Proofs.YtohjjhoobikioaaDoor
open Go.RowKit

set_option maxRecDepth 100000 in
set_option maxHeartbeats 8000000 in
theorem law_FnExactFull (W H X Y : Int) (R : Bool) (C : List Int) (A : Option Addr) (n c : Nat) (w : World) (ht : Tab w) (hC : RI w A n c C) :
    Calls Tryd.prog 7 #[.agg #[.int .i64 W, .int .i64 H, .slice A n c, .int .i64 X, .int .i64 Y, .bool R]] w fun e w' => e = .returned (.bool true) ∧ Ext w w' := by
  have hn := hC.nmax
  have S := (St.refl w).alloc #[.int .i64 W, .int .i64 H, .slice A n c, .int .i64 X, .int .i64 Y, .bool R] 47
  have HT : Hid (∀ w1, Ext w w1 → Tab w1) := fun _ x => ht.ext x
  obtain ⟨ok, hok⟩ : ∃ ok, ok = fullOk ⟨W, H, C, X, Y, R⟩ := ⟨_, rfl⟩
  obtain ⟨D, hD⟩ : ∃ D, D = fullD ⟨W, H, C, X, Y, R⟩ := ⟨_, rfl⟩
  have hDl : D.length ≤ 1600031 := by rw [hD]; exact fullD_len _
  have K1 : Hid (∀ A n c w1, Ext w w1 → RI w1 A n c C → Calls Tryd.prog 35 #[.agg #[.int .i64 W, .int .i64 H, .slice A n c, .int .i64 X, .int .i64 Y, .bool R]] w1 fun e w' =>
      ∃ A2 n2 c2, e = .returned (.tuple #[.slice A2 n2 c2, .bool ok]) ∧ OwnX w' w1.heap.size (.slice A2 n2 c2) D ∧ Ext w1 w') := fun A n c w1 x h1 => by
    rw [hok, hD]
    refine (impl_Full ⟨W, H, C, X, Y, R⟩ A n c w1 (HT.out _ x) h1).mono ?_
    rintro r w2 ⟨v, rfl, own, x2⟩
    obtain ⟨A2, n2, c2, rfl⟩ := own.form'
    exact ⟨_, _, _, rfl, own, x2⟩
  have K2 : Hid (∀ A n c w1, RI w1 A n c C → Calls Tryd.prog 34 #[.agg #[.int .i64 W, .int .i64 H, .slice A n c, .int .i64 X, .int .i64 Y, .bool R]] w1 fun e w' =>
      ∃ A2 n2 c2, e = .returned (.tuple #[.slice A2 n2 c2, .bool ok]) ∧ OwnX w' w1.heap.size (.slice A2 n2 c2) D ∧ Ext w1 w') := fun A n c w1  h1 => by
    rw [hok, hD]
    refine (spec_Full ⟨W, H, C, X, Y, R⟩ A n c w1  h1).mono ?_
    rintro r w2 ⟨v, rfl, own, x2⟩
    obtain ⟨A2, n2, c2, rfl⟩ := own.form'
    exact ⟨_, _, _, rfl, own, x2⟩
  have HL := Lib.hid hC.len
  clear hok hD ht
  have SS := Lib.hid S; clear S
  go_enter Tryd.func7, Tryd.ntmps7
  go_wp2_with fail
  refine Calls.mono (laws_szGrid W H X Y R A n c 1048576 _ (by omega) (by omega) hn) ?_; rintro e w1 ⟨rfl, x1⟩
  have S := SS.out.call x1
  rcases szN_cases 1048576 n with ⟨h1, e1⟩ | ⟨h1, e1⟩ <;> rw [e1] <;> clear e1
  · go_wp2_with fail
    go_ret
    exact ⟨rfl, S.ext⟩
  clear SS x1
  obtain ⟨q0, q1, q2, q3, q4, q5⟩ := S.gb 0 rfl
  go_wp2_with fail
  refine Calls.mono (laws_toGrid W H X Y R C A n c _ (hC.ext S.ext) (by omega)) ?_; rintro e w2 ⟨v2, rfl, own2, x2⟩; obtain ⟨A2, c2, rfl, r2⟩ := own2.form
  have S2 := S.call x2
  clear S q0 q1 q2 q3 q4 q5 own2 x2
  go_wp2_with fail
  refine Calls.mono (K2.out _ _ _ _ r2) ?_; rintro e w5 ⟨A5, n5, c5, rfl, own5, x5⟩
  have S5 := S2.newX own5 x5
  have SS := Lib.hid S5
  clear S2 S5 own5 x5 r2
  obtain ⟨q0, q1, q2, q3, q4, q5⟩ := SS.out.gb 1 rfl
  go_wp2_with fail
  refine Calls.mono (laws_toGrid W H X Y R C A n c _ (hC.ext SS.out.ext) (by omega)) ?_; rintro e w6 ⟨v6, rfl, own6, x6⟩; obtain ⟨A6, c6, rfl, -⟩ := own6.form
  have S6 := SS.out.newI own6 x6
  clear SS q0 q1 q2 q3 q4 q5 own6 x6
  have SS := Lib.hid (S6.alloc #[.int .i64 W, .int .i64 H, .slice A6 C.length c6, .int .i64 X, .int .i64 Y, .bool R] 40)
  clear S6
  go_wp2_with fail
  refine Calls.mono (K1.out A6 _ c6 _ SS.out.ext (SS.out.ownI 1 rfl).ri) ?_; rintro e w8 ⟨A8, n8, c8, rfl, own8, x8⟩
  obtain rfl : n8 = D.length := own8.rb.len.symm
  have S8 := SS.out.newX own8 x8
  clear SS own8 x8
  generalize w6.heap.size = b6 at S8 ⊢
  have hoo : (ok != ok) = false := by simp
  go_wp2_with fail
  refine Calls.mono (laws_eqByteS D _ _ _ _ _ _ _ (S8.ownX 0 rfl).rb (S8.ownX 3 rfl).rb) ?_; rintro e w9 ⟨rfl, x9⟩
  have SS : Hid (St w w9 [ownX (.slice A8 D.length c8) (D), row b6 40 #[.int .i64 W, .int .i64 H, .slice A6 C.length c6, .int .i64 X, .int .i64 Y, .bool R], ownI (.slice A6 C.length c6) (C), ownX (.slice A5 n5 c5) D, row w.heap.size 47 #[.int .i64 W, .int .i64 H, .slice A n c, .int .i64 X, .int .i64 Y, .bool R]]) := S8.call x9
  clear S8 x9
  go_wp2_with fail
  go_region_held3 (fun w' => GBox w' b6 W H (.slice A6 C.length c6) X Y R ∧ GBox w' w.heap.size W H (.slice A n c) X Y R ∧ St w w' [ownX (.slice A8 D.length c8) (D), row b6 40 #[.int .i64 W, .int .i64 H, .slice A6 C.length c6, .int .i64 X, .int .i64 Y, .bool R], ownI (.slice A6 C.length c6) (C), ownX (.slice A5 n5 c5) D, row w.heap.size 47 #[.int .i64 W, .int .i64 H, .slice A n c, .int .i64 X, .int .i64 Y, .bool R]])
    ((first | exact ⟨SS.out.drew.gb 1 rfl, SS.out.drew.gb 4 rfl, SS.out.drew⟩ | exact ⟨(SS.out.drewN _).gb 1 rfl, (SS.out.drewN _).gb 4 rfl, SS.out.drewN _⟩ | (refine keepS2 ?_ (by assumption); assumption)))
    (first
      | (go_at_call 28; (refine (laws_toGrid W H X Y R C A n c _ (hC.ext (St.ext (And.right (And.right (by assumption))))) (by omega)).mono ?_); rintro e w10 ⟨v10, rfl, own10, x10⟩; obtain ⟨A10, c10, rfl, r10⟩ := own10.form)
      | (go_at_call 30; have S10 : St w _ [ownX (.slice A8 D.length c8) (D), row b6 40 #[.int .i64 W, .int .i64 H, .slice A6 C.length c6, .int .i64 X, .int .i64 Y, .bool R], ownI (.slice A6 C.length c6) (C), ownX (.slice A5 n5 c5) D, row w.heap.size 47 #[.int .i64 W, .int .i64 H, .slice A n c, .int .i64 X, .int .i64 Y, .bool R]] := And.right (And.right (by assumption)); (refine (laws_eqGrid W H X Y R C A6 A10 _ c6 _ c10 _ (S10.ownI 2 rfl).ri r10).mono ?_); rintro e w11 ⟨rfl, x11⟩; have S11 := S10.call x11))
  have SS := Lib.hid S11
  clear own10 r10 x10 x11 S10 S11
  obtain ⟨q0, q1, q2, q3, q4, q5⟩ := SS.out.gb 1 rfl
  go_wp2_with fail
  refine Calls.mono (laws_markGrid W H X Y R C _ _ 1 _ (SS.out.ownI 2 rfl) (by omega) (by omega) (by have := HL.out; omega)) ?_; rintro e w14 ⟨rfl, own14, g14⟩
  have S15 : St w w14 [ownX (.slice A8 D.length c8) (D), row b6 40 #[.int .i64 W, .int .i64 H, .slice A6 C.length c6, .int .i64 X, .int .i64 Y, .bool R], ownI (.slice A6 C.length c6) (marks 1 C.length), ownX (.slice A5 n5 c5) D, row w.heap.size 47 #[.int .i64 W, .int .i64 H, .slice A n c, .int .i64 X, .int .i64 Y, .bool R]] := SS.out.markI 2 rfl own14 g14
  clear SS q0 q1 q2 q3 q4 q5 own14 g14
  have hCl : C.length ≤ 1048576 := by have := HL.out; omega
  go_wp2_with fail
  refine Calls.mono (laws_eqByteS D _ _ _ _ _ _ _ (S15.ownX 0 rfl).rb (S15.ownX 3 rfl).rb) ?_; rintro e w16 ⟨rfl, x16⟩
  have S16 : St w w16 [ownX (.slice A8 D.length c8) (D), row b6 40 #[.int .i64 W, .int .i64 H, .slice A6 C.length c6, .int .i64 X, .int .i64 Y, .bool R], ownI (.slice A6 C.length c6) (marks 1 C.length), ownX (.slice A5 n5 c5) D, row w.heap.size 47 #[.int .i64 W, .int .i64 H, .slice A n c, .int .i64 X, .int .i64 Y, .bool R]] := S15.call x16
  clear S15 x16
  go_wp2_with fail
  refine Calls.mono (laws_markByteX _ D _ 1 _ (S16.ownX 0 rfl) (by omega) (by omega) (by omega)) ?_; rintro e w17 ⟨rfl, own17, g17⟩
  have S17 : St w w17 [ownX (.slice A8 D.length c8) (marksB 1 D.length), row b6 40 #[.int .i64 W, .int .i64 H, .slice A6 C.length c6, .int .i64 X, .int .i64 Y, .bool R], ownI (.slice A6 C.length c6) (marks 1 C.length), ownX (.slice A5 n5 c5) D, row w.heap.size 47 #[.int .i64 W, .int .i64 H, .slice A n c, .int .i64 X, .int .i64 Y, .bool R]] := S16.markX 0 rfl own17 g17
  clear S16 own17 g17
  go_wp2_with fail
  refine Calls.mono (laws_heldByteS _ D.length _ 1 _ (S17.ownX 0 rfl).rb (by omega) (by omega) (by omega)) ?_; rintro e w18 ⟨rfl, x18⟩
  have S18 := S17.call x18
  clear S17 x18
  obtain ⟨q0, q1, q2, q3, q4, q5⟩ := S18.gb 4 rfl
  go_wp2_with fail
  refine Calls.mono (laws_toGrid W H X Y R C A n c _ (hC.ext S18.ext) (by omega)) ?_; rintro e w20 ⟨v20, rfl, own20, x20⟩; obtain ⟨A20, c20, rfl, r20⟩ := own20.form
  have S20 := S18.call x20
  clear S18 q0 q1 q2 q3 q4 q5 own20 x20
  go_wp2_with fail
  refine Calls.mono (K1.out A20 _ c20 _ S20.ext r20) ?_; rintro e w22 ⟨A22, n22, c22, rfl, own22, x22⟩
  have S23 := S20.newX own22 x22
  clear S20 r20 own22 x22
  go_wp2_with fail
  refine Calls.mono (laws_eqByteS D _ _ _ _ _ _ _ (S23.ownX 0 rfl).rb (S23.ownX 4 rfl).rb) ?_; rintro e w24 ⟨rfl, x24⟩
  have S24 := S23.call x24
  clear S23 x24
  go_wp2_with fail
  refine Calls.mono (laws_heldByteS _ D.length _ 1 _ (S24.ownX 1 rfl).rb (by omega) (by omega) (by omega)) ?_; rintro e w25 ⟨rfl, x25⟩
  have S25 := S24.call x25
  clear S24 x25
  go_wp2_with fail
  go_ret
  exact ⟨rfl, S25.ext⟩
end Go.Proofs.YtohjjhoobikioaaDoor
