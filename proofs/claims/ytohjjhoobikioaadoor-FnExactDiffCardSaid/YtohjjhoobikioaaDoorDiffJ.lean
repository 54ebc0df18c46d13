/-
  impl.Diff.
-/
import Derived.Test.YtohjjhoobikioaaDoorDiffI
import Derived.Test.YtohjjhoobikioaaDoorGDiffer
namespace Go.Proofs.YtohjjhoobikioaaDoor
open Go.RowKit

theorem differ_yes {g a : Gr} (hg : gridOk g = true) (ha : gridOk a = true) (hw : g.W = a.W) (hh : g.H = a.H) : differ g a = (cnt g.C a.C g.C.length : Int) := by
  unfold differ; rw [hg, ha, decide_eq_true hw, decide_eq_true hh]; rfl
theorem differ_no {g a : Gr} (h : ¬ (gridOk g = true ∧ gridOk a = true ∧ g.W = a.W ∧ g.H = a.H)) : differ g a = -1 := by
  unfold differ
  rw [if_neg]
  intro q
  simp only [Bool.and_eq_true, decide_eq_true_eq] at q
  exact h ⟨q.1.1.1, q.1.1.2, q.1.2, q.2⟩

set_option maxRecDepth 100000 in
set_option maxHeartbeats 2000000 in
theorem impl_Diff_no (g a : Gr) (A : Option Addr) (n c : Nat) (A' : Option Addr) (n' c' : Nat) (w : World) (hC : RI w A n c g.C) (hC' : RI w A' n' c' a.C) (h : ¬ (gridOk g = true ∧ gridOk a = true ∧ g.W = a.W ∧ g.H = a.H ∧ a.R = false)) :
    Calls Tryd.prog 24 #[.agg #[.int .i64 g.W, .int .i64 g.H, .slice A n c, .int .i64 g.X, .int .i64 g.Y, .bool g.R], .agg #[.int .i64 a.W, .int .i64 a.H, .slice A' n' c', .int .i64 a.X, .int .i64 a.Y, .bool a.R]] w fun e w' =>
      e = .returned (.tuple #[.slice none 0 0, .bool false]) ∧ Ext w w' := by
  have S := ((St.refl w).alloc #[.int .i64 g.W, .int .i64 g.H, .slice A n c, .int .i64 g.X, .int .i64 g.Y, .bool g.R] 40).alloc #[.int .i64 a.W, .int .i64 a.H, .slice A' n' c', .int .i64 a.X, .int .i64 a.Y, .bool a.R] 40
  rw [World.size_alloc] at S
  have k1 := fun w h1 h2 => impl_Differ g.W g.H g.X g.Y g.R g.C A n c a.W a.H a.X a.Y a.R a.C A' n' c' w h1 h2
  by_cases h1 : gridOk g = true ∧ gridOk a = true ∧ g.W = a.W ∧ g.H = a.H
  · have hR : a.R = true := by
      cases hr : a.R
      · exact absurd ⟨h1.1, h1.2.1, h1.2.2.1, h1.2.2.2, hr⟩ h
      · rfl
    have e : differ ⟨g.W, g.H, g.C, g.X, g.Y, g.R⟩ ⟨a.W, a.H, a.C, a.X, a.Y, a.R⟩ = _ := differ_yes h1.1 h1.2.1 h1.2.2.1 h1.2.2.2
    rw [e] at k1
    have K1 := Lib.hid k1
    rw [hR] at S K1
    obtain ⟨m, hm⟩ : ∃ m, m = cnt g.C a.C g.C.length := ⟨_, rfl⟩
    rw [← hm] at K1
    clear k1 h1 h e hm
    rw [hR]
    clear hR
    go_enter Tryd.func24, Tryd.ntmps24
    go_wp2_with fail
    refine Calls.mono (K1.out _ (hC.ext S.ext) (hC'.ext S.ext)) ?_; rintro e w1 ⟨rfl, x1⟩
    have S1 := S.call x1
    obtain ⟨lc, lf, ls⟩ := S1.cells 0 rfl
    go_wp2_with fail
    go_ret2
    exact ⟨rfl, S1.ext⟩
  · have e : differ ⟨g.W, g.H, g.C, g.X, g.Y, g.R⟩ ⟨a.W, a.H, a.C, a.X, a.Y, a.R⟩ = -1 := differ_no h1
    rw [e] at k1
    have K1 := Lib.hid k1
    clear k1 h1 h e
    go_enter Tryd.func24, Tryd.ntmps24
    go_wp2_with fail
    refine Calls.mono (K1.out _ (hC.ext S.ext) (hC'.ext S.ext)) ?_; rintro e w1 ⟨rfl, x1⟩
    have S1 := S.call x1
    obtain ⟨lc, lf, ls⟩ := S1.cells 0 rfl
    go_wp2_with fail
    go_ret2
    exact ⟨rfl, S1.ext⟩

set_option maxRecDepth 100000 in
set_option maxHeartbeats 4000000 in
theorem impl_Diff_yes (g : Gr) (A : Option Addr) (n c : Nat) (W' H' X' Y' : Int) (C' : List Int) (A' : Option Addr) (n' c' : Nat) (w : World) (ht : Tab w) (hC : RI w A n c g.C) (hC' : RI w A' n' c' C')
    (hg : gridOk g = true) (ha : gridOk ⟨W', H', C', X', Y', false⟩ = true) (hw : g.W = W') (hh : g.H = H') :
    Calls Tryd.prog 24 #[.agg #[.int .i64 g.W, .int .i64 g.H, .slice A n c, .int .i64 g.X, .int .i64 g.Y, .bool g.R], .agg #[.int .i64 W', .int .i64 H', .slice A' n' c', .int .i64 X', .int .i64 Y', .bool false]] w fun e w' =>
      ∃ v, e = .returned (.tuple #[v, .bool true]) ∧ OwnB w' w.heap.size v (diffB g ⟨W', H', C', X', Y', false⟩) ∧ Ext w w' := by
  obtain ⟨d1, d2, d3, d4, d5, d6⟩ := gridOk_d ha
  obtain ⟨c1, c2, c3, c4, -⟩ := gridOk_c ha
  have hn : n ≤ 8000 := by
    obtain ⟨-, -, -, -, q5, q6⟩ := gridOk_d hg
    have := hC.len; omega
  have S := ((St.refl w).alloc #[.int .i64 g.W, .int .i64 g.H, .slice A n c, .int .i64 g.X, .int .i64 g.Y, .bool g.R] 40).alloc #[.int .i64 W', .int .i64 H', .slice A' n' c', .int .i64 X', .int .i64 Y', .bool false] 40
  rw [World.size_alloc] at S
  have k1 := fun w h1 h2 => impl_Differ g.W g.H g.X g.Y g.R g.C A n c W' H' X' Y' false C' A' n' c' w h1 h2
  have e : differ ⟨g.W, g.H, g.C, g.X, g.Y, g.R⟩ ⟨W', H', C', X', Y', false⟩ = _ := differ_yes hg ha hw hh
  rw [e] at k1
  obtain ⟨m, hm⟩ : ∃ m, m = cnt g.C C' g.C.length := ⟨_, rfl⟩
  have em : (cnt g.C C' g.C.length : Int) = m := by rw [hm]
  have K1 : Hid (∀ w h1 h2, Calls _ _ _ w _) := Lib.hid k1
  simp only [em] at K1
  have Hg := Lib.hid hg; have Ha := Lib.hid ha; have Hw := Lib.hid hw; have Hh := Lib.hid hh
  simp only at d1 d2 d3 d4 d5 d6 c1 c2 c3 c4
  clear k1 e hm hg ha hw hh d5 d6 em
  go_enter Tryd.func24, Tryd.ntmps24
  go_wp2_with fail
  refine Calls.mono (K1.out _ (hC.ext S.ext) (hC'.ext S.ext)) ?_; rintro e w1 ⟨rfl, x1⟩
  have S1 := S.call x1
  clear S x1
  obtain ⟨lc, lf, ls⟩ := S1.cells 0 rfl
  obtain ⟨lc2, lf2, ls2⟩ := S1.cells 1 rfl
  go_wp2_with fail
  refine Calls.mono (impl_copyGrid g A n c _ (hC.ext S1.ext) hn) ?_; rintro e w2 ⟨v, rfl, own, x2⟩
  have S2 := (S1.newI own x2).alloc zeroG 40
  obtain ⟨A1, cc1, rfl, -⟩ := own.form
  obtain ⟨m1, hm1⟩ : ∃ m, m = g.C.length := ⟨_, rfl⟩
  rw [← hm1] at S2 ⊢
  clear own x2 S1 lc lf ls lc2 lf2 ls2 hm1
  go_wp2_with ((with_reducible refine wp_setA (k := 0) (u := .agg #[.int .i64 g.W, .int .i64 g.H, .slice A1 m1 cc1, .int .i64 g.X, .int .i64 g.Y, .bool g.R]) #[.int .i64 g.W, .int .i64 g.H, .slice A1 m1 cc1, .int .i64 g.X, .int .i64 g.Y, .bool g.R] S2 0 rfl ?_ ?_ ?_ ?_ ?_ ?_ ?_); go_must (exact rfl); go_must (exact rfl); go_must (kernel_rfl); go_must (kernel_rfl); go_must (exact Nat.le_of_ble_eq_true (by kernel_rfl)); go_must (kernel_rfl))
  intro w3 S3
  have S4 : St w w3 (gbox w2.heap.size (.slice A1 m1 cc1) g ++ ownB (.slice none 0 0) [] :: [row (w.heap.size + 1) 40 #[.int .i64 W', .int .i64 H', .slice A' n' c', .int .i64 X', .int .i64 Y', .bool false], row w.heap.size 40 #[.int .i64 g.W, .int .i64 g.H, .slice A n c, .int .i64 g.X, .int .i64 g.Y, .bool g.R]]) := (S3.nilB.bring 2 rfl).bring 2 rfl
  clear S3 S2
  generalize w2.heap.size = b2 at S4 ⊢
  obtain ⟨lc, lf, ls⟩ := S4.cells 0 rfl
  simp only [gridCs] at lc
  obtain ⟨lc2, lf2, ls2⟩ := S4.cells 3 rfl
  go_wp2_with fail
  go_loopw [21, 7] (fun vi vt wr => ∃ (k : Nat) (v' : Value), (k : Int) ≤ g.H ∧ vi = .int .i64 k ∧ St w wr (gbox b2 v' (rowsDiff ⟨W', H', C', X', Y', false⟩ g k).1 ++ ownB vt (rowsDiff ⟨W', H', C', X', Y', false⟩ g k).2 :: [row (w.heap.size + 1) 40 #[.int .i64 W', .int .i64 H', .slice A' n' c', .int .i64 X', .int .i64 Y', .bool false], row w.heap.size 40 #[.int .i64 g.W, .int .i64 g.H, .slice A n c, .int .i64 g.X, .int .i64 g.Y, .bool g.R]])) (fun vi _ _ => g.H.toNat - (intOf vi).toNat)
  case atStart => exact ⟨0, _, by have := Hh.out; omega, rfl, S4⟩
  case round =>
    obtain ⟨k, v', hk, rfl, S5⟩ := hrel
    clear lc lf ls lc2 lf2 ls2 S4
    have hkH : (k : Int) ≤ H' := by have := Hh.out; omega
    obtain ⟨q1, q2, q3, q4⟩ := rowsDiff_ok Ha.out Hg.out Hw.out Hh.out k hkH
    have hHH : H' ≤ 200 := d4
    generalize hR : rowsDiff ⟨W', H', C', X', Y', false⟩ g k = R at S5 q1 q2 q3 q4
    have HR := Lib.hid hR; clear hR
    have Q1 := Lib.hid q1; have Q2 := Lib.hid q2; have Q3 := Lib.hid q3; clear q1 q2 q3
    obtain ⟨lc, lf, ls⟩ := S5.cells 0 rfl
    simp only [gridCs] at lc
    obtain ⟨lc2, lf2, ls2⟩ := S5.cells 3 rfl
    by_cases hlt : (k : Int) < g.H
    · have hs : ((k * W'.toNat : Nat) : Int) = (k : Int) * W' := by rw [Int.natCast_mul, Int.toNat_of_nonneg (by omega)]
      have he : ((k * W'.toNat + W'.toNat : Nat) : Int) = (k * W'.toNat : Nat) + W' := by rw [Int.natCast_add, Int.toNat_of_nonneg (by omega)]
      have HS := Lib.hid hs; have HE := Lib.hid he; clear hs he
      go_wp2_with fail
      refine Calls.mono (impl_diffRow ⟨W', H', C', X', Y', false⟩ R.1 _ _ _ k _ _ _ _ _ R.2 w _ _ ht S5 hC' Ha.out HS.out HE.out (by have := Hh.out; show (k : Int) < H'; omega) (DInv.start _ Q1.out Q2.out Q3.out) (by omega)) ?_; rintro e w6 ⟨v6, vo6, rfl, S6⟩
      clear S5 lc lf ls lc2 lf2 ls2
      go_wp2_with fail
      go_roundw
      case rel =>
        refine ⟨k + 1, v6, by omega, by go_num, ?_⟩
        have e : rowsDiff ⟨W', H', C', X', Y', false⟩ g (k + 1) = rowDiff ⟨W', H', C', X', Y', false⟩ (k * W'.toNat) (k * W'.toNat + W'.toNat) k (k * W'.toNat) R.1 R.2 := by rw [← HR.out]; rfl
        rw [e]; exact S6
      case measure => simp [intOf]; omega
    · have hkk : k = H'.toNat := by have := Hh.out; omega
      have E : Hid (diffB g ⟨W', H', C', X', Y', false⟩ = R.2 ++ emitStep R.1 X' Y') := by
        show _ = _
        rw [← HR.out, hkk]; rfl
      clear hkk
      go_wp2_with fail
      refine Calls.mono (impl_emitStep R.1 _ X' Y' _ (ht.ext S5.ext) Q1.out c1 (by have := Q2.out; show X' < R.1.W; rw [this]; exact c2) c3 (by have := Q3.out; show Y' < R.1.H; rw [this]; exact c4)) ?_; rintro e w6 ⟨A6, n6, c6, rfl, r6, x6⟩
      have S6 := S5.call x6
      have hl6 := emitStep_len R.1 X' Y'
      rw [r6.len] at hl6
      clear x6 lc lf ls lc2 lf2 ls2 S5
      go_wp2_with (at_builtin; refine wp_addB rfl _ _ rfl S6 2 rfl rfl rfl r6 (by omega) ?_)
      intro v7 w7 S7
      go_wp2_with fail
      go_ret2
      refine ⟨_, rfl, ?_, S7.ext⟩
      rw [E.out]
      exact S7.outB 2 rfl
end Go.Proofs.YtohjjhoobikioaaDoor
