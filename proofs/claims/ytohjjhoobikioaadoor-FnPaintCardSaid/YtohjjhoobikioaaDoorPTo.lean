/-
  PaintTo of both packages.
-/
import Derived.Test.YtohjjhoobikioaaDoorFull
import Derived.Test.YtohjjhoobikioaaDoorPOk
namespace Go.Proofs.YtohjjhoobikioaaDoor
open Go.RowKit

abbrev zeroP : Array Value := #[.int .i64 0, .int .i64 0, .bool false, .int .i64 0, .int .i64 0, .slice none 0 0, .int .i64 0, .int .i64 0, .bool false]
def ptOk (PW PH : Int) (K : Bool) (s g : Gr) : Bool := paintOk PW PH K s && gridOk g && !g.R && (g.W == PW) && (g.H == PH)
def ptD (PW PH : Int) (K : Bool) (s g : Gr) : List UInt8 := if ptOk PW PH K s g = true then (if K = true then diffD s g else fullD g) else []
def ptC (PW PH : Int) (K : Bool) (s g : Gr) : List Int := if ptOk PW PH K s g = true then g.C else []
/-- the painter that comes of it -/
def ptCs (PW PH : Int) (g : Gr) (ok : Bool) (v : Value) : Array Value := if ok = true then #[.int .i64 PW, .int .i64 PH, .bool true, .int .i64 g.W, .int .i64 g.H, v, .int .i64 g.X, .int .i64 g.Y, .bool g.R] else #[.int .i64 0, .int .i64 0, .bool false, .int .i64 0, .int .i64 0, v, .int .i64 0, .int .i64 0, .bool false]
theorem pt_no {PW PH : Int} {K : Bool} {s g : Gr} (h : ptOk PW PH K s g = false) : ptD PW PH K s g = [] ∧ ptC PW PH K s g = [] := by
  unfold ptD ptC; rw [h]; exact ⟨rfl, rfl⟩
theorem pt_yes {PW PH : Int} {K : Bool} {s g : Gr} (h : ptOk PW PH K s g = true) : ptD PW PH K s g = (if K = true then diffD s g else fullD g) ∧ ptC PW PH K s g = g.C := by
  unfold ptD ptC; rw [h]; exact ⟨rfl, rfl⟩
theorem ptD_len (PW PH : Int) (K : Bool) (s g : Gr) : (ptD PW PH K s g).length ≤ 1600031 := by
  unfold ptD
  split
  · split
    · have := diffD_len s g; omega
    · exact fullD_len g
  · simp
theorem nine {cs : Array Value} (hs : cs.size = 9) (a0 a1 a2 a3 a4 a5 a6 a7 a8 : Value) : ((((((((cs.setIfInBounds 0 a0).setIfInBounds 1 a1).setIfInBounds 2 a2).setIfInBounds 3 a3).setIfInBounds 4 a4).setIfInBounds 5 a5).setIfInBounds 6 a6).setIfInBounds 7 a7).setIfInBounds 8 a8 = #[a0, a1, a2, a3, a4, a5, a6, a7, a8] := by
  obtain ⟨l⟩ := cs
  match l, hs with
  | [_, _, _, _, _, _, _, _, _], _ => simp
theorem St.set9h {W w : World} {b : Nat} {T : TypeId} {cs : Array Value} {L : List Pc} (S : St W w (YtohjjhoobikioaaDoor.row b T cs :: L)) (hs : cs.size = 9) (a0 a1 a2 a3 a4 a5 a6 a7 a8 : Value) :
    St W (((((((((w.setCell ⟨b, 0, none⟩ a0).setCell ⟨b, 1, none⟩ a1).setCell ⟨b, 2, none⟩ a2).setCell ⟨b, 3, none⟩ a3).setCell ⟨b, 4, none⟩ a4).setCell ⟨b, 5, none⟩ a5).setCell ⟨b, 6, none⟩ a6).setCell ⟨b, 7, none⟩ a7).setCell ⟨b, 8, none⟩ a8) (YtohjjhoobikioaaDoor.row b T #[a0, a1, a2, a3, a4, a5, a6, a7, a8] :: L) :=
  by
  have h0 := S.setc1 0 a0
  have h1 := h0.setc1 1 a1
  have h2 := h1.setc1 2 a2
  have h3 := h2.setc1 3 a3
  have h4 := h3.setc1 4 a4
  have h5 := h4.setc1 5 a5
  have h6 := h5.setc1 6 a6
  have h7 := h6.setc1 7 a7
  have h8 := h7.setc1 8 a8
  exact h8.castR (nine hs a0 a1 a2 a3 a4 a5 a6 a7 a8)
theorem St.set9 {W w : World} {b : Nat} {T : TypeId} {cs : Array Value} {L : List Pc} (S : St W w L) (i : Nat) (e : L[i]? = some (YtohjjhoobikioaaDoor.row b T cs)) (hs : cs.size = 9) (a0 a1 a2 a3 a4 a5 a6 a7 a8 : Value) :
    St W (((((((((w.setCell ⟨b, 0, none⟩ a0).setCell ⟨b, 1, none⟩ a1).setCell ⟨b, 2, none⟩ a2).setCell ⟨b, 3, none⟩ a3).setCell ⟨b, 4, none⟩ a4).setCell ⟨b, 5, none⟩ a5).setCell ⟨b, 6, none⟩ a6).setCell ⟨b, 7, none⟩ a7).setCell ⟨b, 8, none⟩ a8) (L.set i (YtohjjhoobikioaaDoor.row b T #[a0, a1, a2, a3, a4, a5, a6, a7, a8])) :=
  S.upd i e fun _ S' => S'.set9h hs a0 a1 a2 a3 a4 a5 a6 a7 a8
theorem St.pb2 {W w : World} {L : List Pc} {b : Nat} {T : TypeId} {PW PH : Int} {cs : List Value} (S : St W w L) (i : Nat) (e : L[i]? = some (YtohjjhoobikioaaDoor.row b T (.int .i64 PW :: .int .i64 PH :: cs).toArray)) : w.cell? ⟨b, 0, none⟩ = some (.int .i64 PW) ∧ w.cell? ⟨b, 1, none⟩ = some (.int .i64 PH) := by
  obtain ⟨lc, -, -⟩ := S.cells i e
  exact ⟨(lc 0).trans rfl, (lc 1).trans rfl⟩
theorem St.drop2 {W w : World} {h k l m n : Pc} (S : St W w [h, k, l, m, n]) : St W w [h, k] :=
  ((((S.bring 2 rfl).drop.bring 2 rfl).drop.bring 2 rfl).drop)

set_option maxRecDepth 100000 in
set_option maxHeartbeats 8000000 in
theorem impl_PaintTo (PW PH W H X Y : Int) (K R : Bool) (C : List Int) (A : Option Addr) (n c : Nat) (W' H' X' Y' : Int) (R' : Bool) (C' : List Int) (A' : Option Addr) (n' c' : Nat) (w : World) (ht : Tab w) (hC : RI w A n c C) (hC' : RI w A' n' c' C') :
    Calls Tryd.prog 41 #[.agg #[.int .i64 PW, .int .i64 PH, .bool K, .int .i64 W, .int .i64 H, .slice A n c, .int .i64 X, .int .i64 Y, .bool R], .agg #[.int .i64 W', .int .i64 H', .slice A' n' c', .int .i64 X', .int .i64 Y', .bool R']] w fun e w' => ∃ v vb, e = .returned (.tuple #[.agg (ptCs PW PH ⟨W', H', C', X', Y', R'⟩ (ptOk PW PH K ⟨W, H, C, X, Y, R⟩ ⟨W', H', C', X', Y', R'⟩) v), vb, .bool (ptOk PW PH K ⟨W, H, C, X, Y, R⟩ ⟨W', H', C', X', Y', R'⟩)]) ∧
      St w w' [ownX vb (ptD PW PH K ⟨W, H, C, X, Y, R⟩ ⟨W', H', C', X', Y', R'⟩), ownI v (ptC PW PH K ⟨W, H, C, X, Y, R⟩ ⟨W', H', C', X', Y', R'⟩)] := by
  have S0 := (((St.refl w).alloc #[.int .i64 PW, .int .i64 PH, .bool K, .int .i64 W, .int .i64 H, .slice A n c, .int .i64 X, .int .i64 Y, .bool R] 64).alloc #[.int .i64 W', .int .i64 H', .slice A' n' c', .int .i64 X', .int .i64 Y', .bool R'] 40).alloc zeroP 64
  simp only [World.size_alloc] at S0
  have K1 := Lib.hid (fun w h => impl_PaintOk PW PH W H X Y K R C A n c w h)
  have K2 := Lib.hid (fun w h => impl_GridOk W' H' X' Y' R' C' A' n' c' w h)
  have HT : Hid (∀ w1, Ext w w1 → Tab w1) := fun _ x => ht.ext x
  clear ht
  cases h1 : paintOk PW PH K ⟨W, H, C, X, Y, R⟩
  · have E : Hid (ptOk PW PH K ⟨W, H, C, X, Y, R⟩ ⟨W', H', C', X', Y', R'⟩ = false) := by show _ = _; simp [ptOk, h1]
    rw [h1] at K1
    clear h1
    have E2 := Lib.hid (pt_no E.out)
    go_enter Tryd.func41, Tryd.ntmps41
    go_wp2_with fail
    refine Calls.mono (K1.out _ (hC.ext S0.ext)) ?_; rintro e w1 ⟨rfl, x1⟩
    have S1 := S0.call x1
    clear S0 x1
    obtain ⟨lc2, lf2, ls2⟩ := S1.cells 2 rfl
    obtain ⟨lc3, lf3, ls3⟩ := S1.cells 1 rfl
    go_wp2_with ((with_reducible refine wp_setA (k := 0) (u := .agg zeroP) zeroP S1 0 rfl ?_ ?_ ?_ ?_ ?_ ?_ ?_); go_must (exact rfl); go_must (exact rfl); go_must (kernel_rfl); go_must (kernel_rfl); go_must (exact Nat.le_of_ble_eq_true (by kernel_rfl)); go_must (kernel_rfl))
    intro w3 S3
    obtain ⟨lc4, -, -⟩ := S3.cells 0 rfl
    go_wp2_with fail
    have S4 : St w w3 [ownX (.slice none 0 0) [], ownI (.slice none 0 0) []] := ((St.of S3.ext).nilI).newX (.inl (OwnB.nil _ _)) (Ext.refl _)
    refine bodyPost_ret (v := .tuple #[.agg zeroP, .slice none 0 0, .bool false]) (by simp [results, Tryd.results41, go_sem, lc4]) rfl ⟨.slice none 0 0, .slice none 0 0, ?_, ?_⟩
    · rw [E.out]; rfl
    · rw [E2.out.1, E2.out.2]; exact S4
  rw [h1] at K1
  cases h2 : gridOk ⟨W', H', C', X', Y', R'⟩
  · have E : Hid (ptOk PW PH K ⟨W, H, C, X, Y, R⟩ ⟨W', H', C', X', Y', R'⟩ = false) := by show _ = _; simp [ptOk, h2]
    rw [h2] at K2
    clear h1 h2
    have E2 := Lib.hid (pt_no E.out)
    go_enter Tryd.func41, Tryd.ntmps41
    go_wp2_with fail
    refine Calls.mono (K1.out _ (hC.ext S0.ext)) ?_; rintro e w1 ⟨rfl, x1⟩
    have S1 := S0.call x1
    clear S0 x1
    obtain ⟨lc2, lf2, ls2⟩ := S1.cells 2 rfl
    obtain ⟨lc3, lf3, ls3⟩ := S1.cells 1 rfl
    go_wp2_with fail
    refine Calls.mono (K2.out _ (hC'.ext S1.ext)) ?_; rintro e w2 ⟨rfl, x2⟩
    have S1 := S1.call x2
    clear x2 lc2 lf2 ls2 lc3 lf3 ls3
    obtain ⟨lc2, lf2, ls2⟩ := S1.cells 2 rfl
    obtain ⟨lc3, lf3, ls3⟩ := S1.cells 1 rfl
    go_wp2_with ((with_reducible refine wp_setA (k := 0) (u := .agg zeroP) zeroP S1 0 rfl ?_ ?_ ?_ ?_ ?_ ?_ ?_); go_must (exact rfl); go_must (exact rfl); go_must (kernel_rfl); go_must (kernel_rfl); go_must (exact Nat.le_of_ble_eq_true (by kernel_rfl)); go_must (kernel_rfl))
    intro w3 S3
    obtain ⟨lc4, -, -⟩ := S3.cells 0 rfl
    go_wp2_with fail
    have S4 : St w w3 [ownX (.slice none 0 0) [], ownI (.slice none 0 0) []] := ((St.of S3.ext).nilI).newX (.inl (OwnB.nil _ _)) (Ext.refl _)
    refine bodyPost_ret (v := .tuple #[.agg zeroP, .slice none 0 0, .bool false]) (by simp [results, Tryd.results41, go_sem, lc4]) rfl ⟨.slice none 0 0, .slice none 0 0, ?_, ?_⟩
    · rw [E.out]; rfl
    · rw [E2.out.1, E2.out.2]; exact S4
  rw [h2] at K2
  cases R'
  case true =>
    have E : Hid (ptOk PW PH K ⟨W, H, C, X, Y, R⟩ ⟨W', H', C', X', Y', true⟩ = false) := by show _ = _; simp [ptOk]
    clear h1 h2
    have E2 := Lib.hid (pt_no E.out)
    go_enter Tryd.func41, Tryd.ntmps41
    go_wp2_with fail
    refine Calls.mono (K1.out _ (hC.ext S0.ext)) ?_; rintro e w1 ⟨rfl, x1⟩
    have S1 := S0.call x1
    clear S0 x1
    obtain ⟨lc2, lf2, ls2⟩ := S1.cells 2 rfl
    obtain ⟨lc3, lf3, ls3⟩ := S1.cells 1 rfl
    go_wp2_with fail
    refine Calls.mono (K2.out _ (hC'.ext S1.ext)) ?_; rintro e w2 ⟨rfl, x2⟩
    have S1 := S1.call x2
    clear x2 lc2 lf2 ls2 lc3 lf3 ls3
    obtain ⟨lc2, lf2, ls2⟩ := S1.cells 2 rfl
    obtain ⟨lc3, lf3, ls3⟩ := S1.cells 1 rfl
    go_wp2_with ((with_reducible refine wp_setA (k := 0) (u := .agg zeroP) zeroP S1 0 rfl ?_ ?_ ?_ ?_ ?_ ?_ ?_); go_must (exact rfl); go_must (exact rfl); go_must (kernel_rfl); go_must (kernel_rfl); go_must (exact Nat.le_of_ble_eq_true (by kernel_rfl)); go_must (kernel_rfl))
    intro w3 S3
    obtain ⟨lc4, -, -⟩ := S3.cells 0 rfl
    go_wp2_with fail
    have S4 : St w w3 [ownX (.slice none 0 0) [], ownI (.slice none 0 0) []] := ((St.of S3.ext).nilI).newX (.inl (OwnB.nil _ _)) (Ext.refl _)
    refine bodyPost_ret (v := .tuple #[.agg zeroP, .slice none 0 0, .bool false]) (by simp [results, Tryd.results41, go_sem, lc4]) rfl ⟨.slice none 0 0, .slice none 0 0, ?_, ?_⟩
    · rw [E.out]; rfl
    · rw [E2.out.1, E2.out.2]; exact S4
  case false =>
  cases h3 : (W' != PW)
  case true =>
    have E : Hid (ptOk PW PH K ⟨W, H, C, X, Y, R⟩ ⟨W', H', C', X', Y', false⟩ = false) := by
      show _ = _
      have : (W' == PW) = false := by simpa using h3
      simp [ptOk, this]
    clear h1 h2
    have E2 := Lib.hid (pt_no E.out)
    go_enter Tryd.func41, Tryd.ntmps41
    go_wp2_with fail
    refine Calls.mono (K1.out _ (hC.ext S0.ext)) ?_; rintro e w1 ⟨rfl, x1⟩
    have S1 := S0.call x1
    clear S0 x1
    obtain ⟨lc2, lf2, ls2⟩ := S1.cells 2 rfl
    obtain ⟨lc3, lf3, ls3⟩ := S1.cells 1 rfl
    go_wp2_with fail
    refine Calls.mono (K2.out _ (hC'.ext S1.ext)) ?_; rintro e w2 ⟨rfl, x2⟩
    have S1 := S1.call x2
    clear x2 lc2 lf2 ls2 lc3 lf3 ls3
    obtain ⟨lc2, lf2, ls2⟩ := S1.cells 2 rfl
    obtain ⟨lc3, lf3, ls3⟩ := S1.cells 1 rfl
    go_wp2_with ((with_reducible refine wp_setA (k := 0) (u := .agg zeroP) zeroP S1 0 rfl ?_ ?_ ?_ ?_ ?_ ?_ ?_); go_must (exact rfl); go_must (exact rfl); go_must (kernel_rfl); go_must (kernel_rfl); go_must (exact Nat.le_of_ble_eq_true (by kernel_rfl)); go_must (kernel_rfl))
    intro w3 S3
    obtain ⟨lc4, -, -⟩ := S3.cells 0 rfl
    go_wp2_with fail
    have S4 : St w w3 [ownX (.slice none 0 0) [], ownI (.slice none 0 0) []] := ((St.of S3.ext).nilI).newX (.inl (OwnB.nil _ _)) (Ext.refl _)
    refine bodyPost_ret (v := .tuple #[.agg zeroP, .slice none 0 0, .bool false]) (by simp [results, Tryd.results41, go_sem, lc4]) rfl ⟨.slice none 0 0, .slice none 0 0, ?_, ?_⟩
    · rw [E.out]; rfl
    · rw [E2.out.1, E2.out.2]; exact S4
  case false =>
  cases h4 : (H' != PH)
  case true =>
    have E : Hid (ptOk PW PH K ⟨W, H, C, X, Y, R⟩ ⟨W', H', C', X', Y', false⟩ = false) := by
      show _ = _
      have : (H' == PH) = false := by simpa using h4
      simp [ptOk, this]
    clear h1 h2
    have E2 := Lib.hid (pt_no E.out)
    go_enter Tryd.func41, Tryd.ntmps41
    go_wp2_with fail
    refine Calls.mono (K1.out _ (hC.ext S0.ext)) ?_; rintro e w1 ⟨rfl, x1⟩
    have S1 := S0.call x1
    clear S0 x1
    obtain ⟨lc2, lf2, ls2⟩ := S1.cells 2 rfl
    obtain ⟨lc3, lf3, ls3⟩ := S1.cells 1 rfl
    go_wp2_with fail
    refine Calls.mono (K2.out _ (hC'.ext S1.ext)) ?_; rintro e w2 ⟨rfl, x2⟩
    have S1 := S1.call x2
    clear x2 lc2 lf2 ls2 lc3 lf3 ls3
    obtain ⟨lc2, lf2, ls2⟩ := S1.cells 2 rfl
    obtain ⟨lc3, lf3, ls3⟩ := S1.cells 1 rfl
    go_wp2_with ((with_reducible refine wp_setA (k := 0) (u := .agg zeroP) zeroP S1 0 rfl ?_ ?_ ?_ ?_ ?_ ?_ ?_); go_must (exact rfl); go_must (exact rfl); go_must (kernel_rfl); go_must (kernel_rfl); go_must (exact Nat.le_of_ble_eq_true (by kernel_rfl)); go_must (kernel_rfl))
    intro w3 S3
    obtain ⟨lc4, -, -⟩ := S3.cells 0 rfl
    go_wp2_with fail
    have S4 : St w w3 [ownX (.slice none 0 0) [], ownI (.slice none 0 0) []] := ((St.of S3.ext).nilI).newX (.inl (OwnB.nil _ _)) (Ext.refl _)
    refine bodyPost_ret (v := .tuple #[.agg zeroP, .slice none 0 0, .bool false]) (by simp [results, Tryd.results41, go_sem, lc4]) rfl ⟨.slice none 0 0, .slice none 0 0, ?_, ?_⟩
    · rw [E.out]; rfl
    · rw [E2.out.1, E2.out.2]; exact S4
  case false =>
  have e3 : W' = PW := by simpa using h3
  have e4 : H' = PH := by simpa using h4
  have E : Hid (ptOk PW PH K ⟨W, H, C, X, Y, R⟩ ⟨W', H', C', X', Y', false⟩ = true) := by
    show (paintOk PW PH K ⟨W, H, C, X, Y, R⟩ && gridOk ⟨W', H', C', X', Y', false⟩ && !false && (W' == PW) && (H' == PH)) = true
    rw [h1, h2, e3, e4]; simp
  have hn8 : n' ≤ 8000 := by
    obtain ⟨-, -, -, -, q5, q6⟩ := gridOk_d h2
    simp only at q5 q6
    have := hC'.len
    omega
  have E2 := Lib.hid (pt_yes E.out)
  clear h1 h2 e3 e4
  cases K
  case false =>
    go_enter Tryd.func41, Tryd.ntmps41
    go_wp2_with fail
    refine Calls.mono (K1.out _ (hC.ext S0.ext)) ?_; rintro e w1 ⟨rfl, x1⟩
    have S1 := S0.call x1
    clear S0 x1
    obtain ⟨lc2, lf2, ls2⟩ := S1.cells 2 rfl
    obtain ⟨lc3, lf3, ls3⟩ := S1.cells 1 rfl
    go_wp2_with fail
    refine Calls.mono (K2.out _ (hC'.ext S1.ext)) ?_; rintro e w2 ⟨rfl, x2⟩
    have S1 := S1.call x2
    clear x2 lc2 lf2 ls2 lc3 lf3 ls3
    obtain ⟨lc2, lf2, ls2⟩ := S1.cells 2 rfl
    obtain ⟨lc3, lf3, ls3⟩ := S1.cells 1 rfl
    go_wp2_with fail
    refine Calls.mono (impl_Full ⟨W', H', C', X', Y', false⟩ A' n' c' _ (HT.out _ S1.ext) (hC'.ext S1.ext)) ?_; rintro e w4 ⟨v4, rfl, own4, x4⟩
    obtain ⟨A3, n3, c3, rfl⟩ := own4.form'
    have S3 := S1.newX own4 x4
    clear S1 own4 x4 lc2 lf2 ls2 lc3 lf3 ls3
    have SS := Lib.hid S3
    clear S3
    go_wp2_with fail
    have B1 := And.intro (St.pb2 (PW := PW) (PH := PH) (b := w.heap.size) SS.out.drew 3 rfl) (St.gb (gW := W') (gH := H') (v := .slice A' n' c') (gX := X') (gY := Y') (gR := false) (b := w.heap.size + 1) (T := 40) SS.out.drew 2 rfl)
    go_region_held3 (fun w' => (w'.cell? ⟨w.heap.size, 0, none⟩ = some (.int .i64 PW) ∧ w'.cell? ⟨w.heap.size, 1, none⟩ = some (.int .i64 PH)) ∧ GBox w' (w.heap.size + 1) W' H' (.slice A' n' c') X' Y' false)
      ((first | with_reducible assumption | assumption))
      (first
        | (go_at_call 68; refine (impl_copyGrid ⟨W', H', C', X', Y', false⟩ A' n' c' _ (hC'.ext SS.out.drew.ext) (by omega)).mono ?_; rintro e w9 ⟨v9, rfl, own9, x9⟩; obtain ⟨A9, n9, c9, rfl⟩ := own9.form'; have SX9 := SS.out.drew.newI own9 x9; obtain ⟨lc9, lf9, ls9⟩ := SX9.cells 2 rfl; have B2 := And.intro (St.pb2 (PW := PW) (PH := PH) (b := w.heap.size) SX9 4 rfl) (St.gb (gW := W') (gH := H') (v := .slice A' n' c') (gX := X') (gY := Y') (gR := false) (b := w.heap.size + 1) (T := 40) SX9 3 rfl); have B3 := And.intro (St.pb2 (PW := PW) (PH := PH) (b := w.heap.size) (SX9.set9 2 rfl rfl (.int .i64 PW) (.int .i64 PH) (.bool true) (.int .i64 W') (.int .i64 H') (.slice A9 n9 c9) (.int .i64 X') (.int .i64 Y') (.bool false)) 4 rfl) (St.gb (gW := W') (gH := H') (v := .slice A' n' c') (gX := X') (gY := Y') (gR := false) (b := w.heap.size + 1) (T := 40) (SX9.set9 2 rfl rfl (.int .i64 PW) (.int .i64 PH) (.bool true) (.int .i64 W') (.int .i64 H') (.slice A9 n9 c9) (.int .i64 X') (.int .i64 Y') (.bool false)) 3 rfl)))
    have S9 := (SX9.set9 2 rfl rfl (.int .i64 PW) (.int .i64 PH) (.bool true) (.int .i64 W') (.int .i64 H') (.slice A9 n9 c9) (.int .i64 X') (.int .i64 Y') (.bool false))
    obtain ⟨lcZ, -, -⟩ := S9.cells 2 rfl
    go_wp2_with fail
    refine bodyPost_ret (v := .tuple #[.agg #[.int .i64 PW, .int .i64 PH, .bool true, .int .i64 W', .int .i64 H', .slice A9 n9 c9, .int .i64 X', .int .i64 Y', .bool false], .slice A3 n3 c3, .bool true]) (by simp [results, Tryd.results41, go_sem, lcZ]) rfl ⟨.slice A9 n9 c9, .slice A3 n3 c3, ?_, ?_⟩
    · rw [E.out]; rfl
    · rw [E2.out.1, E2.out.2]
      exact S9.drop2.swap
  case true =>
    go_enter Tryd.func41, Tryd.ntmps41
    go_wp2_with fail
    refine Calls.mono (K1.out _ (hC.ext S0.ext)) ?_; rintro e w1 ⟨rfl, x1⟩
    have S1 := S0.call x1
    clear S0 x1
    obtain ⟨lc2, lf2, ls2⟩ := S1.cells 2 rfl
    obtain ⟨lc3, lf3, ls3⟩ := S1.cells 1 rfl
    go_wp2_with fail
    refine Calls.mono (K2.out _ (hC'.ext S1.ext)) ?_; rintro e w2 ⟨rfl, x2⟩
    have S1 := S1.call x2
    clear x2 lc2 lf2 ls2 lc3 lf3 ls3
    obtain ⟨lc2, lf2, ls2⟩ := S1.cells 2 rfl
    obtain ⟨lc3, lf3, ls3⟩ := S1.cells 1 rfl
    go_wp2_with fail
    refine Calls.mono (impl_Diff ⟨W, H, C, X, Y, R⟩ ⟨W', H', C', X', Y', false⟩ A n c A' n' c' _ (HT.out _ S1.ext) (hC.ext S1.ext) (hC'.ext S1.ext)) ?_; rintro e w4 ⟨v4, rfl, own4, x4⟩
    obtain ⟨A3, n3, c3, rfl⟩ := own4.form'
    have S3 := S1.newX (.inl own4) x4
    clear S1 own4 x4 lc2 lf2 ls2 lc3 lf3 ls3
    have SS := Lib.hid S3
    clear S3
    go_wp2_with fail
    have B1 := And.intro (St.pb2 (PW := PW) (PH := PH) (b := w.heap.size) SS.out.drew 3 rfl) (St.gb (gW := W') (gH := H') (v := .slice A' n' c') (gX := X') (gY := Y') (gR := false) (b := w.heap.size + 1) (T := 40) SS.out.drew 2 rfl)
    go_region_held3 (fun w' => (w'.cell? ⟨w.heap.size, 0, none⟩ = some (.int .i64 PW) ∧ w'.cell? ⟨w.heap.size, 1, none⟩ = some (.int .i64 PH)) ∧ GBox w' (w.heap.size + 1) W' H' (.slice A' n' c') X' Y' false)
      ((first | with_reducible assumption | assumption))
      (first
        | (go_at_call 68; refine (impl_copyGrid ⟨W', H', C', X', Y', false⟩ A' n' c' _ (hC'.ext SS.out.drew.ext) (by omega)).mono ?_; rintro e w9 ⟨v9, rfl, own9, x9⟩; obtain ⟨A9, n9, c9, rfl⟩ := own9.form'; have SX9 := SS.out.drew.newI own9 x9; obtain ⟨lc9, lf9, ls9⟩ := SX9.cells 2 rfl; have B2 := And.intro (St.pb2 (PW := PW) (PH := PH) (b := w.heap.size) SX9 4 rfl) (St.gb (gW := W') (gH := H') (v := .slice A' n' c') (gX := X') (gY := Y') (gR := false) (b := w.heap.size + 1) (T := 40) SX9 3 rfl); have B3 := And.intro (St.pb2 (PW := PW) (PH := PH) (b := w.heap.size) (SX9.set9 2 rfl rfl (.int .i64 PW) (.int .i64 PH) (.bool true) (.int .i64 W') (.int .i64 H') (.slice A9 n9 c9) (.int .i64 X') (.int .i64 Y') (.bool false)) 4 rfl) (St.gb (gW := W') (gH := H') (v := .slice A' n' c') (gX := X') (gY := Y') (gR := false) (b := w.heap.size + 1) (T := 40) (SX9.set9 2 rfl rfl (.int .i64 PW) (.int .i64 PH) (.bool true) (.int .i64 W') (.int .i64 H') (.slice A9 n9 c9) (.int .i64 X') (.int .i64 Y') (.bool false)) 3 rfl)))
    have S9 := (SX9.set9 2 rfl rfl (.int .i64 PW) (.int .i64 PH) (.bool true) (.int .i64 W') (.int .i64 H') (.slice A9 n9 c9) (.int .i64 X') (.int .i64 Y') (.bool false))
    obtain ⟨lcZ, -, -⟩ := S9.cells 2 rfl
    go_wp2_with fail
    refine bodyPost_ret (v := .tuple #[.agg #[.int .i64 PW, .int .i64 PH, .bool true, .int .i64 W', .int .i64 H', .slice A9 n9 c9, .int .i64 X', .int .i64 Y', .bool false], .slice A3 n3 c3, .bool true]) (by simp [results, Tryd.results41, go_sem, lcZ]) rfl ⟨.slice A9 n9 c9, .slice A3 n3 c3, ?_, ?_⟩
    · rw [E.out]; rfl
    · rw [E2.out.1, E2.out.2]
      exact S9.drop2.swap
set_option maxRecDepth 100000 in
set_option maxHeartbeats 8000000 in
theorem spec_PaintTo (PW PH W H X Y : Int) (K R : Bool) (C : List Int) (A : Option Addr) (n c : Nat) (W' H' X' Y' : Int) (R' : Bool) (C' : List Int) (A' : Option Addr) (n' c' : Nat) (w : World) (hC : RI w A n c C) (hC' : RI w A' n' c' C') :
    Calls Tryd.prog 39 #[.agg #[.int .i64 PW, .int .i64 PH, .bool K, .int .i64 W, .int .i64 H, .slice A n c, .int .i64 X, .int .i64 Y, .bool R], .agg #[.int .i64 W', .int .i64 H', .slice A' n' c', .int .i64 X', .int .i64 Y', .bool R']] w fun e w' => ∃ v vb, e = .returned (.tuple #[.agg (ptCs PW PH ⟨W', H', C', X', Y', R'⟩ (ptOk PW PH K ⟨W, H, C, X, Y, R⟩ ⟨W', H', C', X', Y', R'⟩) v), vb, .bool (ptOk PW PH K ⟨W, H, C, X, Y, R⟩ ⟨W', H', C', X', Y', R'⟩)]) ∧
      St w w' [ownX vb (ptD PW PH K ⟨W, H, C, X, Y, R⟩ ⟨W', H', C', X', Y', R'⟩), ownI v (ptC PW PH K ⟨W, H, C, X, Y, R⟩ ⟨W', H', C', X', Y', R'⟩)] := by
  have S0 := (((St.refl w).alloc #[.int .i64 PW, .int .i64 PH, .bool K, .int .i64 W, .int .i64 H, .slice A n c, .int .i64 X, .int .i64 Y, .bool R] 64).alloc #[.int .i64 W', .int .i64 H', .slice A' n' c', .int .i64 X', .int .i64 Y', .bool R'] 40).alloc zeroP 64
  simp only [World.size_alloc] at S0
  have K1 := Lib.hid (fun w h => spec_PaintOk PW PH W H X Y K R C A n c w h)
  have K2 := Lib.hid (fun w h => spec_GridOk W' H' X' Y' R' C' A' n' c' w h)
  cases h1 : paintOk PW PH K ⟨W, H, C, X, Y, R⟩
  · have E : Hid (ptOk PW PH K ⟨W, H, C, X, Y, R⟩ ⟨W', H', C', X', Y', R'⟩ = false) := by show _ = _; simp [ptOk, h1]
    rw [h1] at K1
    clear h1
    have E2 := Lib.hid (pt_no E.out)
    go_enter Tryd.func39, Tryd.ntmps39
    go_wp2_with fail
    refine Calls.mono (K1.out _ (hC.ext S0.ext)) ?_; rintro e w1 ⟨rfl, x1⟩
    have S1 := S0.call x1
    clear S0 x1
    obtain ⟨lc2, lf2, ls2⟩ := S1.cells 2 rfl
    obtain ⟨lc3, lf3, ls3⟩ := S1.cells 1 rfl
    go_wp2_with ((with_reducible refine wp_setA (k := 0) (u := .agg zeroP) zeroP S1 0 rfl ?_ ?_ ?_ ?_ ?_ ?_ ?_); go_must (exact rfl); go_must (exact rfl); go_must (kernel_rfl); go_must (kernel_rfl); go_must (exact Nat.le_of_ble_eq_true (by kernel_rfl)); go_must (kernel_rfl))
    intro w3 S3
    obtain ⟨lc4, -, -⟩ := S3.cells 0 rfl
    go_wp2_with fail
    have S4 : St w w3 [ownX (.slice none 0 0) [], ownI (.slice none 0 0) []] := ((St.of S3.ext).nilI).newX (.inl (OwnB.nil _ _)) (Ext.refl _)
    refine bodyPost_ret (v := .tuple #[.agg zeroP, .slice none 0 0, .bool false]) (by simp [results, Tryd.results39, go_sem, lc4]) rfl ⟨.slice none 0 0, .slice none 0 0, ?_, ?_⟩
    · rw [E.out]; rfl
    · rw [E2.out.1, E2.out.2]; exact S4
  rw [h1] at K1
  cases h2 : gridOk ⟨W', H', C', X', Y', R'⟩
  · have E : Hid (ptOk PW PH K ⟨W, H, C, X, Y, R⟩ ⟨W', H', C', X', Y', R'⟩ = false) := by show _ = _; simp [ptOk, h2]
    rw [h2] at K2
    clear h1 h2
    have E2 := Lib.hid (pt_no E.out)
    go_enter Tryd.func39, Tryd.ntmps39
    go_wp2_with fail
    refine Calls.mono (K1.out _ (hC.ext S0.ext)) ?_; rintro e w1 ⟨rfl, x1⟩
    have S1 := S0.call x1
    clear S0 x1
    obtain ⟨lc2, lf2, ls2⟩ := S1.cells 2 rfl
    obtain ⟨lc3, lf3, ls3⟩ := S1.cells 1 rfl
    go_wp2_with fail
    refine Calls.mono (K2.out _ (hC'.ext S1.ext)) ?_; rintro e w2 ⟨rfl, x2⟩
    have S1 := S1.call x2
    clear x2 lc2 lf2 ls2 lc3 lf3 ls3
    obtain ⟨lc2, lf2, ls2⟩ := S1.cells 2 rfl
    obtain ⟨lc3, lf3, ls3⟩ := S1.cells 1 rfl
    go_wp2_with ((with_reducible refine wp_setA (k := 0) (u := .agg zeroP) zeroP S1 0 rfl ?_ ?_ ?_ ?_ ?_ ?_ ?_); go_must (exact rfl); go_must (exact rfl); go_must (kernel_rfl); go_must (kernel_rfl); go_must (exact Nat.le_of_ble_eq_true (by kernel_rfl)); go_must (kernel_rfl))
    intro w3 S3
    obtain ⟨lc4, -, -⟩ := S3.cells 0 rfl
    go_wp2_with fail
    have S4 : St w w3 [ownX (.slice none 0 0) [], ownI (.slice none 0 0) []] := ((St.of S3.ext).nilI).newX (.inl (OwnB.nil _ _)) (Ext.refl _)
    refine bodyPost_ret (v := .tuple #[.agg zeroP, .slice none 0 0, .bool false]) (by simp [results, Tryd.results39, go_sem, lc4]) rfl ⟨.slice none 0 0, .slice none 0 0, ?_, ?_⟩
    · rw [E.out]; rfl
    · rw [E2.out.1, E2.out.2]; exact S4
  rw [h2] at K2
  cases R'
  case true =>
    have E : Hid (ptOk PW PH K ⟨W, H, C, X, Y, R⟩ ⟨W', H', C', X', Y', true⟩ = false) := by show _ = _; simp [ptOk]
    clear h1 h2
    have E2 := Lib.hid (pt_no E.out)
    go_enter Tryd.func39, Tryd.ntmps39
    go_wp2_with fail
    refine Calls.mono (K1.out _ (hC.ext S0.ext)) ?_; rintro e w1 ⟨rfl, x1⟩
    have S1 := S0.call x1
    clear S0 x1
    obtain ⟨lc2, lf2, ls2⟩ := S1.cells 2 rfl
    obtain ⟨lc3, lf3, ls3⟩ := S1.cells 1 rfl
    go_wp2_with fail
    refine Calls.mono (K2.out _ (hC'.ext S1.ext)) ?_; rintro e w2 ⟨rfl, x2⟩
    have S1 := S1.call x2
    clear x2 lc2 lf2 ls2 lc3 lf3 ls3
    obtain ⟨lc2, lf2, ls2⟩ := S1.cells 2 rfl
    obtain ⟨lc3, lf3, ls3⟩ := S1.cells 1 rfl
    go_wp2_with ((with_reducible refine wp_setA (k := 0) (u := .agg zeroP) zeroP S1 0 rfl ?_ ?_ ?_ ?_ ?_ ?_ ?_); go_must (exact rfl); go_must (exact rfl); go_must (kernel_rfl); go_must (kernel_rfl); go_must (exact Nat.le_of_ble_eq_true (by kernel_rfl)); go_must (kernel_rfl))
    intro w3 S3
    obtain ⟨lc4, -, -⟩ := S3.cells 0 rfl
    go_wp2_with fail
    have S4 : St w w3 [ownX (.slice none 0 0) [], ownI (.slice none 0 0) []] := ((St.of S3.ext).nilI).newX (.inl (OwnB.nil _ _)) (Ext.refl _)
    refine bodyPost_ret (v := .tuple #[.agg zeroP, .slice none 0 0, .bool false]) (by simp [results, Tryd.results39, go_sem, lc4]) rfl ⟨.slice none 0 0, .slice none 0 0, ?_, ?_⟩
    · rw [E.out]; rfl
    · rw [E2.out.1, E2.out.2]; exact S4
  case false =>
  cases h3 : (W' != PW)
  case true =>
    have E : Hid (ptOk PW PH K ⟨W, H, C, X, Y, R⟩ ⟨W', H', C', X', Y', false⟩ = false) := by
      show _ = _
      have : (W' == PW) = false := by simpa using h3
      simp [ptOk, this]
    clear h1 h2
    have E2 := Lib.hid (pt_no E.out)
    go_enter Tryd.func39, Tryd.ntmps39
    go_wp2_with fail
    refine Calls.mono (K1.out _ (hC.ext S0.ext)) ?_; rintro e w1 ⟨rfl, x1⟩
    have S1 := S0.call x1
    clear S0 x1
    obtain ⟨lc2, lf2, ls2⟩ := S1.cells 2 rfl
    obtain ⟨lc3, lf3, ls3⟩ := S1.cells 1 rfl
    go_wp2_with fail
    refine Calls.mono (K2.out _ (hC'.ext S1.ext)) ?_; rintro e w2 ⟨rfl, x2⟩
    have S1 := S1.call x2
    clear x2 lc2 lf2 ls2 lc3 lf3 ls3
    obtain ⟨lc2, lf2, ls2⟩ := S1.cells 2 rfl
    obtain ⟨lc3, lf3, ls3⟩ := S1.cells 1 rfl
    go_wp2_with ((with_reducible refine wp_setA (k := 0) (u := .agg zeroP) zeroP S1 0 rfl ?_ ?_ ?_ ?_ ?_ ?_ ?_); go_must (exact rfl); go_must (exact rfl); go_must (kernel_rfl); go_must (kernel_rfl); go_must (exact Nat.le_of_ble_eq_true (by kernel_rfl)); go_must (kernel_rfl))
    intro w3 S3
    obtain ⟨lc4, -, -⟩ := S3.cells 0 rfl
    go_wp2_with fail
    have S4 : St w w3 [ownX (.slice none 0 0) [], ownI (.slice none 0 0) []] := ((St.of S3.ext).nilI).newX (.inl (OwnB.nil _ _)) (Ext.refl _)
    refine bodyPost_ret (v := .tuple #[.agg zeroP, .slice none 0 0, .bool false]) (by simp [results, Tryd.results39, go_sem, lc4]) rfl ⟨.slice none 0 0, .slice none 0 0, ?_, ?_⟩
    · rw [E.out]; rfl
    · rw [E2.out.1, E2.out.2]; exact S4
  case false =>
  cases h4 : (H' != PH)
  case true =>
    have E : Hid (ptOk PW PH K ⟨W, H, C, X, Y, R⟩ ⟨W', H', C', X', Y', false⟩ = false) := by
      show _ = _
      have : (H' == PH) = false := by simpa using h4
      simp [ptOk, this]
    clear h1 h2
    have E2 := Lib.hid (pt_no E.out)
    go_enter Tryd.func39, Tryd.ntmps39
    go_wp2_with fail
    refine Calls.mono (K1.out _ (hC.ext S0.ext)) ?_; rintro e w1 ⟨rfl, x1⟩
    have S1 := S0.call x1
    clear S0 x1
    obtain ⟨lc2, lf2, ls2⟩ := S1.cells 2 rfl
    obtain ⟨lc3, lf3, ls3⟩ := S1.cells 1 rfl
    go_wp2_with fail
    refine Calls.mono (K2.out _ (hC'.ext S1.ext)) ?_; rintro e w2 ⟨rfl, x2⟩
    have S1 := S1.call x2
    clear x2 lc2 lf2 ls2 lc3 lf3 ls3
    obtain ⟨lc2, lf2, ls2⟩ := S1.cells 2 rfl
    obtain ⟨lc3, lf3, ls3⟩ := S1.cells 1 rfl
    go_wp2_with ((with_reducible refine wp_setA (k := 0) (u := .agg zeroP) zeroP S1 0 rfl ?_ ?_ ?_ ?_ ?_ ?_ ?_); go_must (exact rfl); go_must (exact rfl); go_must (kernel_rfl); go_must (kernel_rfl); go_must (exact Nat.le_of_ble_eq_true (by kernel_rfl)); go_must (kernel_rfl))
    intro w3 S3
    obtain ⟨lc4, -, -⟩ := S3.cells 0 rfl
    go_wp2_with fail
    have S4 : St w w3 [ownX (.slice none 0 0) [], ownI (.slice none 0 0) []] := ((St.of S3.ext).nilI).newX (.inl (OwnB.nil _ _)) (Ext.refl _)
    refine bodyPost_ret (v := .tuple #[.agg zeroP, .slice none 0 0, .bool false]) (by simp [results, Tryd.results39, go_sem, lc4]) rfl ⟨.slice none 0 0, .slice none 0 0, ?_, ?_⟩
    · rw [E.out]; rfl
    · rw [E2.out.1, E2.out.2]; exact S4
  case false =>
  have e3 : W' = PW := by simpa using h3
  have e4 : H' = PH := by simpa using h4
  have E : Hid (ptOk PW PH K ⟨W, H, C, X, Y, R⟩ ⟨W', H', C', X', Y', false⟩ = true) := by
    show (paintOk PW PH K ⟨W, H, C, X, Y, R⟩ && gridOk ⟨W', H', C', X', Y', false⟩ && !false && (W' == PW) && (H' == PH)) = true
    rw [h1, h2, e3, e4]; simp
  have hn8 : n' ≤ 8000 := by
    obtain ⟨-, -, -, -, q5, q6⟩ := gridOk_d h2
    simp only at q5 q6
    have := hC'.len
    omega
  have E2 := Lib.hid (pt_yes E.out)
  clear h1 h2 e3 e4
  cases K
  case false =>
    go_enter Tryd.func39, Tryd.ntmps39
    go_wp2_with fail
    refine Calls.mono (K1.out _ (hC.ext S0.ext)) ?_; rintro e w1 ⟨rfl, x1⟩
    have S1 := S0.call x1
    clear S0 x1
    obtain ⟨lc2, lf2, ls2⟩ := S1.cells 2 rfl
    obtain ⟨lc3, lf3, ls3⟩ := S1.cells 1 rfl
    go_wp2_with fail
    refine Calls.mono (K2.out _ (hC'.ext S1.ext)) ?_; rintro e w2 ⟨rfl, x2⟩
    have S1 := S1.call x2
    clear x2 lc2 lf2 ls2 lc3 lf3 ls3
    obtain ⟨lc2, lf2, ls2⟩ := S1.cells 2 rfl
    obtain ⟨lc3, lf3, ls3⟩ := S1.cells 1 rfl
    go_wp2_with fail
    refine Calls.mono (spec_Full ⟨W', H', C', X', Y', false⟩ A' n' c' _ (hC'.ext S1.ext)) ?_; rintro e w3 ⟨v3, rfl, own3, x3⟩
    obtain ⟨A3, n3, c3, rfl⟩ := own3.form'
    have S2 := S1.newX own3 x3
    clear S1 own3 x3 lc2 lf2 ls2 lc3 lf3 ls3
    obtain ⟨lc2, lf2, ls2⟩ := S2.cells 3 rfl
    obtain ⟨lc3, lf3, ls3⟩ := S2.cells 2 rfl
    go_wp2_with fail
    have SS := Lib.hid S2
    clear S2 lc2 lf2 ls2 lc3 lf3 ls3
    have B1 := And.intro (St.pb2 (PW := PW) (PH := PH) (b := w.heap.size) SS.out.drew 3 rfl) (St.gb (gW := W') (gH := H') (v := .slice A' n' c') (gX := X') (gY := Y') (gR := false) (b := w.heap.size + 1) (T := 40) SS.out.drew 2 rfl)
    go_region_held3 (fun w' => (w'.cell? ⟨w.heap.size, 0, none⟩ = some (.int .i64 PW) ∧ w'.cell? ⟨w.heap.size, 1, none⟩ = some (.int .i64 PH)) ∧ GBox w' (w.heap.size + 1) W' H' (.slice A' n' c') X' Y' false)
      ((first | with_reducible assumption | assumption))
      (first
        | (go_at_call 64; refine (spec_l08Copy ⟨W', H', C', X', Y', false⟩ A' n' c' _ (hC'.ext SS.out.drew.ext) (by omega)).mono ?_; rintro e w9 ⟨v9, rfl, own9, x9⟩; obtain ⟨A9, n9, c9, rfl⟩ := own9.form'; have SX9 := SS.out.drew.newI own9 x9; obtain ⟨lc9, lf9, ls9⟩ := SX9.cells 2 rfl; have B2 := And.intro (St.pb2 (PW := PW) (PH := PH) (b := w.heap.size) SX9 4 rfl) (St.gb (gW := W') (gH := H') (v := .slice A' n' c') (gX := X') (gY := Y') (gR := false) (b := w.heap.size + 1) (T := 40) SX9 3 rfl); have B3 := And.intro (St.pb2 (PW := PW) (PH := PH) (b := w.heap.size) (SX9.set9 2 rfl rfl (.int .i64 PW) (.int .i64 PH) (.bool true) (.int .i64 W') (.int .i64 H') (.slice A9 n9 c9) (.int .i64 X') (.int .i64 Y') (.bool false)) 4 rfl) (St.gb (gW := W') (gH := H') (v := .slice A' n' c') (gX := X') (gY := Y') (gR := false) (b := w.heap.size + 1) (T := 40) (SX9.set9 2 rfl rfl (.int .i64 PW) (.int .i64 PH) (.bool true) (.int .i64 W') (.int .i64 H') (.slice A9 n9 c9) (.int .i64 X') (.int .i64 Y') (.bool false)) 3 rfl)))
    have S9 := (SX9.set9 2 rfl rfl (.int .i64 PW) (.int .i64 PH) (.bool true) (.int .i64 W') (.int .i64 H') (.slice A9 n9 c9) (.int .i64 X') (.int .i64 Y') (.bool false))
    obtain ⟨lcZ, -, -⟩ := S9.cells 2 rfl
    go_wp2_with fail
    refine bodyPost_ret (v := .tuple #[.agg #[.int .i64 PW, .int .i64 PH, .bool true, .int .i64 W', .int .i64 H', .slice A9 n9 c9, .int .i64 X', .int .i64 Y', .bool false], .slice A3 n3 c3, .bool true]) (by simp [results, Tryd.results39, go_sem, lcZ]) rfl ⟨.slice A9 n9 c9, .slice A3 n3 c3, ?_, ?_⟩
    · rw [E.out]; rfl
    · rw [E2.out.1, E2.out.2]
      exact S9.drop2.swap
  case true =>
    go_enter Tryd.func39, Tryd.ntmps39
    go_wp2_with fail
    refine Calls.mono (K1.out _ (hC.ext S0.ext)) ?_; rintro e w1 ⟨rfl, x1⟩
    have S1 := S0.call x1
    clear S0 x1
    obtain ⟨lc2, lf2, ls2⟩ := S1.cells 2 rfl
    obtain ⟨lc3, lf3, ls3⟩ := S1.cells 1 rfl
    go_wp2_with fail
    refine Calls.mono (K2.out _ (hC'.ext S1.ext)) ?_; rintro e w2 ⟨rfl, x2⟩
    have S1 := S1.call x2
    clear x2 lc2 lf2 ls2 lc3 lf3 ls3
    obtain ⟨lc2, lf2, ls2⟩ := S1.cells 2 rfl
    obtain ⟨lc3, lf3, ls3⟩ := S1.cells 1 rfl
    go_wp2_with fail
    refine Calls.mono (spec_Full ⟨W', H', C', X', Y', false⟩ A' n' c' _ (hC'.ext S1.ext)) ?_; rintro e w3 ⟨v3, rfl, own3, x3⟩
    obtain ⟨A3, n3, c3, rfl⟩ := own3.form'
    have S2 := S1.call x3
    clear S1 own3 x3 lc2 lf2 ls2 lc3 lf3 ls3
    obtain ⟨lc2, lf2, ls2⟩ := S2.cells 2 rfl
    obtain ⟨lc3, lf3, ls3⟩ := S2.cells 1 rfl
    go_wp2_with fail
    refine Calls.mono (spec_Diff ⟨W, H, C, X, Y, R⟩ ⟨W', H', C', X', Y', false⟩ A n c A' n' c' _ (hC.ext S2.ext) (hC'.ext S2.ext)) ?_; rintro e w4 ⟨v4, rfl, own4, x4⟩
    obtain ⟨A3, n3, c3, rfl⟩ := own4.form'
    have S3 := S2.newX (.inl own4) x4
    clear S2 own4 x4 lc2 lf2 ls2 lc3 lf3 ls3
    have SS := Lib.hid S3
    clear S3
    go_wp2_with fail
    have B1 := And.intro (St.pb2 (PW := PW) (PH := PH) (b := w.heap.size) SS.out.drew 3 rfl) (St.gb (gW := W') (gH := H') (v := .slice A' n' c') (gX := X') (gY := Y') (gR := false) (b := w.heap.size + 1) (T := 40) SS.out.drew 2 rfl)
    go_region_held3 (fun w' => (w'.cell? ⟨w.heap.size, 0, none⟩ = some (.int .i64 PW) ∧ w'.cell? ⟨w.heap.size, 1, none⟩ = some (.int .i64 PH)) ∧ GBox w' (w.heap.size + 1) W' H' (.slice A' n' c') X' Y' false)
      ((first | with_reducible assumption | assumption))
      (first
        | (go_at_call 64; refine (spec_l08Copy ⟨W', H', C', X', Y', false⟩ A' n' c' _ (hC'.ext SS.out.drew.ext) (by omega)).mono ?_; rintro e w9 ⟨v9, rfl, own9, x9⟩; obtain ⟨A9, n9, c9, rfl⟩ := own9.form'; have SX9 := SS.out.drew.newI own9 x9; obtain ⟨lc9, lf9, ls9⟩ := SX9.cells 2 rfl; have B2 := And.intro (St.pb2 (PW := PW) (PH := PH) (b := w.heap.size) SX9 4 rfl) (St.gb (gW := W') (gH := H') (v := .slice A' n' c') (gX := X') (gY := Y') (gR := false) (b := w.heap.size + 1) (T := 40) SX9 3 rfl); have B3 := And.intro (St.pb2 (PW := PW) (PH := PH) (b := w.heap.size) (SX9.set9 2 rfl rfl (.int .i64 PW) (.int .i64 PH) (.bool true) (.int .i64 W') (.int .i64 H') (.slice A9 n9 c9) (.int .i64 X') (.int .i64 Y') (.bool false)) 4 rfl) (St.gb (gW := W') (gH := H') (v := .slice A' n' c') (gX := X') (gY := Y') (gR := false) (b := w.heap.size + 1) (T := 40) (SX9.set9 2 rfl rfl (.int .i64 PW) (.int .i64 PH) (.bool true) (.int .i64 W') (.int .i64 H') (.slice A9 n9 c9) (.int .i64 X') (.int .i64 Y') (.bool false)) 3 rfl)))
    have S9 := (SX9.set9 2 rfl rfl (.int .i64 PW) (.int .i64 PH) (.bool true) (.int .i64 W') (.int .i64 H') (.slice A9 n9 c9) (.int .i64 X') (.int .i64 Y') (.bool false))
    obtain ⟨lcZ, -, -⟩ := S9.cells 2 rfl
    go_wp2_with fail
    refine bodyPost_ret (v := .tuple #[.agg #[.int .i64 PW, .int .i64 PH, .bool true, .int .i64 W', .int .i64 H', .slice A9 n9 c9, .int .i64 X', .int .i64 Y', .bool false], .slice A3 n3 c3, .bool true]) (by simp [results, Tryd.results39, go_sem, lcZ]) rfl ⟨.slice A9 n9 c9, .slice A3 n3 c3, ?_, ?_⟩
    · rw [E.out]; rfl
    · rw [E2.out.1, E2.out.2]
      exact S9.drop2.swap
end Go.Proofs.YtohjjhoobikioaaDoor
