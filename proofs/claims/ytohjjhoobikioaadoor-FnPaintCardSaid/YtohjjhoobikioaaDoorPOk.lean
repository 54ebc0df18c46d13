/-
  SameGrid, l29None, PaintOk of both packages.
-/
import Derived.Test.YtohjjhoobikioaaDoorLawKit
import Derived.Test.YtohjjhoobikioaaDoorGrid
namespace Go.Proofs.YtohjjhoobikioaaDoor
open Go.RowKit

def sameG (g h : Gr) : Bool := (g.W == h.W) && (g.H == h.H) && (g.C == h.C) && (g.X == h.X) && (g.Y == h.Y) && (g.R == h.R)
def noG : Gr := ⟨0, 0, [], 0, 0, false⟩
def paintOk (PW PH : Int) (K : Bool) (g : Gr) : Bool := decide (newOk PW PH) && (if K then gridOk g && (g.W == PW) && (g.H == PH) && !g.R else sameG g noG)

set_option maxRecDepth 100000 in
set_option maxHeartbeats 2000000 in
theorem impl_SameGrid (W H X Y : Int) (R : Bool) (C : List Int) (A : Option Addr) (n c : Nat) (W' H' X' Y' : Int) (R' : Bool) (C' : List Int) (A' : Option Addr) (n' c' : Nat) (w : World) (hC : RI w A n c C) (hC' : RI w A' n' c' C') :
    Calls Tryd.prog 37 #[.agg #[.int .i64 W, .int .i64 H, .slice A n c, .int .i64 X, .int .i64 Y, .bool R], .agg #[.int .i64 W', .int .i64 H', .slice A' n' c', .int .i64 X', .int .i64 Y', .bool R']] w fun e w' =>
      e = .returned (.bool (sameG ⟨W, H, C, X, Y, R⟩ ⟨W', H', C', X', Y', R'⟩)) ∧ Ext w w' := by
  have X0 := (((Ext.refl w).alloc (.cells #[.int .i64 W, .int .i64 H, .slice A n c, .int .i64 X, .int .i64 Y, .bool R] 40)).alloc (.cells #[.int .i64 W', .int .i64 H', .slice A' n' c', .int .i64 X', .int .i64 Y', .bool R'] 40))
  cases h1 : (W == W')
  · go_enter Tryd.func37, Tryd.ntmps37
    go_wp2_with fail
    go_ret
    exact ⟨ret_b (by simp only [sameG, h1, Bool.false_and]), X0⟩
  cases h2 : (H == H')
  · go_enter Tryd.func37, Tryd.ntmps37
    go_wp2_with fail
    go_ret
    exact ⟨ret_b (by simp only [sameG, h2, Bool.false_and, Bool.and_false]), X0⟩
  by_cases h3 : C = C'
  case neg =>
    have h3b : decide (C = C') = false := by simp [h3]
    have h3c : Hid ((C == C') = false) := by show _ = _; simp [h3]
    clear h3
    go_enter Tryd.func37, Tryd.ntmps37
    go_wp2_with fail
    have k1 := impl_sameInts A n c C A' n' c' C' _ (hC.ext X0) (hC'.ext X0)
    rw [h3b] at k1
    refine k1.mono ?_; rintro e w1 ⟨rfl, x1⟩
    clear k1
    go_wp2_with fail
    go_ret
    exact ⟨ret_b (by simp only [sameG, h3c.out, Bool.false_and, Bool.and_false]), X0.trans x1⟩
  have h3b : decide (C = C') = true := by simp [h3]
  have h3c : Hid ((C == C') = true) := by show _ = _; simp [h3]
  clear h3
  cases h4 : (X == X')
  · go_enter Tryd.func37, Tryd.ntmps37
    go_wp2_with fail
    have k1 := impl_sameInts A n c C A' n' c' C' _ (hC.ext X0) (hC'.ext X0)
    rw [h3b] at k1
    refine k1.mono ?_; rintro e w1 ⟨rfl, x1⟩
    clear k1
    obtain ⟨lc, lf, ls⟩ := x1.look
    go_wp2_with fail
    go_ret
    exact ⟨ret_b (by simp only [sameG, h4, Bool.false_and, Bool.and_false]), X0.trans x1⟩
  cases h5 : (Y == Y')
  · go_enter Tryd.func37, Tryd.ntmps37
    go_wp2_with fail
    have k1 := impl_sameInts A n c C A' n' c' C' _ (hC.ext X0) (hC'.ext X0)
    rw [h3b] at k1
    refine k1.mono ?_; rintro e w1 ⟨rfl, x1⟩
    clear k1
    obtain ⟨lc, lf, ls⟩ := x1.look
    go_wp2_with fail
    go_ret
    exact ⟨ret_b (by simp only [sameG, h5, Bool.false_and, Bool.and_false]), X0.trans x1⟩
  have KEY : sameG ⟨W, H, C, X, Y, R⟩ ⟨W', H', C', X', Y', R'⟩ = (R == R') := by simp only [sameG, h1, h2, h3c.out, h4, h5, Bool.true_and]
  have HK := Lib.hid KEY; clear KEY
  cases R <;> cases R'
  all_goals
    go_enter Tryd.func37, Tryd.ntmps37
    go_wp2_with fail
    have k1 := impl_sameInts A n c C A' n' c' C' _ (hC.ext X0) (hC'.ext X0)
    rw [h3b] at k1
    refine k1.mono ?_; rintro e w1 ⟨rfl, x1⟩
    clear k1
    obtain ⟨lc, lf, ls⟩ := x1.look
    go_wp2_with fail
    go_ret
    exact ⟨ret_b (by rw [HK.out]; rfl), X0.trans x1⟩

set_option maxRecDepth 100000 in
set_option maxHeartbeats 2000000 in
theorem spec_l29None (W H X Y : Int) (R : Bool) (C : List Int) (A : Option Addr) (n c : Nat) (w : World) (hC : RI w A n c C) :
    Calls Tryd.prog 123 #[.agg #[.int .i64 W, .int .i64 H, .slice A n c, .int .i64 X, .int .i64 Y, .bool R]] w fun e w' =>
      e = .returned (.bool (sameG ⟨W, H, C, X, Y, R⟩ noG)) ∧ Ext w w' := by
  have hnm := hC.nmax
  have Hlen := Lib.hid hC.len
  cases h1 : (W == 0)
  · go_enter Tryd.func123, Tryd.ntmps123
    go_wp2_with fail
    go_ret
    exact ⟨ret_b (by simp only [sameG, noG, h1, Bool.false_and]), (Ext.refl w).alloc _⟩
  cases h2 : (H == 0)
  · go_enter Tryd.func123, Tryd.ntmps123
    go_wp2_with fail
    go_ret
    exact ⟨ret_b (by simp only [sameG, noG, h2, Bool.false_and, Bool.and_false]), (Ext.refl w).alloc _⟩
  by_cases h3 : n = 0
  case neg =>
    have h3b : ((n : Int) == 0) = false := by simp; omega
    go_enter Tryd.func123, Tryd.ntmps123
    go_wp2_with fail
    go_ret
    exact ⟨ret_b (by have hne : ¬ C = [] := fun e => h3 (by rw [← Hlen.out, e]; rfl); simp [sameG, noG, hne]), (Ext.refl w).alloc _⟩
  subst h3
  obtain rfl : C = [] := List.eq_nil_of_length_eq_zero Hlen.out
  clear Hlen
  cases h4 : (X == 0)
  · go_enter Tryd.func123, Tryd.ntmps123
    go_wp2_with fail
    go_ret
    exact ⟨ret_b (by simp only [sameG, noG, h4, Bool.false_and, Bool.and_false]), (Ext.refl w).alloc _⟩
  cases h5 : (Y == 0)
  · go_enter Tryd.func123, Tryd.ntmps123
    go_wp2_with fail
    go_ret
    exact ⟨ret_b (by simp only [sameG, noG, h5, Bool.false_and, Bool.and_false]), (Ext.refl w).alloc _⟩
  have KEY : sameG ⟨W, H, [], X, Y, R⟩ noG = (R == false) := by simp [sameG, noG, h1, h2, h4, h5]
  have HK := Lib.hid KEY; clear KEY
  cases R
  all_goals
    go_enter Tryd.func123, Tryd.ntmps123
    go_wp2_with fail
    go_ret
    exact ⟨ret_b (by rw [HK.out]; rfl), (Ext.refl w).alloc _⟩

theorem noG_eq {W H X Y : Int} {R : Bool} {C : List Int} (h : sameG ⟨W, H, C, X, Y, R⟩ noG = true) : W = 0 ∧ H = 0 ∧ C = [] ∧ X = 0 ∧ Y = 0 ∧ R = false := by
  simpa [sameG, noG, and_assoc] using h
theorem paintOk_new {PW PH : Int} {K : Bool} {g : Gr} (h : ¬ newOk PW PH) : paintOk PW PH K g = false := by simp [paintOk, h]
theorem paintOk_off {PW PH : Int} {g : Gr} (h : newOk PW PH) : paintOk PW PH false g = sameG g noG := by simp [paintOk, h]
theorem paintOk_on {PW PH : Int} {g : Gr} (h : newOk PW PH) : paintOk PW PH true g = (gridOk g && (g.W == PW) && (g.H == PH) && !g.R) := by simp [paintOk, h]
theorem newOk_m {w h : Int} (ok : newOk w h) : ∃ m : Nat, (m : Int) = w * h := by
  obtain ⟨a1, a2, a3, a4, a5⟩ := ok
  obtain ⟨p1, p2⟩ := prod_bounds a1 a2 a3 a4
  exact ⟨(w * h).toNat, by omega⟩

set_option maxRecDepth 100000 in
set_option maxHeartbeats 4000000 in
theorem impl_PaintOk (PW PH W H X Y : Int) (K R : Bool) (C : List Int) (A : Option Addr) (n c : Nat) (w : World) (hC : RI w A n c C) :
    Calls Tryd.prog 55 #[.agg #[.int .i64 PW, .int .i64 PH, .bool K, .int .i64 W, .int .i64 H, .slice A n c, .int .i64 X, .int .i64 Y, .bool R]] w fun e w' =>
      e = .returned (.bool (paintOk PW PH K ⟨W, H, C, X, Y, R⟩)) ∧ Ext w w' := by
  have X0 := ((Ext.refl w).alloc (.cells #[.int .i64 PW, .int .i64 PH, .bool K, .int .i64 W, .int .i64 H, .slice A n c, .int .i64 X, .int .i64 Y, .bool R] 64))
  by_cases hok : newOk PW PH
  case neg =>
    go_enter Tryd.func55, Tryd.ntmps55
    go_wp2_with fail
    refine (impl_GridNew_no PW PH _ hok).mono ?_; rintro e w1 ⟨rfl, x1⟩
    go_wp2_with fail
    go_ret
    exact ⟨ret_b (paintOk_new hok).symm, X0.trans (x1.alloc _)⟩
  obtain ⟨m, hm⟩ := newOk_m hok
  have Hm := Lib.hid hm; clear hm
  cases K
  case false =>
    go_enter Tryd.func55, Tryd.ntmps55
    go_wp2_with fail
    refine (impl_GridNew_yes PW PH m _ hok Hm.out).mono ?_; rintro e w1 ⟨v, rfl, own1, x1⟩
    obtain ⟨A1, c1, rfl, -⟩ := own1.form
    clear own1
    have X1 := X0.trans x1
    obtain ⟨lc, -, ls⟩ := rowAll (row_ext (row_new w _) x1)
    go_wp2_with fail
    refine (impl_SameGrid W H X Y R C A n c 0 0 0 0 false [] none 0 0 _ (hC.ext (X1.alloc _)) (RI.nil _)).mono ?_; rintro e w2 ⟨rfl, x2⟩
    go_wp2_with fail
    go_ret
    exact ⟨ret_b (paintOk_off hok).symm, (X1.alloc _).trans x2⟩
  cases hg : gridOk ⟨W, H, C, X, Y, R⟩
  case false =>
    have Hg : Hid (paintOk PW PH true ⟨W, H, C, X, Y, R⟩ = false) := by show _ = _; rw [paintOk_on hok]; simp [hg]
    go_enter Tryd.func55, Tryd.ntmps55
    go_wp2_with fail
    refine (impl_GridNew_yes PW PH m _ hok Hm.out).mono ?_; rintro e w1 ⟨v, rfl, own1, x1⟩
    obtain ⟨A1, c1, rfl, -⟩ := own1.form
    clear own1
    have X1 := X0.trans x1
    obtain ⟨lc, -, ls⟩ := rowAll (row_ext (row_new w _) x1)
    go_wp2_with fail
    have k1 := impl_GridOk W H X Y R C A n c _ (hC.ext (X1.alloc (.cells #[.int .i64 PW, .int .i64 PH, .slice A1 m c1, .int .i64 0, .int .i64 0, .bool false] 40)))
    rw [hg] at k1
    refine k1.mono ?_; rintro e w2 ⟨rfl, x2⟩
    clear k1
    go_wp2_with fail
    go_ret
    exact ⟨ret_b Hg.out.symm, (X1.alloc (.cells #[.int .i64 PW, .int .i64 PH, .slice A1 m c1, .int .i64 0, .int .i64 0, .bool false] 40)).trans x2⟩
  cases h1 : (W == PW)
  case false =>
    have Hg : Hid (paintOk PW PH true ⟨W, H, C, X, Y, R⟩ = false) := by show _ = _; rw [paintOk_on hok]; simp [h1]
    go_enter Tryd.func55, Tryd.ntmps55
    go_wp2_with fail
    refine (impl_GridNew_yes PW PH m _ hok Hm.out).mono ?_; rintro e w1 ⟨v, rfl, own1, x1⟩
    obtain ⟨A1, c1, rfl, -⟩ := own1.form
    clear own1
    have X1 := X0.trans x1
    obtain ⟨lc, -, ls⟩ := rowAll (row_ext (row_new w _) x1)
    go_wp2_with fail
    have k1 := impl_GridOk W H X Y R C A n c _ (hC.ext (X1.alloc (.cells #[.int .i64 PW, .int .i64 PH, .slice A1 m c1, .int .i64 0, .int .i64 0, .bool false] 40)))
    rw [hg] at k1
    refine k1.mono ?_; rintro e w2 ⟨rfl, x2⟩
    clear k1
    have X2 := (X1.alloc (.cells #[.int .i64 PW, .int .i64 PH, .slice A1 m c1, .int .i64 0, .int .i64 0, .bool false] 40)).trans x2
    have x02 := ((x1.alloc (.cells #[.int .i64 PW, .int .i64 PH, .slice A1 m c1, .int .i64 0, .int .i64 0, .bool false] 40)).trans x2)
    clear lc ls
    obtain ⟨lc, -, ls⟩ := rowAll (row_ext (row_new w _) x02)
    go_wp2_with fail
    go_ret
    exact ⟨ret_b Hg.out.symm, X2⟩
  cases h2 : (H == PH)
  case false =>
    have Hg : Hid (paintOk PW PH true ⟨W, H, C, X, Y, R⟩ = false) := by show _ = _; rw [paintOk_on hok]; simp [h2]
    go_enter Tryd.func55, Tryd.ntmps55
    go_wp2_with fail
    refine (impl_GridNew_yes PW PH m _ hok Hm.out).mono ?_; rintro e w1 ⟨v, rfl, own1, x1⟩
    obtain ⟨A1, c1, rfl, -⟩ := own1.form
    clear own1
    have X1 := X0.trans x1
    obtain ⟨lc, -, ls⟩ := rowAll (row_ext (row_new w _) x1)
    go_wp2_with fail
    have k1 := impl_GridOk W H X Y R C A n c _ (hC.ext (X1.alloc (.cells #[.int .i64 PW, .int .i64 PH, .slice A1 m c1, .int .i64 0, .int .i64 0, .bool false] 40)))
    rw [hg] at k1
    refine k1.mono ?_; rintro e w2 ⟨rfl, x2⟩
    clear k1
    have X2 := (X1.alloc (.cells #[.int .i64 PW, .int .i64 PH, .slice A1 m c1, .int .i64 0, .int .i64 0, .bool false] 40)).trans x2
    have x02 := ((x1.alloc (.cells #[.int .i64 PW, .int .i64 PH, .slice A1 m c1, .int .i64 0, .int .i64 0, .bool false] 40)).trans x2)
    clear lc ls
    obtain ⟨lc, -, ls⟩ := rowAll (row_ext (row_new w _) x02)
    go_wp2_with fail
    go_ret
    exact ⟨ret_b Hg.out.symm, X2⟩
  have Hg : Hid (paintOk PW PH true ⟨W, H, C, X, Y, R⟩ = !R) := by show _ = _; rw [paintOk_on hok]; simp [hg, h1, h2]
  cases R
  · go_enter Tryd.func55, Tryd.ntmps55
    go_wp2_with fail
    refine (impl_GridNew_yes PW PH m _ hok Hm.out).mono ?_; rintro e w1 ⟨v, rfl, own1, x1⟩
    obtain ⟨A1, c1, rfl, -⟩ := own1.form
    clear own1
    have X1 := X0.trans x1
    obtain ⟨lc, -, ls⟩ := rowAll (row_ext (row_new w _) x1)
    go_wp2_with fail
    have k1 := impl_GridOk W H X Y false C A n c _ (hC.ext (X1.alloc (.cells #[.int .i64 PW, .int .i64 PH, .slice A1 m c1, .int .i64 0, .int .i64 0, .bool false] 40)))
    rw [hg] at k1
    refine k1.mono ?_; rintro e w2 ⟨rfl, x2⟩
    clear k1
    have X2 := (X1.alloc (.cells #[.int .i64 PW, .int .i64 PH, .slice A1 m c1, .int .i64 0, .int .i64 0, .bool false] 40)).trans x2
    have x02 := ((x1.alloc (.cells #[.int .i64 PW, .int .i64 PH, .slice A1 m c1, .int .i64 0, .int .i64 0, .bool false] 40)).trans x2)
    clear lc ls
    obtain ⟨lc, -, ls⟩ := rowAll (row_ext (row_new w _) x02)
    go_wp2_with fail
    go_ret
    exact ⟨ret_b Hg.out.symm, X2⟩
  · go_enter Tryd.func55, Tryd.ntmps55
    go_wp2_with fail
    refine (impl_GridNew_yes PW PH m _ hok Hm.out).mono ?_; rintro e w1 ⟨v, rfl, own1, x1⟩
    obtain ⟨A1, c1, rfl, -⟩ := own1.form
    clear own1
    have X1 := X0.trans x1
    obtain ⟨lc, -, ls⟩ := rowAll (row_ext (row_new w _) x1)
    go_wp2_with fail
    have k1 := impl_GridOk W H X Y true C A n c _ (hC.ext (X1.alloc (.cells #[.int .i64 PW, .int .i64 PH, .slice A1 m c1, .int .i64 0, .int .i64 0, .bool false] 40)))
    rw [hg] at k1
    refine k1.mono ?_; rintro e w2 ⟨rfl, x2⟩
    clear k1
    have X2 := (X1.alloc (.cells #[.int .i64 PW, .int .i64 PH, .slice A1 m c1, .int .i64 0, .int .i64 0, .bool false] 40)).trans x2
    have x02 := ((x1.alloc (.cells #[.int .i64 PW, .int .i64 PH, .slice A1 m c1, .int .i64 0, .int .i64 0, .bool false] 40)).trans x2)
    clear lc ls
    obtain ⟨lc, -, ls⟩ := rowAll (row_ext (row_new w _) x02)
    go_wp2_with fail
    go_ret
    exact ⟨ret_b Hg.out.symm, X2⟩

set_option maxRecDepth 100000 in
set_option maxHeartbeats 4000000 in
theorem spec_PaintOk (PW PH W H X Y : Int) (K R : Bool) (C : List Int) (A : Option Addr) (n c : Nat) (w : World) (hC : RI w A n c C) :
    Calls Tryd.prog 85 #[.agg #[.int .i64 PW, .int .i64 PH, .bool K, .int .i64 W, .int .i64 H, .slice A n c, .int .i64 X, .int .i64 Y, .bool R]] w fun e w' =>
      e = .returned (.bool (paintOk PW PH K ⟨W, H, C, X, Y, R⟩)) ∧ Ext w w' := by
  have X0 := ((Ext.refl w).alloc (.cells #[.int .i64 PW, .int .i64 PH, .bool K, .int .i64 W, .int .i64 H, .slice A n c, .int .i64 X, .int .i64 Y, .bool R] 64))
  by_cases hok : newOk PW PH
  case neg =>
    cases K
    all_goals
      go_enter Tryd.func85, Tryd.ntmps85
      go_wp2_with fail
      refine (spec_GridNew_no PW PH _ hok).mono ?_; rintro e w1 ⟨rfl, x1⟩
      obtain ⟨lc, -, ls⟩ := rowAll (row_ext (row_new w _) x1)
      go_wp2_with fail
      go_ret
      exact ⟨ret_b (paintOk_new hok).symm, X0.trans (x1.alloc _)⟩
  obtain ⟨m, hm⟩ := newOk_m hok
  have Hm := Lib.hid hm; clear hm
  cases K
  case false =>
    go_enter Tryd.func85, Tryd.ntmps85
    go_wp2_with fail
    refine (spec_GridNew_yes PW PH m _ hok Hm.out).mono ?_; rintro e w1 ⟨v, rfl, own1, x1⟩
    obtain ⟨A1, c1, rfl, -⟩ := own1.form
    clear own1
    have X1 := X0.trans x1
    obtain ⟨lc, -, ls⟩ := rowAll (row_ext (row_new w _) x1)
    go_wp2_with fail
    refine (spec_l29None W H X Y R C A n c _ (hC.ext (X1.alloc (.cells #[.int .i64 PW, .int .i64 PH, .slice A1 m c1, .int .i64 0, .int .i64 0, .bool false] 40)))).mono ?_; rintro e w2 ⟨rfl, x2⟩
    go_wp2_with fail
    go_ret
    exact ⟨ret_b (paintOk_off hok).symm, (X1.alloc _).trans x2⟩
  cases hg : gridOk ⟨W, H, C, X, Y, R⟩
  case false =>
    have Hg : Hid (paintOk PW PH true ⟨W, H, C, X, Y, R⟩ = false) := by show _ = _; rw [paintOk_on hok]; simp [hg]
    go_enter Tryd.func85, Tryd.ntmps85
    go_wp2_with fail
    refine (spec_GridNew_yes PW PH m _ hok Hm.out).mono ?_; rintro e w1 ⟨v, rfl, own1, x1⟩
    obtain ⟨A1, c1, rfl, -⟩ := own1.form
    clear own1
    have X1 := X0.trans x1
    obtain ⟨lc, -, ls⟩ := rowAll (row_ext (row_new w _) x1)
    go_wp2_with fail
    have k1 := spec_GridOk W H X Y R C A n c _ (hC.ext (X1.alloc (.cells #[.int .i64 PW, .int .i64 PH, .slice A1 m c1, .int .i64 0, .int .i64 0, .bool false] 40)))
    rw [hg] at k1
    refine k1.mono ?_; rintro e w2 ⟨rfl, x2⟩
    clear k1
    go_wp2_with fail
    go_ret
    exact ⟨ret_b Hg.out.symm, (X1.alloc (.cells #[.int .i64 PW, .int .i64 PH, .slice A1 m c1, .int .i64 0, .int .i64 0, .bool false] 40)).trans x2⟩
  cases h1 : (W == PW)
  case false =>
    have Hg : Hid (paintOk PW PH true ⟨W, H, C, X, Y, R⟩ = false) := by show _ = _; rw [paintOk_on hok]; simp [h1]
    go_enter Tryd.func85, Tryd.ntmps85
    go_wp2_with fail
    refine (spec_GridNew_yes PW PH m _ hok Hm.out).mono ?_; rintro e w1 ⟨v, rfl, own1, x1⟩
    obtain ⟨A1, c1, rfl, -⟩ := own1.form
    clear own1
    have X1 := X0.trans x1
    obtain ⟨lc, -, ls⟩ := rowAll (row_ext (row_new w _) x1)
    go_wp2_with fail
    have k1 := spec_GridOk W H X Y R C A n c _ (hC.ext (X1.alloc (.cells #[.int .i64 PW, .int .i64 PH, .slice A1 m c1, .int .i64 0, .int .i64 0, .bool false] 40)))
    rw [hg] at k1
    refine k1.mono ?_; rintro e w2 ⟨rfl, x2⟩
    clear k1
    have X2 := (X1.alloc (.cells #[.int .i64 PW, .int .i64 PH, .slice A1 m c1, .int .i64 0, .int .i64 0, .bool false] 40)).trans x2
    have x02 := ((x1.alloc (.cells #[.int .i64 PW, .int .i64 PH, .slice A1 m c1, .int .i64 0, .int .i64 0, .bool false] 40)).trans x2)
    clear lc ls
    obtain ⟨lc, -, ls⟩ := rowAll (row_ext (row_new w _) x02)
    go_wp2_with fail
    go_ret
    exact ⟨ret_b Hg.out.symm, X2⟩
  cases h2 : (H == PH)
  case false =>
    have Hg : Hid (paintOk PW PH true ⟨W, H, C, X, Y, R⟩ = false) := by show _ = _; rw [paintOk_on hok]; simp [h2]
    go_enter Tryd.func85, Tryd.ntmps85
    go_wp2_with fail
    refine (spec_GridNew_yes PW PH m _ hok Hm.out).mono ?_; rintro e w1 ⟨v, rfl, own1, x1⟩
    obtain ⟨A1, c1, rfl, -⟩ := own1.form
    clear own1
    have X1 := X0.trans x1
    obtain ⟨lc, -, ls⟩ := rowAll (row_ext (row_new w _) x1)
    go_wp2_with fail
    have k1 := spec_GridOk W H X Y R C A n c _ (hC.ext (X1.alloc (.cells #[.int .i64 PW, .int .i64 PH, .slice A1 m c1, .int .i64 0, .int .i64 0, .bool false] 40)))
    rw [hg] at k1
    refine k1.mono ?_; rintro e w2 ⟨rfl, x2⟩
    clear k1
    have X2 := (X1.alloc (.cells #[.int .i64 PW, .int .i64 PH, .slice A1 m c1, .int .i64 0, .int .i64 0, .bool false] 40)).trans x2
    have x02 := ((x1.alloc (.cells #[.int .i64 PW, .int .i64 PH, .slice A1 m c1, .int .i64 0, .int .i64 0, .bool false] 40)).trans x2)
    clear lc ls
    obtain ⟨lc, -, ls⟩ := rowAll (row_ext (row_new w _) x02)
    go_wp2_with fail
    go_ret
    exact ⟨ret_b Hg.out.symm, X2⟩
  have Hg : Hid (paintOk PW PH true ⟨W, H, C, X, Y, R⟩ = !R) := by show _ = _; rw [paintOk_on hok]; simp [hg, h1, h2]
  cases R
  · go_enter Tryd.func85, Tryd.ntmps85
    go_wp2_with fail
    refine (spec_GridNew_yes PW PH m _ hok Hm.out).mono ?_; rintro e w1 ⟨v, rfl, own1, x1⟩
    obtain ⟨A1, c1, rfl, -⟩ := own1.form
    clear own1
    have X1 := X0.trans x1
    obtain ⟨lc, -, ls⟩ := rowAll (row_ext (row_new w _) x1)
    go_wp2_with fail
    have k1 := spec_GridOk W H X Y false C A n c _ (hC.ext (X1.alloc (.cells #[.int .i64 PW, .int .i64 PH, .slice A1 m c1, .int .i64 0, .int .i64 0, .bool false] 40)))
    rw [hg] at k1
    refine k1.mono ?_; rintro e w2 ⟨rfl, x2⟩
    clear k1
    have X2 := (X1.alloc (.cells #[.int .i64 PW, .int .i64 PH, .slice A1 m c1, .int .i64 0, .int .i64 0, .bool false] 40)).trans x2
    have x02 := ((x1.alloc (.cells #[.int .i64 PW, .int .i64 PH, .slice A1 m c1, .int .i64 0, .int .i64 0, .bool false] 40)).trans x2)
    clear lc ls
    obtain ⟨lc, -, ls⟩ := rowAll (row_ext (row_new w _) x02)
    go_wp2_with fail
    go_ret
    exact ⟨ret_b Hg.out.symm, X2⟩
  · go_enter Tryd.func85, Tryd.ntmps85
    go_wp2_with fail
    refine (spec_GridNew_yes PW PH m _ hok Hm.out).mono ?_; rintro e w1 ⟨v, rfl, own1, x1⟩
    obtain ⟨A1, c1, rfl, -⟩ := own1.form
    clear own1
    have X1 := X0.trans x1
    obtain ⟨lc, -, ls⟩ := rowAll (row_ext (row_new w _) x1)
    go_wp2_with fail
    have k1 := spec_GridOk W H X Y true C A n c _ (hC.ext (X1.alloc (.cells #[.int .i64 PW, .int .i64 PH, .slice A1 m c1, .int .i64 0, .int .i64 0, .bool false] 40)))
    rw [hg] at k1
    refine k1.mono ?_; rintro e w2 ⟨rfl, x2⟩
    clear k1
    have X2 := (X1.alloc (.cells #[.int .i64 PW, .int .i64 PH, .slice A1 m c1, .int .i64 0, .int .i64 0, .bool false] 40)).trans x2
    have x02 := ((x1.alloc (.cells #[.int .i64 PW, .int .i64 PH, .slice A1 m c1, .int .i64 0, .int .i64 0, .bool false] 40)).trans x2)
    clear lc ls
    obtain ⟨lc, -, ls⟩ := rowAll (row_ext (row_new w _) x02)
    go_wp2_with fail
    go_ret
    exact ⟨ret_b Hg.out.symm, X2⟩
end Go.Proofs.YtohjjhoobikioaaDoor
