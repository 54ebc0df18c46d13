/-
  The grid's own method put, in a terminal. Printed by gen_vm.py.
-/
import Derived.Test.YtohjjhoobikioaaDoorVM
namespace Go.Proofs.YtohjjhoobikioaaDoor
open Go.RowKit

theorem vt_erase' (q0 : VQ) (g : Gr) (f t : Nat) (x y : Int) (hx : x = f) (hy : y = t) (b : Nat) (v : Value) (W w : World) (L : List Pc) (S : St W w (vbox q0 b v g ++ L)) (hft : f < t) (ht : t ≤ g.C.length) (hlen : g.C.length ≤ 8000) (hg : gridOk g = true) :
    Calls Tryd.prog 104 #[.pointer (some ⟨b, 0, none⟩), .int .i64 x, .int .i64 y] w fun e w' => e = .returned (.tuple #[]) ∧ St W w' (vbox q0 b v (clearG g f t) ++ L) := by
  subst hx; subst hy
  have h := vt_erase q0 g f t b v W w L S hft ht hlen (fun e => prev_in (vc_half (gridOk_vc hg) (by omega) e).1)
  rw [erase_clear (gridOk_vc hg) hft ht] at h
  exact h

set_option maxRecDepth 100000 in
set_option maxHeartbeats 8000000 in
theorem vt_put (q0 : VQ) (g : Gr) (r : Int) (b : Nat) (v : Value) (W w : World) (L : List Pc) (S : St W w (vbox q0 b v g ++ L)) (hg : gridOk g = true) :
    Calls Tryd.prog 106 #[.pointer (some ⟨b, 0, none⟩), .int .i64 r] w fun e w' => e = .returned (.tuple #[]) ∧ ∃ v', St W w' (vbox q0 b v' (putG g r) ++ L) := by
  rcases width_cases r with hw | hw | hw
  · have E : Hid (putG g r = g) := by show _ = _; unfold putG; rw [if_pos hw]
    go_enter Tryd.func106, Tryd.ntmps106
    go_wp2_with fail
    have k1 := impl_Width r w
    rw [hw] at k1
    refine (k1).mono ?_; rintro e w1 ⟨rfl, x1⟩
    clear k1 hw
    go_wp2_with fail
    ((try simp only [Exit.inBlock, Exit.then]); first | refine bodyPost_ret (results_none rfl _ _ _) rfl ?_ | refine bodyPost_end (results_none rfl _ _ _) rfl ?_)
    exact ⟨rfl, v, by rw [E.out]; exact S.call x1⟩
  · have HE := Lib.hid (putG_eq g r (by omega))
    obtain ⟨m, hm⟩ : ∃ m, m = width r := ⟨_, rfl⟩
    have hcur := wrapG_cur hg (n := width r) (by omega)
    have hok := wrapG_ok hg (width r)
    have hdm := wrapG_dims g (width r)
    obtain ⟨d1, d2, d3, d4, -, -⟩ := gridOk_d hg
    have HX := Lib.hid (gridOk_c hg)
    have Hcur := Lib.hid hcur; have Hok := Lib.hid hok; have Hdm := Lib.hid hdm
    clear hcur hok hdm
    rw [hw] at HE Hcur Hok Hdm
    go_enter Tryd.func106, Tryd.ntmps106
    go_wp2_with fail
    have k1 := impl_Width r w
    rw [hw] at k1
    refine (k1).mono ?_; rintro e w1 ⟨rfl, x1⟩
    have Hw := Lib.hid hw
    clear k1 hw hm
    have S1 := Lib.hid (S.call x1); clear S
    obtain ⟨lc, lf, ls⟩ := S1.out.cells 0 rfl
    simp only [vtCs] at lc
    have e1 : IntKind.i64.wrap (g.W - 1) = g.W - 1 := IntWalk.i64_in _ (by omega)
    have e2 : IntKind.i64.wrap (g.H - 1) = g.H - 1 := IntWalk.i64_in _ (by omega)
    go_upto_region 2 with fail
    go_cut [29] (fun s wx => s = .bool (decide (g.R = true ∨ ((1 : Int) = 2 ∧ g.X = g.W - 1))) ∧ St W wx (vbox q0 b v g ++ L))
    case first =>
      clear HE Hcur Hok Hdm HX
      cases hR : g.R
      · by_cases hXW : g.X = g.W - 1
        · have hXb : (g.X == g.W - 1) = true := by simpa using hXW
          rw [hR] at lc
          have HXW := Lib.hid hXW; clear hXW; have HR := Lib.hid hR; clear hR
          go_quiet (fail)
          go_wp2_with fail
          go_meet
          exact ⟨by simp [HXW.out, HR.out], S1.out.drewN _⟩
        · have hXb : (g.X == g.W - 1) = false := by simpa using hXW
          rw [hR] at lc
          have HXW := Lib.hid hXW; clear hXW; have HR := Lib.hid hR; clear hR
          go_quiet (fail)
          go_wp2_with fail
          go_meet
          exact ⟨by simp [HXW.out, HR.out], S1.out.drewN _⟩
      · rw [hR] at lc
        have HR := Lib.hid hR; clear hR
        go_quiet (fail)
        go_wp2_with fail
        go_meet
        exact ⟨by simp [HR.out], S1.out.drewN _⟩
    case rest =>
      obtain ⟨rfl, S⟩ := hcut
      clear lc lf ls S1 x1
      have S1 := Lib.hid S; clear S
      obtain ⟨lc, lf, ls⟩ := S1.out.cells 0 rfl
      simp only [vtCs] at lc
      go_upto_if 29 with fail
      go_cut [] (fun wx => ∃ v', St W wx (vbox q0 b v' (wrapG g 1) ++ L))
      case first =>
        clear HE Hcur Hok Hdm
        by_cases hc : g.R = true ∨ ((1 : Int) = 2 ∧ g.X = g.W - 1)
        · have E3 := Lib.hid (wrapG_yes hc)
          have hcb : decide (g.R = true ∨ ((1 : Int) = 2 ∧ g.X = g.W - 1)) = true := decide_eq_true hc
          rw [hcb]
          clear hcb hc
          go_upto_region 4 with fail
          have S2 : St W _ (vbox q0 b v { g with X := 0, R := false } ++ L) := (S1.out.setc 0 rfl 3 (.int .i64 0)).setc 0 rfl 5 (.bool false)
          generalize ((wc.setCell ⟨b, 3, none⟩ (.int .i64 0)).setCell ⟨b, 5, none⟩ (.bool false)) = w2 at S2 ⊢
          clear lc lf ls
          have HS2 := Lib.hid S2; clear S2
          obtain ⟨lc, lf, ls⟩ := HS2.out.cells 0 rfl
          simp only [vtCs] at lc
          obtain ⟨-, -, y0, y1, -⟩ := HX.out
          by_cases hY : g.Y = g.H - 1
          · have hYb : (g.Y == g.H - 1) = true := by simpa using hY
            have HY := Lib.hid hY; clear hY
            go_quiet (fail)
            clear e1 e2
            go_wp2_with fail
            refine (vt_scroll q0 { g with X := 0, R := false } b v W _ L (HS2.out.drewN _) (home_ok hg)).mono ?_; rintro e w3 ⟨rfl, v3, S3⟩
            go_wp2_with fail
            go_meet
            exact ⟨v3, by rw [E3.out]; unfold downG; rw [if_pos HY.out]; exact S3⟩
          · have hYb : (g.Y == g.H - 1) = false := by simpa using hY
            have HY := Lib.hid hY; clear hY
            go_quiet (fail)
            clear e1 e2
            go_wp2_with fail
            go_meet
            have S3 : St W _ (vbox q0 b v { g with X := 0, Y := g.Y + 1, R := false } ++ L) := (HS2.out.drewN nq).setc 0 rfl 4 (.int .i64 (g.Y + 1))
            exact ⟨v, by rw [E3.out]; unfold downG; rw [if_neg HY.out]; exact S3⟩
        · have E3 := Lib.hid (wrapG_no hc)
          have hcb : decide (g.R = true ∨ ((1 : Int) = 2 ∧ g.X = g.W - 1)) = false := decide_eq_false hc
          rw [hcb]
          clear hcb hc
          go_wp2_with fail
          go_meet
          exact ⟨v, by rw [E3.out]; exact S1.out⟩
      case rest =>
        obtain ⟨v1, S⟩ := hcut
        clear lc lf ls S1 e1 e2 HX
        generalize wrapG g 1 = g1 at *
        obtain ⟨t1, t2⟩ := Hdm.out
        obtain ⟨c1, c2, c3, c4, c5⟩ := Hcur.out
        have hok1 := Hok.out
        obtain ⟨-, -, -, -, -, a6⟩ := gridOk_d hok1
        rw [← t2] at c5; rw [← t1] at c3 d1 d2
        rw [← t2] at d3 d4
        obtain ⟨p1, p2, p3⟩ := pos_in a6 d1 c2 (by omega) c4 c5
        have b1 : g1.Y * g1.W + g1.W ≤ g1.C.length := by
          have : g1.W * (g1.Y + 1) ≤ g1.W * g1.H := Int.mul_le_mul_of_nonneg_left (by omega) (by omega)
          rw [Int.mul_add, Int.mul_comm] at this; omega
        have b2 : 0 ≤ g1.Y * g1.W := Int.mul_nonneg c4 (by omega)
        have b3 : (g1.C.length : Int) ≤ 8000 := by have := (gridOk_d hok1).2.2.2.2.1; omega
        obtain ⟨i, hi⟩ : ∃ i : Nat, (i : Int) = g1.Y * g1.W + g1.X := ⟨(g1.Y * g1.W + g1.X).toNat, by omega⟩
        have e3 : IntKind.i64.wrap (g1.Y * g1.W) = g1.Y * g1.W := IntWalk.i64_in _ (by omega)
        have e4 : IntKind.i64.wrap (g1.Y * g1.W + g1.X) = (i : Int) := by rw [hi]; exact IntWalk.i64_in _ (by omega)
        have HPE : Hid (putG g r = stepG { g1 with C := putC g1.C i r } 1) := by
          show _ = _
          rw [HE.out, ← t1, ← hi, Int.toNat_natCast]
        have hin : i + 1 ≤ g1.C.length := by omega
        have HS := Lib.hid S; have HA6 := Lib.hid a6; have HC1 := Lib.hid c1
        obtain ⟨lc, lf, ls⟩ := S.cells 0 rfl
        simp only [vtCs] at lc
        rw [c1] at lc
        have hi8 : i + 1 ≤ 8000 := by omega
        have Hi := Lib.hid hi
        clear p1 p2 p3 b1 b2 a6 S c1 hi t1 t2 HE
        go_upto_region 7 with fail
        go_quiet (fail)
        clear e3 e4
        go_wp2_with fail
        refine (vt_erase' q0 g1 i (i + 1) _ _ rfl (by omega) b v1 W _ L (HS.out.drewN _) (by omega) hin (by omega) hok1).mono ?_; rintro e w4 ⟨rfl, S4⟩
        clear lc lf ls
        obtain ⟨D, hD⟩ : ∃ D, D = clearC g1.C i ((i + 1 : Nat) : Int) := ⟨_, rfl⟩
        have hDl : D.length = g1.C.length := by rw [hD, clearC_len]
        have S5 : St W w4 (vbox q0 b v1 { g1 with C := D } ++ L) := by rw [hD]; exact S4
        rcases (S5.ownI 1 rfl).shape with ⟨rfl, h0⟩ | ⟨q, c, rfl, -, hq, hc, hcm⟩
        · exfalso; simp only at h0; rw [h0] at hDl; simp at hDl; omega
        simp only at S5 hc
        have HD := Lib.hid hD; have HDl := Lib.hid hDl
        clear hD S4
        rw [hDl] at hc
        have HS5 := Lib.hid S5; clear S5 hDl
        obtain ⟨lc, lf, ls⟩ := HS5.out.cells 0 rfl
        simp only [vtCs] at lc
        have hiD : i < D.length := by rw [HDl.out]; omega
        go_wp2_with ((with_reducible refine wp_setI (k := i) (u := r) HS5.out 1 rfl ?_ ?_ ?_ ?_); go_must (show i < D.length; rw [HDl.out]; omega); go_must (exact rfl); go_must (exact rfl))
        intro w6 S6
        clear lc lf ls
        have HS6 := Lib.hid S6; clear S6
        obtain ⟨lc, lf, ls⟩ := HS6.out.cells 0 rfl
        simp only [vtCs] at lc
        go_upto_region 13 with fail
        obtain ⟨F, hF⟩ : ∃ F, F = putC g1.C i r := ⟨_, rfl⟩
        have S8 : St W (w6.setCell ⟨b, 3, none⟩ (.int .i64 (g1.X + 1))) (vbox q0 b (.slice (some ⟨q, 0, none⟩) D.length c) { g1 with C := F, X := g1.X + 1 } ++ L) := by
          have hFD : F = D.set i r := by rw [hF, putC_one Hw.out, HD.out]; rfl
          rw [hFD]
          exact HS6.out.setc 0 rfl 3 (.int .i64 (g1.X + 1))
        generalize (w6.setCell ⟨b, 3, none⟩ (.int .i64 (g1.X + 1))) = w8 at S8 ⊢
        clear lc lf ls
        have HS8 := Lib.hid S8; clear S8
        have HPF : Hid (putG g r = stepG { g1 with C := F } 1) := by show _ = _; rw [HPE.out, hF]
        clear hF hok1
        obtain ⟨lc, lf, ls⟩ := HS8.out.cells 0 rfl
        simp only [vtCs] at lc
        by_cases hst : g1.W ≤ g1.X + 1
        · have hsb : decide (g1.W ≤ g1.X + 1) = true := decide_eq_true hst
          have HST := Lib.hid hst
          go_quiet (fail)
          go_wp2_with fail
          ((try simp only [Exit.inBlock, Exit.then]); first | refine bodyPost_ret (results_none rfl _ _ _) rfl ?_ | refine bodyPost_end (results_none rfl _ _ _) rfl ?_)
          refine ⟨rfl, .slice (some ⟨q, 0, none⟩) D.length c, ?_⟩
          rw [HPF.out, stepG_yes (g := { g1 with C := F }) HST.out]
          exact ((HS8.out.drewN nq).setc 0 rfl 3 (.int .i64 (g1.W - 1))).setc 0 rfl 5 (.bool true)
        · have hsb : decide (g1.W ≤ g1.X + 1) = false := decide_eq_false hst
          have HST := Lib.hid hst
          go_quiet (fail)
          go_wp2_with fail
          ((try simp only [Exit.inBlock, Exit.then]); first | refine bodyPost_ret (results_none rfl _ _ _) rfl ?_ | refine bodyPost_end (results_none rfl _ _ _) rfl ?_)
          refine ⟨rfl, .slice (some ⟨q, 0, none⟩) D.length c, ?_⟩
          rw [HPF.out, stepG_no (g := { g1 with C := F }) (by show ¬ g1.W ≤ g1.X + 1; have := HST.out; omega)]
          exact HS8.out.drewN nq
  · have HE := Lib.hid (putG_eq g r (by omega))
    obtain ⟨m, hm⟩ : ∃ m, m = width r := ⟨_, rfl⟩
    have hcur := wrapG_cur hg (n := width r) (by omega)
    have hok := wrapG_ok hg (width r)
    have hdm := wrapG_dims g (width r)
    obtain ⟨d1, d2, d3, d4, -, -⟩ := gridOk_d hg
    have HX := Lib.hid (gridOk_c hg)
    have Hcur := Lib.hid hcur; have Hok := Lib.hid hok; have Hdm := Lib.hid hdm
    clear hcur hok hdm
    rw [hw] at HE Hcur Hok Hdm
    go_enter Tryd.func106, Tryd.ntmps106
    go_wp2_with fail
    have k1 := impl_Width r w
    rw [hw] at k1
    refine (k1).mono ?_; rintro e w1 ⟨rfl, x1⟩
    have Hw := Lib.hid hw
    clear k1 hw hm
    have S1 := Lib.hid (S.call x1); clear S
    obtain ⟨lc, lf, ls⟩ := S1.out.cells 0 rfl
    simp only [vtCs] at lc
    have e1 : IntKind.i64.wrap (g.W - 1) = g.W - 1 := IntWalk.i64_in _ (by omega)
    have e2 : IntKind.i64.wrap (g.H - 1) = g.H - 1 := IntWalk.i64_in _ (by omega)
    go_upto_region 2 with fail
    go_cut [29] (fun s wx => s = .bool (decide (g.R = true ∨ ((2 : Int) = 2 ∧ g.X = g.W - 1))) ∧ St W wx (vbox q0 b v g ++ L))
    case first =>
      clear HE Hcur Hok Hdm HX
      cases hR : g.R
      · by_cases hXW : g.X = g.W - 1
        · have hXb : (g.X == g.W - 1) = true := by simpa using hXW
          rw [hR] at lc
          have HXW := Lib.hid hXW; clear hXW; have HR := Lib.hid hR; clear hR
          go_quiet (fail)
          go_wp2_with fail
          go_meet
          exact ⟨by simp [HXW.out, HR.out], S1.out.drewN _⟩
        · have hXb : (g.X == g.W - 1) = false := by simpa using hXW
          rw [hR] at lc
          have HXW := Lib.hid hXW; clear hXW; have HR := Lib.hid hR; clear hR
          go_quiet (fail)
          go_wp2_with fail
          go_meet
          exact ⟨by simp [HXW.out, HR.out], S1.out.drewN _⟩
      · rw [hR] at lc
        have HR := Lib.hid hR; clear hR
        go_quiet (fail)
        go_wp2_with fail
        go_meet
        exact ⟨by simp [HR.out], S1.out.drewN _⟩
    case rest =>
      obtain ⟨rfl, S⟩ := hcut
      clear lc lf ls S1 x1
      have S1 := Lib.hid S; clear S
      obtain ⟨lc, lf, ls⟩ := S1.out.cells 0 rfl
      simp only [vtCs] at lc
      go_upto_if 29 with fail
      go_cut [] (fun wx => ∃ v', St W wx (vbox q0 b v' (wrapG g 2) ++ L))
      case first =>
        clear HE Hcur Hok Hdm
        by_cases hc : g.R = true ∨ ((2 : Int) = 2 ∧ g.X = g.W - 1)
        · have E3 := Lib.hid (wrapG_yes hc)
          have hcb : decide (g.R = true ∨ ((2 : Int) = 2 ∧ g.X = g.W - 1)) = true := decide_eq_true hc
          rw [hcb]
          clear hcb hc
          go_upto_region 4 with fail
          have S2 : St W _ (vbox q0 b v { g with X := 0, R := false } ++ L) := (S1.out.setc 0 rfl 3 (.int .i64 0)).setc 0 rfl 5 (.bool false)
          generalize ((wc.setCell ⟨b, 3, none⟩ (.int .i64 0)).setCell ⟨b, 5, none⟩ (.bool false)) = w2 at S2 ⊢
          clear lc lf ls
          have HS2 := Lib.hid S2; clear S2
          obtain ⟨lc, lf, ls⟩ := HS2.out.cells 0 rfl
          simp only [vtCs] at lc
          obtain ⟨-, -, y0, y1, -⟩ := HX.out
          by_cases hY : g.Y = g.H - 1
          · have hYb : (g.Y == g.H - 1) = true := by simpa using hY
            have HY := Lib.hid hY; clear hY
            go_quiet (fail)
            clear e1 e2
            go_wp2_with fail
            refine (vt_scroll q0 { g with X := 0, R := false } b v W _ L (HS2.out.drewN _) (home_ok hg)).mono ?_; rintro e w3 ⟨rfl, v3, S3⟩
            go_wp2_with fail
            go_meet
            exact ⟨v3, by rw [E3.out]; unfold downG; rw [if_pos HY.out]; exact S3⟩
          · have hYb : (g.Y == g.H - 1) = false := by simpa using hY
            have HY := Lib.hid hY; clear hY
            go_quiet (fail)
            clear e1 e2
            go_wp2_with fail
            go_meet
            have S3 : St W _ (vbox q0 b v { g with X := 0, Y := g.Y + 1, R := false } ++ L) := (HS2.out.drewN nq).setc 0 rfl 4 (.int .i64 (g.Y + 1))
            exact ⟨v, by rw [E3.out]; unfold downG; rw [if_neg HY.out]; exact S3⟩
        · have E3 := Lib.hid (wrapG_no hc)
          have hcb : decide (g.R = true ∨ ((2 : Int) = 2 ∧ g.X = g.W - 1)) = false := decide_eq_false hc
          rw [hcb]
          clear hcb hc
          go_wp2_with fail
          go_meet
          exact ⟨v, by rw [E3.out]; exact S1.out⟩
      case rest =>
        obtain ⟨v1, S⟩ := hcut
        clear lc lf ls S1 e1 e2 HX
        generalize wrapG g 2 = g1 at *
        obtain ⟨t1, t2⟩ := Hdm.out
        obtain ⟨c1, c2, c3, c4, c5⟩ := Hcur.out
        have hok1 := Hok.out
        obtain ⟨-, -, -, -, -, a6⟩ := gridOk_d hok1
        rw [← t2] at c5; rw [← t1] at c3 d1 d2
        rw [← t2] at d3 d4
        obtain ⟨p1, p2, p3⟩ := pos_in a6 d1 c2 (by omega) c4 c5
        have b1 : g1.Y * g1.W + g1.W ≤ g1.C.length := by
          have : g1.W * (g1.Y + 1) ≤ g1.W * g1.H := Int.mul_le_mul_of_nonneg_left (by omega) (by omega)
          rw [Int.mul_add, Int.mul_comm] at this; omega
        have b2 : 0 ≤ g1.Y * g1.W := Int.mul_nonneg c4 (by omega)
        have b3 : (g1.C.length : Int) ≤ 8000 := by have := (gridOk_d hok1).2.2.2.2.1; omega
        obtain ⟨i, hi⟩ : ∃ i : Nat, (i : Int) = g1.Y * g1.W + g1.X := ⟨(g1.Y * g1.W + g1.X).toNat, by omega⟩
        have e3 : IntKind.i64.wrap (g1.Y * g1.W) = g1.Y * g1.W := IntWalk.i64_in _ (by omega)
        have e4 : IntKind.i64.wrap (g1.Y * g1.W + g1.X) = (i : Int) := by rw [hi]; exact IntWalk.i64_in _ (by omega)
        have HPE : Hid (putG g r = stepG { g1 with C := putC g1.C i r } 2) := by
          show _ = _
          rw [HE.out, ← t1, ← hi, Int.toNat_natCast]
        have hin : i + 2 ≤ g1.C.length := by omega
        have HS := Lib.hid S; have HA6 := Lib.hid a6; have HC1 := Lib.hid c1
        obtain ⟨lc, lf, ls⟩ := S.cells 0 rfl
        simp only [vtCs] at lc
        rw [c1] at lc
        have hi8 : i + 2 ≤ 8000 := by omega
        have Hi := Lib.hid hi
        clear p1 p2 p3 b1 b2 a6 S c1 hi t1 t2 HE
        go_upto_region 7 with fail
        go_quiet (fail)
        clear e3 e4
        go_wp2_with fail
        refine (vt_erase' q0 g1 i (i + 2) _ _ rfl (by omega) b v1 W _ L (HS.out.drewN _) (by omega) hin (by omega) hok1).mono ?_; rintro e w4 ⟨rfl, S4⟩
        clear lc lf ls
        obtain ⟨D, hD⟩ : ∃ D, D = clearC g1.C i ((i + 2 : Nat) : Int) := ⟨_, rfl⟩
        have hDl : D.length = g1.C.length := by rw [hD, clearC_len]
        have S5 : St W w4 (vbox q0 b v1 { g1 with C := D } ++ L) := by rw [hD]; exact S4
        rcases (S5.ownI 1 rfl).shape with ⟨rfl, h0⟩ | ⟨q, c, rfl, -, hq, hc, hcm⟩
        · exfalso; simp only at h0; rw [h0] at hDl; simp at hDl; omega
        simp only at S5 hc
        have HD := Lib.hid hD; have HDl := Lib.hid hDl
        clear hD S4
        rw [hDl] at hc
        have HS5 := Lib.hid S5; clear S5 hDl
        obtain ⟨lc, lf, ls⟩ := HS5.out.cells 0 rfl
        simp only [vtCs] at lc
        have hiD : i < D.length := by rw [HDl.out]; omega
        go_wp2_with ((with_reducible refine wp_setI (k := i) (u := r) HS5.out 1 rfl ?_ ?_ ?_ ?_); go_must (show i < D.length; rw [HDl.out]; omega); go_must (exact rfl); go_must (exact rfl))
        intro w6 S6
        clear lc lf ls
        have HS6 := Lib.hid S6; clear S6
        obtain ⟨lc, lf, ls⟩ := HS6.out.cells 0 rfl
        simp only [vtCs] at lc
        have hli : i + 1 < D.length := by rw [HDl.out]; omega
        go_wp2_with ((with_reducible refine wp_setI (k := i + 1) (u := -1) HS6.out 1 rfl ?_ ?_ ?_ ?_); go_must (rw [List.length_set]; exact hli); go_must (exact rfl); go_must (exact rfl))
        intro w6b S7
        clear lc lf ls
        have HS6 := Lib.hid S7; clear S7
        obtain ⟨lc, lf, ls⟩ := HS6.out.cells 0 rfl
        simp only [vtCs] at lc
        go_upto_region 13 with fail
        obtain ⟨F, hF⟩ : ∃ F, F = putC g1.C i r := ⟨_, rfl⟩
        have S8 : St W (w6b.setCell ⟨b, 3, none⟩ (.int .i64 (g1.X + 2))) (vbox q0 b (.slice (some ⟨q, 0, none⟩) D.length c) { g1 with C := F, X := g1.X + 2 } ++ L) := by
          have hFD : F = (D.set i r).set (i + 1) (-1) := by rw [hF, putC_two Hw.out, HD.out]; rfl
          rw [hFD]
          exact HS6.out.setc 0 rfl 3 (.int .i64 (g1.X + 2))
        generalize (w6b.setCell ⟨b, 3, none⟩ (.int .i64 (g1.X + 2))) = w8 at S8 ⊢
        clear lc lf ls
        have HS8 := Lib.hid S8; clear S8
        have HPF : Hid (putG g r = stepG { g1 with C := F } 2) := by show _ = _; rw [HPE.out, hF]
        clear hF hok1
        obtain ⟨lc, lf, ls⟩ := HS8.out.cells 0 rfl
        simp only [vtCs] at lc
        by_cases hst : g1.W ≤ g1.X + 2
        · have hsb : decide (g1.W ≤ g1.X + 2) = true := decide_eq_true hst
          have HST := Lib.hid hst
          go_quiet (fail)
          go_wp2_with fail
          ((try simp only [Exit.inBlock, Exit.then]); first | refine bodyPost_ret (results_none rfl _ _ _) rfl ?_ | refine bodyPost_end (results_none rfl _ _ _) rfl ?_)
          refine ⟨rfl, .slice (some ⟨q, 0, none⟩) D.length c, ?_⟩
          rw [HPF.out, stepG_yes (g := { g1 with C := F }) HST.out]
          exact ((HS8.out.drewN nq).setc 0 rfl 3 (.int .i64 (g1.W - 1))).setc 0 rfl 5 (.bool true)
        · have hsb : decide (g1.W ≤ g1.X + 2) = false := decide_eq_false hst
          have HST := Lib.hid hst
          go_quiet (fail)
          go_wp2_with fail
          ((try simp only [Exit.inBlock, Exit.then]); first | refine bodyPost_ret (results_none rfl _ _ _) rfl ?_ | refine bodyPost_end (results_none rfl _ _ _) rfl ?_)
          refine ⟨rfl, .slice (some ⟨q, 0, none⟩) D.length c, ?_⟩
          rw [HPF.out, stepG_no (g := { g1 with C := F }) (by show ¬ g1.W ≤ g1.X + 2; have := HST.out; omega)]
          exact HS8.out.drewN nq
end Go.Proofs.YtohjjhoobikioaaDoor
