/-
  The reference's GridPut.
-/
import Derived.Test.YtohjjhoobikioaaDoorGS2
import Derived.Test.YtohjjhoobikioaaDoorGM3
namespace Go.Proofs.YtohjjhoobikioaaDoor
open Go.RowKit

theorem down_last {g : Gr} (h : gridOk g = true) (hY : g.Y = g.H - 1) : goG (scrollG g) 0 (g.Y + 1) = downG g := by
  obtain ⟨d1, -, d3, -, -, -⟩ := gridOk_d h
  unfold downG; rw [if_pos hY]
  simp only [goG, scrollG]
  congr 1
  · unfold clampI; omega
  · unfold clampI; omega
theorem down_on {g : Gr} (h : gridOk g = true) (hY : ¬ g.Y = g.H - 1) : goG g 0 (g.Y + 1) = downG g := by
  obtain ⟨d1, -, d3, -, -, -⟩ := gridOk_d h
  obtain ⟨-, -, c3, c4, -⟩ := gridOk_c h
  unfold downG; rw [if_neg hY]
  simp only [goG]
  congr 1
  · unfold clampI; omega
  · unfold clampI; omega
/-- a grid in a variable of the reference's: its cells, its slice -/
def outG (b : Nat) (v : Value) (h : Gr) : List Pc := [row b 40 #[.int .i64 h.W, .int .i64 h.H, v, .int .i64 h.X, .int .i64 h.Y, .bool h.R], ownI v h.C]

theorem OwnI.ri {w : World} {B : Nat} {l : List Int} {A : Option Addr} {n c : Nat} (h : OwnI w B (.slice A n c) l) : RI w A n c l := by
  obtain ⟨A', c', e, r⟩ := h.form
  injection e with e1 e2 e3
  subst e1; subst e2; subst e3
  exact r

set_option maxRecDepth 100000 in
set_option maxHeartbeats 8000000 in
theorem spec_GridPut (g : Gr) (A : Option Addr) (n c : Nat) (r : Int) (w : World) (hC : RI w A n c g.C) (hg : gridOk g = true) :
    Calls Tryd.prog 77 #[.agg #[.int .i64 g.W, .int .i64 g.H, .slice A n c, .int .i64 g.X, .int .i64 g.Y, .bool g.R], .int .i64 r] w fun e w' => ∃ v, e = .returned (.agg #[.int .i64 (putG g r).W, .int .i64 (putG g r).H, v, .int .i64 (putG g r).X, .int .i64 (putG g r).Y, .bool (putG g r).R]) ∧ OwnI w' w.heap.size v (putG g r).C ∧ Ext w w' := by
  obtain ⟨d1, d2, d3, d4, d5, d6⟩ := gridOk_d hg
  have hn : g.C.length = n := hC.len
  have hn8 : n ≤ 8000 := by omega
  have hn1 : 0 < n := by have := prod_bounds d1 d2 d3 d4; omega
  have Hn := Lib.hid hn
  have HX := Lib.hid (gridOk_c hg)
  clear d5 d6 hn
  have S := ((St.refl w).alloc #[.int .i64 g.W, .int .i64 g.H, .slice A n c, .int .i64 g.X, .int .i64 g.Y, .bool g.R] 40).alloc zeroG 40
  simp only [World.size_alloc] at S
  rcases width_cases r with hw | hw | hw
  · have E : Hid (putG g r = g) := by show _ = _; unfold putG; rw [if_pos hw]
    rw [E.out]
    go_enter Tryd.func77, Tryd.ntmps77
    go_wp2_with fail
    have k1 := spec_GridOk g.W g.H g.X g.Y g.R g.C A n c _ (hC.ext S.ext)
    rw [eta_ok hg] at k1
    refine (k1).mono ?_; rintro e w1 ⟨rfl, x1⟩
    clear k1
    have S1 := S.call x1
    obtain ⟨lc, lf, ls⟩ := S1.cells 1 rfl
    go_wp2_with fail
    refine Calls.mono (spec_Width _ _) ?_; rintro e w1b ⟨rfl, x1b⟩
    rw [hw]
    have S1b := S1.call x1b
    clear lc lf ls
    obtain ⟨lc, lf, ls⟩ := S1b.cells 1 rfl
    go_wp2_with fail
    refine Calls.mono (spec_l08Copy g A n c _ (hC.ext S1b.ext) (by omega)) ?_; rintro e w2 ⟨v, rfl, own, x2⟩
    have S2 := S1b.newI own x2
    rcases own.shape with ⟨rfl, h0⟩ | ⟨q, c1, rfl, -, hq, hc1, hcm⟩
    · have e := Hn.out; rw [h0] at e; simp at e; omega
    rw [Hn.out] at S2 hc1 ⊢
    clear lc lf ls own S1 S1b S
    obtain ⟨lc, lf, ls⟩ := S2.cells 2 rfl
    go_upto_region 5 with fail
    have S3 := S2.alloc #[.int .i64 g.W, .int .i64 g.H, .slice (some ⟨q, 0, none⟩) n c1, .int .i64 g.X, .int .i64 g.Y, .bool g.R] 40
    have hw3 : w2.heap.size < (w2.alloc (.cells #[.int .i64 g.W, .int .i64 g.H, .slice (some ⟨q, 0, none⟩) n c1, .int .i64 g.X, .int .i64 g.Y, .bool g.R] 40)).heap.size := by simp
    generalize (w2.alloc (.cells #[.int .i64 g.W, .int .i64 g.H, .slice (some ⟨q, 0, none⟩) n c1, .int .i64 g.X, .int .i64 g.Y, .bool g.R] 40)) = w3 at S3 hw3 ⊢
    generalize w2.heap.size = b7 at *
    clear lc lf ls S2
    have HS : Hid (St w w3 (outG b7 (.slice (some ⟨q, 0, none⟩) n c1) g ++ [row (w.heap.size + 1) 40 zeroG, row w.heap.size 40 #[.int .i64 g.W, .int .i64 g.H, .slice A n c, .int .i64 g.X, .int .i64 g.Y, .bool g.R]])) := S3
    clear S3 hw3
    obtain ⟨lc, lf, ls⟩ := HS.out.cells 0 rfl
    clear hw
    go_wp2_with ((with_reducible refine wp_setA (k := 0) (u := .agg #[.int .i64 g.W, .int .i64 g.H, .slice (some ⟨q, 0, none⟩) n c1, .int .i64 g.X, .int .i64 g.Y, .bool g.R]) #[.int .i64 g.W, .int .i64 g.H, .slice (some ⟨q, 0, none⟩) n c1, .int .i64 g.X, .int .i64 g.Y, .bool g.R] HS.out 2 rfl ?_ ?_ ?_ ?_ ?_ ?_ ?_); go_must (exact rfl); go_must (exact rfl); go_must (kernel_rfl); go_must (kernel_rfl); go_must (exact Nat.le_of_ble_eq_true (by kernel_rfl)); go_must (kernel_rfl))
    intro w4 S5
    go_wp2_with fail
    obtain ⟨lc5, -, -⟩ := S5.cells 2 rfl
    exact bodyPost_ret (v := .agg #[.int .i64 g.W, .int .i64 g.H, .slice (some ⟨q, 0, none⟩) n c1, .int .i64 g.X, .int .i64 g.Y, .bool g.R]) (by simp [results, Tryd.results77, go_sem, lc5]) rfl ⟨_, rfl, S5.outI 1 rfl, S5.ext⟩
  · have HE := Lib.hid (putG_eq g r (by omega))
    have Hcur := Lib.hid (wrapG_cur hg (n := width r) (by omega)); have Hok := Lib.hid (wrapG_ok hg (width r)); have Hdm := Lib.hid (wrapG_dims g (width r))
    rw [hw] at HE Hcur Hok Hdm
    go_enter Tryd.func77, Tryd.ntmps77
    go_wp2_with fail
    have k1 := spec_GridOk g.W g.H g.X g.Y g.R g.C A n c _ (hC.ext S.ext)
    rw [eta_ok hg] at k1
    refine (k1).mono ?_; rintro e w1 ⟨rfl, x1⟩
    clear k1
    have S1 := S.call x1
    obtain ⟨lc, lf, ls⟩ := S1.cells 1 rfl
    go_wp2_with fail
    refine Calls.mono (spec_Width _ _) ?_; rintro e w1b ⟨rfl, x1b⟩
    rw [hw]
    have S1b := S1.call x1b
    clear lc lf ls
    obtain ⟨lc, lf, ls⟩ := S1b.cells 1 rfl
    go_wp2_with fail
    refine Calls.mono (spec_l08Copy g A n c _ (hC.ext S1b.ext) (by omega)) ?_; rintro e w2 ⟨v, rfl, own, x2⟩
    have S2 := S1b.newI own x2
    rcases own.shape with ⟨rfl, h0⟩ | ⟨q, c1, rfl, -, hq, hc1, hcm⟩
    · have e := Hn.out; rw [h0] at e; simp at e; omega
    rw [Hn.out] at S2 hc1 ⊢
    clear lc lf ls own S1 S1b S
    obtain ⟨lc, lf, ls⟩ := S2.cells 2 rfl
    go_upto_region 5 with fail
    have S3 := S2.alloc #[.int .i64 g.W, .int .i64 g.H, .slice (some ⟨q, 0, none⟩) n c1, .int .i64 g.X, .int .i64 g.Y, .bool g.R] 40
    have hw3 : w2.heap.size < (w2.alloc (.cells #[.int .i64 g.W, .int .i64 g.H, .slice (some ⟨q, 0, none⟩) n c1, .int .i64 g.X, .int .i64 g.Y, .bool g.R] 40)).heap.size := by simp
    generalize (w2.alloc (.cells #[.int .i64 g.W, .int .i64 g.H, .slice (some ⟨q, 0, none⟩) n c1, .int .i64 g.X, .int .i64 g.Y, .bool g.R] 40)) = w3 at S3 hw3 ⊢
    generalize w2.heap.size = b7 at *
    clear lc lf ls S2
    have HS : Hid (St w w3 (outG b7 (.slice (some ⟨q, 0, none⟩) n c1) g ++ [row (w.heap.size + 1) 40 zeroG, row w.heap.size 40 #[.int .i64 g.W, .int .i64 g.H, .slice A n c, .int .i64 g.X, .int .i64 g.Y, .bool g.R]])) := S3
    clear S3 hw3
    obtain ⟨lc, lf, ls⟩ := HS.out.cells 0 rfl
    have Hw := Lib.hid hw
    clear hw
    go_upto_region 7 with fail
    obtain ⟨lc2, lf2, ls2⟩ := HS.out.cells 3 rfl
    go_cut [32] (fun s wx => s = .bool (decide (g.R = true ∨ ((1 : Int) = 2 ∧ g.X = g.W - 1))) ∧ wx = w3)
    case first =>
      clear HE Hcur Hok Hdm HX
      rcases Bool.eq_false_or_eq_true g.R with hR | hR
      · rw [hR] at lc2
        have HR := Lib.hid hR; clear hR
        go_wp2_with fail
        go_meet
        exact ⟨by simp [HR.out], rfl⟩
      · by_cases hXW : g.X = g.W - 1
        · have hXb : (g.X == g.W - 1) = true := by simpa using hXW
          rw [hR] at lc2
          have HXW := Lib.hid hXW; clear hXW; have HR := Lib.hid hR; clear hR
          go_wp2_with fail
          go_meet
          exact ⟨by simp [HXW.out, HR.out], rfl⟩
        · have hXb : (g.X == g.W - 1) = false := by simpa using hXW
          rw [hR] at lc2
          have HXW := Lib.hid hXW; clear hXW; have HR := Lib.hid hR; clear hR
          go_wp2_with fail
          go_meet
          exact ⟨by simp [HXW.out, HR.out], rfl⟩
    case rest =>
      obtain ⟨rfl, rfl⟩ := hcut
      go_upto_if 32 with fail
      go_cut [] (fun wx => ∃ v', St w wx (outG b7 v' (wrapG g 1) ++ [row (w.heap.size + 1) 40 zeroG, row w.heap.size 40 #[.int .i64 g.W, .int .i64 g.H, .slice A n c, .int .i64 g.X, .int .i64 g.Y, .bool g.R]]))
      case first =>
        clear HE Hcur Hok Hdm
        by_cases hc : g.R = true ∨ ((1 : Int) = 2 ∧ g.X = g.W - 1)
        · have E3 := Lib.hid (wrapG_yes hc)
          have hcb : decide (g.R = true ∨ ((1 : Int) = 2 ∧ g.X = g.W - 1)) = true := decide_eq_true hc
          rw [hcb]
          clear hcb hc
          obtain ⟨-, -, y0, y1, -⟩ := HX.out
          by_cases hY : g.Y = g.H - 1
          · have hYb : (g.Y == g.H - 1) = true := by simpa using hY
            have HY := Lib.hid hY; clear hY
            go_wp2_with fail
            refine Calls.mono (spec_GridScroll g _ _ _ _ (OwnI.ri (HS.out.ownI 1 rfl)) hg) ?_; rintro e wa1 ⟨va1, rfl, own1, xa1⟩
            obtain ⟨A1, c1, rfl, -⟩ := own1.form
            have Sa1 := HS.out.newI own1 xa1
            obtain ⟨m1, hm1⟩ : ∃ m, m = (scrollC g.C g.W.toNat).length := ⟨_, rfl⟩
            rw [← hm1] at Sa1 ⊢
            have HM1 := Lib.hid hm1
            clear hm1 own1 lc lf ls
            go_wp2_with ((with_reducible refine wp_setA (k := 0) (u := .agg #[.int .i64 g.W, .int .i64 g.H, .slice A1 m1 c1, .int .i64 g.X, .int .i64 g.Y, .bool g.R]) #[.int .i64 g.W, .int .i64 g.H, .slice A1 m1 c1, .int .i64 g.X, .int .i64 g.Y, .bool g.R] Sa1 1 rfl ?_ ?_ ?_ ?_ ?_ ?_ ?_); go_must (exact rfl); go_must (exact rfl); go_must (kernel_rfl); go_must (kernel_rfl); go_must (exact Nat.le_of_ble_eq_true (by kernel_rfl)); go_must (kernel_rfl))
            intro wb1 Sb1
            have Sc1 : St w wb1 (outG b7 (.slice A1 m1 c1) (scrollG g) ++ [row (w.heap.size + 1) 40 zeroG, row w.heap.size 40 #[.int .i64 g.W, .int .i64 g.H, .slice A n c, .int .i64 g.X, .int .i64 g.Y, .bool g.R]]) := ((Sb1.swap).bring 2 rfl).drop
            clear Sa1 Sb1
            obtain ⟨lc, lf, ls⟩ := Sc1.cells 0 rfl
            obtain ⟨lc2, lf2, ls2⟩ := Sc1.cells 3 rfl
            have HS1 := Lib.hid Sc1; clear Sc1
            go_wp2_with fail
            refine Calls.mono (spec_GridGo (scrollG g) _ _ _ _ _ _ (OwnI.ri (HS1.out.ownI 1 rfl)) (scrollG_ok hg)) ?_; rintro e wa2 ⟨va2, rfl, own2, xa2⟩
            obtain ⟨A2, c2, rfl, -⟩ := own2.form
            have Sa2 := HS1.out.newI own2 xa2
            obtain ⟨m2, hm2⟩ : ∃ m, m = ((scrollG g).C).length := ⟨_, rfl⟩
            rw [← hm2] at Sa2 ⊢
            have HM2 := Lib.hid hm2
            clear hm2 own2 lc lf ls
            go_wp2_with ((with_reducible refine wp_setA (k := 0) (u := .agg #[.int .i64 (scrollG g).W, .int .i64 (scrollG g).H, .slice A2 m2 c2, .int .i64 (goG (scrollG g) 0 (g.Y + 1)).X, .int .i64 (goG (scrollG g) 0 (g.Y + 1)).Y, .bool false]) #[.int .i64 (scrollG g).W, .int .i64 (scrollG g).H, .slice A2 m2 c2, .int .i64 (goG (scrollG g) 0 (g.Y + 1)).X, .int .i64 (goG (scrollG g) 0 (g.Y + 1)).Y, .bool false] Sa2 1 rfl ?_ ?_ ?_ ?_ ?_ ?_ ?_); go_must (exact rfl); go_must (exact rfl); go_must (kernel_rfl); go_must (kernel_rfl); go_must (exact Nat.le_of_ble_eq_true (by kernel_rfl)); go_must (kernel_rfl))
            intro wb2 Sb2
            have Sc2 : St w wb2 (outG b7 (.slice A2 m2 c2) (goG (scrollG g) 0 (g.Y + 1)) ++ [row (w.heap.size + 1) 40 zeroG, row w.heap.size 40 #[.int .i64 g.W, .int .i64 g.H, .slice A n c, .int .i64 g.X, .int .i64 g.Y, .bool g.R]]) := ((Sb2.swap).bring 2 rfl).drop
            clear Sa2 Sb2
            obtain ⟨lc, lf, ls⟩ := Sc2.cells 0 rfl
            go_wp2_with fail
            go_meet
            refine ⟨.slice A2 m2 c2, ?_⟩
            rw [E3.out, ← down_last hg HY.out]
            exact Sc2
          · have hYb : (g.Y == g.H - 1) = false := by simpa using hY
            have HY := Lib.hid hY; clear hY
            go_wp2_with fail
            refine Calls.mono (spec_GridGo g _ _ _ _ _ _ (OwnI.ri (HS.out.ownI 1 rfl)) hg) ?_; rintro e wa2 ⟨va2, rfl, own2, xa2⟩
            obtain ⟨A2, c2, rfl, -⟩ := own2.form
            have Sa2 := HS.out.newI own2 xa2
            obtain ⟨m2, hm2⟩ : ∃ m, m = (g.C).length := ⟨_, rfl⟩
            rw [← hm2] at Sa2 ⊢
            have HM2 := Lib.hid hm2
            clear hm2 own2 lc lf ls
            go_wp2_with ((with_reducible refine wp_setA (k := 0) (u := .agg #[.int .i64 g.W, .int .i64 g.H, .slice A2 m2 c2, .int .i64 (goG g 0 (g.Y + 1)).X, .int .i64 (goG g 0 (g.Y + 1)).Y, .bool false]) #[.int .i64 g.W, .int .i64 g.H, .slice A2 m2 c2, .int .i64 (goG g 0 (g.Y + 1)).X, .int .i64 (goG g 0 (g.Y + 1)).Y, .bool false] Sa2 1 rfl ?_ ?_ ?_ ?_ ?_ ?_ ?_); go_must (exact rfl); go_must (exact rfl); go_must (kernel_rfl); go_must (kernel_rfl); go_must (exact Nat.le_of_ble_eq_true (by kernel_rfl)); go_must (kernel_rfl))
            intro wb2 Sb2
            have Sc2 : St w wb2 (outG b7 (.slice A2 m2 c2) (goG g 0 (g.Y + 1)) ++ [row (w.heap.size + 1) 40 zeroG, row w.heap.size 40 #[.int .i64 g.W, .int .i64 g.H, .slice A n c, .int .i64 g.X, .int .i64 g.Y, .bool g.R]]) := ((Sb2.swap).bring 2 rfl).drop
            clear Sa2 Sb2
            obtain ⟨lc, lf, ls⟩ := Sc2.cells 0 rfl
            go_wp2_with fail
            go_meet
            refine ⟨.slice A2 m2 c2, ?_⟩
            rw [E3.out, ← down_on hg HY.out]
            exact Sc2
        · have E3 := Lib.hid (wrapG_no hc)
          have hcb : decide (g.R = true ∨ ((1 : Int) = 2 ∧ g.X = g.W - 1)) = false := decide_eq_false hc
          rw [hcb]
          clear hcb hc
          go_wp2_with fail
          go_meet
          exact ⟨.slice (some ⟨q, 0, none⟩) n c1, by rw [E3.out]; exact HS.out⟩
      case rest =>
        obtain ⟨v1, S⟩ := hcut
        clear lc lf ls lc2 lf2 ls2 HS HX
        generalize wrapG g 1 = g1 at *
        obtain ⟨t1, t2⟩ := Hdm.out
        obtain ⟨z1, z2, z3, z4, z5⟩ := Hcur.out
        have hok1 := Hok.out
        obtain ⟨-, -, -, -, a5, a6⟩ := gridOk_d hok1
        have d1' : 2 ≤ g1.W := by omega
        have z3' : g1.X + 1 ≤ g1.W := by omega
        obtain ⟨p1, p2, p3⟩ := pos_in a6 d1' z2 (by omega) z4 (by omega)
        have b1 : g1.Y * g1.W + g1.W ≤ g1.C.length := by
          have : g1.W * (g1.Y + 1) ≤ g1.W * g1.H := Int.mul_le_mul_of_nonneg_left (by omega) (by omega)
          rw [Int.mul_add, Int.mul_comm] at this; omega
        have b2 : 0 ≤ g1.Y * g1.W := Int.mul_nonneg z4 (by omega)
        have b3 : (g1.C.length : Int) ≤ 8000 := by omega
        obtain ⟨i, hi⟩ : ∃ i : Nat, (i : Int) = g1.Y * g1.W + g1.X := ⟨(g1.Y * g1.W + g1.X).toNat, by omega⟩
        have HPE : Hid (putG g r = stepG { g1 with C := putC g1.C i r } 1) := by
          show _ = _
          rw [HE.out, ← t1, ← hi, Int.toNat_natCast]
        have hin : i + 1 ≤ g1.C.length := by omega
        have hi8 : i + 1 ≤ 8000 := by omega
        rw [t1] at hi b1 b2
        have q1 : -9223372036854775808 ≤ g1.Y * g.W := by omega
        have q2 : g1.Y * g.W ≤ 8000 := by omega
        have HS := Lib.hid S; have Hi := Lib.hid hi; have T1 := Lib.hid t1; have T2 := Lib.hid t2
        clear p1 p2 p3 a5 a6 b1 b2 b3 S hi t1 t2 HE d1' z1
        obtain ⟨lc, lf, ls⟩ := HS.out.cells 0 rfl
        obtain ⟨lc2, lf2, ls2⟩ := HS.out.cells 3 rfl
        obtain ⟨A9, c9, rfl, -⟩ := (HS.out.ownI 1 rfl).form
        obtain ⟨m9, hm9⟩ : ∃ m, m = g1.C.length := ⟨_, rfl⟩
        have HS9 := HS.out
        rw [← hm9] at HS9 lc
        have HS := Lib.hid HS9
        have Hm9 := Lib.hid hm9
        clear HS9 hm9
        rw [← Hm9.out] at hin
        go_upto_region 11 with fail
        go_cut [7] (fun s wx => s = .int .i64 (i : Int) ∧ wx = wc)
        case first =>
          go_wp2_with fail
          go_meet
          exact ⟨by rw [Hi.out], rfl⟩
        case rest =>
          obtain ⟨rfl, rfl⟩ := hcut
          clear q1 q2
          go_wp2_with fail
          refine Calls.mono (spec_GridClear g1 _ _ _ _ _ _ (OwnI.ri (HS.out.ownI 1 rfl)) hok1) ?_; rintro e wa3 ⟨va3, rfl, own3, xa3⟩
          obtain ⟨D, hD⟩ : ∃ D, D = clearC g1.C i ((i : Int) + 1) := ⟨_, rfl⟩
          rw [← hD] at own3
          have hDl : D.length = m9 := by rw [hD, clearC_len, Hm9.out]
          rcases own3.shape with ⟨rfl, h0⟩ | ⟨q3, c3, rfl, -, hq3, hc3, hcm3⟩
          · exfalso; rw [h0] at hDl; simp at hDl; omega
          have Sa3 := HS.out.newI own3 xa3
          rw [hDl] at Sa3 ⊢
          have HD := Lib.hid hD; have HDl := Lib.hid hDl
          clear own3 lc lf ls hD hDl hq3 hc3
          go_wp2_with ((with_reducible refine wp_setA (k := 0) (u := .agg #[.int .i64 g1.W, .int .i64 g1.H, .slice (some ⟨q3, 0, none⟩) m9 c3, .int .i64 g1.X, .int .i64 g1.Y, .bool g1.R]) #[.int .i64 g1.W, .int .i64 g1.H, .slice (some ⟨q3, 0, none⟩) m9 c3, .int .i64 g1.X, .int .i64 g1.Y, .bool g1.R] Sa3 1 rfl ?_ ?_ ?_ ?_ ?_ ?_ ?_); go_must (exact rfl); go_must (exact rfl); go_must (kernel_rfl); go_must (kernel_rfl); go_must (exact Nat.le_of_ble_eq_true (by kernel_rfl)); go_must (kernel_rfl))
          intro wb3 Sb3
          have Sc3 : St w wb3 (outG b7 (.slice (some ⟨q3, 0, none⟩) m9 c3) { g1 with C := D } ++ [row (w.heap.size + 1) 40 zeroG, row w.heap.size 40 #[.int .i64 g.W, .int .i64 g.H, .slice A n c, .int .i64 g.X, .int .i64 g.Y, .bool g.R]]) := ((Sb3.swap).bring 2 rfl).drop
          clear Sa3 Sb3
          have HS3 := Lib.hid Sc3; clear Sc3
          obtain ⟨lc, lf, ls⟩ := HS3.out.cells 0 rfl
          have hiD : i < m9 := by omega
          go_wp2_with ((with_reducible refine wp_setI (k := i) (u := r) HS3.out 1 rfl ?_ ?_ ?_ ?_); go_must (show i < D.length; rw [HDl.out]; exact hiD); go_must (exact rfl); go_must (exact rfl))
          intro w6 S6
          clear lc lf ls lc2 lf2 ls2
          have HS6 := Lib.hid S6; clear S6
          obtain ⟨lc, lf, ls⟩ := HS6.out.cells 0 rfl
          obtain ⟨lc2, lf2, ls2⟩ := HS6.out.cells 3 rfl
          obtain ⟨F, hF⟩ : ∃ F, F = putC g1.C i r := ⟨_, rfl⟩
          have hFD : F = D.set i r := by rw [hF, putC_one Hw.out, HD.out]
          have HPF : Hid (putG g r = stepG { g1 with C := F } 1) := by show _ = _; rw [HPE.out, hF]
          have S8 : St w w6 (outG b7 (.slice (some ⟨q3, 0, none⟩) m9 c3) { g1 with C := F } ++ [row (w.heap.size + 1) 40 zeroG, row w.heap.size 40 #[.int .i64 g.W, .int .i64 g.H, .slice A n c, .int .i64 g.X, .int .i64 g.Y, .bool g.R]]) := by rw [hFD]; exact HS6.out
          have HS8 := Lib.hid S8
          clear S8 hF hFD HS6 HS3
          by_cases hst : g1.W ≤ g1.X + 1
          · have hst2 : g.W ≤ g1.X + 1 := by rw [← T1.out]; exact hst
            have HST := Lib.hid hst; clear hst
            go_upto_region 20 with fail
            have S9 : St w ((w6.setCell ⟨b7, 3, none⟩ (.int .i64 (g.W - 1))).setCell ⟨b7, 5, none⟩ (.bool true)) (outG b7 (.slice (some ⟨q3, 0, none⟩) m9 c3) { g1 with C := F, X := g.W - 1, R := true } ++ [row (w.heap.size + 1) 40 zeroG, row w.heap.size 40 #[.int .i64 g.W, .int .i64 g.H, .slice A n c, .int .i64 g.X, .int .i64 g.Y, .bool g.R]]) := (HS8.out.setc 0 rfl 3 (.int .i64 (g.W - 1))).setc 0 rfl 5 (.bool true)
            generalize ((w6.setCell ⟨b7, 3, none⟩ (.int .i64 (g.W - 1))).setCell ⟨b7, 5, none⟩ (.bool true)) = w9 at S9 ⊢
            clear lc lf ls lc2 lf2 ls2
            obtain ⟨lc, lf, ls⟩ := S9.cells 0 rfl
            go_wp2_with ((with_reducible refine wp_setA (k := 0) (u := .agg #[.int .i64 g1.W, .int .i64 g1.H, .slice (some ⟨q3, 0, none⟩) m9 c3, .int .i64 (g.W - 1), .int .i64 g1.Y, .bool true]) #[.int .i64 g1.W, .int .i64 g1.H, .slice (some ⟨q3, 0, none⟩) m9 c3, .int .i64 (g.W - 1), .int .i64 g1.Y, .bool true] S9 2 rfl ?_ ?_ ?_ ?_ ?_ ?_ ?_); go_must (exact rfl); go_must (exact rfl); go_must (kernel_rfl); go_must (kernel_rfl); go_must (exact Nat.le_of_ble_eq_true (by kernel_rfl)); go_must (kernel_rfl))
            intro wz Sz
            go_wp2_with fail
            obtain ⟨lc5, -, -⟩ := Sz.cells 2 rfl
            rw [HPF.out, stepG_yes (g := { g1 with C := F }) HST.out]
            exact bodyPost_ret (v := .agg #[.int .i64 g1.W, .int .i64 g1.H, .slice (some ⟨q3, 0, none⟩) m9 c3, .int .i64 (g.W - 1), .int .i64 g1.Y, .bool true]) (by simp [results, Tryd.results77, go_sem, lc5]) rfl ⟨_, by simp only [T1.out], Sz.outI 1 rfl, Sz.ext⟩
          · have hst2 : ¬ g.W ≤ g1.X + 1 := by rw [← T1.out]; exact hst
            have HST := Lib.hid hst; clear hst
            go_upto_region 20 with fail
            have S9 : St w (w6.setCell ⟨b7, 3, none⟩ (.int .i64 (g1.X + 1))) (outG b7 (.slice (some ⟨q3, 0, none⟩) m9 c3) { g1 with C := F, X := g1.X + 1 } ++ [row (w.heap.size + 1) 40 zeroG, row w.heap.size 40 #[.int .i64 g.W, .int .i64 g.H, .slice A n c, .int .i64 g.X, .int .i64 g.Y, .bool g.R]]) := HS8.out.setc 0 rfl 3 (.int .i64 (g1.X + 1))
            generalize (w6.setCell ⟨b7, 3, none⟩ (.int .i64 (g1.X + 1))) = w9 at S9 ⊢
            clear lc lf ls lc2 lf2 ls2
            obtain ⟨lc, lf, ls⟩ := S9.cells 0 rfl
            go_wp2_with ((with_reducible refine wp_setA (k := 0) (u := .agg #[.int .i64 g1.W, .int .i64 g1.H, .slice (some ⟨q3, 0, none⟩) m9 c3, .int .i64 (g1.X + 1), .int .i64 g1.Y, .bool g1.R]) #[.int .i64 g1.W, .int .i64 g1.H, .slice (some ⟨q3, 0, none⟩) m9 c3, .int .i64 (g1.X + 1), .int .i64 g1.Y, .bool g1.R] S9 2 rfl ?_ ?_ ?_ ?_ ?_ ?_ ?_); go_must (exact rfl); go_must (exact rfl); go_must (kernel_rfl); go_must (kernel_rfl); go_must (exact Nat.le_of_ble_eq_true (by kernel_rfl)); go_must (kernel_rfl))
            intro wz Sz
            go_wp2_with fail
            obtain ⟨lc5, -, -⟩ := Sz.cells 2 rfl
            rw [HPF.out, stepG_no (g := { g1 with C := F }) (by show ¬ g1.W ≤ g1.X + 1; have := HST.out; omega)]
            exact bodyPost_ret (v := .agg #[.int .i64 g1.W, .int .i64 g1.H, .slice (some ⟨q3, 0, none⟩) m9 c3, .int .i64 (g1.X + 1), .int .i64 g1.Y, .bool g1.R]) (by simp [results, Tryd.results77, go_sem, lc5]) rfl ⟨_, rfl, Sz.outI 1 rfl, Sz.ext⟩
  · have HE := Lib.hid (putG_eq g r (by omega))
    have Hcur := Lib.hid (wrapG_cur hg (n := width r) (by omega)); have Hok := Lib.hid (wrapG_ok hg (width r)); have Hdm := Lib.hid (wrapG_dims g (width r))
    rw [hw] at HE Hcur Hok Hdm
    go_enter Tryd.func77, Tryd.ntmps77
    go_wp2_with fail
    have k1 := spec_GridOk g.W g.H g.X g.Y g.R g.C A n c _ (hC.ext S.ext)
    rw [eta_ok hg] at k1
    refine (k1).mono ?_; rintro e w1 ⟨rfl, x1⟩
    clear k1
    have S1 := S.call x1
    obtain ⟨lc, lf, ls⟩ := S1.cells 1 rfl
    go_wp2_with fail
    refine Calls.mono (spec_Width _ _) ?_; rintro e w1b ⟨rfl, x1b⟩
    rw [hw]
    have S1b := S1.call x1b
    clear lc lf ls
    obtain ⟨lc, lf, ls⟩ := S1b.cells 1 rfl
    go_wp2_with fail
    refine Calls.mono (spec_l08Copy g A n c _ (hC.ext S1b.ext) (by omega)) ?_; rintro e w2 ⟨v, rfl, own, x2⟩
    have S2 := S1b.newI own x2
    rcases own.shape with ⟨rfl, h0⟩ | ⟨q, c1, rfl, -, hq, hc1, hcm⟩
    · have e := Hn.out; rw [h0] at e; simp at e; omega
    rw [Hn.out] at S2 hc1 ⊢
    clear lc lf ls own S1 S1b S
    obtain ⟨lc, lf, ls⟩ := S2.cells 2 rfl
    go_upto_region 5 with fail
    have S3 := S2.alloc #[.int .i64 g.W, .int .i64 g.H, .slice (some ⟨q, 0, none⟩) n c1, .int .i64 g.X, .int .i64 g.Y, .bool g.R] 40
    have hw3 : w2.heap.size < (w2.alloc (.cells #[.int .i64 g.W, .int .i64 g.H, .slice (some ⟨q, 0, none⟩) n c1, .int .i64 g.X, .int .i64 g.Y, .bool g.R] 40)).heap.size := by simp
    generalize (w2.alloc (.cells #[.int .i64 g.W, .int .i64 g.H, .slice (some ⟨q, 0, none⟩) n c1, .int .i64 g.X, .int .i64 g.Y, .bool g.R] 40)) = w3 at S3 hw3 ⊢
    generalize w2.heap.size = b7 at *
    clear lc lf ls S2
    have HS : Hid (St w w3 (outG b7 (.slice (some ⟨q, 0, none⟩) n c1) g ++ [row (w.heap.size + 1) 40 zeroG, row w.heap.size 40 #[.int .i64 g.W, .int .i64 g.H, .slice A n c, .int .i64 g.X, .int .i64 g.Y, .bool g.R]])) := S3
    clear S3 hw3
    obtain ⟨lc, lf, ls⟩ := HS.out.cells 0 rfl
    have Hw := Lib.hid hw
    clear hw
    go_upto_region 7 with fail
    obtain ⟨lc2, lf2, ls2⟩ := HS.out.cells 3 rfl
    go_cut [32] (fun s wx => s = .bool (decide (g.R = true ∨ ((2 : Int) = 2 ∧ g.X = g.W - 1))) ∧ wx = w3)
    case first =>
      clear HE Hcur Hok Hdm HX
      rcases Bool.eq_false_or_eq_true g.R with hR | hR
      · rw [hR] at lc2
        have HR := Lib.hid hR; clear hR
        go_wp2_with fail
        go_meet
        exact ⟨by simp [HR.out], rfl⟩
      · by_cases hXW : g.X = g.W - 1
        · have hXb : (g.X == g.W - 1) = true := by simpa using hXW
          rw [hR] at lc2
          have HXW := Lib.hid hXW; clear hXW; have HR := Lib.hid hR; clear hR
          go_wp2_with fail
          go_meet
          exact ⟨by simp [HXW.out, HR.out], rfl⟩
        · have hXb : (g.X == g.W - 1) = false := by simpa using hXW
          rw [hR] at lc2
          have HXW := Lib.hid hXW; clear hXW; have HR := Lib.hid hR; clear hR
          go_wp2_with fail
          go_meet
          exact ⟨by simp [HXW.out, HR.out], rfl⟩
    case rest =>
      obtain ⟨rfl, rfl⟩ := hcut
      go_upto_if 32 with fail
      go_cut [] (fun wx => ∃ v', St w wx (outG b7 v' (wrapG g 2) ++ [row (w.heap.size + 1) 40 zeroG, row w.heap.size 40 #[.int .i64 g.W, .int .i64 g.H, .slice A n c, .int .i64 g.X, .int .i64 g.Y, .bool g.R]]))
      case first =>
        clear HE Hcur Hok Hdm
        by_cases hc : g.R = true ∨ ((2 : Int) = 2 ∧ g.X = g.W - 1)
        · have E3 := Lib.hid (wrapG_yes hc)
          have hcb : decide (g.R = true ∨ ((2 : Int) = 2 ∧ g.X = g.W - 1)) = true := decide_eq_true hc
          rw [hcb]
          clear hcb hc
          obtain ⟨-, -, y0, y1, -⟩ := HX.out
          by_cases hY : g.Y = g.H - 1
          · have hYb : (g.Y == g.H - 1) = true := by simpa using hY
            have HY := Lib.hid hY; clear hY
            go_wp2_with fail
            refine Calls.mono (spec_GridScroll g _ _ _ _ (OwnI.ri (HS.out.ownI 1 rfl)) hg) ?_; rintro e wa1 ⟨va1, rfl, own1, xa1⟩
            obtain ⟨A1, c1, rfl, -⟩ := own1.form
            have Sa1 := HS.out.newI own1 xa1
            obtain ⟨m1, hm1⟩ : ∃ m, m = (scrollC g.C g.W.toNat).length := ⟨_, rfl⟩
            rw [← hm1] at Sa1 ⊢
            have HM1 := Lib.hid hm1
            clear hm1 own1 lc lf ls
            go_wp2_with ((with_reducible refine wp_setA (k := 0) (u := .agg #[.int .i64 g.W, .int .i64 g.H, .slice A1 m1 c1, .int .i64 g.X, .int .i64 g.Y, .bool g.R]) #[.int .i64 g.W, .int .i64 g.H, .slice A1 m1 c1, .int .i64 g.X, .int .i64 g.Y, .bool g.R] Sa1 1 rfl ?_ ?_ ?_ ?_ ?_ ?_ ?_); go_must (exact rfl); go_must (exact rfl); go_must (kernel_rfl); go_must (kernel_rfl); go_must (exact Nat.le_of_ble_eq_true (by kernel_rfl)); go_must (kernel_rfl))
            intro wb1 Sb1
            have Sc1 : St w wb1 (outG b7 (.slice A1 m1 c1) (scrollG g) ++ [row (w.heap.size + 1) 40 zeroG, row w.heap.size 40 #[.int .i64 g.W, .int .i64 g.H, .slice A n c, .int .i64 g.X, .int .i64 g.Y, .bool g.R]]) := ((Sb1.swap).bring 2 rfl).drop
            clear Sa1 Sb1
            obtain ⟨lc, lf, ls⟩ := Sc1.cells 0 rfl
            obtain ⟨lc2, lf2, ls2⟩ := Sc1.cells 3 rfl
            have HS1 := Lib.hid Sc1; clear Sc1
            go_wp2_with fail
            refine Calls.mono (spec_GridGo (scrollG g) _ _ _ _ _ _ (OwnI.ri (HS1.out.ownI 1 rfl)) (scrollG_ok hg)) ?_; rintro e wa2 ⟨va2, rfl, own2, xa2⟩
            obtain ⟨A2, c2, rfl, -⟩ := own2.form
            have Sa2 := HS1.out.newI own2 xa2
            obtain ⟨m2, hm2⟩ : ∃ m, m = ((scrollG g).C).length := ⟨_, rfl⟩
            rw [← hm2] at Sa2 ⊢
            have HM2 := Lib.hid hm2
            clear hm2 own2 lc lf ls
            go_wp2_with ((with_reducible refine wp_setA (k := 0) (u := .agg #[.int .i64 (scrollG g).W, .int .i64 (scrollG g).H, .slice A2 m2 c2, .int .i64 (goG (scrollG g) 0 (g.Y + 1)).X, .int .i64 (goG (scrollG g) 0 (g.Y + 1)).Y, .bool false]) #[.int .i64 (scrollG g).W, .int .i64 (scrollG g).H, .slice A2 m2 c2, .int .i64 (goG (scrollG g) 0 (g.Y + 1)).X, .int .i64 (goG (scrollG g) 0 (g.Y + 1)).Y, .bool false] Sa2 1 rfl ?_ ?_ ?_ ?_ ?_ ?_ ?_); go_must (exact rfl); go_must (exact rfl); go_must (kernel_rfl); go_must (kernel_rfl); go_must (exact Nat.le_of_ble_eq_true (by kernel_rfl)); go_must (kernel_rfl))
            intro wb2 Sb2
            have Sc2 : St w wb2 (outG b7 (.slice A2 m2 c2) (goG (scrollG g) 0 (g.Y + 1)) ++ [row (w.heap.size + 1) 40 zeroG, row w.heap.size 40 #[.int .i64 g.W, .int .i64 g.H, .slice A n c, .int .i64 g.X, .int .i64 g.Y, .bool g.R]]) := ((Sb2.swap).bring 2 rfl).drop
            clear Sa2 Sb2
            obtain ⟨lc, lf, ls⟩ := Sc2.cells 0 rfl
            go_wp2_with fail
            go_meet
            refine ⟨.slice A2 m2 c2, ?_⟩
            rw [E3.out, ← down_last hg HY.out]
            exact Sc2
          · have hYb : (g.Y == g.H - 1) = false := by simpa using hY
            have HY := Lib.hid hY; clear hY
            go_wp2_with fail
            refine Calls.mono (spec_GridGo g _ _ _ _ _ _ (OwnI.ri (HS.out.ownI 1 rfl)) hg) ?_; rintro e wa2 ⟨va2, rfl, own2, xa2⟩
            obtain ⟨A2, c2, rfl, -⟩ := own2.form
            have Sa2 := HS.out.newI own2 xa2
            obtain ⟨m2, hm2⟩ : ∃ m, m = (g.C).length := ⟨_, rfl⟩
            rw [← hm2] at Sa2 ⊢
            have HM2 := Lib.hid hm2
            clear hm2 own2 lc lf ls
            go_wp2_with ((with_reducible refine wp_setA (k := 0) (u := .agg #[.int .i64 g.W, .int .i64 g.H, .slice A2 m2 c2, .int .i64 (goG g 0 (g.Y + 1)).X, .int .i64 (goG g 0 (g.Y + 1)).Y, .bool false]) #[.int .i64 g.W, .int .i64 g.H, .slice A2 m2 c2, .int .i64 (goG g 0 (g.Y + 1)).X, .int .i64 (goG g 0 (g.Y + 1)).Y, .bool false] Sa2 1 rfl ?_ ?_ ?_ ?_ ?_ ?_ ?_); go_must (exact rfl); go_must (exact rfl); go_must (kernel_rfl); go_must (kernel_rfl); go_must (exact Nat.le_of_ble_eq_true (by kernel_rfl)); go_must (kernel_rfl))
            intro wb2 Sb2
            have Sc2 : St w wb2 (outG b7 (.slice A2 m2 c2) (goG g 0 (g.Y + 1)) ++ [row (w.heap.size + 1) 40 zeroG, row w.heap.size 40 #[.int .i64 g.W, .int .i64 g.H, .slice A n c, .int .i64 g.X, .int .i64 g.Y, .bool g.R]]) := ((Sb2.swap).bring 2 rfl).drop
            clear Sa2 Sb2
            obtain ⟨lc, lf, ls⟩ := Sc2.cells 0 rfl
            go_wp2_with fail
            go_meet
            refine ⟨.slice A2 m2 c2, ?_⟩
            rw [E3.out, ← down_on hg HY.out]
            exact Sc2
        · have E3 := Lib.hid (wrapG_no hc)
          have hcb : decide (g.R = true ∨ ((2 : Int) = 2 ∧ g.X = g.W - 1)) = false := decide_eq_false hc
          rw [hcb]
          clear hcb hc
          go_wp2_with fail
          go_meet
          exact ⟨.slice (some ⟨q, 0, none⟩) n c1, by rw [E3.out]; exact HS.out⟩
      case rest =>
        obtain ⟨v1, S⟩ := hcut
        clear lc lf ls lc2 lf2 ls2 HS HX
        generalize wrapG g 2 = g1 at *
        obtain ⟨t1, t2⟩ := Hdm.out
        obtain ⟨z1, z2, z3, z4, z5⟩ := Hcur.out
        have hok1 := Hok.out
        obtain ⟨-, -, -, -, a5, a6⟩ := gridOk_d hok1
        have d1' : 2 ≤ g1.W := by omega
        have z3' : g1.X + 2 ≤ g1.W := by omega
        obtain ⟨p1, p2, p3⟩ := pos_in a6 d1' z2 (by omega) z4 (by omega)
        have b1 : g1.Y * g1.W + g1.W ≤ g1.C.length := by
          have : g1.W * (g1.Y + 1) ≤ g1.W * g1.H := Int.mul_le_mul_of_nonneg_left (by omega) (by omega)
          rw [Int.mul_add, Int.mul_comm] at this; omega
        have b2 : 0 ≤ g1.Y * g1.W := Int.mul_nonneg z4 (by omega)
        have b3 : (g1.C.length : Int) ≤ 8000 := by omega
        obtain ⟨i, hi⟩ : ∃ i : Nat, (i : Int) = g1.Y * g1.W + g1.X := ⟨(g1.Y * g1.W + g1.X).toNat, by omega⟩
        have HPE : Hid (putG g r = stepG { g1 with C := putC g1.C i r } 2) := by
          show _ = _
          rw [HE.out, ← t1, ← hi, Int.toNat_natCast]
        have hin : i + 2 ≤ g1.C.length := by omega
        have hi8 : i + 2 ≤ 8000 := by omega
        rw [t1] at hi b1 b2
        have q1 : -9223372036854775808 ≤ g1.Y * g.W := by omega
        have q2 : g1.Y * g.W ≤ 8000 := by omega
        have HS := Lib.hid S; have Hi := Lib.hid hi; have T1 := Lib.hid t1; have T2 := Lib.hid t2
        clear p1 p2 p3 a5 a6 b1 b2 b3 S hi t1 t2 HE d1' z1
        obtain ⟨lc, lf, ls⟩ := HS.out.cells 0 rfl
        obtain ⟨lc2, lf2, ls2⟩ := HS.out.cells 3 rfl
        obtain ⟨A9, c9, rfl, -⟩ := (HS.out.ownI 1 rfl).form
        obtain ⟨m9, hm9⟩ : ∃ m, m = g1.C.length := ⟨_, rfl⟩
        have HS9 := HS.out
        rw [← hm9] at HS9 lc
        have HS := Lib.hid HS9
        have Hm9 := Lib.hid hm9
        clear HS9 hm9
        rw [← Hm9.out] at hin
        go_upto_region 11 with fail
        go_cut [7] (fun s wx => s = .int .i64 (i : Int) ∧ wx = wc)
        case first =>
          go_wp2_with fail
          go_meet
          exact ⟨by rw [Hi.out], rfl⟩
        case rest =>
          obtain ⟨rfl, rfl⟩ := hcut
          clear q1 q2
          go_wp2_with fail
          refine Calls.mono (spec_GridClear g1 _ _ _ _ _ _ (OwnI.ri (HS.out.ownI 1 rfl)) hok1) ?_; rintro e wa3 ⟨va3, rfl, own3, xa3⟩
          obtain ⟨D, hD⟩ : ∃ D, D = clearC g1.C i ((i : Int) + 2) := ⟨_, rfl⟩
          rw [← hD] at own3
          have hDl : D.length = m9 := by rw [hD, clearC_len, Hm9.out]
          rcases own3.shape with ⟨rfl, h0⟩ | ⟨q3, c3, rfl, -, hq3, hc3, hcm3⟩
          · exfalso; rw [h0] at hDl; simp at hDl; omega
          have Sa3 := HS.out.newI own3 xa3
          rw [hDl] at Sa3 ⊢
          have HD := Lib.hid hD; have HDl := Lib.hid hDl
          clear own3 lc lf ls hD hDl hq3 hc3
          go_wp2_with ((with_reducible refine wp_setA (k := 0) (u := .agg #[.int .i64 g1.W, .int .i64 g1.H, .slice (some ⟨q3, 0, none⟩) m9 c3, .int .i64 g1.X, .int .i64 g1.Y, .bool g1.R]) #[.int .i64 g1.W, .int .i64 g1.H, .slice (some ⟨q3, 0, none⟩) m9 c3, .int .i64 g1.X, .int .i64 g1.Y, .bool g1.R] Sa3 1 rfl ?_ ?_ ?_ ?_ ?_ ?_ ?_); go_must (exact rfl); go_must (exact rfl); go_must (kernel_rfl); go_must (kernel_rfl); go_must (exact Nat.le_of_ble_eq_true (by kernel_rfl)); go_must (kernel_rfl))
          intro wb3 Sb3
          have Sc3 : St w wb3 (outG b7 (.slice (some ⟨q3, 0, none⟩) m9 c3) { g1 with C := D } ++ [row (w.heap.size + 1) 40 zeroG, row w.heap.size 40 #[.int .i64 g.W, .int .i64 g.H, .slice A n c, .int .i64 g.X, .int .i64 g.Y, .bool g.R]]) := ((Sb3.swap).bring 2 rfl).drop
          clear Sa3 Sb3
          have HS3 := Lib.hid Sc3; clear Sc3
          obtain ⟨lc, lf, ls⟩ := HS3.out.cells 0 rfl
          have hiD : i < m9 := by omega
          go_wp2_with ((with_reducible refine wp_setI (k := i) (u := r) HS3.out 1 rfl ?_ ?_ ?_ ?_); go_must (show i < D.length; rw [HDl.out]; exact hiD); go_must (exact rfl); go_must (exact rfl))
          intro w6 S6
          clear lc lf ls lc2 lf2 ls2
          have HS6 := Lib.hid S6; clear S6
          obtain ⟨lc, lf, ls⟩ := HS6.out.cells 0 rfl
          obtain ⟨lc2, lf2, ls2⟩ := HS6.out.cells 3 rfl
          have hli : i + 1 < m9 := by omega
          go_wp2_with ((with_reducible refine wp_setI (k := i + 1) (u := -1) HS6.out 1 rfl ?_ ?_ ?_ ?_); go_must (rw [List.length_set, HDl.out]; exact hli); go_must (exact rfl); go_must (exact rfl))
          intro w6b S7
          clear lc lf ls lc2 lf2 ls2
          have HS6 := Lib.hid S7; clear S7
          obtain ⟨lc, lf, ls⟩ := HS6.out.cells 0 rfl
          obtain ⟨lc2, lf2, ls2⟩ := HS6.out.cells 3 rfl
          obtain ⟨F, hF⟩ : ∃ F, F = putC g1.C i r := ⟨_, rfl⟩
          have hFD : F = (D.set i r).set (i + 1) (-1) := by rw [hF, putC_two Hw.out, HD.out]
          have HPF : Hid (putG g r = stepG { g1 with C := F } 2) := by show _ = _; rw [HPE.out, hF]
          have S8 : St w w6b (outG b7 (.slice (some ⟨q3, 0, none⟩) m9 c3) { g1 with C := F } ++ [row (w.heap.size + 1) 40 zeroG, row w.heap.size 40 #[.int .i64 g.W, .int .i64 g.H, .slice A n c, .int .i64 g.X, .int .i64 g.Y, .bool g.R]]) := by rw [hFD]; exact HS6.out
          have HS8 := Lib.hid S8
          clear S8 hF hFD HS6 HS3
          by_cases hst : g1.W ≤ g1.X + 2
          · have hst2 : g.W ≤ g1.X + 2 := by rw [← T1.out]; exact hst
            have HST := Lib.hid hst; clear hst
            go_upto_region 20 with fail
            have S9 : St w ((w6b.setCell ⟨b7, 3, none⟩ (.int .i64 (g.W - 1))).setCell ⟨b7, 5, none⟩ (.bool true)) (outG b7 (.slice (some ⟨q3, 0, none⟩) m9 c3) { g1 with C := F, X := g.W - 1, R := true } ++ [row (w.heap.size + 1) 40 zeroG, row w.heap.size 40 #[.int .i64 g.W, .int .i64 g.H, .slice A n c, .int .i64 g.X, .int .i64 g.Y, .bool g.R]]) := (HS8.out.setc 0 rfl 3 (.int .i64 (g.W - 1))).setc 0 rfl 5 (.bool true)
            generalize ((w6b.setCell ⟨b7, 3, none⟩ (.int .i64 (g.W - 1))).setCell ⟨b7, 5, none⟩ (.bool true)) = w9 at S9 ⊢
            clear lc lf ls lc2 lf2 ls2
            obtain ⟨lc, lf, ls⟩ := S9.cells 0 rfl
            go_wp2_with ((with_reducible refine wp_setA (k := 0) (u := .agg #[.int .i64 g1.W, .int .i64 g1.H, .slice (some ⟨q3, 0, none⟩) m9 c3, .int .i64 (g.W - 1), .int .i64 g1.Y, .bool true]) #[.int .i64 g1.W, .int .i64 g1.H, .slice (some ⟨q3, 0, none⟩) m9 c3, .int .i64 (g.W - 1), .int .i64 g1.Y, .bool true] S9 2 rfl ?_ ?_ ?_ ?_ ?_ ?_ ?_); go_must (exact rfl); go_must (exact rfl); go_must (kernel_rfl); go_must (kernel_rfl); go_must (exact Nat.le_of_ble_eq_true (by kernel_rfl)); go_must (kernel_rfl))
            intro wz Sz
            go_wp2_with fail
            obtain ⟨lc5, -, -⟩ := Sz.cells 2 rfl
            rw [HPF.out, stepG_yes (g := { g1 with C := F }) HST.out]
            exact bodyPost_ret (v := .agg #[.int .i64 g1.W, .int .i64 g1.H, .slice (some ⟨q3, 0, none⟩) m9 c3, .int .i64 (g.W - 1), .int .i64 g1.Y, .bool true]) (by simp [results, Tryd.results77, go_sem, lc5]) rfl ⟨_, by simp only [T1.out], Sz.outI 1 rfl, Sz.ext⟩
          · have hst2 : ¬ g.W ≤ g1.X + 2 := by rw [← T1.out]; exact hst
            have HST := Lib.hid hst; clear hst
            go_upto_region 20 with fail
            have S9 : St w (w6b.setCell ⟨b7, 3, none⟩ (.int .i64 (g1.X + 2))) (outG b7 (.slice (some ⟨q3, 0, none⟩) m9 c3) { g1 with C := F, X := g1.X + 2 } ++ [row (w.heap.size + 1) 40 zeroG, row w.heap.size 40 #[.int .i64 g.W, .int .i64 g.H, .slice A n c, .int .i64 g.X, .int .i64 g.Y, .bool g.R]]) := HS8.out.setc 0 rfl 3 (.int .i64 (g1.X + 2))
            generalize (w6b.setCell ⟨b7, 3, none⟩ (.int .i64 (g1.X + 2))) = w9 at S9 ⊢
            clear lc lf ls lc2 lf2 ls2
            obtain ⟨lc, lf, ls⟩ := S9.cells 0 rfl
            go_wp2_with ((with_reducible refine wp_setA (k := 0) (u := .agg #[.int .i64 g1.W, .int .i64 g1.H, .slice (some ⟨q3, 0, none⟩) m9 c3, .int .i64 (g1.X + 2), .int .i64 g1.Y, .bool g1.R]) #[.int .i64 g1.W, .int .i64 g1.H, .slice (some ⟨q3, 0, none⟩) m9 c3, .int .i64 (g1.X + 2), .int .i64 g1.Y, .bool g1.R] S9 2 rfl ?_ ?_ ?_ ?_ ?_ ?_ ?_); go_must (exact rfl); go_must (exact rfl); go_must (kernel_rfl); go_must (kernel_rfl); go_must (exact Nat.le_of_ble_eq_true (by kernel_rfl)); go_must (kernel_rfl))
            intro wz Sz
            go_wp2_with fail
            obtain ⟨lc5, -, -⟩ := Sz.cells 2 rfl
            rw [HPF.out, stepG_no (g := { g1 with C := F }) (by show ¬ g1.W ≤ g1.X + 2; have := HST.out; omega)]
            exact bodyPost_ret (v := .agg #[.int .i64 g1.W, .int .i64 g1.H, .slice (some ⟨q3, 0, none⟩) m9 c3, .int .i64 (g1.X + 2), .int .i64 g1.Y, .bool g1.R]) (by simp [results, Tryd.results77, go_sem, lc5]) rfl ⟨_, rfl, Sz.outI 1 rfl, Sz.ext⟩
end Go.Proofs.YtohjjhoobikioaaDoor
