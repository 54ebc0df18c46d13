/-
  spec.l08Draw, spec.MakeGrids.
-/
import Derived.Test.YtohjjhoobikioaaDoorDraw
namespace Go.Proofs.YtohjjhoobikioaaDoor
open Go.RowKit

set_option maxRecDepth 100000 in
set_option maxHeartbeats 2000000 in
theorem spec_l08Draw (g : Nat) (A : Option Addr) (n c : Nat) (l : List UInt8) (W w : World) (L : List Pc) (hr : RB W A n c l) (S : St W w (curP' g A n c :: L)) :
    Calls Tryd.prog 63 #[.pointer (some ⟨g, 0, none⟩)] w fun e w' => ∃ (G : Gr) (A1 : Option Addr) (n1 c1 : Nat), e = .returned (.agg #[.int .i64 G.W, .int .i64 G.H, .slice A1 n1 c1, .int .i64 G.X, .int .i64 G.Y, .bool G.R]) ∧ gridOk G = true ∧ St W w' (ownI (.slice A1 n1 c1) G.C :: curP' g A n c :: L) := by
  have S0 := (S.alloc zeroG 40).swap
  clear S
  go_enter Tryd.func63, Tryd.ntmps63
  go_wp2_with fail
  refine (spec_l08Sized g A n c l W _ _ hr S0).mono ?_; rintro e w1 ⟨G1, A1, n1, c1, rfl, hG1, S1⟩
  clear S0
  have S2 := S1.alloc (gridCs G1 (.slice A1 n1 c1)) 40
  clear S1
  have HG1 := Lib.hid hG1; clear hG1
  obtain ⟨lc, lf, ls⟩ := S2.cells 0 rfl
  simp only [gridCs] at lc
  unfold gridCs
  go_wp2_with fail
  have S3 := S2.swap.tail (fun F s => Sep.bring 1 s rfl)
  refine (spec_l08Fill G1 A1 n1 c1 24 g A n c l W _ _ hr S3 HG1.out (by omega) (by omega)).mono ?_; rintro e w2 ⟨G2, A2, n2, c2, rfl, hG2, -, -, S4⟩
  clear S2 S3 lc lf ls
  obtain ⟨lc, lf, ls⟩ := S4.cells 3 rfl
  have HG2 := Lib.hid hG2; clear hG2
  unfold gridCs
  go_wp2_with ((with_reducible refine wp_setA (k := 0) (u := .agg #[.int .i64 G2.W, .int .i64 G2.H, .slice A2 n2 c2, .int .i64 G2.X, .int .i64 G2.Y, .bool G2.R]) #[.int .i64 G2.W, .int .i64 G2.H, .slice A2 n2 c2, .int .i64 G2.X, .int .i64 G2.Y, .bool G2.R] S4 3 rfl ?_ ?_ ?_ ?_ ?_ ?_ ?_); go_must (exact rfl); go_must (exact rfl); go_must (kernel_rfl); go_must (kernel_rfl); go_must (exact Nat.le_of_ble_eq_true (by kernel_rfl)); go_must (kernel_rfl))
  intro w3 S5
  obtain ⟨lc5, -, -⟩ := S5.cells 3 rfl
  go_wp2_with fail
  refine bodyPost_ret (v := .agg #[.int .i64 G2.W, .int .i64 G2.H, .slice A2 n2 c2, .int .i64 G2.X, .int .i64 G2.Y, .bool G2.R]) (by simp [results, Tryd.results63, go_sem, lc5]) rfl ⟨G2, A2, n2, c2, rfl, HG2.out, ?_⟩
  exact ((S5.bring 2 rfl).drop.bring 2 rfl).drop
set_option maxRecDepth 100000 in
set_option maxHeartbeats 8000000 in
theorem spec_MakeGrids (A : Option Addr) (n c : Nat) (l : List UInt8) (W : World) (hr : RB W A n c l) (hn : n ≤ 1048576) :
    Calls Tryd.prog 23 #[.slice A n c] W fun e w' => ∃ (a b : Gr) (Aa : Option Addr) (na ca : Nat) (Ab : Option Addr) (nb cb : Nat), e = .returned (.tuple #[.agg #[.int .i64 a.W, .int .i64 a.H, .slice Aa na ca, .int .i64 a.X, .int .i64 a.Y, .bool a.R], .agg #[.int .i64 b.W, .int .i64 b.H, .slice Ab nb cb, .int .i64 b.X, .int .i64 b.Y, .bool b.R]]) ∧
      gridOk a = true ∧ gridOk b = true ∧ a.W = b.W ∧ a.H = b.H ∧ b.R = false ∧ RI w' Aa na ca a.C ∧ RI w' Ab nb cb b.C ∧ Ext W w' := by
  have X0 := ((Ext.refl W).alloc (.cells zeroG 40)).alloc (.cells zeroG 40)
  have S0 := ((St.refl W).alloc zeroG 40).alloc zeroG 40
  rw [World.size_alloc] at S0
  go_enter Tryd.func23, Tryd.ntmps23
  go_wp2_with fail
  refine (spec_l01New A n c l _ (hr.ext X0) (by omega)).mono ?_; rintro e w1 ⟨g, rfl, hWg, hcur, x1⟩
  have S1 : St W w1 [curP' g A n c, row (W.heap.size + 1) 40 zeroG, row W.heap.size 40 zeroG] :=
    S0.more x1 (F := [g]) ⟨rfl, hcur.2.2⟩ (by simp) (fun b hb => by simp at hb; subst hb; exact ⟨hWg, hcur.lt⟩)
  clear S0 x1 hcur hWg X0
  go_wp2_with fail
  refine (spec_l08Draw g A n c l W _ _ hr S1).mono ?_; rintro e w2 ⟨Ga, A2, n2, c2, rfl, hGa, S2⟩
  clear S1
  have HGa := Lib.hid hGa; clear hGa
  have S3 := S2.alloc #[.int .i64 Ga.W, .int .i64 Ga.H, .slice A2 n2 c2, .int .i64 Ga.X, .int .i64 Ga.Y, .bool Ga.R] 40
  clear S2
  go_wp2_with fail
  have hlen : n2 ≤ 8000 := by
    obtain ⟨-, -, -, -, q5, q6⟩ := gridOk_d HGa.out
    have := (S3.ownI 1 rfl).ri.len
    omega
  refine (spec_l08Copy Ga _ _ _ _ ((S3.ownI 1 rfl).ri) (by omega)).mono ?_; rintro e w3 ⟨v3, rfl, own3, x3⟩
  obtain ⟨A3, n3, c3, rfl⟩ := own3.form'
  have S4 := (S3.newI own3 x3).alloc #[.int .i64 Ga.W, .int .i64 Ga.H, .slice A3 n3 c3, .int .i64 Ga.X, .int .i64 Ga.Y, .bool Ga.R] 40
  clear S3 own3 x3
  generalize w2.heap.size = b5 at *
  -- [row b6, ownI 3, row b5, ownI 2, cur, row, row]
  go_wp2_with fail
  refine (below_S S4 4 rfl hr 3 (by omega)).mono ?_; rintro e w4 ⟨x4, hx40, hx41, rfl, S5⟩
  clear S4
  generalize w3.heap.size = b6 at *
  obtain ⟨lc, lf, ls⟩ := S5.cells 2 rfl
  obtain ⟨lc2, lf2, ls2⟩ := S5.cells 0 rfl
  go_upto_if 15 with fail
  go_cut [] (fun wx => ∃ (Gb : Gr) (A5 : Option Addr) (n5 c5 : Nat), Hid (gridOk Gb = true) ∧ Hid (Gb.W = Ga.W) ∧ Hid (Gb.H = Ga.H) ∧ St W wx [row b6 40 (gridCs Gb (.slice A5 n5 c5)), ownI (.slice A5 n5 c5) Gb.C, row b5 40 #[.int .i64 Ga.W, .int .i64 Ga.H, .slice A2 n2 c2, .int .i64 Ga.X, .int .i64 Ga.Y, .bool Ga.R], ownI (.slice A2 n2 c2) Ga.C, curP' g A n c, row (W.heap.size + 1) 40 zeroG, row W.heap.size 40 zeroG])
  case first =>
    by_cases h0 : x4 = 0
    · subst h0
      have hok := newOk_of HGa.out
      obtain ⟨m, hm⟩ := newOk_m hok
      have HO := Lib.hid hok; have HM := Lib.hid hm
      clear hok hm
      go_wp2_with fail
      refine (spec_GridNew_yes Ga.W Ga.H m _ HO.out HM.out).mono ?_; rintro e w6 ⟨v6, rfl, own6, x6⟩
      obtain ⟨A6, n6, c6, rfl⟩ := own6.form'
      have S6 := S5.newI own6 x6
      clear S5 own6 x6 lc lf ls lc2 lf2 ls2
      go_wp2_with ((with_reducible refine wp_setA (k := 0) (u := .agg #[.int .i64 Ga.W, .int .i64 Ga.H, .slice A6 n6 c6, .int .i64 0, .int .i64 0, .bool false]) #[.int .i64 Ga.W, .int .i64 Ga.H, .slice A6 n6 c6, .int .i64 0, .int .i64 0, .bool false] S6 1 rfl ?_ ?_ ?_ ?_ ?_ ?_ ?_); go_must (exact rfl); go_must (exact rfl); go_must (kernel_rfl); go_must (kernel_rfl); go_must (exact Nat.le_of_ble_eq_true (by kernel_rfl)); go_must (kernel_rfl))
      intro w7 S7
      go_wp2_with fail
      go_meet
      have hC : (newG Ga.W Ga.H).C = List.replicate m 32 := by show List.replicate (Ga.W * Ga.H).toNat 32 = _; rw [← HM.out]; rfl
      refine ⟨newG Ga.W Ga.H, A6, n6, c6, newG_ok HO.out, rfl, rfl, ?_⟩
      rw [hC]
      exact regrid S7
    · go_wp2_with fail
      go_meet
      exact ⟨Ga, A3, n3, c3, HGa.out, rfl, rfl, S5⟩
  case rest =>
    clear lc lf ls lc2 lf2 ls2 S5
    obtain ⟨Gb, A5, n5, c5, HGb, HbW, HbH, S6⟩ := hcut
    obtain ⟨lc, lf, ls⟩ := S6.cells 0 rfl
    simp only [gridCs] at lc
    go_wp2_with fail
    have S7 := (S6.bring 4 rfl).bring 2 rfl
    refine (spec_l08Fill Gb A5 n5 c5 12 g A n c l W _ _ hr S7 HGb.out (by omega) (by omega)).mono ?_; rintro e w7 ⟨Gc, A7, n7, c7, rfl, hGc, hcW, hcH, S8⟩
    have HGc := Lib.hid hGc; have HcW := Lib.hid (hcW.trans HbW.out); have HcH := Lib.hid (hcH.trans HbH.out)
    clear S6 S7 lc lf ls hGc hcW hcH
    unfold gridCs
    go_wp2_with ((with_reducible refine wp_setA (k := 0) (u := .agg #[.int .i64 Gc.W, .int .i64 Gc.H, .slice A7 n7 c7, .int .i64 Gc.X, .int .i64 Gc.Y, .bool Gc.R]) #[.int .i64 Gc.W, .int .i64 Gc.H, .slice A7 n7 c7, .int .i64 Gc.X, .int .i64 Gc.Y, .bool Gc.R] S8 2 rfl ?_ ?_ ?_ ?_ ?_ ?_ ?_); go_must (exact rfl); go_must (exact rfl); go_must (kernel_rfl); go_must (kernel_rfl); go_must (exact Nat.le_of_ble_eq_true (by kernel_rfl)); go_must (kernel_rfl))
    intro w8 S9
    -- [ownI 7, cur, row b6, row b5, ownI 2, row, row]
    have SS := Lib.hid S9
    clear S8 S9
    obtain ⟨d1, d2, d3, d4, -, -⟩ := gridOk_d HGc.out
    go_wp2_with fail
    have B9 := And.intro (St.gb (gW := Ga.W) (gH := Ga.H) (v := .slice A2 n2 c2) (gX := Ga.X) (gY := Ga.Y) (gR := Ga.R) (b := b5) (T := 40) SS.out.drew 3 rfl) (St.gb (gW := Gc.W) (gH := Gc.H) (v := .slice A7 n7 c7) (gX := Gc.X) (gY := Gc.Y) (gR := Gc.R) (b := b6) (T := 40) SS.out.drew 2 rfl)
    go_region_held3 (fun w' => GBox w' b5 Ga.W Ga.H (.slice A2 n2 c2) Ga.X Ga.Y Ga.R ∧ GBox w' b6 Gc.W Gc.H (.slice A7 n7 c7) Gc.X Gc.Y Gc.R)
      ((first | with_reducible assumption | assumption))
      (first
        | (go_at_call 65; refine (below_S S10 1 rfl hr Gc.H (by omega)).mono ?_; rintro e w11 ⟨y11, hy110, hy111, rfl, S11⟩; have B11 := And.intro (St.gb (gW := Ga.W) (gH := Ga.H) (v := .slice A2 n2 c2) (gX := Ga.X) (gY := Ga.Y) (gR := Ga.R) (b := b5) (T := 40) S11 3 rfl) (St.gb (gW := Gc.W) (gH := Gc.H) (v := .slice A7 n7 c7) (gX := Gc.X) (gY := Gc.Y) (gR := Gc.R) (b := b6) (T := 40) S11 2 rfl))
        | (go_at_call 65; refine (below_S SS.out.drew 1 rfl hr Gc.W (by omega)).mono ?_; rintro e w10 ⟨x10, hx100, hx101, rfl, S10⟩; have B10 := And.intro (St.gb (gW := Ga.W) (gH := Ga.H) (v := .slice A2 n2 c2) (gX := Ga.X) (gY := Ga.Y) (gR := Ga.R) (b := b5) (T := 40) S10 3 rfl) (St.gb (gW := Gc.W) (gH := Gc.H) (v := .slice A7 n7 c7) (gX := Gc.X) (gY := Gc.Y) (gR := Gc.R) (b := b6) (T := 40) S10 2 rfl))
        | (go_at_call 54; refine (spec_GridGo Gc _ _ _ x10 y11 _ ((S11.ownI 0 rfl).ri) HGc.out).mono ?_; rintro e w12 ⟨v12, rfl, own12, x12⟩; obtain ⟨A12, n12, c12, rfl⟩ := own12.form'; have S12 := S11.newI own12 x12; obtain ⟨lc12, lf12, ls12⟩ := S12.cells 6 rfl; obtain ⟨lc13, lf13, ls13⟩ := S12.cells 7 rfl; have B12 := And.intro (St.gb (gW := Ga.W) (gH := Ga.H) (v := .slice A2 n2 c2) (gX := Ga.X) (gY := Ga.Y) (gR := Ga.R) (b := b5) (T := 40) S12 4 rfl) (St.gb (gW := Gc.W) (gH := Gc.H) (v := .slice A7 n7 c7) (gX := Gc.X) (gY := Gc.Y) (gR := Gc.R) (b := b6) (T := 40) S12 3 rfl); have BX := And.intro (St.gb (gW := Ga.W) (gH := Ga.H) (v := .slice A2 n2 c2) (gX := Ga.X) (gY := Ga.Y) (gR := Ga.R) (b := b5) (T := 40) (S12.set6 7 rfl rfl (.int .i64 Ga.W) (.int .i64 Ga.H) (.slice A2 n2 c2) (.int .i64 Ga.X) (.int .i64 Ga.Y) (.bool Ga.R)) 4 rfl) (St.gb (gW := Gc.W) (gH := Gc.H) (v := .slice A7 n7 c7) (gX := Gc.X) (gY := Gc.Y) (gR := Gc.R) (b := b6) (T := 40) (S12.set6 7 rfl rfl (.int .i64 Ga.W) (.int .i64 Ga.H) (.slice A2 n2 c2) (.int .i64 Ga.X) (.int .i64 Ga.Y) (.bool Ga.R)) 3 rfl); have BY := And.intro (St.gb (gW := Ga.W) (gH := Ga.H) (v := .slice A2 n2 c2) (gX := Ga.X) (gY := Ga.Y) (gR := Ga.R) (b := b5) (T := 40) (S12.set6 6 rfl rfl (.int .i64 Gc.W) (.int .i64 Gc.H) (.slice A12 n12 c12) (.int .i64 (goG Gc x10 y11).X) (.int .i64 (goG Gc x10 y11).Y) (.bool false)) 4 rfl) (St.gb (gW := Gc.W) (gH := Gc.H) (v := .slice A7 n7 c7) (gX := Gc.X) (gY := Gc.Y) (gR := Gc.R) (b := b6) (T := 40) (S12.set6 6 rfl rfl (.int .i64 Gc.W) (.int .i64 Gc.H) (.slice A12 n12 c12) (.int .i64 (goG Gc x10 y11).X) (.int .i64 (goG Gc x10 y11).Y) (.bool false)) 3 rfl); have BXY := And.intro (St.gb (gW := Ga.W) (gH := Ga.H) (v := .slice A2 n2 c2) (gX := Ga.X) (gY := Ga.Y) (gR := Ga.R) (b := b5) (T := 40) ((S12.set6 7 rfl rfl (.int .i64 Ga.W) (.int .i64 Ga.H) (.slice A2 n2 c2) (.int .i64 Ga.X) (.int .i64 Ga.Y) (.bool Ga.R)).set6 6 rfl rfl (.int .i64 Gc.W) (.int .i64 Gc.H) (.slice A12 n12 c12) (.int .i64 (goG Gc x10 y11).X) (.int .i64 (goG Gc x10 y11).Y) (.bool false)) 4 rfl) (St.gb (gW := Gc.W) (gH := Gc.H) (v := .slice A7 n7 c7) (gX := Gc.X) (gY := Gc.Y) (gR := Gc.R) (b := b6) (T := 40) ((S12.set6 7 rfl rfl (.int .i64 Ga.W) (.int .i64 Ga.H) (.slice A2 n2 c2) (.int .i64 Ga.X) (.int .i64 Ga.Y) (.bool Ga.R)).set6 6 rfl rfl (.int .i64 Gc.W) (.int .i64 Gc.H) (.slice A12 n12 c12) (.int .i64 (goG Gc x10 y11).X) (.int .i64 (goG Gc x10 y11).Y) (.bool false)) 3 rfl); have BYX := And.intro (St.gb (gW := Ga.W) (gH := Ga.H) (v := .slice A2 n2 c2) (gX := Ga.X) (gY := Ga.Y) (gR := Ga.R) (b := b5) (T := 40) ((S12.set6 6 rfl rfl (.int .i64 Gc.W) (.int .i64 Gc.H) (.slice A12 n12 c12) (.int .i64 (goG Gc x10 y11).X) (.int .i64 (goG Gc x10 y11).Y) (.bool false)).set6 7 rfl rfl (.int .i64 Ga.W) (.int .i64 Ga.H) (.slice A2 n2 c2) (.int .i64 Ga.X) (.int .i64 Ga.Y) (.bool Ga.R)) 4 rfl) (St.gb (gW := Gc.W) (gH := Gc.H) (v := .slice A7 n7 c7) (gX := Gc.X) (gY := Gc.Y) (gR := Gc.R) (b := b6) (T := 40) ((S12.set6 6 rfl rfl (.int .i64 Gc.W) (.int .i64 Gc.H) (.slice A12 n12 c12) (.int .i64 (goG Gc x10 y11).X) (.int .i64 (goG Gc x10 y11).Y) (.bool false)).set6 7 rfl rfl (.int .i64 Ga.W) (.int .i64 Ga.H) (.slice A2 n2 c2) (.int .i64 Ga.X) (.int .i64 Ga.Y) (.bool Ga.R)) 3 rfl)))
    all_goals
      first
      | (have SX := ((S12.set6 7 rfl rfl (.int .i64 Ga.W) (.int .i64 Ga.H) (.slice A2 n2 c2) (.int .i64 Ga.X) (.int .i64 Ga.Y) (.bool Ga.R)).set6 6 rfl rfl (.int .i64 Gc.W) (.int .i64 Gc.H) (.slice A12 n12 c12) (.int .i64 (goG Gc x10 y11).X) (.int .i64 (goG Gc x10 y11).Y) (.bool false))
         obtain ⟨lcA, -, -⟩ := SX.cells 7 rfl
         obtain ⟨lcB, -, -⟩ := SX.cells 6 rfl
         go_wp2_with fail
         exact bodyPost_ret (v := .tuple #[.agg #[.int .i64 Ga.W, .int .i64 Ga.H, .slice A2 n2 c2, .int .i64 Ga.X, .int .i64 Ga.Y, .bool Ga.R], .agg #[.int .i64 Gc.W, .int .i64 Gc.H, .slice A12 n12 c12, .int .i64 (goG Gc x10 y11).X, .int .i64 (goG Gc x10 y11).Y, .bool false]]) (by simp [results, Tryd.results23, go_sem, lcA, lcB]) rfl
           ⟨Ga, goG Gc x10 y11, A2, n2, c2, A12, n12, c12, rfl, HGa.out, goG_ok HGc.out x10 y11, HcW.out.symm, HcH.out.symm, rfl, (SX.ownI 5 rfl).ri, (SX.ownI 0 rfl).ri, SX.ext⟩)
      | (have SX := ((S12.set6 6 rfl rfl (.int .i64 Gc.W) (.int .i64 Gc.H) (.slice A12 n12 c12) (.int .i64 (goG Gc x10 y11).X) (.int .i64 (goG Gc x10 y11).Y) (.bool false)).set6 7 rfl rfl (.int .i64 Ga.W) (.int .i64 Ga.H) (.slice A2 n2 c2) (.int .i64 Ga.X) (.int .i64 Ga.Y) (.bool Ga.R))
         obtain ⟨lcA, -, -⟩ := SX.cells 7 rfl
         obtain ⟨lcB, -, -⟩ := SX.cells 6 rfl
         go_wp2_with fail
         exact bodyPost_ret (v := .tuple #[.agg #[.int .i64 Ga.W, .int .i64 Ga.H, .slice A2 n2 c2, .int .i64 Ga.X, .int .i64 Ga.Y, .bool Ga.R], .agg #[.int .i64 Gc.W, .int .i64 Gc.H, .slice A12 n12 c12, .int .i64 (goG Gc x10 y11).X, .int .i64 (goG Gc x10 y11).Y, .bool false]]) (by simp [results, Tryd.results23, go_sem, lcA, lcB]) rfl
           ⟨Ga, goG Gc x10 y11, A2, n2, c2, A12, n12, c12, rfl, HGa.out, goG_ok HGc.out x10 y11, HcW.out.symm, HcH.out.symm, rfl, (SX.ownI 5 rfl).ri, (SX.ownI 0 rfl).ri, SX.ext⟩)
end Go.Proofs.YtohjjhoobikioaaDoor
