/-
  Of several texts: Sv6, Sv7, Sv8, Sv9, SvT.
-/
import Derived.Test.YtohjjhoobikioaaDoorSvA
import Derived.Test.YtohjjhoobikioaaDoorGrp
import Derived.Test.YtohjjhoobikioaaDoorGS
import Derived.Test.YtohjjhoobikioaaDoorDraw
import Derived.Test.YtohjjhoobikioaaDoorVtW6
import Derived.Test.YtohjjhoobikioaaDoorCvR
/-! The reference's terminal: one byte; a copy; bytes after bytes. -/
namespace Go.Proofs.YtohjjhoobikioaaDoor
open Go.RowKit

theorem q_rows {W w : World} {L : List Pc} {r s c a b : Pc} (S : St W w (r :: s :: c :: a :: b :: L)) : St W w (c :: a :: b :: r :: s :: L) := by
  have h1 : St W w (b :: r :: s :: c :: a :: L) := S.bring 4 rfl
  have h2 : St W w (a :: b :: r :: s :: c :: L) := h1.bring 4 rfl
  exact h2.bring 4 rfl
theorem q_out {W w : World} {L : List Pc} {r s c a b : Pc} (S : St W w (c :: a :: b :: r :: s :: L)) : St W w (c :: a :: b :: L) := by
  have h1 : St W w (c :: a :: b :: s :: L) := by
    have h := (S.bring 3 rfl).drop
    exact h
  have h := (h1.bring 3 rfl).drop
  exact h
theorem vt_stateV {V : VtS} {s : Int} (hV : VtV V) (hS : V.S = 1) (hs : s = 0 ∨ s = 2) : VtV { V with S := s } := by
  obtain ⟨⟨a1, a2, a3, a4, a5, a6⟩, b1, b2⟩ := hV
  have hp : V.P = [] := by rcases b1 with h | h; exact h; omega
  have hb : V.B = [] := by rcases b2 with h | ⟨h, -⟩; exact h; omega
  exact ⟨⟨a1, by rcases hs with rfl | rfl <;> simp, a3, a4, a5, a6⟩, .inl hp, .inl hb⟩
set_option maxRecDepth 100000 in
set_option maxHeartbeats 8000000 in
theorem spec_l09Byte0 (V : VtS) (A1 A2 A3 : Option Addr) (n1 c1 n2 c2 n3 c3 : Nat) (b : Nat) (W w : World) (L : List Pc) (S : St W w (vo (.slice A1 n1 c1) (.slice A2 n2 c2) (.slice A3 n3 c3) V L)) (hV : VtV V) (hS : V.S = 0) (hb : b ≤ 255) :
    Calls Tryd.prog 137 #[.agg (vA V (.slice A1 n1 c1) (.slice A2 n2 c2) (.slice A3 n3 c3)), .int .i64 b] w (VtAns W L) := by
  have S0 := ((S.alloc (vA V (.slice A1 n1 c1) (.slice A2 n2 c2) (.slice A3 n3 c3)) 58).alloc zeroVt 58)
  simp only [World.size_alloc] at S0
  clear S
  have HV := Lib.hid hV; have HS := Lib.hid hS
  obtain ⟨s, hs⟩ : ∃ s, s = V.S := ⟨_, rfl⟩
  have hb0 : (V.S == 0) = true := by simp [hS]
  clear hV hS hs s
  have S1 := Lib.hid (q_rows S0); clear S0
  go_enter Tryd.func137, Tryd.ntmps137
  go_wp2_with fail
  refine Calls.mono (spec_l09Plain V A1 A2 A3 n1 c1 n2 c2 n3 c3 b W _ _ S1.out HV.out HS.out hb) ?_; rintro e w2 ⟨V', B1, B2, B3, m1, d1, m2, d2, m3, d3, rfl, hV', S5⟩
  have HV' := Lib.hid hV'
  clear S1 hV'
  go_wp2_with ((with_reducible refine wp_setA (k := 0) (u := .agg (vA V' (.slice B1 m1 d1) (.slice B2 m2 d2) (.slice B3 m3 d3))) (vA V' (.slice B1 m1 d1) (.slice B2 m2 d2) (.slice B3 m3 d3)) S5 3 rfl ?_ ?_ ?_ ?_ ?_ ?_ ?_); go_must (exact rfl); go_must (exact rfl); go_must (kernel_rfl); go_must (kernel_rfl); go_must (exact Nat.le_of_ble_eq_true (by kernel_rfl)); go_must (kernel_rfl))
  intro w8 S8
  clear S5
  obtain ⟨lc, -, -⟩ := S8.cells 3 rfl
  go_wp2_with fail
  exact bodyPost_ret (v := .agg (vA V' (.slice B1 m1 d1) (.slice B2 m2 d2) (.slice B3 m3 d3))) (by simp [results, Tryd.results137, go_sem, lc]) rfl ⟨V', B1, B2, B3, m1, d1, m2, d2, m3, d3, rfl, HV'.out, q_out S8⟩
set_option maxRecDepth 100000 in
set_option maxHeartbeats 8000000 in
theorem spec_l09Byte2 (V : VtS) (A1 A2 A3 : Option Addr) (n1 c1 n2 c2 n3 c3 : Nat) (b : Nat) (W w : World) (L : List Pc) (S : St W w (vo (.slice A1 n1 c1) (.slice A2 n2 c2) (.slice A3 n3 c3) V L)) (hV : VtV V) (hS : V.S = 2) (hb : b ≤ 255) :
    Calls Tryd.prog 137 #[.agg (vA V (.slice A1 n1 c1) (.slice A2 n2 c2) (.slice A3 n3 c3)), .int .i64 b] w (VtAns W L) := by
  have S0 := ((S.alloc (vA V (.slice A1 n1 c1) (.slice A2 n2 c2) (.slice A3 n3 c3)) 58).alloc zeroVt 58)
  simp only [World.size_alloc] at S0
  clear S
  have HV := Lib.hid hV; have HS := Lib.hid hS
  have hb0 : (V.S == 0) = false := by simp [hS]
  have hb1 : (V.S == 1) = false := by simp [hS]
  clear hV hS
  have S1 := Lib.hid (q_rows S0); clear S0
  go_enter Tryd.func137, Tryd.ntmps137
  go_wp2_with fail
  refine Calls.mono (spec_l09Csi V A1 A2 A3 n1 c1 n2 c2 n3 c3 b W _ _ S1.out HV.out HS.out hb) ?_; rintro e w2 ⟨V', B1, B2, B3, m1, d1, m2, d2, m3, d3, rfl, hV', S5⟩
  have HV' := Lib.hid hV'
  clear S1 hV'
  go_wp2_with ((with_reducible refine wp_setA (k := 0) (u := .agg (vA V' (.slice B1 m1 d1) (.slice B2 m2 d2) (.slice B3 m3 d3))) (vA V' (.slice B1 m1 d1) (.slice B2 m2 d2) (.slice B3 m3 d3)) S5 3 rfl ?_ ?_ ?_ ?_ ?_ ?_ ?_); go_must (exact rfl); go_must (exact rfl); go_must (kernel_rfl); go_must (kernel_rfl); go_must (exact Nat.le_of_ble_eq_true (by kernel_rfl)); go_must (kernel_rfl))
  intro w8 S8
  clear S5
  obtain ⟨lc, -, -⟩ := S8.cells 3 rfl
  go_wp2_with fail
  exact bodyPost_ret (v := .agg (vA V' (.slice B1 m1 d1) (.slice B2 m2 d2) (.slice B3 m3 d3))) (by simp [results, Tryd.results137, go_sem, lc]) rfl ⟨V', B1, B2, B3, m1, d1, m2, d2, m3, d3, rfl, HV'.out, q_out S8⟩
set_option maxRecDepth 100000 in
set_option maxHeartbeats 8000000 in
theorem spec_l09Byte1 (V : VtS) (A1 A2 A3 : Option Addr) (n1 c1 n2 c2 n3 c3 : Nat) (b : Nat) (W w : World) (L : List Pc) (S : St W w (vo (.slice A1 n1 c1) (.slice A2 n2 c2) (.slice A3 n3 c3) V L)) (hV : VtV V) (hS : V.S = 1) :
    Calls Tryd.prog 137 #[.agg (vA V (.slice A1 n1 c1) (.slice A2 n2 c2) (.slice A3 n3 c3)), .int .i64 b] w (VtAns W L) := by
  have HV := Lib.hid hV; have HS := Lib.hid hS
  have hb0 : (V.S == 0) = false := by simp [hS]
  have hb1 : (V.S == 1) = true := by simp [hS]
  clear hV hS
  by_cases hbb : b = 91
  · subst hbb
    have S2 := ((S.alloc (vA { V with S := 2 } (.slice A1 n1 c1) (.slice A2 n2 c2) (.slice A3 n3 c3)) 58).alloc zeroVt 58)
    simp only [World.size_alloc] at S2
    clear S
    obtain ⟨lc, lf, ls⟩ := S2.cells 1 rfl
    go_enter Tryd.func137, Tryd.ntmps137
    go_wp2_with ((with_reducible refine wp_setA (k := 0) (u := .agg (vA { V with S := 2 } (.slice A1 n1 c1) (.slice A2 n2 c2) (.slice A3 n3 c3))) (vA { V with S := 2 } (.slice A1 n1 c1) (.slice A2 n2 c2) (.slice A3 n3 c3)) S2 0 rfl ?_ ?_ ?_ ?_ ?_ ?_ ?_); go_must (exact rfl); go_must (exact rfl); go_must (kernel_rfl); go_must (kernel_rfl); go_must (exact Nat.le_of_ble_eq_true (by kernel_rfl)); go_must (kernel_rfl))
    intro w8 S8
    clear S2 lc lf ls
    obtain ⟨lc, -, -⟩ := S8.cells 0 rfl
    go_wp2_with fail
    exact bodyPost_ret (v := .agg (vA { V with S := 2 } (.slice A1 n1 c1) (.slice A2 n2 c2) (.slice A3 n3 c3))) (by simp [results, Tryd.results137, go_sem, lc]) rfl ⟨{ V with S := 2 }, A1, A2, A3, n1, c1, n2, c2, n3, c3, rfl, vt_stateV HV.out HS.out (.inr rfl), S8.drop.drop⟩
  · have hb2 : ((b : Int) == 91) = false := by simp; omega
    clear hbb
    have S1 := ((S.alloc (vA { V with S := 0 } (.slice A1 n1 c1) (.slice A2 n2 c2) (.slice A3 n3 c3)) 58).alloc zeroVt 58)
    simp only [World.size_alloc] at S1
    clear S
    obtain ⟨lc, lf, ls⟩ := S1.cells 1 rfl
    go_enter Tryd.func137, Tryd.ntmps137
    go_wp2_with ((with_reducible refine wp_setA (k := 0) (u := .agg (vA { V with S := 0 } (.slice A1 n1 c1) (.slice A2 n2 c2) (.slice A3 n3 c3))) (vA { V with S := 0 } (.slice A1 n1 c1) (.slice A2 n2 c2) (.slice A3 n3 c3)) S1 0 rfl ?_ ?_ ?_ ?_ ?_ ?_ ?_); go_must (exact rfl); go_must (exact rfl); go_must (kernel_rfl); go_must (kernel_rfl); go_must (exact Nat.le_of_ble_eq_true (by kernel_rfl)); go_must (kernel_rfl))
    intro w8 S8
    clear S1 lc lf ls
    obtain ⟨lc, -, -⟩ := S8.cells 0 rfl
    go_wp2_with fail
    exact bodyPost_ret (v := .agg (vA { V with S := 0 } (.slice A1 n1 c1) (.slice A2 n2 c2) (.slice A3 n3 c3))) (by simp [results, Tryd.results137, go_sem, lc]) rfl ⟨{ V with S := 0 }, A1, A2, A3, n1, c1, n2, c2, n3, c3, rfl, vt_stateV HV.out HS.out (.inl rfl), S8.drop.drop⟩
theorem spec_l09Byte (V : VtS) (A1 A2 A3 : Option Addr) (n1 c1 n2 c2 n3 c3 : Nat) (b : Nat) (W w : World) (L : List Pc) (S : St W w (vo (.slice A1 n1 c1) (.slice A2 n2 c2) (.slice A3 n3 c3) V L)) (hV : VtV V) (hb : b ≤ 255) :
    Calls Tryd.prog 137 #[.agg (vA V (.slice A1 n1 c1) (.slice A2 n2 c2) (.slice A3 n3 c3)), .int .i64 b] w (VtAns W L) := by
  have h := hV.i.s
  rcases (show V.S = 0 ∨ V.S = 1 ∨ V.S = 2 by omega) with h0 | h0 | h0
  · exact spec_l09Byte0 V A1 A2 A3 n1 c1 n2 c2 n3 c3 b W w L S hV h0 hb
  · exact spec_l09Byte1 V A1 A2 A3 n1 c1 n2 c2 n3 c3 b W w L S hV h0
  · exact spec_l09Byte2 V A1 A2 A3 n1 c1 n2 c2 n3 c3 b W w L S hV h0 hb
end Go.Proofs.YtohjjhoobikioaaDoor
/-! The reference's terminal: a new one is valid; a copy; bytes fed to a new one. -/
namespace Go.Proofs.YtohjjhoobikioaaDoor
open Go.RowKit

abbrev newV (g : Gr) : VtS := ⟨g, 0, [], [], 0⟩
set_option maxRecDepth 100000 in
set_option maxHeartbeats 8000000 in
theorem spec_VtOk_new (g : Gr) (A1 : Option Addr) (n1 c1 : Nat) (w : World) (hC : RI w A1 n1 c1 g.C) (hg : gridOk g = true) :
    Calls Tryd.prog 135 #[.agg (vA (newV g) (.slice A1 n1 c1) (.slice none 0 0) (.slice none 0 0))] w fun e w' => e = .returned (.bool true) ∧ Ext w w' := by
  have S0 := (St.refl w).alloc (vA (newV g) (.slice A1 n1 c1) (.slice none 0 0) (.slice none 0 0)) 58
  have K := spec_GridOk g.W g.H g.X g.Y g.R g.C A1 n1 c1 _ (hC.ext S0.ext)
  rw [show (⟨g.W, g.H, g.C, g.X, g.Y, g.R⟩ : Gr) = g from rfl, hg] at K
  have HK := Lib.hid K; clear K hg
  go_enter Tryd.func135, Tryd.ntmps135
  go_wp2_with fail
  refine Calls.mono (HK.out) ?_; rintro e w1 ⟨rfl, x1⟩
  have S1 := S0.call x1
  clear S0 x1 HK
  obtain ⟨lc, lf, ls⟩ := S1.cells 0 rfl
  go_wp2_with fail
  go_loopw [4, 38] (fun _ vi wr => vi = .int .i64 0 ∧ St w wr [row w.heap.size 58 (vA (newV g) (.slice A1 n1 c1) (.slice none 0 0) (.slice none 0 0))]) (fun _ _ _ => 0)
  case atStart => exact ⟨rfl, S1⟩
  case round =>
    obtain ⟨rfl, S2⟩ := hrel
    clear lc lf ls S1
    obtain ⟨lc, lf, ls⟩ := S2.cells 0 rfl
    go_wp2_with fail
    go_ret
    exact ⟨rfl, S2.ext⟩
set_option maxRecDepth 100000 in
set_option maxHeartbeats 8000000 in
theorem spec_l09Copy (V : VtS) (A1 A2 A3 : Option Addr) (n1 c1 n2 c2 n3 c3 : Nat) (w : World) (h1 : RI w A1 n1 c1 V.G.C) (h2 : RI w A2 n2 c2 V.P) (h3 : RB w A3 n3 c3 V.B) (m1 : n1 ≤ 8000) (m2 : n2 ≤ 8000) (m3 : n3 ≤ 8000) :
    Calls Tryd.prog 136 #[.agg (vA V (.slice A1 n1 c1) (.slice A2 n2 c2) (.slice A3 n3 c3))] w fun e w' => ∃ B1 k1 d1 B2 k2 d2 B3 k3 d3, e = .returned (.agg (vA V (.slice B1 k1 d1) (.slice B2 k2 d2) (.slice B3 k3 d3))) ∧ St w w' (vo (.slice B1 k1 d1) (.slice B2 k2 d2) (.slice B3 k3 d3) V []) := by
  have S0 := ((St.refl w).alloc (vA V (.slice A1 n1 c1) (.slice A2 n2 c2) (.slice A3 n3 c3)) 58).alloc zeroVt 58
  simp only [World.size_alloc] at S0
  have H1 := Lib.hid h1; have H2 := Lib.hid h2; have H3 := Lib.hid h3
  clear h1 h2 h3
  go_enter Tryd.func136, Tryd.ntmps136
  go_wp2_with fail
  refine Calls.mono (spec_l08Copy V.G A1 n1 c1 _ (H1.out.ext S0.ext) (by omega)) ?_; rintro e w1 ⟨v1, rfl, own1, x1⟩
  obtain ⟨B1, k1, d1, rfl⟩ := own1.form'
  have S1 := S0.newI own1 x1
  clear S0 own1 x1
  -- [c, row res, row box]
  go_wp2_with ((with_reducible refine wp_setA (k := 0) (u := .agg (gA V.G (.slice B1 k1 d1))) (vA V (.slice B1 k1 d1) (.slice A2 n2 c2) (.slice A3 n3 c3)) S1 2 rfl ?_ ?_ ?_ ?_ ?_ ?_ ?_); go_must (exact rfl); go_must (exact rfl); go_must (kernel_rfl); go_must (kernel_rfl); go_must (exact Nat.le_of_ble_eq_true (by kernel_rfl)); go_must (kernel_rfl))
  intro w2 S2
  have S2 : St w w2 [ownI (.slice B1 k1 d1) V.G.C, row (w.heap.size + 1) 58 zeroVt, row w.heap.size 58 (vA V (.slice B1 k1 d1) (.slice A2 n2 c2) (.slice A3 n3 c3))] := S2
  clear S1
  have S3 := S2.newI (OwnI.empty (Nat.le_refl _)) ((Ext.refl _).alloc _)
  obtain ⟨lc, lf, ls⟩ := S2.cells 2 rfl
  clear S2
  have HS3 := Lib.hid S3; clear S3
  go_wp2_with (at_builtin; go_must (refine wp_addI rfl _ _ rfl HS3.out 0 rfl rfl rfl (H2.out.ext HS3.out.ext) ?_ ?_); go_must (simp; omega))
  intro v4 w4 S4
  have S4 : St w w4 [ownI v4 V.P, ownI (.slice B1 k1 d1) V.G.C, row (w.heap.size + 1) 58 zeroVt, row w.heap.size 58 (vA V (.slice B1 k1 d1) (.slice A2 n2 c2) (.slice A3 n3 c3))] := S4
  obtain ⟨B2, k2, d2, rfl⟩ := (S4.ownI 0 rfl).form'
  clear lc lf ls HS3
  obtain ⟨lc, lf, ls⟩ := S4.cells 3 rfl
  have S5 := S4.setc 3 rfl 7 (.slice B2 k2 d2)
  have S5 : St w _ [ownI (.slice B2 k2 d2) V.P, ownI (.slice B1 k1 d1) V.G.C, row (w.heap.size + 1) 58 zeroVt, row w.heap.size 58 (vA V (.slice B1 k1 d1) (.slice B2 k2 d2) (.slice A3 n3 c3))] := S5
  have S6 := S5.newB (OwnB.emptyAt (b := w4.heap.size) (by simp) (by simp)) ((Ext.refl _).alloc _)
  clear S4
  have HS6 := Lib.hid S6; clear S6 S5
  go_wp2_with (at_builtin; go_must (refine wp_addB rfl _ _ rfl HS6.out 0 rfl rfl rfl (H3.out.ext HS6.out.ext) ?_ ?_); go_must (simp; omega))
  intro v7 w7 S7
  have S7 : St w w7 [ownB v7 V.B, ownI (.slice B2 k2 d2) V.P, ownI (.slice B1 k1 d1) V.G.C, row (w.heap.size + 1) 58 zeroVt, row w.heap.size 58 (vA V (.slice B1 k1 d1) (.slice B2 k2 d2) (.slice A3 n3 c3))] := S7
  obtain ⟨B3, k3, d3, rfl⟩ := (S7.ownB 0 rfl).form'
  clear lc lf ls HS6
  obtain ⟨lc, lf, ls⟩ := S7.cells 4 rfl
  have S8 := S7.setc 4 rfl 8 (.slice B3 k3 d3)
  have S8 : St w _ [ownB (.slice B3 k3 d3) V.B, ownI (.slice B2 k2 d2) V.P, ownI (.slice B1 k1 d1) V.G.C, row (w.heap.size + 1) 58 zeroVt, row w.heap.size 58 (vA V (.slice B1 k1 d1) (.slice B2 k2 d2) (.slice B3 k3 d3))] := S8
  clear S7
  go_wp2_with ((with_reducible refine wp_setA (k := 0) (u := .agg (vA V (.slice B1 k1 d1) (.slice B2 k2 d2) (.slice B3 k3 d3))) (vA V (.slice B1 k1 d1) (.slice B2 k2 d2) (.slice B3 k3 d3)) S8 3 rfl ?_ ?_ ?_ ?_ ?_ ?_ ?_); go_must (exact rfl); go_must (exact rfl); go_must (kernel_rfl); go_must (kernel_rfl); go_must (exact Nat.le_of_ble_eq_true (by kernel_rfl)); go_must (kernel_rfl))
  intro w9 S9
  clear S8 lc lf ls
  obtain ⟨lc, -, -⟩ := S9.cells 3 rfl
  go_wp2_with fail
  refine bodyPost_ret (v := .agg (vA V (.slice B1 k1 d1) (.slice B2 k2 d2) (.slice B3 k3 d3))) (by simp [results, Tryd.results136, go_sem, lc]) rfl ⟨B1, k1, d1, B2, k2, d2, B3, k3, d3, rfl, ?_⟩
  have S10 : St w w9 [ownB (.slice B3 k3 d3) V.B, ownI (.slice B2 k2 d2) V.P, ownI (.slice B1 k1 d1) V.G.C] := St.keep (L := _) S9
  exact (S10.bring 1 rfl).bring 2 rfl
set_option maxRecDepth 100000 in
set_option maxHeartbeats 8000000 in
theorem spec_VtFeed_new (g : Gr) (A1 : Option Addr) (n1 c1 : Nat) (A : Option Addr) (n c : Nat) (l : List UInt8) (w : World) (hC : RI w A1 n1 c1 g.C) (hg : gridOk g = true) (hr : RB w A n c l) :
    Calls Tryd.prog 125 #[.agg (vA (newV g) (.slice A1 n1 c1) (.slice none 0 0) (.slice none 0 0)), .slice A n c] w (VtAns w []) := by
  have S0 := ((St.refl w).alloc (vA (newV g) (.slice A1 n1 c1) (.slice none 0 0) (.slice none 0 0)) 58).alloc zeroVt 58
  simp only [World.size_alloc] at S0
  have nc8 : n1 ≤ 8000 := by
    obtain ⟨-, -, -, -, q5, q6⟩ := gridOk_d hg
    rw [hC.len] at q6; omega
  have HG := Lib.hid hg; have HC := Lib.hid hC; have HR := Lib.hid hr
  have hn := hr.nmax
  clear hg hC hr
  go_enter Tryd.func125, Tryd.ntmps125
  go_wp2_with fail
  refine Calls.mono (spec_VtOk_new g A1 n1 c1 _ (HC.out.ext S0.ext) HG.out) ?_; rintro e w1 ⟨rfl, x1⟩
  have S1 := S0.call x1
  clear S0 x1
  obtain ⟨lc, lf, ls⟩ := S1.cells 1 rfl
  go_wp2_with fail
  refine Calls.mono (spec_l09Copy (newV g) A1 none none n1 c1 0 0 0 0 _ (HC.out.ext S1.ext) (RI.nil _) (RB.nil _) nc8 (by omega) (by omega)) ?_; rintro e w2 ⟨B1, k1, d1, B2, k2, d2, B3, k3, d3, rfl, T2⟩
  have S2 := ((S1.joined T2).alloc zeroVt 58)
  clear S1 T2 lc lf ls
  go_wp2_with ((with_reducible refine wp_setA (k := 0) (u := .agg (vA (newV g) (.slice B1 k1 d1) (.slice B2 k2 d2) (.slice B3 k3 d3))) (vA (newV g) (.slice B1 k1 d1) (.slice B2 k2 d2) (.slice B3 k3 d3)) S2 0 rfl ?_ ?_ ?_ ?_ ?_ ?_ ?_); go_must (exact rfl); go_must (exact rfl); go_must (kernel_rfl); go_must (kernel_rfl); go_must (exact Nat.le_of_ble_eq_true (by kernel_rfl)); go_must (kernel_rfl))
  intro w3 S3
  clear S2
  generalize w2.heap.size = b5 at *
  have S4 : St w w3 (vo (.slice B1 k1 d1) (.slice B2 k2 d2) (.slice B3 k3 d3) (newV g) [row b5 58 (vA (newV g) (.slice B1 k1 d1) (.slice B2 k2 d2) (.slice B3 k3 d3)), row (w.heap.size + 1) 58 zeroVt, row w.heap.size 58 (vA (newV g) (.slice A1 n1 c1) (.slice none 0 0) (.slice none 0 0))]) := by
    have h1 := S3.bring 3 rfl
    have h2 := h1.bring 3 rfl
    exact h2.bring 3 rfl
  clear S3
  go_wp2_with fail
  go_loopw [7, 16] (fun _ vi wr => ∃ (k : Nat) (V : VtS) (B1 B2 B3 : Option Addr) (k1 d1 k2 d2 k3 d3 : Nat), k ≤ n ∧ vi = .int .i64 k ∧ Hid (VtV V) ∧ St w wr (vo (.slice B1 k1 d1) (.slice B2 k2 d2) (.slice B3 k3 d3) V [row b5 58 (vA V (.slice B1 k1 d1) (.slice B2 k2 d2) (.slice B3 k3 d3)), row (w.heap.size + 1) 58 zeroVt, row w.heap.size 58 (vA (newV g) (.slice A1 n1 c1) (.slice none 0 0) (.slice none 0 0))])) (fun _ vi _ => n - (intOf vi).toNat)
  case atStart => exact ⟨0, newV g, _, _, _, _, _, _, _, _, _, by omega, rfl, VtV.new HG.out, S4⟩
  case round =>
    obtain ⟨k, V, B1, B2, B3, k1, d1, k2, d2, k3, d3, hk, rfl, HV, S⟩ := hrel
    clear S4
    by_cases hlt : k < n
    · obtain ⟨q, o, hA2, hcell⟩ := (HR.out.ext S.ext).at1 (k := k) hlt
      subst hA2
      obtain ⟨y, hy⟩ : ∃ y, y = l.getD k 0 := ⟨_, rfl⟩
      rw [← hy] at hcell
      have hy8 := y.toNat_lt
      clear hy
      obtain ⟨lc, lf, ls⟩ := S.cells 3 rfl
      have SS := Lib.hid S; clear S
      go_wp2_with fail
      refine Calls.mono (spec_l09Byte V B1 B2 B3 k1 d1 k2 d2 k3 d3 y.toNat w _ _ SS.out HV.out (by omega)) ?_; rintro e w5 ⟨V', C1, C2, C3, m1, e1, m2, e2, m3, e3, rfl, hV', S5⟩
      have HV' := Lib.hid hV'
      clear hV' lc lf ls SS
      go_wp2_with ((with_reducible refine wp_setA (k := 0) (u := .agg (vA V' (.slice C1 m1 e1) (.slice C2 m2 e2) (.slice C3 m3 e3))) (vA V' (.slice C1 m1 e1) (.slice C2 m2 e2) (.slice C3 m3 e3)) S5 3 rfl ?_ ?_ ?_ ?_ ?_ ?_ ?_); go_must (exact rfl); go_must (exact rfl); go_must (kernel_rfl); go_must (kernel_rfl); go_must (exact Nat.le_of_ble_eq_true (by kernel_rfl)); go_must (kernel_rfl))
      intro w6 S6
      clear S5
      have HS6 := Lib.hid S6; clear S6
      go_wp2_with fail
      go_roundw
      case rel => exact ⟨k + 1, V', C1, C2, C3, m1, e1, m2, e2, m3, e3, by omega, by go_num, HV'.out, HS6.out⟩
      case measure => simp [intOf]; omega
    · obtain ⟨lc, lf, ls⟩ := S.cells 3 rfl
      go_wp2_with ((with_reducible refine wp_setA (k := 0) (u := .agg (vA V (.slice B1 k1 d1) (.slice B2 k2 d2) (.slice B3 k3 d3))) (vA V (.slice B1 k1 d1) (.slice B2 k2 d2) (.slice B3 k3 d3)) S 4 rfl ?_ ?_ ?_ ?_ ?_ ?_ ?_); go_must (exact rfl); go_must (exact rfl); go_must (kernel_rfl); go_must (kernel_rfl); go_must (exact Nat.le_of_ble_eq_true (by kernel_rfl)); go_must (kernel_rfl))
      intro w6 S6
      clear S lc lf ls
      obtain ⟨lc, -, -⟩ := S6.cells 4 rfl
      go_wp2_with fail
      refine bodyPost_ret (v := .agg (vA V (.slice B1 k1 d1) (.slice B2 k2 d2) (.slice B3 k3 d3))) (by simp [results, Tryd.results125, go_sem, lc]) rfl ⟨V, B1, B2, B3, k1, d1, k2, d2, k3, d3, rfl, HV.out, ?_⟩
      exact St.keep (M := [ownI (.slice B1 k1 d1) V.G.C, ownI (.slice B2 k2 d2) V.P, ownB (.slice B3 k3 d3) V.B]) (L := _) S6
end Go.Proofs.YtohjjhoobikioaaDoor
/-! The reference's terminal: what it is fed when one is drawn. -/
namespace Go.Proofs.YtohjjhoobikioaaDoor
open Go.RowKit

theorem byte_S {W w : World} {g : Nat} {A : Option Addr} {n c : Nat} {l : List UInt8} {L : List Pc} (S : St W w L) (i : Nat) (e : L[i]? = some (curP' g A n c)) (hr : RB W A n c l) :
    Calls Tryd.prog 100 #[.pointer (some ⟨g, 0, none⟩)] w fun e w' => ∃ x : Int, 0 ≤ x ∧ x < 256 ∧ e = .returned (.int .i64 x) ∧ St W w' L :=
  (spec_l01Byte g A n c l w (S.curAt i e hr)).mono fun _ _ ⟨⟨x, h0, h1, h2⟩, h3, h4⟩ => ⟨x, h0, by omega, h2, S.curStep i e h3 h4⟩
/-- what l09Out answers -/
def OutAns (g : Nat) (A : Option Addr) (n c : Nat) (W : World) (L : List Pc) (e : Ending) (w' : World) : Prop := ∃ (A1 : Option Addr) (n1 c1 : Nat) (t : List UInt8), e = .returned (.slice A1 n1 c1) ∧ St W w' (ownB (.slice A1 n1 c1) t :: curP' g A n c :: L)
theorem lit7 {w : World} {b : Nat} (lc : ∀ i, w.cell? ⟨b, i, none⟩ = (#[.int .u8 7, .int .u8 8, .int .u8 10, .int .u8 13, .int .u8 10, .int .u8 0, .int .u8 127] : Array Value)[i]?) {x : Nat} (hx : x < 7) : ∃ y : UInt8, w.cell? ⟨b, x, none⟩ = some (.int .u8 y.toNat) := by
  rcases (show x = 0 ∨ x = 1 ∨ x = 2 ∨ x = 3 ∨ x = 4 ∨ x = 5 ∨ x = 6 by omega) with rfl | rfl | rfl | rfl | rfl | rfl | rfl
  · exact ⟨7, lc 0⟩
  · exact ⟨8, lc 1⟩
  · exact ⟨10, lc 2⟩
  · exact ⟨13, lc 3⟩
  · exact ⟨10, lc 4⟩
  · exact ⟨0, lc 5⟩
  · exact ⟨127, lc 6⟩
theorem lit20 {w : World} {b : Nat} (lc : ∀ i, w.cell? ⟨b, i, none⟩ = (#[.string ⟨#[27, 91, 65]⟩, .string ⟨#[27, 91, 50, 66]⟩, .string ⟨#[27, 91, 67]⟩, .string ⟨#[27, 91, 51, 68]⟩, .string ⟨#[27, 91, 72]⟩, .string ⟨#[27, 91, 50, 59, 51, 72]⟩, .string ⟨#[27, 91, 75]⟩, .string ⟨#[27, 91, 49, 75]⟩, .string ⟨#[27, 91, 50, 75]⟩, .string ⟨#[27, 91, 74]⟩, .string ⟨#[27, 91, 49, 74]⟩, .string ⟨#[27, 91, 50, 74]⟩, .string ⟨#[27, 91, 59, 52, 72]⟩, .string ⟨#[27, 91, 48, 67]⟩, .string ⟨#[27, 91, 51, 75]⟩, .string ⟨#[27, 91, 57, 57, 57, 57, 57, 67]⟩, .string ⟨#[27, 91, 49, 59, 50, 59, 51, 59, 52, 59, 53, 72]⟩, .string ⟨#[27, 91, 63, 49, 65]⟩, .string ⟨#[27, 77]⟩, .string ⟨#[27, 91]⟩] : Array Value)[i]?) {x : Nat} (hx : x < 20) : ∃ s : List UInt8, s.length ≤ 17 ∧ w.cell? ⟨b, x, none⟩ = some (.string ⟨s.toArray⟩) := by
  rcases (show x = 0 ∨ x = 1 ∨ x = 2 ∨ x = 3 ∨ x = 4 ∨ x = 5 ∨ x = 6 ∨ x = 7 ∨ x = 8 ∨ x = 9 ∨ x = 10 ∨ x = 11 ∨ x = 12 ∨ x = 13 ∨ x = 14 ∨ x = 15 ∨ x = 16 ∨ x = 17 ∨ x = 18 ∨ x = 19 by omega) with rfl | rfl | rfl | rfl | rfl | rfl | rfl | rfl | rfl | rfl | rfl | rfl | rfl | rfl | rfl | rfl | rfl | rfl | rfl | rfl
  · exact ⟨[27, 91, 65], by simp, lc 0⟩
  · exact ⟨[27, 91, 50, 66], by simp, lc 1⟩
  · exact ⟨[27, 91, 67], by simp, lc 2⟩
  · exact ⟨[27, 91, 51, 68], by simp, lc 3⟩
  · exact ⟨[27, 91, 72], by simp, lc 4⟩
  · exact ⟨[27, 91, 50, 59, 51, 72], by simp, lc 5⟩
  · exact ⟨[27, 91, 75], by simp, lc 6⟩
  · exact ⟨[27, 91, 49, 75], by simp, lc 7⟩
  · exact ⟨[27, 91, 50, 75], by simp, lc 8⟩
  · exact ⟨[27, 91, 74], by simp, lc 9⟩
  · exact ⟨[27, 91, 49, 74], by simp, lc 10⟩
  · exact ⟨[27, 91, 50, 74], by simp, lc 11⟩
  · exact ⟨[27, 91, 59, 52, 72], by simp, lc 12⟩
  · exact ⟨[27, 91, 48, 67], by simp, lc 13⟩
  · exact ⟨[27, 91, 51, 75], by simp, lc 14⟩
  · exact ⟨[27, 91, 57, 57, 57, 57, 57, 67], by simp, lc 15⟩
  · exact ⟨[27, 91, 49, 59, 50, 59, 51, 59, 52, 59, 53, 72], by simp, lc 16⟩
  · exact ⟨[27, 91, 63, 49, 65], by simp, lc 17⟩
  · exact ⟨[27, 77], by simp, lc 18⟩
  · exact ⟨[27, 91], by simp, lc 19⟩
set_option maxRecDepth 100000 in
set_option maxHeartbeats 16000000 in
theorem spec_l09Out (g : Nat) (A : Option Addr) (n c : Nat) (l : List UInt8) (W w : World) (L : List Pc) (hr : RB W A n c l) (S : St W w (curP' g A n c :: L)) :
    Calls Tryd.prog 126 #[.pointer (some ⟨g, 0, none⟩), .int .i64 5] w (OutAns g A n c W L) := by
  have S1 := S.newB (OwnB.empty (Nat.le_refl _)) ((Ext.refl _).alloc _)
  clear S
  go_enter Tryd.func126, Tryd.ntmps126
  go_wp2_with fail
  refine Calls.mono (below_S S1 1 rfl hr 6 (by omega)) ?_; rintro e w1 ⟨x, hx0, hx1, rfl, S2⟩
  have hx5 : x ≤ 5 := by omega
  clear S1 hx1
  go_wp2_with fail
  go_loopw [5, 6] (fun va vn wr => ∃ (x : Int) (A1 : Option Addr) (n1 c1 : Nat) (t : List UInt8), 0 ≤ x ∧ x ≤ 5 ∧ vn = .int .i64 x ∧ va = .slice A1 n1 c1 ∧ Hid ((t.length : Int) ≤ 20 * (5 - x)) ∧ St W wr (ownB (.slice A1 n1 c1) t :: curP' g A n c :: L)) (fun _ vn _ => (intOf vn).toNat)
  case atStart => exact ⟨x, _, _, _, [], hx0, hx5, rfl, rfl, (by show _ ≤ _; simp; omega), S2⟩
  case round =>
    clear S2 hx0 hx5
    obtain ⟨x, A1, n1, c1, t, hx0, hx5, rfl, rfl, HT, S⟩ := hrel
    by_cases hlt : 0 < x
    · have SS := Lib.hid S; clear S
      go_wp2_with fail
      refine Calls.mono (below_S SS.out 1 rfl hr 10 (by omega)) ?_; rintro e w1 ⟨k, hk0, hk1, rfl, S3⟩
      have hk9 : k ≤ 9 := by omega
      have htl : t.length ≤ 100 := by have := HT.out; omega
      clear SS hk1
      by_cases h4 : k < 4
      · have SS := Lib.hid S3; clear S3
        go_wp2_with fail
        refine Calls.mono (rune_S SS.out 1 rfl hr) ?_; rintro e w2 ⟨r, rfl, S4⟩
        clear SS
        have SS := Lib.hid S4; clear S4
        go_wp2_with fail
        refine Calls.mono (spec_TextOf _ 1 1 [r] _ (RI.new _ [r] (by simp)) (by omega)) ?_; rintro e w3 ⟨rfl, x3⟩
        have S5 := (SS.out.skip _).call x3
        clear SS x3
        have hl4 : (textOf [r]).length ≤ 4 := by have := textOf_len [r]; simpa using this
        generalize textOf [r] = s at *
        go_wp2_with (at_builtin; refine wp_addStr (news := s) rfl _ _ rfl S5 0 rfl rfl rfl (by omega) ?_)
        intro v6 w6 S6
        have S6 : St W w6 (ownB v6 (t ++ s) :: curP' g A n c :: L) := S6
        obtain ⟨A6, n6, c6, rfl⟩ := (S6.ownB 0 rfl).form'
        have HS6 := Lib.hid S6; clear S5 S6
        go_wp2_with fail
        go_roundw
        case rel => exact ⟨x - 1, A6, n6, c6, t ++ s, by omega, by omega, by first | rfl | go_num, rfl, (by show _ ≤ _; have := HT.out; rw [List.length_append]; omega), HS6.out⟩
        case measure => simp [intOf]; omega
      by_cases h5 : k = 4
      · subst h5
        have S4 := S3.alloc #[.int .u8 7, .int .u8 8, .int .u8 10, .int .u8 13, .int .u8 10, .int .u8 0, .int .u8 127] 5
        clear S3
        have SS := Lib.hid S4; clear S4
        go_wp2_with fail
        refine Calls.mono (below_S SS.out 2 rfl hr 7 (by omega)) ?_; rintro e w2 ⟨y, hy0, hy1, rfl, S5⟩
        obtain ⟨y, rfl⟩ := Int.eq_ofNat_of_zero_le hy0
        have hy : y < 7 := by omega
        have hyi : (y : Int) < 7 := by omega
        obtain ⟨lc, lf, ls⟩ := S5.cells 0 rfl
        obtain ⟨z, hz⟩ := lit7 lc hy
        clear SS hy0 hy1 lc lf
        have hz8 := z.toNat_lt
        have SS := Lib.hid S5.drop; clear S5
        go_wp2_with (at_builtin; refine wp_addB rfl _ _ rfl (SS.out.skip _) 0 rfl rfl rfl (RB.lit _ _ [z] rfl (by simp)) (by omega) ?_)
        intro v6 w6 S6
        have S6 : St W w6 (ownB v6 (t ++ [z]) :: curP' g A n c :: L) := S6
        obtain ⟨A6, n6, c6, rfl⟩ := (S6.ownB 0 rfl).form'
        have HS6 := Lib.hid S6; clear SS S6 hz ls
        go_wp2_with fail
        go_roundw
        case rel => exact ⟨x - 1, A6, n6, c6, t ++ [z], by omega, by omega, by first | rfl | go_num, rfl, (by show _ ≤ _; have := HT.out; rw [List.length_append, show [z].length = 1 from rfl]; omega), HS6.out⟩
        case measure => simp [intOf]; omega
      have hb4 : (k == 4) = false := by simp; omega
      by_cases h9 : k < 9
      · have S4 := S3.alloc #[.string ⟨#[27, 91, 65]⟩, .string ⟨#[27, 91, 50, 66]⟩, .string ⟨#[27, 91, 67]⟩, .string ⟨#[27, 91, 51, 68]⟩, .string ⟨#[27, 91, 72]⟩, .string ⟨#[27, 91, 50, 59, 51, 72]⟩, .string ⟨#[27, 91, 75]⟩, .string ⟨#[27, 91, 49, 75]⟩, .string ⟨#[27, 91, 50, 75]⟩, .string ⟨#[27, 91, 74]⟩, .string ⟨#[27, 91, 49, 74]⟩, .string ⟨#[27, 91, 50, 74]⟩, .string ⟨#[27, 91, 59, 52, 72]⟩, .string ⟨#[27, 91, 48, 67]⟩, .string ⟨#[27, 91, 51, 75]⟩, .string ⟨#[27, 91, 57, 57, 57, 57, 57, 67]⟩, .string ⟨#[27, 91, 49, 59, 50, 59, 51, 59, 52, 59, 53, 72]⟩, .string ⟨#[27, 91, 63, 49, 65]⟩, .string ⟨#[27, 77]⟩, .string ⟨#[27, 91]⟩] 9
        clear S3 h5
        have SS := Lib.hid S4; clear S4
        go_wp2_with fail
        refine Calls.mono (below_S SS.out 2 rfl hr 20 (by omega)) ?_; rintro e w2 ⟨y, hy0, hy1, rfl, S5⟩
        obtain ⟨y, rfl⟩ := Int.eq_ofNat_of_zero_le hy0
        have hy : y < 20 := by omega
        have hyi : (y : Int) < 20 := by omega
        obtain ⟨lc, lf, ls⟩ := S5.cells 0 rfl
        obtain ⟨s, hs17, hz⟩ := lit20 lc hy
        clear SS hy0 hy1 lc lf
        have S6 := S5.drop
        clear S5
        go_wp2_with (at_builtin; refine wp_addStr (news := s) rfl _ _ rfl S6 0 rfl rfl rfl (by omega) ?_)
        intro v7 w7 S7
        have S7 : St W w7 (ownB v7 (t ++ s) :: curP' g A n c :: L) := S7
        obtain ⟨A6, n6, c6, rfl⟩ := (S7.ownB 0 rfl).form'
        have HS6 := Lib.hid S7; clear S6 S7 hz ls
        go_wp2_with fail
        go_roundw
        case rel => exact ⟨x - 1, A6, n6, c6, t ++ s, by omega, by omega, by first | rfl | go_num, rfl, (by show _ ≤ _; have := HT.out; rw [List.length_append]; omega), HS6.out⟩
        case measure => simp [intOf]; omega
      · clear h5
        have SS := Lib.hid S3; clear S3
        go_wp2_with fail
        refine Calls.mono (byte_S SS.out 1 rfl hr) ?_; rintro e w2 ⟨y, hy0, hy1, rfl, S5⟩
        obtain ⟨y, rfl⟩ := Int.eq_ofNat_of_zero_le hy0
        have hyb : y < 256 := by omega
        have B8 := Lib.hid (byteC_of (k := y) (by omega))
        have hbw : IntKind.u8.wrap (y : Int) = (y : Int) := by rw [IntKind.wrap_u8]; omega
        clear SS
        have SS := Lib.hid S5; clear S5
        go_wp2_with (at_builtin; refine wp_addB rfl _ _ rfl (SS.out.skip _) 0 rfl rfl rfl (RB.lit _ _ [UInt8.ofNat y] B8.out (by simp)) (by omega) ?_)
        intro v6 w6 S6
        have S6 : St W w6 (ownB v6 (t ++ [UInt8.ofNat y]) :: curP' g A n c :: L) := S6
        obtain ⟨A6, n6, c6, rfl⟩ := (S6.ownB 0 rfl).form'
        have HS6 := Lib.hid S6; clear SS S6
        go_wp2_with fail
        go_roundw
        case rel => exact ⟨x - 1, A6, n6, c6, t ++ [UInt8.ofNat y], by omega, by omega, by first | rfl | go_num, rfl, (by show _ ≤ _; have := HT.out; rw [List.length_append, show [UInt8.ofNat y].length = 1 from rfl]; omega), HS6.out⟩
        case measure => simp [intOf]; omega
    · go_wp2_with fail
      go_ret
      exact ⟨A1, n1, c1, t, rfl, S⟩
end Go.Proofs.YtohjjhoobikioaaDoor
/-! The reference's terminal: one is drawn. -/
namespace Go.Proofs.YtohjjhoobikioaaDoor
open Go.RowKit

/-- a store of a struct, in a drawn region -/
theorem op_setA {d : Option Tmp} {ty tp : TypeId} {pos : String} {af : Array Edge} {a : Act} {W w : World} {K : Act → World → Prop} {Q : Exit → Act → World → Prop} {x y : Operand} {b k : Nat} {T : TypeId} {cs : Array Value} {u : Value} {L : List Pc} (new : Array Value)
    (S : St W w L) (i : Nat) (e : L[i]? = some (row b T cs)) (hx : a.eval x = .pointer (some ⟨b, k, none⟩)) (hy : a.eval y = u) (hi : (Tryd.prog.info? ty).map (·.size) = some u.cells.size) (h1 : u.cells.all (·.oneCell') = true)
    (hfit : k + u.cells.toList.length ≤ cs.size) (hnew : (cs.toList.take k ++ u.cells.toList ++ cs.toList.drop (k + u.cells.toList.length)).toArray = new)
    (h : ∀ w', St W w' (L.set i (row b T new)) → K (a.put d undef) w') : Oper.wp Tryd.prog ⟨d, Op.store ty x y, tp, pos, af, none⟩ a w K Q := by
  have hg := S.row i e
  have hrun := run_storeCells_at (P := Tryd.prog) b k T u.cells.toList 0 cs w hg (by simpa using hfit) (fun v hv => (Array.all_eq_true_iff_forall_mem.1 h1) v (by simpa using hv))
  have hst : (storeVar ty ⟨b, k, none⟩ u).run Tryd.prog w = .ok () (w.setRow b new) := by
    cases hq : Tryd.prog.info? ty with
    | none => simp [hq] at hi
    | some i =>
      have hs : u.cells.size = i.size := by simp [hq] at hi; omega
      simp only [Nat.add_zero] at hrun
      rw [hnew] at hrun
      simp [storeVar, sizeOf, typeInfo, hq, hs, hrun]
  unfold Oper.wp execOp
  simp only [hx, hy, Instr.storeAt, Instr.sureAddr, Sem.run_bind, Sem.run_pure, Result.andThen_ok, hst]
  have hnr := setRow_heap w b cs new T _ hg
  have hgr : w.grownBy (w.setRow b new) (some b) := ⟨rfl, rfl, rfl, by simp, fun k _ hk => setRow_other w b k new (fun e => hk (by rw [e]))⟩
  exact h _ (S.upd i e fun _ S' => S'.set hnr hgr)
/-- what l09Draw answers -/
def DrawAns (g : Nat) (A : Option Addr) (n c : Nat) (W : World) (L : List Pc) (e : Ending) (w' : World) : Prop := VtAns W (curP' g A n c :: L) e w'
theorem q_draw {W w : World} {L : List Pc} {c a b o u x y r : Pc} (S : St W w (c :: a :: b :: o :: u :: x :: y :: r :: L)) : St W w (c :: a :: b :: u :: L) := by
  have h1 : St W w (c :: a :: b :: u :: x :: y :: r :: L) := (S.bring 3 rfl).drop
  have h2 : St W w (c :: a :: b :: u :: y :: r :: L) := (h1.bring 4 rfl).drop
  have h3 : St W w (c :: a :: b :: u :: r :: L) := (h2.bring 4 rfl).drop
  exact (h3.bring 4 rfl).drop
set_option linter.unusedSimpArgs false in
set_option maxRecDepth 100000 in
set_option maxHeartbeats 16000000 in
theorem spec_l09Draw (g : Nat) (A : Option Addr) (n c : Nat) (l : List UInt8) (W w : World) (L : List Pc) (hr : RB W A n c l) (S : St W w (curP' g A n c :: L)) :
    Calls Tryd.prog 90 #[.pointer (some ⟨g, 0, none⟩)] w (DrawAns g A n c W L) := by
  have S0 := (S.alloc zeroVt 58).swap
  clear S
  go_enter Tryd.func90, Tryd.ntmps90
  go_wp2_with fail
  refine Calls.mono (spec_l08Draw g A n c l W _ _ hr S0) ?_; rintro e w1 ⟨G, A1, n1, c1, rfl, hG, S1⟩
  have HG := Lib.hid hG; clear S0 hG
  have S2 := S1.alloc zeroVt 58
  clear S1
  go_wp2_with ((with_reducible refine wp_setA (k := 0) (u := .agg (vA (newV G) (.slice A1 n1 c1) (.slice none 0 0) (.slice none 0 0))) (vA (newV G) (.slice A1 n1 c1) (.slice none 0 0) (.slice none 0 0)) S2 0 rfl ?_ ?_ ?_ ?_ ?_ ?_ ?_); go_must (exact rfl); go_must (exact rfl); go_must (kernel_rfl); go_must (kernel_rfl); go_must (exact Nat.le_of_ble_eq_true (by kernel_rfl)); go_must (kernel_rfl))
  intro w2 S3
  clear S2
  generalize w1.heap.size = b3 at *
  have S4 : St W w2 (curP' g A n c :: row b3 58 (vA (newV G) (.slice A1 n1 c1) (.slice none 0 0) (.slice none 0 0)) :: ownI (.slice A1 n1 c1) G.C :: row w.heap.size 58 zeroVt :: L) := S3.bring 2 rfl
  clear S3
  have SS := Lib.hid S4.drew; clear S4
  go_wp2_with fail
  refine wp_region_held_drew (S := fun w' => w'.heap[b3]? = some (.cells (vA (newV G) (.slice A1 n1 c1) (.slice none 0 0) (.slice none 0 0)) 58 (0, 0))) (by kernel_rfl) (SS.out.row 1 rfl) (fun hHeld => ?_)
  refine wpAnyH_take (i := 0) (v := .agg (vA (newV G) (.slice A1 n1 c1) (.slice none 0 0) (.slice none 0 0))) rfl (by kernel_rfl) (by kernel_rfl) (by kernel_rfl) (fun _ _ _ h => h) (yieldsIf_row (by rfl) _ _ rfl b3 rfl _ _ _ (fun _ h => h) Tryd.underlying58 rfl (by kernel_rfl)) hHeld ?_
  (try simp only [Act.put, List.setIfInBounds_toArray, List.set_cons_zero, List.set_cons_succ])
  refine wpAnyH_take (i := 1) (v := .pointer (some ⟨g, 0, none⟩)) rfl (by kernel_rfl) (by kernel_rfl) (by kernel_rfl) (fun _ _ _ h => h) (Or.inl ⟨by rfl, fun w hSw => by go_simp⟩) hHeld ?_
  (try simp only [Act.put, List.setIfInBounds_toArray, List.set_cons_zero, List.set_cons_succ])
  refine wpAnyH_ready (rs := [2]) (by kernel_rfl) (by simp) ?_
  refine AllReadyH.cons rfl (fun K hK => ?_) AllReadyH.nil
  rw [if_pos (by rfl)]
  go_simp
  refine Calls.mono (spec_l09Out g A n c l W _ _ hr SS.out) ?_; rintro e w3 ⟨A2, n2, c2, t, rfl, S5⟩
  refine hK.out _ _ (S5.row 2 rfl) (fun hHeld => ?_)
  clear hK K
  (try simp only [Act.put, List.setIfInBounds_toArray, List.set_cons_zero, List.set_cons_succ])
  refine wpAnyH_ready (rs := [3]) (by kernel_rfl) (by simp) ?_
  refine AllReadyH.cons rfl (fun K hK => ?_) AllReadyH.nil
  rw [if_pos (by rfl)]
  go_simp
  refine Calls.mono (spec_VtFeed_new G A1 n1 c1 A2 n2 c2 t _ ((S5.ownI 3 rfl).ri) HG.out ((S5.ownB 0 rfl).rb)) ?_; rintro e w4 ⟨V, B1, B2, B3, k1, d1, k2, d2, k3, d3, rfl, hV, T6⟩
  have HV := Lib.hid hV; clear hV
  have S6 := S5.joined T6
  clear S5 T6 SS
  refine hK.out _ _ (S6.row 5 rfl) (fun hHeld => ?_)
  clear hK K
  (try simp only [Act.put, List.setIfInBounds_toArray, List.set_cons_zero, List.set_cons_succ])
  refine wpAnyH_ready (rs := [4]) (by kernel_rfl) (by simp) ?_
  refine AllReadyH.cons rfl (fun K hK => ?_) AllReadyH.nil
  rw [if_pos (by rfl)]
  refine op_setA (k := 0) (u := .agg (vA V (.slice B1 k1 d1) (.slice B2 k2 d2) (.slice B3 k3 d3))) (vA V (.slice B1 k1 d1) (.slice B2 k2 d2) (.slice B3 k3 d3)) S6 7 rfl rfl rfl (by kernel_rfl) (by kernel_rfl) (Nat.le_of_ble_eq_true (by kernel_rfl)) (by kernel_rfl) ?_
  intro w7 S7
  clear S6
  refine hK.out _ _ (S7.row 5 rfl) (fun hHeld => ?_)
  clear hK K
  (try simp only [Act.put, List.setIfInBounds_toArray, List.set_cons_zero, List.set_cons_succ])
  refine wpAnyH_done (by kernel_rfl) ?_ _
  obtain ⟨lc, -, -⟩ := S7.cells 7 rfl
  go_wp2_with fail
  exact bodyPost_ret (v := .agg (vA V (.slice B1 k1 d1) (.slice B2 k2 d2) (.slice B3 k3 d3))) (by simp [results, Tryd.results90, go_sem, lc]) rfl ⟨V, B1, B2, B3, k1, d1, k2, d2, k3, d3, rfl, HV.out, q_draw S7⟩
end Go.Proofs.YtohjjhoobikioaaDoor
/-! spec.MakeTerminal. -/
namespace Go.Proofs.YtohjjhoobikioaaDoor
open Go.RowKit

/-- what MakeTerminal answers -/
def TermAns (W : World) (e : Ending) (w' : World) : Prop := ∃ (V : VtS) (a : Gr) (Ac : Option Addr) (nc cc : Nat) (Aa : Option Addr) (na ca : Nat) (Ap : Option Addr) (np cp : Nat) (Ab : Option Addr) (nb cb : Nat),
  e = .returned (.tuple #[.agg (vA V (.slice Ac nc cc) (.slice Aa na ca) (.slice Ap np cp)), .agg (gA a (.slice Ab nb cb))]) ∧ VtV V ∧ V.S = 0 ∧ gridOk a = true ∧ a.W = V.G.W ∧ a.H = V.G.H ∧ a.R = false ∧ RI w' Ac nc cc V.G.C ∧ RI w' Aa na ca V.P ∧ RB w' Ap np cp V.B ∧ RI w' Ab nb cb a.C ∧ Ext W w'
theorem vt_plainV {V : VtS} (hV : VtV V) (hS : V.S ≠ 0) : VtV { V with S := 0, P := [] } := by
  obtain ⟨⟨a1, a2, a3, a4, a5, a6⟩, b1, b2⟩ := hV
  have hb : V.B = [] := by rcases b2 with h | ⟨h, -⟩; exact h; exact absurd h hS
  exact ⟨⟨a1, by simp, by simp, by simp, a5, a6⟩, .inl rfl, .inl hb⟩
theorem q_plain {W w : World} {L : List Pc} {r c a b : Pc} (S : St W w (r :: c :: a :: b :: L)) : St W w (r :: c :: ownI (.slice none 0 0) [] :: b :: L) := by
  have h1 : St W w (r :: c :: b :: L) := (S.bring 2 rfl).drop
  have h2 : St W w (ownI (.slice none 0 0) [] :: r :: c :: b :: L) := h1.nilI
  have h3 : St W w (c :: ownI (.slice none 0 0) [] :: r :: b :: L) := h2.bring 2 rfl
  exact h3.bring 2 rfl
set_option linter.unusedSimpArgs false in
set_option maxRecDepth 100000 in
set_option maxHeartbeats 32000000 in
theorem spec_MakeTerminal (A : Option Addr) (n c : Nat) (l : List UInt8) (W : World) (hr : RB W A n c l) (hn : n ≤ 1048576) :
    Calls Tryd.prog 51 #[.slice A n c] W (TermAns W) := by
  have X0 := ((Ext.refl W).alloc (.cells zeroVt 58)).alloc (.cells zeroG 40)
  have S0 := ((St.refl W).alloc zeroVt 58).alloc zeroG 40
  rw [World.size_alloc] at S0
  go_enter Tryd.func51, Tryd.ntmps51
  go_wp2_with fail
  refine (spec_l01New A n c l _ (hr.ext X0) (by omega)).mono ?_; rintro e w1 ⟨g, rfl, hWg, hcur, x1⟩
  have S1 : St W w1 [curP' g A n c, row (W.heap.size + 1) 40 zeroG, row W.heap.size 58 zeroVt] :=
    S0.more x1 (F := [g]) ⟨rfl, hcur.2.2⟩ (by simp) (fun b hb => by simp at hb; subst hb; exact ⟨hWg, hcur.lt⟩)
  clear S0 x1 hcur hWg X0
  go_wp2_with fail
  refine Calls.mono (spec_l09Draw g A n c l W _ _ hr S1) ?_; rintro e w2 ⟨V0, B1, B2, B3, k1, d1, k2, d2, k3, d3, rfl, hV, S2⟩
  have HV0 := Lib.hid hV; clear hV S1
  have S3 := S2.alloc zeroVt 58
  clear S2
  go_wp2_with ((with_reducible refine wp_setA (k := 0) (u := .agg (vA V0 (.slice B1 k1 d1) (.slice B2 k2 d2) (.slice B3 k3 d3))) (vA V0 (.slice B1 k1 d1) (.slice B2 k2 d2) (.slice B3 k3 d3)) S3 0 rfl ?_ ?_ ?_ ?_ ?_ ?_ ?_); go_must (exact rfl); go_must (exact rfl); go_must (kernel_rfl); go_must (kernel_rfl); go_must (exact Nat.le_of_ble_eq_true (by kernel_rfl)); go_must (kernel_rfl))
  intro w3 S4
  clear S3
  generalize w2.heap.size = b5 at *
  have S4 : St W w3 (row b5 58 (vA V0 (.slice B1 k1 d1) (.slice B2 k2 d2) (.slice B3 k3 d3)) :: vo (.slice B1 k1 d1) (.slice B2 k2 d2) (.slice B3 k3 d3) V0 [curP' g A n c, row (W.heap.size + 1) 40 zeroG, row W.heap.size 58 zeroVt]) := S4
  obtain ⟨lc, lf, ls⟩ := S4.cells 0 rfl
  go_upto_if 13 with fail
  go_cut [] (fun wx => ∃ (V : VtS) (B1 B2 B3 : Option Addr) (k1 d1 k2 d2 k3 d3 : Nat), Hid (VtV V) ∧ Hid (V.S = 0) ∧ St W wx (row b5 58 (vA V (.slice B1 k1 d1) (.slice B2 k2 d2) (.slice B3 k3 d3)) :: vo (.slice B1 k1 d1) (.slice B2 k2 d2) (.slice B3 k3 d3) V [curP' g A n c, row (W.heap.size + 1) 40 zeroG, row W.heap.size 58 zeroVt]))
  case first =>
    by_cases hs : V0.S = 0
    · have hb1 : (V0.S != 0) = false := by simp [hs]
      have hb2 : (V0.S == 0) = true := by simp [hs]
      have HS := Lib.hid hs; clear hs
      go_wp2_with fail
      go_meet
      exact ⟨V0, B1, B2, B3, k1, d1, k2, d2, k3, d3, HV0.out, HS.out, S4⟩
    · have hb1 : (V0.S != 0) = true := by simp [hs]
      have hb2 : (V0.S == 0) = false := by simp [hs]
      have HS := Lib.hid hs; clear hs
      have S5 := (S4.setc 0 rfl 6 (.int .i64 0)).setc 0 rfl 7 (.slice none 0 0)
      have S5 : St W _ (row b5 58 (vA { V0 with S := 0, P := [] } (.slice B1 k1 d1) (.slice none 0 0) (.slice B3 k3 d3)) :: vo (.slice B1 k1 d1) (.slice B2 k2 d2) (.slice B3 k3 d3) V0 [curP' g A n c, row (W.heap.size + 1) 40 zeroG, row W.heap.size 58 zeroVt]) := S5
      go_wp2_with fail
      go_meet
      exact ⟨{ V0 with S := 0, P := [] }, B1, none, B3, k1, d1, 0, 0, k3, d3, vt_plainV HV0.out HS.out, rfl, q_plain S5⟩
  case rest =>
    clear lc lf ls S4 HV0
    obtain ⟨V, B1, B2, B3, k1, d1, k2, d2, k3, d3, HV, HS, S⟩ := hcut
    have hlen : k1 ≤ 8000 := by
      obtain ⟨-, -, -, -, q5, q6⟩ := gridOk_d HV.out.i.g
      have := (S.ownI 1 rfl).ri.len
      omega
    obtain ⟨lc, lf, ls⟩ := S.cells 0 rfl
    go_wp2_with fail
    refine Calls.mono (spec_l08Copy V.G B1 k1 d1 _ ((S.ownI 1 rfl).ri) (by omega)) ?_; rintro e w4 ⟨v4, rfl, own4, x4⟩
    obtain ⟨A4, n4, c4, rfl⟩ := own4.form'
    have S5 := ((S.newI own4 x4).bring 5 rfl).swap
    clear S own4 x4 lc lf ls
    have HG := Lib.hid HV.out.i.g
    go_wp2_with fail
    refine Calls.mono (spec_l08Fill V.G A4 n4 c4 8 g A n c l W _ _ hr S5 HG.out (by omega) (by omega)) ?_; rintro e w7 ⟨Gc, A7, n7, c7, rfl, hGc, hcW, hcH, S8⟩
    have HGc := Lib.hid hGc; have HcW := Lib.hid hcW; have HcH := Lib.hid hcH
    clear S5 hGc hcW hcH HG
    have S9 := S8.alloc zeroG 40
    clear S8
    go_wp2_with ((with_reducible refine wp_setA (k := 0) (u := .agg (gA Gc (.slice A7 n7 c7))) (gA Gc (.slice A7 n7 c7)) S9 0 rfl ?_ ?_ ?_ ?_ ?_ ?_ ?_); go_must (exact rfl); go_must (exact rfl); go_must (kernel_rfl); go_must (kernel_rfl); go_must (exact Nat.le_of_ble_eq_true (by kernel_rfl)); go_must (kernel_rfl))
    intro w8 S10
    clear S9
    generalize w7.heap.size = b6 at *
    have SS := Lib.hid S10.drew; clear S10
    obtain ⟨d1', d2', d3', d4', -, -⟩ := gridOk_d HGc.out
    go_wp2_with fail
    refine wp_region_held_drew (S := fun w' => w'.heap[b5]? = some (.cells (vA V (.slice B1 k1 d1) (.slice B2 k2 d2) (.slice B3 k3 d3)) 58 (0, 0)) ∧ w'.heap[b6]? = some (.cells (gA Gc (.slice A7 n7 c7)) 40 (0, 0))) (by kernel_rfl) ⟨SS.out.row 3 rfl, SS.out.row 0 rfl⟩ (fun hHeld => ?_)
    refine wpAnyH_take (i := 0) (v := .agg (vA V (.slice B1 k1 d1) (.slice B2 k2 d2) (.slice B3 k3 d3))) rfl (by kernel_rfl) (by kernel_rfl) (by kernel_rfl) (fun _ _ _ h => h) (yieldsIf_row (by rfl) _ _ rfl b5 rfl _ _ _ (fun _ h => h.1) Tryd.underlying58 rfl (by kernel_rfl)) hHeld ?_
    (try simp only [Act.put, List.setIfInBounds_toArray, List.set_cons_zero, List.set_cons_succ])
    refine wpAnyH_take (i := 1) (v := .agg (gA Gc (.slice A7 n7 c7))) rfl (by kernel_rfl) (by kernel_rfl) (by kernel_rfl) (fun _ _ _ h => h) (yieldsIf_row (by rfl) _ _ rfl b6 rfl _ _ _ (fun _ h => h.2) Tryd.underlying40 rfl (by kernel_rfl)) hHeld ?_
    (try simp only [Act.put, List.setIfInBounds_toArray, List.set_cons_zero, List.set_cons_succ])
    refine wpAnyH_take (i := 2) (v := .pointer (some ⟨g, 0, none⟩)) rfl (by kernel_rfl) (by kernel_rfl) (by kernel_rfl) (fun _ _ _ h => h) (Or.inl ⟨by rfl, fun w hSw => by go_simp⟩) hHeld ?_
    (try simp only [Act.put, List.setIfInBounds_toArray, List.set_cons_zero, List.set_cons_succ])
    refine wpAnyH_take (i := 3) (v := .pointer (some ⟨b6, 0, none⟩)) rfl (by kernel_rfl) (by kernel_rfl) (by kernel_rfl) (fun _ _ _ h => h) (Or.inl ⟨by rfl, fun w hSw => by go_simp⟩) hHeld ?_
    (try simp only [Act.put, List.setIfInBounds_toArray, List.set_cons_zero, List.set_cons_succ])
    refine wpAnyH_take (i := 4) (v := .int .i64 Gc.W) rfl (by kernel_rfl) (by kernel_rfl) (by kernel_rfl) (fun _ _ _ h => h) (Or.inl ⟨by rfl, fun w hSw => by have hrow := rowAll hSw.2; obtain ⟨lc, -, -⟩ := hrow; go_simp⟩) hHeld ?_
    (try simp only [Act.put, List.setIfInBounds_toArray, List.set_cons_zero, List.set_cons_succ])
    refine wpAnyH_take (i := 6) (v := .pointer (some ⟨g, 0, none⟩)) rfl (by kernel_rfl) (by kernel_rfl) (by kernel_rfl) (fun _ _ _ h => h) (Or.inl ⟨by rfl, fun w hSw => by go_simp⟩) hHeld ?_
    (try simp only [Act.put, List.setIfInBounds_toArray, List.set_cons_zero, List.set_cons_succ])
    refine wpAnyH_take (i := 7) (v := .pointer (some ⟨b6, 1, none⟩)) rfl (by kernel_rfl) (by kernel_rfl) (by kernel_rfl) (fun _ _ _ h => h) (Or.inl ⟨by rfl, fun w hSw => by go_simp⟩) hHeld ?_
    (try simp only [Act.put, List.setIfInBounds_toArray, List.set_cons_zero, List.set_cons_succ])
    refine wpAnyH_take (i := 8) (v := .int .i64 Gc.H) rfl (by kernel_rfl) (by kernel_rfl) (by kernel_rfl) (fun _ _ _ h => h) (Or.inl ⟨by rfl, fun w hSw => by have hrow := rowAll hSw.2; obtain ⟨lc, -, -⟩ := hrow; go_simp⟩) hHeld ?_
    (try simp only [Act.put, List.setIfInBounds_toArray, List.set_cons_zero, List.set_cons_succ])
    refine wpAnyH_ready (rs := [5]) (by kernel_rfl) (by simp) ?_
    refine AllReadyH.cons rfl (fun K hK => ?_) AllReadyH.nil
    rw [if_pos (by rfl)]
    go_simp
    refine Calls.mono (below_S SS.out 2 rfl hr Gc.W (by omega)) ?_; rintro e w10 ⟨x10, hx100, hx101, rfl, S10⟩
    refine hK.out _ _ ⟨S10.row 3 rfl, S10.row 0 rfl⟩ (fun hHeld => ?_)
    clear hK K
    (try simp only [Act.put, List.setIfInBounds_toArray, List.set_cons_zero, List.set_cons_succ])
    refine wpAnyH_ready (rs := [9]) (by kernel_rfl) (by simp) ?_
    refine AllReadyH.cons rfl (fun K hK => ?_) AllReadyH.nil
    rw [if_pos (by rfl)]
    go_simp
    refine Calls.mono (below_S S10 2 rfl hr Gc.H (by omega)) ?_; rintro e w11 ⟨y11, hy110, hy111, rfl, S11⟩
    clear S10 SS
    refine hK.out _ _ ⟨S11.row 3 rfl, S11.row 0 rfl⟩ (fun hHeld => ?_)
    clear hK K
    (try simp only [Act.put, List.setIfInBounds_toArray, List.set_cons_zero, List.set_cons_succ])
    refine wpAnyH_ready (rs := [10]) (by kernel_rfl) (by simp) ?_
    refine AllReadyH.cons rfl (fun K hK => ?_) AllReadyH.nil
    rw [if_pos (by rfl)]
    go_simp
    refine Calls.mono (spec_GridGo Gc A7 n7 c7 x10 y11 _ ((S11.ownI 1 rfl).ri) HGc.out) ?_; rintro e w12 ⟨v12, rfl, own12, x12⟩
    obtain ⟨A12, n12, c12, rfl⟩ := own12.form'
    have S12 := S11.newI own12 x12
    clear S11 own12 x12
    refine hK.out _ _ ⟨S12.row 4 rfl, S12.row 1 rfl⟩ (fun hHeld => ?_)
    clear hK K
    (try simp only [Act.put, List.setIfInBounds_toArray, List.set_cons_zero, List.set_cons_succ])
    refine wpAnyH_ready (rs := [11]) (by kernel_rfl) (by simp) ?_
    refine AllReadyH.cons rfl (fun K hK => ?_) AllReadyH.nil
    rw [if_pos (by rfl)]
    refine op_setA (k := 0) (u := .agg (vA V (.slice B1 k1 d1) (.slice B2 k2 d2) (.slice B3 k3 d3))) (vA V (.slice B1 k1 d1) (.slice B2 k2 d2) (.slice B3 k3 d3)) S12 9 rfl rfl rfl (by kernel_rfl) (by kernel_rfl) (Nat.le_of_ble_eq_true (by kernel_rfl)) (by kernel_rfl) ?_
    intro w13 S13
    clear S12
    refine hK.out _ _ ⟨S13.row 4 rfl, S13.row 1 rfl⟩ (fun hHeld => ?_)
    clear hK K
    (try simp only [Act.put, List.setIfInBounds_toArray, List.set_cons_zero, List.set_cons_succ])
    refine wpAnyH_ready (rs := [12]) (by kernel_rfl) (by simp) ?_
    refine AllReadyH.cons rfl (fun K hK => ?_) AllReadyH.nil
    rw [if_pos (by rfl)]
    refine op_setA (k := 0) (u := .agg #[.int .i64 Gc.W, .int .i64 Gc.H, .slice A12 n12 c12, .int .i64 (goG Gc x10 y11).X, .int .i64 (goG Gc x10 y11).Y, .bool false]) (#[.int .i64 Gc.W, .int .i64 Gc.H, .slice A12 n12 c12, .int .i64 (goG Gc x10 y11).X, .int .i64 (goG Gc x10 y11).Y, .bool false]) S13 8 rfl rfl rfl (by kernel_rfl) (by kernel_rfl) (Nat.le_of_ble_eq_true (by kernel_rfl)) (by kernel_rfl) ?_
    intro w14 S14
    clear S13
    refine hK.out _ _ ⟨S14.row 4 rfl, S14.row 1 rfl⟩ (fun hHeld => ?_)
    clear hK K
    (try simp only [Act.put, List.setIfInBounds_toArray, List.set_cons_zero, List.set_cons_succ])
    refine wpAnyH_done (by kernel_rfl) ?_ _
    obtain ⟨lcA, -, -⟩ := S14.cells 9 rfl
    obtain ⟨lcB, -, -⟩ := S14.cells 8 rfl
    go_wp2_with fail
    exact bodyPost_ret (v := .tuple #[.agg (vA V (.slice B1 k1 d1) (.slice B2 k2 d2) (.slice B3 k3 d3)), .agg #[.int .i64 Gc.W, .int .i64 Gc.H, .slice A12 n12 c12, .int .i64 (goG Gc x10 y11).X, .int .i64 (goG Gc x10 y11).Y, .bool false]]) (by simp [results, Tryd.results51, go_sem, lcA, lcB]) rfl ⟨V, goG Gc x10 y11, B1, k1, d1, B2, k2, d2, B3, k3, d3, A12, n12, c12, rfl, HV.out, HS.out, goG_ok HGc.out x10 y11, HcW.out, HcH.out, rfl, (S14.ownI 5 rfl).ri, (S14.ownI 6 rfl).ri, (S14.ownB 7 rfl).rb, (S14.ownI 0 rfl).ri, S14.ext⟩
end Go.Proofs.YtohjjhoobikioaaDoor
