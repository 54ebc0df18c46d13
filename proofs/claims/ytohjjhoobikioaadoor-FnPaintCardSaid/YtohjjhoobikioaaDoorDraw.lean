/-
  Of several texts: Draw, Draw2.
-/
import Derived.Test.YtohjjhoobikioaaDoorFull
import Derived.Test.YtohjjhoobikioaaDoorCur
import Derived.Deep.RegionWith
/-! The draws of grids (spec.l08Draw and what it calls; MakeGrids): what they make is valid. -/
namespace Go.Proofs.YtohjjhoobikioaaDoor
open Go.RowKit

theorem set_same {α : Type} {L : List α} {i : Nat} {h : α} (e : L[i]? = some h) : L.set i h = L := by
  apply List.ext_getElem?
  intro j
  rw [List.getElem?_set]
  split
  · rename_i h1
    subst h1
    rw [if_pos (List.getElem?_eq_some_iff.1 e).1, e]
  · rfl
/-- the cursor of the draws -/
def curP' (g : Nat) (A : Option Addr) (n c : Nat) : Pc :=
  ⟨fun w F => F = [g] ∧ ∃ (i : Nat) (h : Int), i ≤ n ∧ w.heap[g]? = some (.cells #[.slice A n c, .int .i64 i, .int .i64 h] 124 (0, 0)),
    fun {w w' F} h k => by
      obtain ⟨rfl, i, x, hi, hh⟩ := h
      exact ⟨rfl, i, x, hi, (k g (by simp)).trans hh⟩⟩
theorem St.curAt {W w : World} {g : Nat} {A : Option Addr} {n c : Nat} {l : List UInt8} {L : List Pc} (S : St W w L) (i : Nat) (e : L[i]? = some (curP' g A n c)) (hr : RB W A n c l) : CurAt w g A n c l := by
  obtain ⟨F, s, _, hb⟩ := (S.bring i e).sep
  obtain ⟨F1, _, rfl, ⟨rfl, x⟩, _⟩ := s.uncons
  refine ⟨hr.ext S.ext, fun hn b o eA => ?_, x⟩
  obtain ⟨b', o', e', hc⟩ := hr.at_ hn
  rw [eA] at e'
  injection e' with e'
  injection e' with e1 e2
  subst e1
  have h1 := World.block_lt_of_cell? W ⟨b, o' + 0, none⟩ (hc 0 hn)
  have h2 := (hb g (by simp)).1
  simp only at h1
  omega
theorem St.curStep {W w w' : World} {g : Nat} {A : Option Addr} {n c : Nat} {l : List UInt8} {L : List Pc} (S : St W w L) (i : Nat) (e : L[i]? = some (curP' g A n c)) (h : CurAt w' g A n c l) (hg : w.grownBy w' (some g)) : St W w' L := by
  have k := S.upd (w' := w') (h' := curP' g A n c) i e (fun L' S' => by
    obtain ⟨F, ⟨hF, _⟩, _, hbd, k⟩ := S'.open_
    subst hF
    refine k w' _ [g] hg.os hg.tape hg.output hg.size (fun b hb hne => hg.block b hb (fun e => hne (by injection e with e; simp [e]))) ⟨rfl, h.2.2⟩ (by simp) (fun b hb => ?_)
    have := (hbd g (by simp)).2
    have := hg.size
    simp at hb; subst hb
    exact ⟨.inl (by simp), by omega⟩)
  rwa [set_same e] at k
theorem St.newCur {W w' : World} {g : Nat} {A : Option Addr} {n c : Nat} {l : List UInt8} (hW : W.heap.size ≤ g) (h : CurAt w' g A n c l) (x : Ext W w') : St W w' [curP' g A n c] :=
  (St.refl W).more x (F := [g]) ⟨rfl, h.2.2⟩ (by simp) (fun b hb => by simp at hb; subst hb; exact ⟨hW, h.lt⟩)

theorem below_S {W w : World} {g : Nat} {A : Option Addr} {n c : Nat} {l : List UInt8} {L : List Pc} (S : St W w L) (i : Nat) (e : L[i]? = some (curP' g A n c)) (hr : RB W A n c l) (m : Int) (hm : m ≤ 4611686018427387904) :
    Calls Tryd.prog 65 #[.pointer (some ⟨g, 0, none⟩), .int .i64 m] w fun e w' => ∃ x : Int, 0 ≤ x ∧ x < max m 1 ∧ e = .returned (.int .i64 x) ∧ St W w' L :=
  (spec_l01Below g A n c l m w (S.curAt i e hr) hm).mono fun _ _ ⟨⟨x, h0, h1, h2⟩, h3, h4⟩ => ⟨x, h0, h1, h2, S.curStep i e h3 h4⟩
theorem rune_S {W w : World} {g : Nat} {A : Option Addr} {n c : Nat} {l : List UInt8} {L : List Pc} (S : St W w L) (i : Nat) (e : L[i]? = some (curP' g A n c)) (hr : RB W A n c l) :
    Calls Tryd.prog 101 #[.pointer (some ⟨g, 0, none⟩)] w fun e w' => ∃ x : Int, e = .returned (.int .i64 x) ∧ St W w' L :=
  (spec_l02Rune g A n c l w (S.curAt i e hr)).mono fun _ _ ⟨⟨x, _, h2⟩, h3, h4⟩ => ⟨x, h2, S.curStep i e h3 h4⟩

set_option maxRecDepth 100000 in
set_option maxHeartbeats 2000000 in
theorem spec_l08Sized (g : Nat) (A : Option Addr) (n c : Nat) (l : List UInt8) (W w : World) (L : List Pc) (hr : RB W A n c l) (S : St W w (curP' g A n c :: L)) :
    Calls Tryd.prog 99 #[.pointer (some ⟨g, 0, none⟩)] w fun e w' => ∃ (G : Gr) (A1 : Option Addr) (n1 c1 : Nat), e = .returned (.agg (gridCs G (.slice A1 n1 c1))) ∧ gridOk G = true ∧ St W w' (ownI (.slice A1 n1 c1) G.C :: curP' g A n c :: L) := by
  have S0 := S.alloc zeroG 40
  clear S
  go_enter Tryd.func99, Tryd.ntmps99
  go_wp2_with fail
  refine (below_S S0 1 rfl hr 9 (by omega)).mono ?_; rintro e w1 ⟨x, hx0, hx1, rfl, S1⟩
  clear S0
  go_wp2_with fail
  refine (below_S S1 1 rfl hr 4 (by omega)).mono ?_; rintro e w2 ⟨y, hy0, hy1, rfl, S2⟩
  clear S1
  have hok : newOk (2 + x) (1 + y) := by
    refine ⟨by omega, by omega, by omega, by omega, ?_⟩
    have h1 : (2 + x) * (1 + y) ≤ 10 * (1 + y) := Int.mul_le_mul_of_nonneg_right (by omega) (by omega)
    omega
  obtain ⟨m, hm⟩ := newOk_m hok
  have HO := Lib.hid hok; have HM := Lib.hid hm
  clear hok hm
  go_wp2_with fail
  refine (spec_GridNew_yes (2 + x) (1 + y) m _ HO.out HM.out).mono ?_; rintro e w3 ⟨v3, rfl, own3, x3⟩
  obtain ⟨A3, n3, c3, rfl⟩ := own3.form'
  have S3 := (S2.newI own3 x3).alloc #[.int .i64 (2 + x), .int .i64 (1 + y), .slice A3 n3 c3, .int .i64 0, .int .i64 0, .bool false] 40
  clear S2 own3 x3
  obtain ⟨lc, lf, ls⟩ := S3.cells 0 rfl
  generalize w3.heap.size = b3 at *
  go_wp2_with ((with_reducible refine wp_setA (k := 0) (u := .agg #[.int .i64 (2 + x), .int .i64 (1 + y), .slice A3 n3 c3, .int .i64 0, .int .i64 0, .bool false]) #[.int .i64 (2 + x), .int .i64 (1 + y), .slice A3 n3 c3, .int .i64 0, .int .i64 0, .bool false] S3 2 rfl ?_ ?_ ?_ ?_ ?_ ?_ ?_); go_must (exact rfl); go_must (exact rfl); go_must (kernel_rfl); go_must (kernel_rfl); go_must (exact Nat.le_of_ble_eq_true (by kernel_rfl)); go_must (kernel_rfl))
  intro w4 S4
  obtain ⟨lc4, -, -⟩ := S4.cells 2 rfl
  go_wp2_with fail
  have hG := newG_ok HO.out
  have hC : (newG (2 + x) (1 + y)).C = List.replicate m 32 := by show List.replicate ((2 + x) * (1 + y)).toNat 32 = _; rw [← HM.out]; rfl
  refine bodyPost_ret (v := .agg #[.int .i64 (2 + x), .int .i64 (1 + y), .slice A3 n3 c3, .int .i64 0, .int .i64 0, .bool false]) (by simp [results, Tryd.results99, go_sem, lc4]) rfl ⟨newG (2 + x) (1 + y), A3, n3, c3, rfl, hG, ?_⟩
  rw [hC]
  exact S4.drop.swap.drop

theorem putG_dims (g : Gr) (r : Int) : (putG g r).W = g.W ∧ (putG g r).H = g.H := by
  by_cases h : width r = 0
  · unfold putG; rw [if_pos h]; exact ⟨rfl, rfl⟩
  · rw [putG_eq g r h]
    have := wrapG_dims g (width r)
    unfold stepG
    split <;> exact this
set_option maxRecDepth 100000 in
set_option maxHeartbeats 4000000 in
theorem spec_l08Fill (G0 : Gr) (A0 : Option Addr) (n0 c0 : Nat) (m : Int) (g : Nat) (A : Option Addr) (n c : Nat) (l : List UInt8) (W w : World) (L : List Pc) (hr : RB W A n c l) (S : St W w (ownI (.slice A0 n0 c0) G0.C :: curP' g A n c :: L)) (hg : gridOk G0 = true) (hm0 : 0 ≤ m) (hm : m ≤ 1000) :
    Calls Tryd.prog 67 #[.pointer (some ⟨g, 0, none⟩), .agg #[.int .i64 G0.W, .int .i64 G0.H, .slice A0 n0 c0, .int .i64 G0.X, .int .i64 G0.Y, .bool G0.R], .int .i64 m] w fun e w' => ∃ (G : Gr) (A1 : Option Addr) (n1 c1 : Nat), e = .returned (.agg (gridCs G (.slice A1 n1 c1))) ∧ gridOk G = true ∧ G.W = G0.W ∧ G.H = G0.H ∧ St W w' (ownI (.slice A1 n1 c1) G.C :: curP' g A n c :: L) := by
  have S0 := (S.alloc (gridCs G0 (.slice A0 n0 c0)) 40).alloc zeroG 40
  rw [World.size_alloc] at S0
  have Hg := Lib.hid hg
  clear S hg
  go_enter Tryd.func67, Tryd.ntmps67
  go_wp2_with fail
  refine (below_S S0 3 rfl hr (m + 1) (by omega)).mono ?_; rintro e w1 ⟨j0, hj0, hj1, rfl, S1⟩
  obtain ⟨j0, rfl⟩ := Int.eq_ofNat_of_zero_le hj0
  clear S0
  have SS : Hid (St W w1 (row w.heap.size 40 (gridCs G0 (.slice A0 n0 c0)) :: ownI (.slice A0 n0 c0) G0.C :: row (w.heap.size + 1) 40 zeroG :: curP' g A n c :: L)) := (S1.bring 2 rfl).bring 2 rfl
  clear S1
  go_wp2_with fail
  go_loopw [7] (fun vi wr => ∃ (j : Nat) (G : Gr) (A1 : Option Addr) (n1 c1 : Nat), j ≤ 2000 ∧ vi = .int .i64 j ∧ Hid (gridOk G = true) ∧ Hid (G.W = G0.W) ∧ Hid (G.H = G0.H) ∧ St W wr (row w.heap.size 40 (gridCs G (.slice A1 n1 c1)) :: ownI (.slice A1 n1 c1) G.C :: row (w.heap.size + 1) 40 zeroG :: curP' g A n c :: L)) (fun vi _ => (intOf vi).toNat)
  case atStart => exact ⟨j0, G0, A0, n0, c0, by omega, rfl, Hg.out, rfl, rfl, SS.out⟩
  case round =>
    obtain ⟨j, G, A1, n1, c1, hj, rfl, HG, HW, HH, S⟩ := hrel
    clear SS
    obtain ⟨lc, lf, ls⟩ := S.cells 0 rfl
    simp only [gridCs] at lc
    by_cases hlt : 0 < j
    · go_upto_region 4 with fail
      go_cut [] (fun wx => ∃ (G : Gr) (A1 : Option Addr) (n1 c1 : Nat), Hid (gridOk G = true) ∧ Hid (G.W = G0.W) ∧ Hid (G.H = G0.H) ∧ St W wx (row w.heap.size 40 (gridCs G (.slice A1 n1 c1)) :: ownI (.slice A1 n1 c1) G.C :: row (w.heap.size + 1) 40 zeroG :: curP' g A n c :: L))
      case first =>
        go_region_with (first
          | (go_at_call 101; (refine (rune_S S.drew 3 rfl hr).mono ?_; rintro e w2 ⟨x2, rfl, S2⟩; obtain ⟨lc2, lf2, ls2⟩ := S2.cells 0 rfl; simp only [gridCs] at lc2))
          | (go_at_call 77; refine (spec_GridPut G _ _ _ x2 _ ((S2.ownI 1 rfl).ri) HG.out).mono ?_; rintro e w3 ⟨v3, rfl, own3, x3⟩; obtain ⟨A3, n3, c3, rfl⟩ := own3.form'; have S3 := S2.newI own3 x3; obtain ⟨lc3, lf3, ls3⟩ := S3.cells 1 rfl; simp only [gridCs] at lc3))
        all_goals
          go_wp2_with fail
          go_meet
          exact ⟨putG G x2, A3, n3, c3, putG_ok HG.out x2, (putG_dims G x2).1.trans HW.out, (putG_dims G x2).2.trans HH.out,
            regrid (S3.set6 1 rfl rfl (.int .i64 (putG G x2).W) (.int .i64 (putG G x2).H) (.slice A3 n3 c3) (.int .i64 (putG G x2).X) (.int .i64 (putG G x2).Y) (.bool (putG G x2).R))⟩
      case rest =>
        clear lc lf ls S HG HW HH
        obtain ⟨G, A1, n1, c1, HG, HW, HH, S⟩ := hcut
        go_wp2_with fail
        refine (below_S S 3 rfl hr 5 (by omega)).mono ?_; rintro e w5 ⟨y, hy0, hy1, rfl, S5⟩
        clear S
        obtain ⟨lc, lf, ls⟩ := S5.cells 0 rfl
        simp only [gridCs] at lc
        obtain ⟨d1, d2, d3, d4, -, -⟩ := gridOk_d HG.out
        by_cases hy : y = 0
        · subst hy
          go_wp2_with fail
          go_region_with (first
            | (go_at_call 65; refine (below_S S7 3 rfl hr G.H (by omega)).mono ?_; rintro e w8 ⟨y8, hy80, hy81, rfl, S8⟩; obtain ⟨lc8, lf8, ls8⟩ := S8.cells 0 rfl; simp only [gridCs] at lc8)
            | (go_at_call 65; refine (below_S S5.drew 3 rfl hr G.W (by omega)).mono ?_; rintro e w7 ⟨x7, hx70, hx71, rfl, S7⟩; obtain ⟨lc7, lf7, ls7⟩ := S7.cells 0 rfl; simp only [gridCs] at lc7)
            | (go_at_call 54; refine (spec_GridGo G _ _ _ x7 y8 _ ((S8.ownI 1 rfl).ri) HG.out).mono ?_; rintro e w9 ⟨v9, rfl, own9, x9⟩; obtain ⟨A9, n9, c9, rfl⟩ := own9.form'; have S9 := S8.newI own9 x9; obtain ⟨lc9, lf9, ls9⟩ := S9.cells 1 rfl; simp only [gridCs] at lc9))
          all_goals
            go_wp2_with fail
            go_roundw
            case rel =>
              exact ⟨j - 1, goG G x7 y8, A9, n9, c9, by omega, by go_num, goG_ok HG.out x7 y8, HW.out, HH.out,
                regrid (S9.set6 1 rfl rfl (.int .i64 G.W) (.int .i64 G.H) (.slice A9 n9 c9) (.int .i64 (goG G x7 y8).X) (.int .i64 (goG G x7 y8).Y) (.bool false))⟩
            case measure => simp [intOf]; omega
        · go_wp2_with fail
          go_roundw
          case rel => exact ⟨j - 1, G, A1, n1, c1, by omega, by go_num, HG, HW, HH, S5⟩
          case measure => simp [intOf]; omega
    · go_wp2_with ((with_reducible refine wp_setA (k := 0) (u := .agg #[.int .i64 G.W, .int .i64 G.H, .slice A1 n1 c1, .int .i64 G.X, .int .i64 G.Y, .bool G.R]) (gridCs G (.slice A1 n1 c1)) S 2 rfl ?_ ?_ ?_ ?_ ?_ ?_ ?_); go_must (exact rfl); go_must (exact rfl); go_must (kernel_rfl); go_must (kernel_rfl); go_must (exact Nat.le_of_ble_eq_true (by kernel_rfl)); go_must (kernel_rfl))
      intro w9 S9
      obtain ⟨lc9, -, -⟩ := S9.cells 2 rfl
      simp only [gridCs] at lc9
      go_wp2_with fail
      refine bodyPost_ret (v := .agg #[.int .i64 G.W, .int .i64 G.H, .slice A1 n1 c1, .int .i64 G.X, .int .i64 G.Y, .bool G.R]) (by simp [results, Tryd.results67, go_sem, lc9]) rfl ⟨G, A1, n1, c1, rfl, HG.out, HW.out, HH.out, ?_⟩
      exact ((S9.bring 2 rfl).drop).drop
end Go.Proofs.YtohjjhoobikioaaDoor
/-! spec.l08Draw, spec.MakeGrids. -/
namespace Go.Proofs.YtohjjhoobikioaaDoor
open Go.RowKit

set_option maxRecDepth 100000 in
set_option maxHeartbeats 2000000 in
theorem spec_l08Draw (g : Nat) (A : Option Addr) (n c : Nat) (l : List UInt8) (W w : World) (L : List Pc) (hr : RB W A n c l) (S : St W w (curP' g A n c :: L)) :
    Calls Tryd.prog 63 #[.pointer (some ⟨g, 0, none⟩)] w fun e w' => ∃ (G : Gr) (A1 : Option Addr) (n1 c1 : Nat), e = .returned (.agg #[.int .i64 G.W, .int .i64 G.H, .slice A1 n1 c1, .int .i64 G.X, .int .i64 G.Y, .bool G.R]) ∧ gridOk G = true ∧ St W w' (ownI (.slice A1 n1 c1) G.C :: curP' g A n c :: L) := by
  have S0 := (S.alloc zeroG 40).swap
  clear S
  go_enter Tryd.func63, Tryd.ntmps63
  go_wp2_with fail
  refine (spec_l08Sized g A n c l W _ _ hr S0).mono ?_; rintro e w1 ⟨G1, A1, n1, c1, rfl, hG1, S1⟩
  clear S0
  have S2 := S1.alloc (gridCs G1 (.slice A1 n1 c1)) 40
  clear S1
  have HG1 := Lib.hid hG1; clear hG1
  obtain ⟨lc, lf, ls⟩ := S2.cells 0 rfl
  simp only [gridCs] at lc
  unfold gridCs
  go_wp2_with fail
  have S3 := S2.swap.tail (fun F s => Sep.bring 1 s rfl)
  refine (spec_l08Fill G1 A1 n1 c1 24 g A n c l W _ _ hr S3 HG1.out (by omega) (by omega)).mono ?_; rintro e w2 ⟨G2, A2, n2, c2, rfl, hG2, -, -, S4⟩
  clear S2 S3 lc lf ls
  obtain ⟨lc, lf, ls⟩ := S4.cells 3 rfl
  have HG2 := Lib.hid hG2; clear hG2
  unfold gridCs
  go_wp2_with ((with_reducible refine wp_setA (k := 0) (u := .agg #[.int .i64 G2.W, .int .i64 G2.H, .slice A2 n2 c2, .int .i64 G2.X, .int .i64 G2.Y, .bool G2.R]) #[.int .i64 G2.W, .int .i64 G2.H, .slice A2 n2 c2, .int .i64 G2.X, .int .i64 G2.Y, .bool G2.R] S4 3 rfl ?_ ?_ ?_ ?_ ?_ ?_ ?_); go_must (exact rfl); go_must (exact rfl); go_must (kernel_rfl); go_must (kernel_rfl); go_must (exact Nat.le_of_ble_eq_true (by kernel_rfl)); go_must (kernel_rfl))
  intro w3 S5
  obtain ⟨lc5, -, -⟩ := S5.cells 3 rfl
  go_wp2_with fail
  refine bodyPost_ret (v := .agg #[.int .i64 G2.W, .int .i64 G2.H, .slice A2 n2 c2, .int .i64 G2.X, .int .i64 G2.Y, .bool G2.R]) (by simp [results, Tryd.results63, go_sem, lc5]) rfl ⟨G2, A2, n2, c2, rfl, HG2.out, ?_⟩
  exact ((S5.bring 2 rfl).drop.bring 2 rfl).drop
set_option maxRecDepth 100000 in
set_option maxHeartbeats 8000000 in
theorem spec_MakeGrids (A : Option Addr) (n c : Nat) (l : List UInt8) (W : World) (hr : RB W A n c l) (hn : n ≤ 1048576) :
    Calls Tryd.prog 23 #[.slice A n c] W fun e w' => ∃ (a b : Gr) (Aa : Option Addr) (na ca : Nat) (Ab : Option Addr) (nb cb : Nat), e = .returned (.tuple #[.agg #[.int .i64 a.W, .int .i64 a.H, .slice Aa na ca, .int .i64 a.X, .int .i64 a.Y, .bool a.R], .agg #[.int .i64 b.W, .int .i64 b.H, .slice Ab nb cb, .int .i64 b.X, .int .i64 b.Y, .bool b.R]]) ∧
      gridOk a = true ∧ gridOk b = true ∧ a.W = b.W ∧ a.H = b.H ∧ b.R = false ∧ RI w' Aa na ca a.C ∧ RI w' Ab nb cb b.C ∧ Ext W w' := by
  have X0 := ((Ext.refl W).alloc (.cells zeroG 40)).alloc (.cells zeroG 40)
  have S0 := ((St.refl W).alloc zeroG 40).alloc zeroG 40
  rw [World.size_alloc] at S0
  go_enter Tryd.func23, Tryd.ntmps23
  go_wp2_with fail
  refine (spec_l01New A n c l _ (hr.ext X0) (by omega)).mono ?_; rintro e w1 ⟨g, rfl, hWg, hcur, x1⟩
  have S1 : St W w1 [curP' g A n c, row (W.heap.size + 1) 40 zeroG, row W.heap.size 40 zeroG] :=
    S0.more x1 (F := [g]) ⟨rfl, hcur.2.2⟩ (by simp) (fun b hb => by simp at hb; subst hb; exact ⟨hWg, hcur.lt⟩)
  clear S0 x1 hcur hWg X0
  go_wp2_with fail
  refine (spec_l08Draw g A n c l W _ _ hr S1).mono ?_; rintro e w2 ⟨Ga, A2, n2, c2, rfl, hGa, S2⟩
  clear S1
  have HGa := Lib.hid hGa; clear hGa
  have S3 := S2.alloc #[.int .i64 Ga.W, .int .i64 Ga.H, .slice A2 n2 c2, .int .i64 Ga.X, .int .i64 Ga.Y, .bool Ga.R] 40
  clear S2
  go_wp2_with fail
  have hlen : n2 ≤ 8000 := by
    obtain ⟨-, -, -, -, q5, q6⟩ := gridOk_d HGa.out
    have := (S3.ownI 1 rfl).ri.len
    omega
  refine (spec_l08Copy Ga _ _ _ _ ((S3.ownI 1 rfl).ri) (by omega)).mono ?_; rintro e w3 ⟨v3, rfl, own3, x3⟩
  obtain ⟨A3, n3, c3, rfl⟩ := own3.form'
  have S4 := (S3.newI own3 x3).alloc #[.int .i64 Ga.W, .int .i64 Ga.H, .slice A3 n3 c3, .int .i64 Ga.X, .int .i64 Ga.Y, .bool Ga.R] 40
  clear S3 own3 x3
  generalize w2.heap.size = b5 at *
  -- [row b6, ownI 3, row b5, ownI 2, cur, row, row]
  go_wp2_with fail
  refine (below_S S4 4 rfl hr 3 (by omega)).mono ?_; rintro e w4 ⟨x4, hx40, hx41, rfl, S5⟩
  clear S4
  generalize w3.heap.size = b6 at *
  obtain ⟨lc, lf, ls⟩ := S5.cells 2 rfl
  obtain ⟨lc2, lf2, ls2⟩ := S5.cells 0 rfl
  go_upto_if 15 with fail
  go_cut [] (fun wx => ∃ (Gb : Gr) (A5 : Option Addr) (n5 c5 : Nat), Hid (gridOk Gb = true) ∧ Hid (Gb.W = Ga.W) ∧ Hid (Gb.H = Ga.H) ∧ St W wx [row b6 40 (gridCs Gb (.slice A5 n5 c5)), ownI (.slice A5 n5 c5) Gb.C, row b5 40 #[.int .i64 Ga.W, .int .i64 Ga.H, .slice A2 n2 c2, .int .i64 Ga.X, .int .i64 Ga.Y, .bool Ga.R], ownI (.slice A2 n2 c2) Ga.C, curP' g A n c, row (W.heap.size + 1) 40 zeroG, row W.heap.size 40 zeroG])
  case first =>
    by_cases h0 : x4 = 0
    · subst h0
      have hok := newOk_of HGa.out
      obtain ⟨m, hm⟩ := newOk_m hok
      have HO := Lib.hid hok; have HM := Lib.hid hm
      clear hok hm
      go_wp2_with fail
      refine (spec_GridNew_yes Ga.W Ga.H m _ HO.out HM.out).mono ?_; rintro e w6 ⟨v6, rfl, own6, x6⟩
      obtain ⟨A6, n6, c6, rfl⟩ := own6.form'
      have S6 := S5.newI own6 x6
      clear S5 own6 x6 lc lf ls lc2 lf2 ls2
      go_wp2_with ((with_reducible refine wp_setA (k := 0) (u := .agg #[.int .i64 Ga.W, .int .i64 Ga.H, .slice A6 n6 c6, .int .i64 0, .int .i64 0, .bool false]) #[.int .i64 Ga.W, .int .i64 Ga.H, .slice A6 n6 c6, .int .i64 0, .int .i64 0, .bool false] S6 1 rfl ?_ ?_ ?_ ?_ ?_ ?_ ?_); go_must (exact rfl); go_must (exact rfl); go_must (kernel_rfl); go_must (kernel_rfl); go_must (exact Nat.le_of_ble_eq_true (by kernel_rfl)); go_must (kernel_rfl))
      intro w7 S7
      go_wp2_with fail
      go_meet
      have hC : (newG Ga.W Ga.H).C = List.replicate m 32 := by show List.replicate (Ga.W * Ga.H).toNat 32 = _; rw [← HM.out]; rfl
      refine ⟨newG Ga.W Ga.H, A6, n6, c6, newG_ok HO.out, rfl, rfl, ?_⟩
      rw [hC]
      exact regrid S7
    · go_wp2_with fail
      go_meet
      exact ⟨Ga, A3, n3, c3, HGa.out, rfl, rfl, S5⟩
  case rest =>
    clear lc lf ls lc2 lf2 ls2 S5
    obtain ⟨Gb, A5, n5, c5, HGb, HbW, HbH, S6⟩ := hcut
    obtain ⟨lc, lf, ls⟩ := S6.cells 0 rfl
    simp only [gridCs] at lc
    go_wp2_with fail
    have S7 := (S6.bring 4 rfl).bring 2 rfl
    refine (spec_l08Fill Gb A5 n5 c5 12 g A n c l W _ _ hr S7 HGb.out (by omega) (by omega)).mono ?_; rintro e w7 ⟨Gc, A7, n7, c7, rfl, hGc, hcW, hcH, S8⟩
    have HGc := Lib.hid hGc; have HcW := Lib.hid (hcW.trans HbW.out); have HcH := Lib.hid (hcH.trans HbH.out)
    clear S6 S7 lc lf ls hGc hcW hcH
    unfold gridCs
    go_wp2_with ((with_reducible refine wp_setA (k := 0) (u := .agg #[.int .i64 Gc.W, .int .i64 Gc.H, .slice A7 n7 c7, .int .i64 Gc.X, .int .i64 Gc.Y, .bool Gc.R]) #[.int .i64 Gc.W, .int .i64 Gc.H, .slice A7 n7 c7, .int .i64 Gc.X, .int .i64 Gc.Y, .bool Gc.R] S8 2 rfl ?_ ?_ ?_ ?_ ?_ ?_ ?_); go_must (exact rfl); go_must (exact rfl); go_must (kernel_rfl); go_must (kernel_rfl); go_must (exact Nat.le_of_ble_eq_true (by kernel_rfl)); go_must (kernel_rfl))
    intro w8 S9
    -- [ownI 7, cur, row b6, row b5, ownI 2, row, row]
    have SS := Lib.hid S9
    clear S8 S9
    obtain ⟨d1, d2, d3, d4, -, -⟩ := gridOk_d HGc.out
    go_wp2_with fail
    have B9 := And.intro (St.gb (gW := Ga.W) (gH := Ga.H) (v := .slice A2 n2 c2) (gX := Ga.X) (gY := Ga.Y) (gR := Ga.R) (b := b5) (T := 40) SS.out.drew 3 rfl) (St.gb (gW := Gc.W) (gH := Gc.H) (v := .slice A7 n7 c7) (gX := Gc.X) (gY := Gc.Y) (gR := Gc.R) (b := b6) (T := 40) SS.out.drew 2 rfl)
    go_region_held3 (fun w' => GBox w' b5 Ga.W Ga.H (.slice A2 n2 c2) Ga.X Ga.Y Ga.R ∧ GBox w' b6 Gc.W Gc.H (.slice A7 n7 c7) Gc.X Gc.Y Gc.R)
      ((first | with_reducible assumption | assumption))
      (first
        | (go_at_call 65; refine (below_S S10 1 rfl hr Gc.H (by omega)).mono ?_; rintro e w11 ⟨y11, hy110, hy111, rfl, S11⟩; have B11 := And.intro (St.gb (gW := Ga.W) (gH := Ga.H) (v := .slice A2 n2 c2) (gX := Ga.X) (gY := Ga.Y) (gR := Ga.R) (b := b5) (T := 40) S11 3 rfl) (St.gb (gW := Gc.W) (gH := Gc.H) (v := .slice A7 n7 c7) (gX := Gc.X) (gY := Gc.Y) (gR := Gc.R) (b := b6) (T := 40) S11 2 rfl))
        | (go_at_call 65; refine (below_S SS.out.drew 1 rfl hr Gc.W (by omega)).mono ?_; rintro e w10 ⟨x10, hx100, hx101, rfl, S10⟩; have B10 := And.intro (St.gb (gW := Ga.W) (gH := Ga.H) (v := .slice A2 n2 c2) (gX := Ga.X) (gY := Ga.Y) (gR := Ga.R) (b := b5) (T := 40) S10 3 rfl) (St.gb (gW := Gc.W) (gH := Gc.H) (v := .slice A7 n7 c7) (gX := Gc.X) (gY := Gc.Y) (gR := Gc.R) (b := b6) (T := 40) S10 2 rfl))
        | (go_at_call 54; refine (spec_GridGo Gc _ _ _ x10 y11 _ ((S11.ownI 0 rfl).ri) HGc.out).mono ?_; rintro e w12 ⟨v12, rfl, own12, x12⟩; obtain ⟨A12, n12, c12, rfl⟩ := own12.form'; have S12 := S11.newI own12 x12; obtain ⟨lc12, lf12, ls12⟩ := S12.cells 6 rfl; obtain ⟨lc13, lf13, ls13⟩ := S12.cells 7 rfl; have B12 := And.intro (St.gb (gW := Ga.W) (gH := Ga.H) (v := .slice A2 n2 c2) (gX := Ga.X) (gY := Ga.Y) (gR := Ga.R) (b := b5) (T := 40) S12 4 rfl) (St.gb (gW := Gc.W) (gH := Gc.H) (v := .slice A7 n7 c7) (gX := Gc.X) (gY := Gc.Y) (gR := Gc.R) (b := b6) (T := 40) S12 3 rfl); have BX := And.intro (St.gb (gW := Ga.W) (gH := Ga.H) (v := .slice A2 n2 c2) (gX := Ga.X) (gY := Ga.Y) (gR := Ga.R) (b := b5) (T := 40) (S12.set6 7 rfl rfl (.int .i64 Ga.W) (.int .i64 Ga.H) (.slice A2 n2 c2) (.int .i64 Ga.X) (.int .i64 Ga.Y) (.bool Ga.R)) 4 rfl) (St.gb (gW := Gc.W) (gH := Gc.H) (v := .slice A7 n7 c7) (gX := Gc.X) (gY := Gc.Y) (gR := Gc.R) (b := b6) (T := 40) (S12.set6 7 rfl rfl (.int .i64 Ga.W) (.int .i64 Ga.H) (.slice A2 n2 c2) (.int .i64 Ga.X) (.int .i64 Ga.Y) (.bool Ga.R)) 3 rfl); have BY := And.intro (St.gb (gW := Ga.W) (gH := Ga.H) (v := .slice A2 n2 c2) (gX := Ga.X) (gY := Ga.Y) (gR := Ga.R) (b := b5) (T := 40) (S12.set6 6 rfl rfl (.int .i64 Gc.W) (.int .i64 Gc.H) (.slice A12 n12 c12) (.int .i64 (goG Gc x10 y11).X) (.int .i64 (goG Gc x10 y11).Y) (.bool false)) 4 rfl) (St.gb (gW := Gc.W) (gH := Gc.H) (v := .slice A7 n7 c7) (gX := Gc.X) (gY := Gc.Y) (gR := Gc.R) (b := b6) (T := 40) (S12.set6 6 rfl rfl (.int .i64 Gc.W) (.int .i64 Gc.H) (.slice A12 n12 c12) (.int .i64 (goG Gc x10 y11).X) (.int .i64 (goG Gc x10 y11).Y) (.bool false)) 3 rfl); have BXY := And.intro (St.gb (gW := Ga.W) (gH := Ga.H) (v := .slice A2 n2 c2) (gX := Ga.X) (gY := Ga.Y) (gR := Ga.R) (b := b5) (T := 40) ((S12.set6 7 rfl rfl (.int .i64 Ga.W) (.int .i64 Ga.H) (.slice A2 n2 c2) (.int .i64 Ga.X) (.int .i64 Ga.Y) (.bool Ga.R)).set6 6 rfl rfl (.int .i64 Gc.W) (.int .i64 Gc.H) (.slice A12 n12 c12) (.int .i64 (goG Gc x10 y11).X) (.int .i64 (goG Gc x10 y11).Y) (.bool false)) 4 rfl) (St.gb (gW := Gc.W) (gH := Gc.H) (v := .slice A7 n7 c7) (gX := Gc.X) (gY := Gc.Y) (gR := Gc.R) (b := b6) (T := 40) ((S12.set6 7 rfl rfl (.int .i64 Ga.W) (.int .i64 Ga.H) (.slice A2 n2 c2) (.int .i64 Ga.X) (.int .i64 Ga.Y) (.bool Ga.R)).set6 6 rfl rfl (.int .i64 Gc.W) (.int .i64 Gc.H) (.slice A12 n12 c12) (.int .i64 (goG Gc x10 y11).X) (.int .i64 (goG Gc x10 y11).Y) (.bool false)) 3 rfl); have BYX := And.intro (St.gb (gW := Ga.W) (gH := Ga.H) (v := .slice A2 n2 c2) (gX := Ga.X) (gY := Ga.Y) (gR := Ga.R) (b := b5) (T := 40) ((S12.set6 6 rfl rfl (.int .i64 Gc.W) (.int .i64 Gc.H) (.slice A12 n12 c12) (.int .i64 (goG Gc x10 y11).X) (.int .i64 (goG Gc x10 y11).Y) (.bool false)).set6 7 rfl rfl (.int .i64 Ga.W) (.int .i64 Ga.H) (.slice A2 n2 c2) (.int .i64 Ga.X) (.int .i64 Ga.Y) (.bool Ga.R)) 4 rfl) (St.gb (gW := Gc.W) (gH := Gc.H) (v := .slice A7 n7 c7) (gX := Gc.X) (gY := Gc.Y) (gR := Gc.R) (b := b6) (T := 40) ((S12.set6 6 rfl rfl (.int .i64 Gc.W) (.int .i64 Gc.H) (.slice A12 n12 c12) (.int .i64 (goG Gc x10 y11).X) (.int .i64 (goG Gc x10 y11).Y) (.bool false)).set6 7 rfl rfl (.int .i64 Ga.W) (.int .i64 Ga.H) (.slice A2 n2 c2) (.int .i64 Ga.X) (.int .i64 Ga.Y) (.bool Ga.R)) 3 rfl)))
    all_goals
      first
      | (have SX := ((S12.set6 7 rfl rfl (.int .i64 Ga.W) (.int .i64 Ga.H) (.slice A2 n2 c2) (.int .i64 Ga.X) (.int .i64 Ga.Y) (.bool Ga.R)).set6 6 rfl rfl (.int .i64 Gc.W) (.int .i64 Gc.H) (.slice A12 n12 c12) (.int .i64 (goG Gc x10 y11).X) (.int .i64 (goG Gc x10 y11).Y) (.bool false))
         obtain ⟨lcA, -, -⟩ := SX.cells 7 rfl
         obtain ⟨lcB, -, -⟩ := SX.cells 6 rfl
         go_wp2_with fail
         exact bodyPost_ret (v := .tuple #[.agg #[.int .i64 Ga.W, .int .i64 Ga.H, .slice A2 n2 c2, .int .i64 Ga.X, .int .i64 Ga.Y, .bool Ga.R], .agg #[.int .i64 Gc.W, .int .i64 Gc.H, .slice A12 n12 c12, .int .i64 (goG Gc x10 y11).X, .int .i64 (goG Gc x10 y11).Y, .bool false]]) (by simp [results, Tryd.results23, go_sem, lcA, lcB]) rfl
           ⟨Ga, goG Gc x10 y11, A2, n2, c2, A12, n12, c12, rfl, HGa.out, goG_ok HGc.out x10 y11, HcW.out.symm, HcH.out.symm, rfl, (SX.ownI 5 rfl).ri, (SX.ownI 0 rfl).ri, SX.ext⟩)
      | (have SX := ((S12.set6 6 rfl rfl (.int .i64 Gc.W) (.int .i64 Gc.H) (.slice A12 n12 c12) (.int .i64 (goG Gc x10 y11).X) (.int .i64 (goG Gc x10 y11).Y) (.bool false)).set6 7 rfl rfl (.int .i64 Ga.W) (.int .i64 Ga.H) (.slice A2 n2 c2) (.int .i64 Ga.X) (.int .i64 Ga.Y) (.bool Ga.R))
         obtain ⟨lcA, -, -⟩ := SX.cells 7 rfl
         obtain ⟨lcB, -, -⟩ := SX.cells 6 rfl
         go_wp2_with fail
         exact bodyPost_ret (v := .tuple #[.agg #[.int .i64 Ga.W, .int .i64 Ga.H, .slice A2 n2 c2, .int .i64 Ga.X, .int .i64 Ga.Y, .bool Ga.R], .agg #[.int .i64 Gc.W, .int .i64 Gc.H, .slice A12 n12 c12, .int .i64 (goG Gc x10 y11).X, .int .i64 (goG Gc x10 y11).Y, .bool false]]) (by simp [results, Tryd.results23, go_sem, lcA, lcB]) rfl
           ⟨Ga, goG Gc x10 y11, A2, n2, c2, A12, n12, c12, rfl, HGa.out, goG_ok HGc.out x10 y11, HcW.out.symm, HcH.out.symm, rfl, (SX.ownI 5 rfl).ri, (SX.ownI 0 rfl).ri, SX.ext⟩)
end Go.Proofs.YtohjjhoobikioaaDoor
