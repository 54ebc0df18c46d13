/-
  Of several texts: EmitS, EmitS2.
-/
import Derived.Test.YtohjjhoobikioaaDoorEmit
import Derived.Test.YtohjjhoobikioaaDoorGrid
import Derived.Test.YtohjjhoobikioaaDoorSep
import Derived.Test.YtohjjhoobikioaaDoorGS
/-! The reference's EmitGoto, l10Shorter, EmitStep. -/
namespace Go.Proofs.YtohjjhoobikioaaDoor
open Go.RowKit

set_option maxRecDepth 100000 in
set_option maxHeartbeats 1500000 in
theorem spec_EmitGoto (x y : Int) (w : World) (hx0 : 0 ≤ x) (hx1 : x < 200) (hy0 : 0 ≤ y) (hy1 : y < 200) :
    Calls Tryd.prog 113 #[.int .i64 x, .int .i64 y] w fun e w' => ∃ A n c, e = .returned (.slice A n c) ∧ RB w' A n c (emitGoto x y) ∧ Ext w w' := by
  have h1 := numText_len (x + 1); have h2 := numText_len (y + 1)
  have E : Hid (emitGoto x y = [27, 91] ++ (numText (y + 1) ++ [59] ++ numText (x + 1) ++ [72])) := rfl
  have K1 := Lib.hid (fun w => spec_NumText (y + 1) w)
  have K2 := Lib.hid (fun w => spec_NumText (x + 1) w)
  generalize numText (y + 1) = s1 at *
  generalize numText (x + 1) = s2 at *
  go_enter Tryd.func113, Tryd.ntmps113
  go_wp2_with fail
  refine Calls.mono (K1.out _) ?_; rintro e w1 ⟨rfl, x1⟩
  go_wp2_with (first
    | ((with_reducible refine wp_addS (y := .tmp 21) (l := [27, 91]) (m := s1) ?_ ?_ ?_ ?_); exact rfl; exact rfl; go_must (simp; omega))
    | ((with_reducible refine wp_addS (x := .tmp 22) (l := [27, 91] ++ s1) (m := [59]) ?_ ?_ ?_ ?_); exact rfl; exact rfl; go_must (simp; omega)))
  refine Calls.mono (K2.out _) ?_; rintro e w2 ⟨rfl, x2⟩
  go_wp2_with (first
    | ((with_reducible refine wp_addS (x := .tmp 23) (y := .tmp 26) (l := [27, 91] ++ s1 ++ [59]) (m := s2) ?_ ?_ ?_ ?_); exact rfl; exact rfl; go_must (simp; omega))
    | ((with_reducible refine wp_addS (x := .tmp 27) (l := [27, 91] ++ s1 ++ [59] ++ s2) (m := [72]) ?_ ?_ ?_ ?_); exact rfl; exact rfl; go_must (simp; omega))
    | ((with_reducible refine wp_toBytes (l := [27, 91] ++ s1 ++ [59] ++ s2 ++ [72]) ?_ ?_ ?_); go_must (exact rfl); go_must (simp; omega)))
  intro A3 c3 w3 r3 x3
  go_wp2_with fail
  go_ret
  exact ⟨_, _, _, rfl, by rw [E.out]; simpa using r3, (x1.trans x2).trans x3⟩

theorem spec_l10Shorter (ok : Bool) (A : Option Addr) (n c : Nat) (l : List UInt8) (A' : Option Addr) (n' c' : Nat) (l' : List UInt8) (w : World) (h : RB w A n c l) (h' : RB w A' n' c' l') :
    Calls Tryd.prog 114 #[.slice A n c, .bool ok, .slice A' n' c'] w fun e w' => ∃ A2 n2 c2, e = .returned (.slice A2 n2 c2) ∧ RB w' A2 n2 c2 (better ok l l') ∧ w = w' := by
  have h1 := h.nmax; have h2 := h'.nmax
  have hl := Lib.hid h.len; have hl' := Lib.hid h'.len
  cases ok
  · have E := Lib.hid (better_no l l')
    go_enter Tryd.func114, Tryd.ntmps114
    go_wp2_with fail
    go_ret
    exact ⟨A', n', c', rfl, by rw [E.out]; exact h', rfl⟩
  by_cases hle : n ≤ n'
  · have E : Hid (better true l l' = l) := by show _ = _; unfold better; rw [if_pos ⟨rfl, by rw [hl.out, hl'.out]; exact hle⟩]
    go_enter Tryd.func114, Tryd.ntmps114
    go_wp2_with fail
    go_ret
    exact ⟨A, n, c, rfl, by rw [E.out]; exact h, rfl⟩
  · have E : Hid (better true l l' = l') := by show _ = _; unfold better; rw [if_neg (by rintro ⟨_, h⟩; rw [hl.out, hl'.out] at h; exact hle h)]
    go_enter Tryd.func114, Tryd.ntmps114
    go_wp2_with fail
    go_ret
    exact ⟨A', n', c', rfl, by rw [E.out]; exact h', rfl⟩
end Go.Proofs.YtohjjhoobikioaaDoor
/-! The reference's EmitStep. -/
namespace Go.Proofs.YtohjjhoobikioaaDoor
open Go.RowKit

set_option maxRecDepth 100000 in
set_option maxHeartbeats 3000000 in
theorem spec_EmitStep (g : Gr) (A : Option Addr) (n c : Nat) (x y : Int) (w : World) (hC : RI w A n c g.C) (hg : gridOk g = true) (hx0 : 0 ≤ x) (hx1 : x < g.W) (hy0 : 0 ≤ y) (hy1 : y < g.H) :
    Calls Tryd.prog 73 #[.agg #[.int .i64 g.W, .int .i64 g.H, .slice A n c, .int .i64 g.X, .int .i64 g.Y, .bool g.R], .int .i64 x, .int .i64 y] w fun e w' => ∃ A' n' c', e = .returned (.tuple #[.slice A' n' c', .bool true]) ∧ RB w' A' n' c' (emitStep g x y) ∧ Ext w w' := by
  obtain ⟨d1, d2, d3, d4, -, -⟩ := gridOk_d hg
  obtain ⟨c1, c2, c3, c4, -⟩ := gridOk_c hg
  have S := (St.refl w).alloc #[.int .i64 g.W, .int .i64 g.H, .slice A n c, .int .i64 g.X, .int .i64 g.Y, .bool g.R] 40
  obtain ⟨q, hq⟩ : ∃ q, q = (decide (y = g.Y) && !g.R) := ⟨_, rfl⟩
  have E : Hid (emitStep g x y = better (q && decide (x = g.X)) [] (step4 g x y)) := by
    show _ = _
    subst hq; unfold emitStep better
    by_cases h : y = g.Y ∧ g.R = false ∧ x = g.X
    · rw [if_pos h, if_pos (by simp [h.1, h.2.1, h.2.2])]
    · rw [if_neg h, if_neg (by rintro ⟨h1, _⟩; simp at h1; exact h ⟨h1.1.1, h1.1.2, h1.2⟩)]
  have E1 : Hid (step1 g x y = better (q && decide (x < g.X)) (csi (g.X - x) 68) (emitGoto x y)) := by show _ = _; rw [hq]; rfl
  have E2 : Hid (step2 g x y = better (q && decide (g.X < x)) (csi (x - g.X) 67) (step1 g x y)) := by show _ = _; rw [hq]; rfl
  have E3 : Hid (step3 g x y = better (q && decide (1 ≤ g.X - x ∧ g.X - x ≤ 3)) (List.replicate (g.X - x).toNat 8) (step2 g x y)) := by show _ = _; rw [hq]; rfl
  have E4 : Hid (step4 g x y = better (decide (y = g.Y) && decide (x = 0)) [13] (step3 g x y)) := rfl
  have HQ := Lib.hid hq; clear hq
  go_enter Tryd.func73, Tryd.ntmps73
  go_wp2_with fail
  have k1 := spec_GridOk g.W g.H g.X g.Y g.R g.C A n c _ (hC.ext S.ext)
  rw [eta_ok hg] at k1
  refine (k1).mono ?_; rintro e w1 ⟨rfl, x1⟩
  clear k1
  have S := S.call x1
  obtain ⟨lc, lf, ls⟩ := S.cells 0 rfl
  go_upto_region 4 with fail
  go_cut [8, 9] (fun s8 s wx => s8 = .bool (decide (y = g.Y)) ∧ s = .bool q ∧ wx = w1)
  case first =>
    by_cases hy : y = g.Y
    · have hyb : (y == g.Y) = true := by simpa using hy
      have HY := Lib.hid hy; clear hy
      go_wp2_with fail
      go_meet
      exact ⟨by simp [HY.out], by rw [HQ.out]; simp [HY.out], rfl⟩
    · have hyb : (y == g.Y) = false := by simpa using hy
      have HY := Lib.hid hy; clear hy
      go_wp2_with fail
      go_meet
      exact ⟨by simp [HY.out], by rw [HQ.out]; simp [HY.out], rfl⟩
  case rest =>
    obtain ⟨rfl, rfl, rfl⟩ := hcut
    generalize hp : decide (y = g.Y) = p
    have HP := Lib.hid hp; clear hp
    go_wp2_with fail
    refine Calls.mono (spec_EmitGoto _ _ _ hx0 (by omega) hy0 (by omega)) ?_; rintro e w2 ⟨A0, n0, c0, rfl, r, x2⟩
    have S := S.call x2
    clear lc lf ls
    obtain ⟨lc, lf, ls⟩ := S.cells 0 rfl
    go_upto_region 6 with fail
    go_cut [10] (fun s wx => ∃ A1 n1 c1, s = .slice A1 n1 c1 ∧ RB wx A1 n1 c1 (step1 g x y) ∧ St w wx [row w.heap.size 40 #[.int .i64 g.W, .int .i64 g.H, .slice A n c, .int .i64 g.X, .int .i64 g.Y, .bool g.R]])
    case first =>
      have hcs : Hid (csi (g.X - x) 68 = [27, 91] ++ (numText (g.X - x) ++ [68])) := rfl
      have K1 := Lib.hid (fun w => spec_NumText (g.X - x) w)
      have hl1 := numText_len (g.X - x)
      generalize numText (g.X - x) = s1 at *
      go_wp2_with fail
      refine Calls.mono (K1.out _) ?_; rintro e wa ⟨rfl, xa⟩
      have S := S.call xa
      have r := r.ext xa
      clear lc lf ls
      obtain ⟨lc, lf, ls⟩ := S.cells 0 rfl
      go_wp2_with (first
        | ((with_reducible refine wp_addS (y := .tmp 53) (l := [27, 91]) (m := s1) ?_ ?_ ?_ ?_); exact rfl; exact rfl; go_must (simp; omega))
        | ((with_reducible refine wp_addS (x := .tmp 54) (l := [27, 91] ++ s1) (m := [68]) ?_ ?_ ?_ ?_); exact rfl; exact rfl; go_must (simp; omega))
        | ((with_reducible refine wp_toBytes (l := [27, 91] ++ s1 ++ [68]) ?_ ?_ ?_); go_must (exact rfl); go_must (simp; omega)))
      intro A3 cc3 w3 r3 x3
      have r3 : RB w3 A3 (([27, 91] : List UInt8) ++ s1 ++ [68]).length cc3 (csi (g.X - x) 68) := by rw [hcs.out, ← List.append_assoc]; exact r3
      generalize (([27, 91] : List UInt8) ++ s1 ++ [68]).length = N3 at r3 ⊢
      have S := S.call x3
      have r := r.ext x3
      clear lc lf ls
      obtain ⟨lc, lf, ls⟩ := S.cells 0 rfl
      cases q
      · go_wp2_with fail
        refine Calls.mono (spec_l10Shorter _ _ _ _ _ _ _ _ _ _ r3 r) ?_; rintro e wb ⟨A2, n2, c2, rfl, r2, rfl⟩
        go_wp2_with fail
        go_meet
        exact ⟨_, _, _, rfl, by rw [E1.out, Bool.false_and]; exact r2, S⟩
      · by_cases hlt : x < g.X
        · go_wp2_with fail
          refine Calls.mono (spec_l10Shorter _ _ _ _ _ _ _ _ _ _ r3 r) ?_; rintro e wb ⟨A2, n2, c2, rfl, r2, rfl⟩
          go_wp2_with fail
          go_meet
          exact ⟨_, _, _, rfl, by rw [E1.out, show (true && decide (x < g.X)) = true by simp; omega]; exact r2, S⟩
        · go_wp2_with fail
          refine Calls.mono (spec_l10Shorter _ _ _ _ _ _ _ _ _ _ r3 r) ?_; rintro e wb ⟨A2, n2, c2, rfl, r2, rfl⟩
          go_wp2_with fail
          go_meet
          exact ⟨_, _, _, rfl, by rw [E1.out, show (true && decide (x < g.X)) = false by simp; omega]; exact r2, S⟩
    case rest =>
      obtain ⟨A0, n0, c0, rfl, r, S⟩ := hcut
      clear lc lf ls
      obtain ⟨lc, lf, ls⟩ := S.cells 0 rfl
      go_upto_region 7 with fail
      go_cut [10] (fun s wx => ∃ A1 n1 c1, s = .slice A1 n1 c1 ∧ RB wx A1 n1 c1 (step2 g x y) ∧ St w wx [row w.heap.size 40 #[.int .i64 g.W, .int .i64 g.H, .slice A n c, .int .i64 g.X, .int .i64 g.Y, .bool g.R]])
      case first =>
        have hcs : Hid (csi (x - g.X) 67 = [27, 91] ++ (numText (x - g.X) ++ [67])) := rfl
        have K1 := Lib.hid (fun w => spec_NumText (x - g.X) w)
        have hl1 := numText_len (x - g.X)
        generalize numText (x - g.X) = s1 at *
        go_wp2_with fail
        refine Calls.mono (K1.out _) ?_; rintro e wa ⟨rfl, xa⟩
        have S := S.call xa
        have r := r.ext xa
        clear lc lf ls
        obtain ⟨lc, lf, ls⟩ := S.cells 0 rfl
        go_wp2_with (first
          | ((with_reducible refine wp_addS (y := .tmp 70) (l := [27, 91]) (m := s1) ?_ ?_ ?_ ?_); exact rfl; exact rfl; go_must (simp; omega))
          | ((with_reducible refine wp_addS (x := .tmp 71) (l := [27, 91] ++ s1) (m := [67]) ?_ ?_ ?_ ?_); exact rfl; exact rfl; go_must (simp; omega))
          | ((with_reducible refine wp_toBytes (l := [27, 91] ++ s1 ++ [67]) ?_ ?_ ?_); go_must (exact rfl); go_must (simp; omega)))
        intro A3 cc3 w3 r3 x3
        have r3 : RB w3 A3 (([27, 91] : List UInt8) ++ s1 ++ [67]).length cc3 (csi (x - g.X) 67) := by rw [hcs.out, ← List.append_assoc]; exact r3
        generalize (([27, 91] : List UInt8) ++ s1 ++ [67]).length = N3 at r3 ⊢
        have S := S.call x3
        have r := r.ext x3
        clear lc lf ls
        obtain ⟨lc, lf, ls⟩ := S.cells 0 rfl
        cases q
        · go_wp2_with fail
          refine Calls.mono (spec_l10Shorter _ _ _ _ _ _ _ _ _ _ r3 r) ?_; rintro e wb ⟨A2, n2, c2, rfl, r2, rfl⟩
          go_wp2_with fail
          go_meet
          exact ⟨_, _, _, rfl, by rw [E2.out, Bool.false_and]; exact r2, S⟩
        · by_cases hlt : g.X < x
          · go_wp2_with fail
            refine Calls.mono (spec_l10Shorter _ _ _ _ _ _ _ _ _ _ r3 r) ?_; rintro e wb ⟨A2, n2, c2, rfl, r2, rfl⟩
            go_wp2_with fail
            go_meet
            exact ⟨_, _, _, rfl, by rw [E2.out, show (true && decide (g.X < x)) = true by simp; omega]; exact r2, S⟩
          · go_wp2_with fail
            refine Calls.mono (spec_l10Shorter _ _ _ _ _ _ _ _ _ _ r3 r) ?_; rintro e wb ⟨A2, n2, c2, rfl, r2, rfl⟩
            go_wp2_with fail
            go_meet
            exact ⟨_, _, _, rfl, by rw [E2.out, show (true && decide (g.X < x)) = false by simp; omega]; exact r2, S⟩
      case rest =>
        obtain ⟨A0, n0, c0, rfl, r, S⟩ := hcut
        clear lc lf ls
        obtain ⟨lc, lf, ls⟩ := S.cells 0 rfl
        go_upto_region 9 with fail
        have r := Lib.hid r
        have own := OwnB.lit wc wc.heap.size (Nat.le_refl _) [] (by simp)
        have SB := (St.refl wc).newB own ((Ext.refl wc).alloc _)
        have SG := Lib.hid S
        clear lc lf ls S own
        go_wp2_with fail
        go_loopw [11, 12] (fun v11 vi wr => ∃ k : Int, x ≤ k ∧ (k ≤ g.X ∨ k = x) ∧ vi = .int .i64 k ∧ ∃ l : List UInt8, Hid (l = List.replicate (k - x).toNat 8) ∧ l.length ≤ 200 ∧ St wc wr [ownB v11 l]) (fun v11 vi _ => (g.X - intOf vi).toNat)
        case atStart => exact ⟨x, by omega, .inr rfl, rfl, [], (by show _ = _; simp), by simp, SB⟩
        case round =>
          obtain ⟨k, hk1, hk2, rfl, l, hl, hlen, SL⟩ := hrel
          obtain ⟨lc, lf, ls⟩ := (SG.out.call SL.ext).cells 0 rfl
          by_cases hlt : k < g.X
          · go_wp2_with (at_builtin; refine wp_addB rfl _ _ rfl (SL.skip _) 0 rfl rfl rfl (RB.lit _ [.int .u8 8] [8] rfl (by simp)) (by simp; omega) ?_)
            intro v' w' S'
            clear lc lf ls
            go_wp2_with fail
            go_roundw
            case rel =>
              refine ⟨k + 1, by omega, by omega, by go_num, l ++ [8], ?_, ?_, S'⟩
              · show _ = _
                rw [hl.out, show (k + 1 - x).toNat = (k - x).toNat + 1 by omega, List.replicate_succ']
              · rw [hl.out]; simp; omega
            case measure => simp [intOf]; omega
          · have hle : Hid (List.replicate (g.X - x).toNat 8 = l) := by
              show _ = _
              rw [hl.out]; congr 1; omega
            have hmx := congrArg List.length hle.out
            rw [List.length_replicate] at hmx
            obtain ⟨A8, c8, rfl, r8⟩ := (SL.ownB 0 rfl).form
            obtain ⟨m, hm⟩ : ∃ m, m = l.length := ⟨_, rfl⟩
            rw [← hm] at hmx r8 ⊢
            have HMX := Lib.hid hmx
            have hm1 : (m : Int) ≤ g.X - x ∨ m = 0 := by omega
            have hm2 : g.X - x ≤ m := by omega
            have S := SG.out.call SL.ext
            have r := r.out.ext SL.ext
            have HL := Lib.hid hl
            clear hm hmx hl hlen SL SG SB
            go_upto_region 13 with fail
            go_cut [10] (fun s wx => ∃ A1 n1 c1, s = .slice A1 n1 c1 ∧ RB wx A1 n1 c1 (step3 g x y) ∧ St w wx [row w.heap.size 40 #[.int .i64 g.W, .int .i64 g.H, .slice A n c, .int .i64 g.X, .int .i64 g.Y, .bool g.R]])
            case first =>
              cases q
              · go_wp2_with fail
                refine Calls.mono (spec_l10Shorter _ _ _ _ _ _ _ _ _ _ r8 r) ?_; rintro e wb ⟨A2, n2, c2, rfl, r2, rfl⟩
                go_wp2_with fail
                go_meet
                exact ⟨_, _, _, rfl, by rw [E3.out, Bool.false_and, hle.out]; exact r2, S⟩
              · by_cases h1 : 1 ≤ m
                · by_cases h3 : m ≤ 3
                  · go_wp2_with fail
                    refine Calls.mono (spec_l10Shorter _ _ _ _ _ _ _ _ _ _ r8 r) ?_; rintro e wb ⟨A2, n2, c2, rfl, r2, rfl⟩
                    go_wp2_with fail
                    go_meet
                    exact ⟨_, _, _, rfl, by rw [E3.out, show (true && decide (1 ≤ g.X - x ∧ g.X - x ≤ 3)) = true by simp; omega, hle.out]; rw [show decide ((m : Int) ≤ 3) = true by simp; omega] at r2; exact r2, S⟩
                  · go_wp2_with fail
                    refine Calls.mono (spec_l10Shorter _ _ _ _ _ _ _ _ _ _ r8 r) ?_; rintro e wb ⟨A2, n2, c2, rfl, r2, rfl⟩
                    go_wp2_with fail
                    go_meet
                    exact ⟨_, _, _, rfl, by rw [E3.out, show (true && decide (1 ≤ g.X - x ∧ g.X - x ≤ 3)) = false by simp; omega, hle.out]; rw [show decide ((m : Int) ≤ 3) = false by simp; omega] at r2; exact r2, S⟩
                · go_wp2_with fail
                  refine Calls.mono (spec_l10Shorter _ _ _ _ _ _ _ _ _ _ r8 r) ?_; rintro e wb ⟨A2, n2, c2, rfl, r2, rfl⟩
                  go_wp2_with fail
                  go_meet
                  exact ⟨_, _, _, rfl, by rw [E3.out, show (true && decide (1 ≤ g.X - x ∧ g.X - x ≤ 3)) = false by simp; omega, hle.out]; exact r2, S⟩
            case rest =>
              obtain ⟨A0, n0, c0, rfl, r, S⟩ := hcut
              clear lc lf ls
              obtain ⟨lc, lf, ls⟩ := S.cells 0 rfl
              go_upto_region 14 with fail
              go_cut [10] (fun s wx => ∃ A1 n1 c1, s = .slice A1 n1 c1 ∧ RB wx A1 n1 c1 (step4 g x y) ∧ St w wx [row w.heap.size 40 #[.int .i64 g.W, .int .i64 g.H, .slice A n c, .int .i64 g.X, .int .i64 g.Y, .bool g.R]])
              case first =>
                cases p
                · go_wp2_with fail
                  refine Calls.mono (spec_l10Shorter _ _ _ _ _ _ _ _ _ _ (RB.lit _ [.int .u8 13] [13] rfl (by simp)) (r.ext ((Ext.refl _).alloc _))) ?_; rintro e wb ⟨A2, n2, c2, rfl, r2, rfl⟩
                  go_wp2_with fail
                  go_meet
                  exact ⟨_, _, _, rfl, by rw [E4.out, HP.out, Bool.false_and]; exact r2, S.skip _⟩
                · by_cases h0 : x = 0
                  · have h0b : (x == 0) = true := by simpa using h0
                    have H0 := Lib.hid h0; clear h0
                    go_wp2_with fail
                    refine Calls.mono (spec_l10Shorter _ _ _ _ _ _ _ _ _ _ (RB.lit _ [.int .u8 13] [13] rfl (by simp)) (r.ext ((Ext.refl _).alloc _))) ?_; rintro e wb ⟨A2, n2, c2, rfl, r2, rfl⟩
                    go_wp2_with fail
                    go_meet
                    exact ⟨_, _, _, rfl, by rw [E4.out, HP.out, show (true && decide (x = 0)) = true by simp [H0.out]]; exact r2, S.skip _⟩
                  · have h0b : (x == 0) = false := by simpa using h0
                    have H0 := Lib.hid h0; clear h0
                    go_wp2_with fail
                    refine Calls.mono (spec_l10Shorter _ _ _ _ _ _ _ _ _ _ (RB.lit _ [.int .u8 13] [13] rfl (by simp)) (r.ext ((Ext.refl _).alloc _))) ?_; rintro e wb ⟨A2, n2, c2, rfl, r2, rfl⟩
                    go_wp2_with fail
                    go_meet
                    exact ⟨_, _, _, rfl, by rw [E4.out, HP.out, show (true && decide (x = 0)) = false by simp [H0.out]]; exact r2, S.skip _⟩
              case rest =>
                obtain ⟨A0, n0, c0, rfl, r, S⟩ := hcut
                clear lc lf ls
                obtain ⟨lc, lf, ls⟩ := S.cells 0 rfl
                cases q
                · go_wp2_with fail
                  refine Calls.mono (spec_l10Shorter _ _ _ _ _ _ _ _ _ _ (RB.lit _ [] [] rfl (by simp)) (r.ext ((Ext.refl _).alloc _))) ?_; rintro e wb ⟨A2, n2, c2, rfl, r2, rfl⟩
                  go_wp2_with fail
                  go_ret2
                  exact ⟨_, _, _, rfl, by rw [E.out, Bool.false_and]; exact r2, (S.skip _).ext⟩
                · by_cases h0 : x = g.X
                  · have h0b : (x == g.X) = true := by simpa using h0
                    have H0 := Lib.hid h0; clear h0
                    go_wp2_with fail
                    refine Calls.mono (spec_l10Shorter _ _ _ _ _ _ _ _ _ _ (RB.lit _ [] [] rfl (by simp)) (r.ext ((Ext.refl _).alloc _))) ?_; rintro e wb ⟨A2, n2, c2, rfl, r2, rfl⟩
                    go_wp2_with fail
                    go_ret2
                    exact ⟨_, _, _, rfl, by rw [E.out, show (true && decide (x = g.X)) = true by simp [H0.out]]; exact r2, (S.skip _).ext⟩
                  · have h0b : (x == g.X) = false := by simpa using h0
                    have H0 := Lib.hid h0; clear h0
                    go_wp2_with fail
                    refine Calls.mono (spec_l10Shorter _ _ _ _ _ _ _ _ _ _ (RB.lit _ [] [] rfl (by simp)) (r.ext ((Ext.refl _).alloc _))) ?_; rintro e wb ⟨A2, n2, c2, rfl, r2, rfl⟩
                    go_wp2_with fail
                    go_ret2
                    exact ⟨_, _, _, rfl, by rw [E.out, show (true && decide (x = g.X)) = false by simp [H0.out]]; exact r2, (S.skip _).ext⟩
end Go.Proofs.YtohjjhoobikioaaDoor
