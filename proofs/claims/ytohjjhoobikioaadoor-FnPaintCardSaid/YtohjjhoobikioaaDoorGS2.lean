/-
  The reference's GridScroll and GridClear.
-/
import Derived.Test.YtohjjhoobikioaaDoorGS
namespace Go.Proofs.YtohjjhoobikioaaDoor
open Go.RowKit

set_option maxRecDepth 100000 in
set_option maxHeartbeats 4000000 in
theorem spec_GridScroll (g : Gr) (A : Option Addr) (n c : Nat) (w : World) (hC : RI w A n c g.C) (hg : gridOk g = true) :
    Calls Tryd.prog 116 #[.agg #[.int .i64 g.W, .int .i64 g.H, .slice A n c, .int .i64 g.X, .int .i64 g.Y, .bool g.R]] w fun e w' => ∃ v, e = .returned (.agg #[.int .i64 g.W, .int .i64 g.H, v, .int .i64 g.X, .int .i64 g.Y, .bool g.R]) ∧ OwnI w' w.heap.size v (scrollC g.C g.W.toNat) ∧ Ext w w' := by
  obtain ⟨d1, d2, d3, d4, d5, d6⟩ := gridOk_d hg
  have hle := row_le hg
  have hn : g.C.length = n := hC.len
  rw [hn] at d6 hle
  have hn8 : n ≤ 8000 := by omega
  obtain ⟨Wn, hWn⟩ : ∃ Wn : Nat, (Wn : Int) = g.W := ⟨g.W.toNat, by omega⟩
  have hWt : g.W.toNat = Wn := by omega
  rw [hWt] at hle
  have Hn := Lib.hid hn
  clear d5 d6 hn
  have S := ((St.refl w).alloc #[.int .i64 g.W, .int .i64 g.H, .slice A n c, .int .i64 g.X, .int .i64 g.Y, .bool g.R] 40).alloc zeroG 40
  simp only [World.size_alloc] at S
  have HW := Lib.hid hWn; have HWt := Lib.hid hWt
  have hWp : 2 ≤ Wn := by omega
  have hW2 : Wn ≤ 200 := by omega
  clear hWn hWt
  go_enter Tryd.func116, Tryd.ntmps116
  go_wp2_with fail
  have k1 := spec_GridOk g.W g.H g.X g.Y g.R g.C A n c _ (hC.ext S.ext)
  rw [eta_ok hg] at k1
  refine (k1).mono ?_; rintro e w1 ⟨rfl, x1⟩
  clear k1
  have S1 := S.call x1
  obtain ⟨lc, lf, ls⟩ := S1.cells 1 rfl
  go_wp2_with fail
  refine Calls.mono (spec_l08Copy g A n c _ (hC.ext S1.ext) (by omega)) ?_; rintro e w2 ⟨v, rfl, own, x2⟩
  have S2 := S1.newI own x2
  rcases own.shape with ⟨rfl, h0⟩ | ⟨q, c1, rfl, -, hq, hc1, hcm⟩
  · have e := Hn.out; rw [h0] at e; simp at e; omega
  rw [Hn.out] at S2 hc1 ⊢
  clear lc lf ls own
  obtain ⟨lc, lf, ls⟩ := S2.cells 2 rfl
  go_upto_region 4 with fail
  have S3 := S2.alloc #[.int .i64 g.W, .int .i64 g.H, .slice (some ⟨q, 0, none⟩) n c1, .int .i64 g.X, .int .i64 g.Y, .bool g.R] 40
  have hw3 : w2.heap.size < (w2.alloc (.cells #[.int .i64 g.W, .int .i64 g.H, .slice (some ⟨q, 0, none⟩) n c1, .int .i64 g.X, .int .i64 g.Y, .bool g.R] 40)).heap.size := by simp
  generalize (w2.alloc (.cells #[.int .i64 g.W, .int .i64 g.H, .slice (some ⟨q, 0, none⟩) n c1, .int .i64 g.X, .int .i64 g.Y, .bool g.R] 40)) = w3 at S3 hw3 ⊢
  generalize w2.heap.size = b7 at *
  clear lc lf ls S2 S1 S
  have HS := Lib.hid S3; clear S3
  obtain ⟨lc, lf, ls⟩ := HS.out.cells 0 rfl
  obtain ⟨lc2, lf2, ls2⟩ := HS.out.cells 3 rfl
  go_wp2_with fail
  go_loopw [14] (fun vi wr => ∃ k : Nat, k ≤ n ∧ vi = .int .i64 k ∧ ∃ M : List Int, M.length = n ∧ Hid (∀ j, gt M j = if j < k then (if j + Wn < n then gt g.C (j + Wn) else 32) else gt g.C j) ∧ St w wr [row b7 40 #[.int .i64 g.W, .int .i64 g.H, .slice (some ⟨q, 0, none⟩) n c1, .int .i64 g.X, .int .i64 g.Y, .bool g.R], ownI (.slice (some ⟨q, 0, none⟩) n c1) M, row (w.heap.size + 1) 40 zeroG, row w.heap.size 40 #[.int .i64 g.W, .int .i64 g.H, .slice A n c, .int .i64 g.X, .int .i64 g.Y, .bool g.R]]) (fun vi _ => n - (intOf vi).toNat)
  case atStart => exact ⟨0, by omega, rfl, g.C, Hn.out, (by show ∀ j, _; intro j; rw [if_neg (by omega)]), HS.out⟩
  case round =>
    obtain ⟨k, hk, rfl, M, hM, gM, S⟩ := hrel
    have HM := Lib.hid hM; clear hM lc lf ls lc2 lf2 ls2
    obtain ⟨lc, lf, ls⟩ := S.cells 0 rfl
    obtain ⟨lc2, lf2, ls2⟩ := S.cells 3 rfl
    by_cases hlt : k < n
    · go_wp2_with ((with_reducible refine wp_setI (k := k) (u := 32) S 1 rfl ?_ ?_ ?_ ?_); go_must (rw [HM.out]; exact hlt); go_must (exact rfl); go_must (exact rfl))
      intro w5 S5
      clear lc lf ls lc2 lf2 ls2 S
      have HS5 := Lib.hid S5; clear S5
      obtain ⟨lc, lf, ls⟩ := HS5.out.cells 0 rfl
      obtain ⟨lc2, lf2, ls2⟩ := HS5.out.cells 3 rfl
      simp only [← HW.out] at lc2
      have e1 : IntKind.i64.wrap ((k : Int) + (Wn : Int)) = ((k + Wn : Nat) : Int) := by rw [Int.natCast_add]; exact IntWalk.i64_in _ (by omega)
      by_cases h2 : k + Wn < n
      · obtain ⟨b, o, rfl, hcell⟩ := (hC.ext HS5.out.ext).at1 h2
        have own5 := HS5.out.ownI 1 rfl
        have hc5 := own5.cell (k := k) (by rw [List.length_set, HM.out]; exact hlt)
        have hf5 := own5.frozen k
        have hsb : decide ((k : Int) + (Wn : Int) < (n : Int)) = true := decide_eq_true (by omega)
        go_wp2_with fail
        go_region
        go_wp2_with fail
        go_roundw
        case rel =>
          refine ⟨k + 1, by omega, by go_num, (M.set k 32).set k (gt g.C (k + Wn)), by rw [List.length_set, List.length_set]; exact HM.out, ?_, (HS5.out.setI 1 rfl k _).drew⟩
          show ∀ j, _
          intro j
          rw [gt_set (by rw [List.length_set, HM.out]; exact hlt), gt_set (by rw [HM.out]; exact hlt), gM.out]
          by_cases e : k = j
          · subst e; rw [if_pos rfl, if_pos (by omega), if_pos h2]
          · rw [if_neg e, if_neg e]
            by_cases e2 : j < k
            · rw [if_pos e2, if_pos (show j < k + 1 by omega)]
            · rw [if_neg e2, if_neg (show ¬ j < k + 1 by omega)]
        case measure => simp [intOf]; omega
      · have hsb : decide ((k : Int) + (Wn : Int) < (n : Int)) = false := decide_eq_false (by omega)
        go_wp2_with fail
        go_roundw
        case rel =>
          refine ⟨k + 1, by omega, by go_num, M.set k 32, by rw [List.length_set]; exact HM.out, ?_, HS5.out⟩
          show ∀ j, _
          intro j
          rw [gt_set (by rw [HM.out]; exact hlt), gM.out]
          by_cases e : k = j
          · subst e; rw [if_pos rfl, if_pos (by omega), if_neg h2]
          · rw [if_neg e]
            by_cases e2 : j < k
            · rw [if_pos e2, if_pos (show j < k + 1 by omega)]
            · rw [if_neg e2, if_neg (show ¬ j < k + 1 by omega)]
        case measure => simp [intOf]; omega
    · go_wp2_with ((with_reducible refine wp_setA (k := 0) (u := .agg #[.int .i64 g.W, .int .i64 g.H, .slice (some ⟨q, 0, none⟩) n c1, .int .i64 g.X, .int .i64 g.Y, .bool g.R]) #[.int .i64 g.W, .int .i64 g.H, .slice (some ⟨q, 0, none⟩) n c1, .int .i64 g.X, .int .i64 g.Y, .bool g.R] S 2 rfl ?_ ?_ ?_ ?_ ?_ ?_ ?_); go_must (exact rfl); go_must (exact rfl); go_must (kernel_rfl); go_must (kernel_rfl); go_must (exact Nat.le_of_ble_eq_true (by kernel_rfl)); go_must (kernel_rfl))
      intro w4 S5
      go_wp2_with fail
      obtain ⟨lc5, -, -⟩ := S5.cells 2 rfl
      obtain rfl : k = n := by omega
      have eM : M = scrollC g.C g.W.toNat := by
        rw [HWt.out]
        apply ext_gt (by rw [HM.out, scrollC_len (by rw [Hn.out]; exact hle), Hn.out])
        intro j hj
        rw [HM.out] at hj
        rw [gM.out, if_pos hj, gt_scroll (by rw [Hn.out]; exact hle) (by rw [Hn.out]; exact hj), Hn.out]
      have o5 := S5.outI 1 rfl
      rw [eM] at o5
      exact bodyPost_ret (v := .agg #[.int .i64 g.W, .int .i64 g.H, .slice (some ⟨q, 0, none⟩) k c1, .int .i64 g.X, .int .i64 g.Y, .bool g.R]) (by simp [results, Tryd.results116, go_sem, lc5]) rfl ⟨_, rfl, o5, S5.ext⟩

set_option maxRecDepth 100000 in
set_option maxHeartbeats 4000000 in
theorem spec_GridClear (g : Gr) (A : Option Addr) (n c : Nat) (f t : Int) (w : World) (hC : RI w A n c g.C) (hg : gridOk g = true) :
    Calls Tryd.prog 75 #[.agg #[.int .i64 g.W, .int .i64 g.H, .slice A n c, .int .i64 g.X, .int .i64 g.Y, .bool g.R], .int .i64 f, .int .i64 t] w fun e w' => ∃ v, e = .returned (.agg #[.int .i64 g.W, .int .i64 g.H, v, .int .i64 g.X, .int .i64 g.Y, .bool g.R]) ∧ OwnI w' w.heap.size v (clearC g.C f t) ∧ Ext w w' := by
  obtain ⟨d1, d2, d3, d4, d5, d6⟩ := gridOk_d hg
  have hle := row_le hg
  have hn : g.C.length = n := hC.len
  rw [hn] at d6 hle
  have hn8 : n ≤ 8000 := by omega
  obtain ⟨Wn, hWn⟩ : ∃ Wn : Nat, (Wn : Int) = g.W := ⟨g.W.toNat, by omega⟩
  have hWt : g.W.toNat = Wn := by omega
  rw [hWt] at hle
  have Hn := Lib.hid hn
  clear d5 d6 hn
  have S := ((St.refl w).alloc #[.int .i64 g.W, .int .i64 g.H, .slice A n c, .int .i64 g.X, .int .i64 g.Y, .bool g.R] 40).alloc zeroG 40
  simp only [World.size_alloc] at S
  have HW := Lib.hid hWn; have HWt := Lib.hid hWt
  have hWp : 2 ≤ Wn := by omega
  have hW2 : Wn ≤ 200 := by omega
  clear hWn hWt
  go_enter Tryd.func75, Tryd.ntmps75
  go_wp2_with fail
  have k1 := spec_GridOk g.W g.H g.X g.Y g.R g.C A n c _ (hC.ext S.ext)
  rw [eta_ok hg] at k1
  refine (k1).mono ?_; rintro e w1 ⟨rfl, x1⟩
  clear k1
  have S1 := S.call x1
  obtain ⟨lc, lf, ls⟩ := S1.cells 1 rfl
  go_wp2_with fail
  refine Calls.mono (spec_l08Copy g A n c _ (hC.ext S1.ext) (by omega)) ?_; rintro e w2 ⟨v, rfl, own, x2⟩
  have S2 := S1.newI own x2
  rcases own.shape with ⟨rfl, h0⟩ | ⟨q, c1, rfl, -, hq, hc1, hcm⟩
  · have e := Hn.out; rw [h0] at e; simp at e; omega
  rw [Hn.out] at S2 hc1 ⊢
  clear lc lf ls own
  obtain ⟨lc, lf, ls⟩ := S2.cells 2 rfl
  go_upto_region 4 with fail
  have S3 := S2.alloc #[.int .i64 g.W, .int .i64 g.H, .slice (some ⟨q, 0, none⟩) n c1, .int .i64 g.X, .int .i64 g.Y, .bool g.R] 40
  have hw3 : w2.heap.size < (w2.alloc (.cells #[.int .i64 g.W, .int .i64 g.H, .slice (some ⟨q, 0, none⟩) n c1, .int .i64 g.X, .int .i64 g.Y, .bool g.R] 40)).heap.size := by simp
  generalize (w2.alloc (.cells #[.int .i64 g.W, .int .i64 g.H, .slice (some ⟨q, 0, none⟩) n c1, .int .i64 g.X, .int .i64 g.Y, .bool g.R] 40)) = w3 at S3 hw3 ⊢
  generalize w2.heap.size = b7 at *
  clear lc lf ls S2 S1 S
  have HS := Lib.hid S3; clear S3
  obtain ⟨lc, lf, ls⟩ := HS.out.cells 0 rfl
  obtain ⟨lc2, lf2, ls2⟩ := HS.out.cells 3 rfl
  have hvc := Lib.hid (gridOk_vc hg)
  go_wp2_with fail
  go_loopw [20] (fun vi wr => ∃ k : Nat, k ≤ n ∧ vi = .int .i64 k ∧ ∃ M : List Int, M.length = n ∧ Hid (∀ j, gt M j = if j < k then (if hit g.C f t j then 32 else gt g.C j) else gt g.C j) ∧ St w wr [row b7 40 #[.int .i64 g.W, .int .i64 g.H, .slice (some ⟨q, 0, none⟩) n c1, .int .i64 g.X, .int .i64 g.Y, .bool g.R], ownI (.slice (some ⟨q, 0, none⟩) n c1) M, row (w.heap.size + 1) 40 zeroG, row w.heap.size 40 #[.int .i64 g.W, .int .i64 g.H, .slice A n c, .int .i64 g.X, .int .i64 g.Y, .bool g.R]]) (fun vi _ => n - (intOf vi).toNat)
  case atStart => exact ⟨0, by omega, rfl, g.C, Hn.out, (by show ∀ j, _; intro j; rw [if_neg (by omega)]), HS.out⟩
  case round =>
    obtain ⟨k, hk, rfl, M, hM, gM, S⟩ := hrel
    have HM := Lib.hid hM; clear hM lc lf ls lc2 lf2 ls2
    obtain ⟨lc, lf, ls⟩ := S.cells 0 rfl
    by_cases hlt : k < n
    · obtain ⟨b, o, rfl, hcell⟩ := (hC.ext S.ext).at1 hlt
      have HkC : Hid (k < g.C.length) := by show _ < _; rw [Hn.out]; exact hlt
      by_cases h1 : gt g.C k = -1
      · have hp := prev_in (vc_half hvc.out HkC.out h1).1
        have hov : Hid (other g.C k = (k : Int) - 1) := other_half h1
        have h1b : (g.C[k]?.getD 0 == -1) = true := by simpa using h1
        have h2b : (width (g.C[k]?.getD 0) == 2) = false := by rw [show g.C[k]?.getD 0 = -1 from h1, width_half]; rfl
        clear h1
        go_wp2_with fail
        refine Calls.mono (spec_Width _ _) ?_; rintro e w5 ⟨rfl, x5⟩
        have S5 := S.call x5
        clear lc lf ls S hcell
        have HS5 := Lib.hid S5; clear S5
        obtain ⟨lc, lf, ls⟩ := HS5.out.cells 0 rfl
        go_upto_region 12 with fail
        clear h1b h2b
        go_cut [52] (fun s wx => s = .bool (hit g.C f t k) ∧ wx = w5)
        case first =>
          obtain ⟨b1, hb1⟩ : ∃ b, decide (f ≤ (k : Int)) = b := ⟨_, rfl⟩
          obtain ⟨b2, hb2⟩ : ∃ b, decide ((k : Int) < t) = b := ⟨_, rfl⟩
          obtain ⟨b3, hb3⟩ : ∃ b, decide (f ≤ (k : Int) - 1) = b := ⟨_, rfl⟩
          obtain ⟨b4, hb4⟩ : ∃ b, decide ((k : Int) - 1 < t) = b := ⟨_, rfl⟩
          cases b1 <;> cases b2 <;> cases b3 <;> cases b4
          all_goals first
            | (exfalso; rw [hb1] at hb3; exact Bool.noConfusion hb3)
            | (exfalso; rw [hb2] at hb4; exact Bool.noConfusion hb4)
            | (go_wp2_with fail; go_meet; exact ⟨congrArg Value.bool (by unfold hit; rw [hov.out]; simp only [Bool.decide_and, hb1, hb2, hb3, hb4, Bool.and_true, Bool.and_false, Bool.or_true, Bool.or_false, Bool.or_self, Bool.and_self]), rfl⟩)
        case rest =>
          obtain ⟨rfl, rfl⟩ := hcut
          cases hhit : hit g.C f t k
          · have HH := Lib.hid hhit; clear hhit
            go_wp2_with fail
            go_roundw
            case rel =>
              refine ⟨k + 1, by omega, by go_num, M, HM.out, ?_, HS5.out⟩
              show ∀ j, _
              intro j
              rw [gM.out]
              by_cases e : k = j
              · subst e; rw [if_neg (Nat.lt_irrefl _), if_pos (Nat.lt_succ_self _), HH.out]; rfl
              · by_cases e2 : j < k
                · rw [if_pos e2, if_pos (show j < k + 1 by omega)]
                · rw [if_neg e2, if_neg (show ¬ j < k + 1 by omega)]
            case measure => simp [intOf]; omega
          · have HH := Lib.hid hhit; clear hhit
            go_wp2_with ((with_reducible refine wp_setI (k := k) (u := 32) HS5.out 1 rfl ?_ ?_ ?_ ?_); go_must (rw [HM.out]; exact hlt); go_must (exact rfl); go_must (exact rfl))
            intro w6 S6
            clear lc lf ls
            go_wp2_with fail
            go_roundw
            case rel =>
              refine ⟨k + 1, by omega, by go_num, M.set k 32, by rw [List.length_set]; exact HM.out, ?_, S6⟩
              show ∀ j, _
              intro j
              rw [gt_set (by rw [HM.out]; exact hlt), gM.out]
              by_cases e : k = j
              · subst e; rw [if_pos rfl, if_pos (Nat.lt_succ_self _), HH.out]; rfl
              · rw [if_neg e]
                by_cases e2 : j < k
                · rw [if_pos e2, if_pos (show j < k + 1 by omega)]
                · rw [if_neg e2, if_neg (show ¬ j < k + 1 by omega)]
            case measure => simp [intOf]; omega
      have h1b : (g.C[k]?.getD 0 == -1) = false := by simpa using h1
      by_cases h2 : width (gt g.C k) = 2
      · have hov : Hid (other g.C k = (k : Int) + 1) := other_wide h2
        have h2b : (width (g.C[k]?.getD 0) == 2) = true := by simpa using h2
        clear h1 h2
        go_wp2_with fail
        refine Calls.mono (spec_Width _ _) ?_; rintro e w5 ⟨rfl, x5⟩
        have S5 := S.call x5
        clear lc lf ls S hcell
        have HS5 := Lib.hid S5; clear S5
        obtain ⟨lc, lf, ls⟩ := HS5.out.cells 0 rfl
        go_upto_region 12 with fail
        clear h1b h2b
        go_cut [52] (fun s wx => s = .bool (hit g.C f t k) ∧ wx = w5)
        case first =>
          obtain ⟨b1, hb1⟩ : ∃ b, decide (f ≤ (k : Int)) = b := ⟨_, rfl⟩
          obtain ⟨b2, hb2⟩ : ∃ b, decide ((k : Int) < t) = b := ⟨_, rfl⟩
          obtain ⟨b3, hb3⟩ : ∃ b, decide (f ≤ (k : Int) + 1) = b := ⟨_, rfl⟩
          obtain ⟨b4, hb4⟩ : ∃ b, decide ((k : Int) + 1 < t) = b := ⟨_, rfl⟩
          cases b1 <;> cases b2 <;> cases b3 <;> cases b4
          all_goals first
            | (exfalso; rw [hb1] at hb3; exact Bool.noConfusion hb3)
            | (exfalso; rw [hb2] at hb4; exact Bool.noConfusion hb4)
            | (go_wp2_with fail; go_meet; exact ⟨congrArg Value.bool (by unfold hit; rw [hov.out]; simp only [Bool.decide_and, hb1, hb2, hb3, hb4, Bool.and_true, Bool.and_false, Bool.or_true, Bool.or_false, Bool.or_self, Bool.and_self]), rfl⟩)
        case rest =>
          obtain ⟨rfl, rfl⟩ := hcut
          cases hhit : hit g.C f t k
          · have HH := Lib.hid hhit; clear hhit
            go_wp2_with fail
            go_roundw
            case rel =>
              refine ⟨k + 1, by omega, by go_num, M, HM.out, ?_, HS5.out⟩
              show ∀ j, _
              intro j
              rw [gM.out]
              by_cases e : k = j
              · subst e; rw [if_neg (Nat.lt_irrefl _), if_pos (Nat.lt_succ_self _), HH.out]; rfl
              · by_cases e2 : j < k
                · rw [if_pos e2, if_pos (show j < k + 1 by omega)]
                · rw [if_neg e2, if_neg (show ¬ j < k + 1 by omega)]
            case measure => simp [intOf]; omega
          · have HH := Lib.hid hhit; clear hhit
            go_wp2_with ((with_reducible refine wp_setI (k := k) (u := 32) HS5.out 1 rfl ?_ ?_ ?_ ?_); go_must (rw [HM.out]; exact hlt); go_must (exact rfl); go_must (exact rfl))
            intro w6 S6
            clear lc lf ls
            go_wp2_with fail
            go_roundw
            case rel =>
              refine ⟨k + 1, by omega, by go_num, M.set k 32, by rw [List.length_set]; exact HM.out, ?_, S6⟩
              show ∀ j, _
              intro j
              rw [gt_set (by rw [HM.out]; exact hlt), gM.out]
              by_cases e : k = j
              · subst e; rw [if_pos rfl, if_pos (Nat.lt_succ_self _), HH.out]; rfl
              · rw [if_neg e]
                by_cases e2 : j < k
                · rw [if_pos e2, if_pos (show j < k + 1 by omega)]
                · rw [if_neg e2, if_neg (show ¬ j < k + 1 by omega)]
            case measure => simp [intOf]; omega
      · have hov : Hid (other g.C k = (k : Int)) := other_one ((vc_some hvc.out HkC.out h1).resolve_right h2)
        have h2b : (width (g.C[k]?.getD 0) == 2) = false := by simpa using h2
        clear h1 h2
        go_wp2_with fail
        refine Calls.mono (spec_Width _ _) ?_; rintro e w5 ⟨rfl, x5⟩
        have S5 := S.call x5
        clear lc lf ls S hcell
        have HS5 := Lib.hid S5; clear S5
        obtain ⟨lc, lf, ls⟩ := HS5.out.cells 0 rfl
        go_upto_region 12 with fail
        clear h1b h2b
        go_cut [52] (fun s wx => s = .bool (hit g.C f t k) ∧ wx = w5)
        case first =>
          obtain ⟨b1, hb1⟩ : ∃ b, decide (f ≤ (k : Int)) = b := ⟨_, rfl⟩
          obtain ⟨b2, hb2⟩ : ∃ b, decide ((k : Int) < t) = b := ⟨_, rfl⟩
          obtain ⟨b3, hb3⟩ : ∃ b, decide (f ≤ (k : Int)) = b := ⟨_, rfl⟩
          obtain ⟨b4, hb4⟩ : ∃ b, decide ((k : Int) < t) = b := ⟨_, rfl⟩
          cases b1 <;> cases b2 <;> cases b3 <;> cases b4
          all_goals first
            | (exfalso; rw [hb1] at hb3; exact Bool.noConfusion hb3)
            | (exfalso; rw [hb2] at hb4; exact Bool.noConfusion hb4)
            | (go_wp2_with fail; go_meet; exact ⟨congrArg Value.bool (by unfold hit; rw [hov.out]; simp only [Bool.decide_and, hb1, hb2, Bool.and_true, Bool.and_false, Bool.or_self, Bool.and_self]), rfl⟩)
        case rest =>
          obtain ⟨rfl, rfl⟩ := hcut
          cases hhit : hit g.C f t k
          · have HH := Lib.hid hhit; clear hhit
            go_wp2_with fail
            go_roundw
            case rel =>
              refine ⟨k + 1, by omega, by go_num, M, HM.out, ?_, HS5.out⟩
              show ∀ j, _
              intro j
              rw [gM.out]
              by_cases e : k = j
              · subst e; rw [if_neg (Nat.lt_irrefl _), if_pos (Nat.lt_succ_self _), HH.out]; rfl
              · by_cases e2 : j < k
                · rw [if_pos e2, if_pos (show j < k + 1 by omega)]
                · rw [if_neg e2, if_neg (show ¬ j < k + 1 by omega)]
            case measure => simp [intOf]; omega
          · have HH := Lib.hid hhit; clear hhit
            go_wp2_with ((with_reducible refine wp_setI (k := k) (u := 32) HS5.out 1 rfl ?_ ?_ ?_ ?_); go_must (rw [HM.out]; exact hlt); go_must (exact rfl); go_must (exact rfl))
            intro w6 S6
            clear lc lf ls
            go_wp2_with fail
            go_roundw
            case rel =>
              refine ⟨k + 1, by omega, by go_num, M.set k 32, by rw [List.length_set]; exact HM.out, ?_, S6⟩
              show ∀ j, _
              intro j
              rw [gt_set (by rw [HM.out]; exact hlt), gM.out]
              by_cases e : k = j
              · subst e; rw [if_pos rfl, if_pos (Nat.lt_succ_self _), HH.out]; rfl
              · rw [if_neg e]
                by_cases e2 : j < k
                · rw [if_pos e2, if_pos (show j < k + 1 by omega)]
                · rw [if_neg e2, if_neg (show ¬ j < k + 1 by omega)]
            case measure => simp [intOf]; omega
    · go_wp2_with ((with_reducible refine wp_setA (k := 0) (u := .agg #[.int .i64 g.W, .int .i64 g.H, .slice (some ⟨q, 0, none⟩) n c1, .int .i64 g.X, .int .i64 g.Y, .bool g.R]) #[.int .i64 g.W, .int .i64 g.H, .slice (some ⟨q, 0, none⟩) n c1, .int .i64 g.X, .int .i64 g.Y, .bool g.R] S 2 rfl ?_ ?_ ?_ ?_ ?_ ?_ ?_); go_must (exact rfl); go_must (exact rfl); go_must (kernel_rfl); go_must (kernel_rfl); go_must (exact Nat.le_of_ble_eq_true (by kernel_rfl)); go_must (kernel_rfl))
      intro w4 S5
      go_wp2_with fail
      obtain ⟨lc5, -, -⟩ := S5.cells 2 rfl
      obtain rfl : k = n := by omega
      have eM : M = clearC g.C f t := by
        apply ext_gt (by rw [HM.out, clearC_len, Hn.out])
        intro j hj
        rw [HM.out] at hj
        rw [gM.out, if_pos hj, gt_clear (by rw [Hn.out]; exact hj)]
      have o5 := S5.outI 1 rfl
      rw [eM] at o5
      exact bodyPost_ret (v := .agg #[.int .i64 g.W, .int .i64 g.H, .slice (some ⟨q, 0, none⟩) k c1, .int .i64 g.X, .int .i64 g.Y, .bool g.R]) (by simp [results, Tryd.results75, go_sem, lc5]) rfl ⟨_, rfl, o5, S5.ext⟩
end Go.Proofs.YtohjjhoobikioaaDoor
