/-
  The grid's own methods where the grid lies in a terminal: moveTo, erase, scroll. Printed by gen_vm.py.
-/
import Derived.Test.YtohjjhoobikioaaDoorGM3
namespace Go.Proofs.YtohjjhoobikioaaDoor
open Go.RowKit

/-- the four cells behind a terminal's grid -/
structure VQ where
  s : Value
  a : Value
  p : Value
  n : Value
def vtCs (q0 : VQ) (g : Gr) (v : Value) : Array Value := #[.int .i64 g.W, .int .i64 g.H, v, .int .i64 g.X, .int .i64 g.Y, .bool g.R, q0.s, q0.a, q0.p, q0.n]
def vbox (q0 : VQ) (b : Nat) (v : Value) (g : Gr) : List Pc := [row b 58 (vtCs q0 g v), ownI v g.C]
theorem arr10 {a b c d e f a' b' c' d' e' f' : Value} {q0 : VQ} (h1 : a = a') (h2 : b = b') (h3 : c = c') (h4 : d = d') (h5 : e = e') (h6 : f = f') : (#[a, b, c, d, e, f, q0.s, q0.a, q0.p, q0.n] : Array Value) = #[a', b', c', d', e', f', q0.s, q0.a, q0.p, q0.n] := by rw [h1, h2, h3, h4, h5, h6]

set_option maxRecDepth 100000 in
set_option maxHeartbeats 2000000 in
theorem vt_moveTo (q0 : VQ) (g : Gr) (x y : Int) (b : Nat) (v : Value) (W w : World) (L : List Pc) (S : St W w (vbox q0 b v g ++ L)) (hg : gridOk g = true) (hx : -9223372036854775808 ≤ x) (hx2 : x ≤ 9223372036854775807) :
    Calls Tryd.prog 91 #[.pointer (some ⟨b, 0, none⟩), .int .i64 x, .int .i64 y] w fun e w' => e = .returned (.tuple #[]) ∧ St W w' (vbox q0 b v (goG g x y) ++ L) := by
  obtain ⟨lc, lf, ls⟩ := S.cells 0 rfl
  obtain ⟨hd1, hd2, hd3, hd4, -, -⟩ := gridOk_d hg
  have e1 : IntKind.i64.wrap (g.W - 1) = g.W - 1 := IntWalk.i64_in _ (by omega)
  have e2 : IntKind.i64.wrap (g.H - 1) = g.H - 1 := IntWalk.i64_in _ (by omega)
  simp only [vtCs] at lc
  go_enter Tryd.func91, Tryd.ntmps91
  go_region
  go_end0
  refine ⟨rfl, St.castR ((((S.setc 0 rfl 3 _).setc 0 rfl 4 _).setc 0 rfl 5 _).drew) ?_⟩
  simp only [vtCs, goG, clampI, List.setIfInBounds_toArray, List.set_cons_zero, List.set_cons_succ]
  refine arr10 rfl rfl rfl ?_ ?_ rfl
  · exact congrArg _ (by (repeat' split) <;> omega)
  · exact congrArg _ (by (repeat' split) <;> omega)

set_option maxRecDepth 100000 in
set_option maxHeartbeats 4000000 in
theorem vt_erase (q0 : VQ) (g : Gr) (f t : Nat) (b : Nat) (v : Value) (W w : World) (L : List Pc) (S : St W w (vbox q0 b v g ++ L)) (hft : f < t) (ht : t ≤ g.C.length) (hlen : g.C.length ≤ 8000) (hh : gt g.C f = -1 → 0 < f) :
    Calls Tryd.prog 104 #[.pointer (some ⟨b, 0, none⟩), .int .i64 f, .int .i64 t] w fun e w' => e = .returned (.tuple #[]) ∧ St W w' (vbox q0 b v { g with C := eraseC g.C f t } ++ L) := by
  rcases (S.ownI 1 rfl).shape with ⟨rfl, h0⟩ | ⟨q, c, rfl, -, hq, hc, hcm⟩
  · rw [h0] at ht; simp at ht; omega
  obtain ⟨n, hn⟩ : ∃ n, n = g.C.length := ⟨_, rfl⟩
  rw [← hn] at hlen ht hc S
  have Hn := Lib.hid hn
  have HS := Lib.hid S; have Hh := Lib.hid hh
  have own := S.ownI 1 rfl
  have Hc0 := Lib.hid (fun j (hj : j < n) => own.cell (k := j) (by rw [← hn]; exact hj))
  have Hf0 := Lib.hid (fun j => own.frozen j)
  obtain ⟨lc, lf, ls⟩ := S.cells 0 rfl
  simp only [vtCs] at lc
  clear S hh own hn
  have hf := Hc0.out f (by omega)
  go_enter Tryd.func104, Tryd.ntmps104
  go_wp2_with fail
  go_quiet (fail)
  go_upto_if 26 with fail
  go_cut [] (fun wx => ∃ D : List Int, D.length = n ∧ Hid (∀ j, gt D j = if j + 1 = f ∧ gt g.C f = -1 then 32 else gt g.C j) ∧ St W wx (vbox q0 b (.slice (some ⟨q, 0, none⟩) n c) { g with C := D } ++ L))
  case first =>
    by_cases h1 : gt g.C f = -1
    · have h1b : (g.C[f]?.getD 0 == -1) = true := by simpa using h1
      obtain ⟨f', rfl⟩ : ∃ f', f = f' + 1 := ⟨f - 1, by have := Hh.out h1; omega⟩
      go_wp2_with ((with_reducible refine wp_setI (k := f') (u := 32) (HS.out.drewN _) 1 rfl ?_ ?_ ?_ ?_); go_must (rw [← Hn.out]; omega); go_must (exact rfl); go_must (exact rfl))
      intro w2 S2
      go_wp2_with fail
      go_meet
      refine ⟨g.C.set f' 32, by rw [List.length_set]; exact Hn.out.symm, ?_, S2⟩
      show ∀ j, _
      intro j
      rw [gt_set (by rw [← Hn.out]; omega)]
      by_cases e : f' = j
      · subst e; simp [h1]
      · rw [if_neg e, if_neg (by omega)]
    · have h1b : (g.C[f]?.getD 0 == -1) = false := by simpa using h1
      go_wp2_with fail
      go_meet
      exact ⟨g.C, Hn.out.symm, (by show ∀ j, _; intro j; rw [if_neg (fun h => h1 h.2)]), HS.out.drewN _⟩
  case rest =>
    obtain ⟨D, hD, gD, S⟩ := hcut
    have HD := Lib.hid hD; clear hD lc lf ls hf Hc0 Hf0 HS
    obtain ⟨lc, lf, ls⟩ := S.cells 0 rfl
    simp only [vtCs] at lc
    have own := S.ownI 1 rfl
    have hEt : Hid (gt D t = gt g.C t) := by show _ = _; rw [gD.out, if_neg (by omega)]
    have hct : t < n → wc.cell? ⟨q, t, none⟩ = some (.int .i64 (D[t]?.getD 0)) := fun h => own.cell (k := t) (by show t < D.length; rw [HD.out]; exact h)
    have Hct := Lib.hid hct; clear hct
    go_upto_region 4 with fail
    go_cut [50] (fun s50 wx => s50 = .bool (decide (t < n) && decide (gt D t = -1)) ∧ wx = wc)
    case first =>
      by_cases htn : t < n
      · have hc2 := Hct.out htn
        by_cases h2 : gt D t = -1
        · have h2b : (D[t]?.getD 0 == -1) = true := by simpa using h2
          go_wp2_with fail
          go_meet
          exact ⟨by simp [htn, h2], rfl⟩
        · have h2b : (D[t]?.getD 0 == -1) = false := by simpa using h2
          go_wp2_with fail
          go_meet
          exact ⟨by simp [htn, h2], rfl⟩
      · go_wp2_with fail
        go_meet
        exact ⟨by simp [htn], rfl⟩
    case rest =>
      obtain ⟨rfl, rfl⟩ := hcut
      go_upto_if 50 with fail
      go_cut [] (fun wx => ∃ E : List Int, E.length = n ∧ Hid (∀ j, gt E j = if j + 1 = f ∧ gt g.C f = -1 then 32 else if j = t ∧ gt g.C t = -1 then 32 else gt g.C j) ∧ St W wx (vbox q0 b (.slice (some ⟨q, 0, none⟩) n c) { g with C := E } ++ L))
      case first =>
        by_cases h2 : t < n ∧ gt D t = -1
        · have h2b : (decide (t < n) && decide (gt D t = -1)) = true := by simpa using h2
          rw [h2b]
          go_wp2_with ((with_reducible refine wp_setI (k := t) (u := 32) S 1 rfl ?_ ?_ ?_ ?_); go_must (show t < D.length; rw [HD.out]; omega); go_must (exact rfl); go_must (exact rfl))
          intro w2 S2
          go_wp2_with fail
          go_meet
          refine ⟨D.set t 32, by rw [List.length_set]; exact HD.out, ?_, S2⟩
          show ∀ j, _
          intro j
          rw [gt_set (by rw [HD.out]; omega), ← hEt.out]
          by_cases e : t = j
          · subst e; rw [if_pos rfl]; split; rfl; rw [if_pos ⟨rfl, h2.2⟩]
          · rw [if_neg e, gD.out]
            by_cases e3 : j + 1 = f ∧ gt g.C f = -1
            · rw [if_pos e3, if_pos e3]
            · rw [if_neg e3, if_neg e3, if_neg (fun h => e h.1.symm)]
        · have h2b : (decide (t < n) && decide (gt D t = -1)) = false := by rw [Bool.and_eq_false_iff]; rcases Classical.not_and_iff_not_or_not.1 h2 with h | h <;> simp [h]
          rw [h2b]
          go_wp2_with fail
          go_meet
          refine ⟨D, HD.out, ?_, S⟩
          show ∀ j, _
          intro j
          rw [gD.out]
          by_cases e : j = t ∧ gt g.C t = -1
          · exfalso; refine h2 ⟨?_, by rw [hEt.out]; exact e.2⟩
            rcases Nat.lt_or_ge t n with h3 | h3
            · exact h3
            · have := e.2; rw [gt_out (by rw [← Hn.out]; exact h3)] at this; omega
          · rw [if_neg e]
      case rest =>
        obtain ⟨E, hE, gE, S2⟩ := hcut
        have HE := Lib.hid hE; have HS := Lib.hid S2
        clear hE S2 lc lf ls S own Hct
        go_wp2_with fail
        go_loopw [6] (fun vi wr => ∃ k : Nat, f ≤ k ∧ k ≤ t ∧ vi = .int .i64 k ∧ ∃ M : List Int, M.length = n ∧ Hid (∀ j, gt M j = if f ≤ j ∧ j < k then 32 else gt E j) ∧ St W wr (vbox q0 b (.slice (some ⟨q, 0, none⟩) n c) { g with C := M } ++ L)) (fun vi _ => t - (intOf vi).toNat)
        case atStart => exact ⟨f, by omega, by omega, rfl, E, HE.out, (by show ∀ j, _; intro j; rw [if_neg (by omega)]), HS.out⟩
        case round =>
          obtain ⟨k, hk1, hk2, rfl, M, hM, gM, S⟩ := hrel
          have HM := Lib.hid hM; clear hM
          obtain ⟨lc, lf, ls⟩ := S.cells 0 rfl
          simp only [vtCs] at lc
          by_cases hlt : k < t
          · go_wp2_with ((with_reducible refine wp_setI (k := k) (u := 32) S 1 rfl ?_ ?_ ?_ ?_); go_must (show k < M.length; rw [HM.out]; omega); go_must (exact rfl); go_must (exact rfl))
            intro w2 S2
            clear lc lf ls
            go_wp2_with fail
            go_roundw
            case rel =>
              refine ⟨k + 1, by omega, by omega, by go_num, M.set k 32, by rw [List.length_set]; exact HM.out, ?_, S2⟩
              show ∀ j, _
              intro j
              rw [gt_set (by rw [HM.out]; omega), gM.out]
              by_cases e : k = j
              · subst e; rw [if_pos rfl, if_pos (by omega)]
              · rw [if_neg e]
                by_cases e2 : f ≤ j ∧ j < k
                · rw [if_pos e2, if_pos (by omega)]
                · rw [if_neg e2, if_neg (by omega)]
            case measure => simp [intOf]; omega
          · go_wp2_with fail
            go_end0
            obtain rfl : k = t := by omega
            have e : M = eraseC g.C f k := by
              apply ext_gt (by rw [HM.out, Hn.out]; simp [eraseC])
              intro j hj
              rw [HM.out] at hj
              rw [gM.out, gE.out, show gt (eraseC g.C f k) j = _ from gt_map (by rw [← Hn.out]; exact hj)]
            rw [e] at S
            have S9 := S
            rw [Hn.out] at S9
            exact ⟨rfl, S9⟩
end Go.Proofs.YtohjjhoobikioaaDoor
/-! The grid's own methods: scroll, put. -/
namespace Go.Proofs.YtohjjhoobikioaaDoor
open Go.RowKit
set_option maxRecDepth 100000 in
set_option maxHeartbeats 4000000 in
theorem vt_scroll (q0 : VQ) (g : Gr) (b : Nat) (v : Value) (W w : World) (L : List Pc) (S : St W w (vbox q0 b v g ++ L)) (hg : gridOk g = true) :
    Calls Tryd.prog 129 #[.pointer (some ⟨b, 0, none⟩)] w fun e w' => e = .returned (.tuple #[]) ∧ ∃ v', St W w' (vbox q0 b v' (scrollG g) ++ L) := by
  obtain ⟨hd1, hd2, hd3, hd4, hd5, hd6⟩ := gridOk_d hg
  have hle := row_le hg
  obtain ⟨Wn, hWn⟩ : ∃ Wn : Nat, (Wn : Int) = g.W := ⟨g.W.toNat, by omega⟩
  have hWt : g.W.toNat = Wn := by omega
  obtain ⟨n, hn⟩ : ∃ n, n = g.C.length := ⟨_, rfl⟩
  rw [← hn, hWt] at hle
  have hn8 : n ≤ 8000 := by omega
  rcases (S.ownI 1 rfl).shape with ⟨rfl, h0⟩ | ⟨q, c, rfl, -, hq, hc, hcm⟩
  · rw [h0] at hn; simp at hn; omega
  rw [← hn] at S hc
  have own := S.ownI 1 rfl
  obtain ⟨A1, c1, e1, r1⟩ := own.form
  injection e1 with e1 e2 e3
  subst e1; subst e3
  have r2 := r1.subA (lo := Wn) (hi := n) (by omega) (by omega)
  have Hr := Lib.hid r2
  obtain ⟨lc, lf, ls⟩ := S.cells 0 rfl
  simp only [vtCs, ← hWn] at lc
  have HS := Lib.hid S
  have HW := Lib.hid hWn; have Hn := Lib.hid hn; have HWt := Lib.hid hWt
  clear own r1 r2 S e2 hd5 hd6 hWn hn hWt
  go_enter Tryd.func129, Tryd.ntmps129
  go_wp2_with fail
  have kp : Hid (∀ w', Ext w w' → w'.cell? ⟨b, 0, none⟩ = some (.int .i64 Wn) ∧ w'.cell? ⟨b, 2, none⟩ = some (.slice (some ⟨q, 0, none⟩) n c) ∧ Ext w w') := by
    intro w' x
    obtain ⟨l2, -, -⟩ := (HS.out.call x).cells 0 rfl
    simp only [vtCs, ← HW.out] at l2
    exact ⟨l2 0, l2 2, x⟩
  have kp2 : Hid (∀ w' w1, (w'.cell? ⟨b, 0, none⟩ = some (.int .i64 Wn) ∧ w'.cell? ⟨b, 2, none⟩ = some (.slice (some ⟨q, 0, none⟩) n c) ∧ Ext w w') → Ext w' w1 → (w1.cell? ⟨b, 0, none⟩ = some (.int .i64 Wn) ∧ w1.cell? ⟨b, 2, none⟩ = some (.slice (some ⟨q, 0, none⟩) n c) ∧ Ext w w1)) :=
    fun w' w1 h x => kp.out w1 (h.2.2.trans x)
  by_cases hcw : c = Wn
  all_goals
    have hsub : Hid (subA (some ⟨q, 0, none⟩) c Wn = if c = Wn then some ⟨q, 0, none⟩ else some ⟨q, Wn, none⟩) := by
      show _ = _; unfold subA; split <;> simp [Addr.add_lit]
    have Hr2 := Hr.out
    rw [hsub.out] at Hr2
    first | (rw [if_pos hcw, show c - Wn = 0 by omega] at Hr2) | rw [if_neg hcw] at Hr2
    have Hr3 := Lib.hid Hr2
    clear Hr2 hsub
    go_region_held3 (fun w' => w'.cell? ⟨b, 0, none⟩ = some (.int .i64 Wn) ∧ w'.cell? ⟨b, 2, none⟩ = some (.slice (some ⟨q, 0, none⟩) n c) ∧ Ext w w')
      ((first | exact kp.out _ (Ext.refl _).drew | exact kp.out _ ((Ext.refl _).drewN _) | (refine kp2.out _ _ ?_ (by assumption); assumption)))
      (first
        | (go_at_call 102; (refine (impl_copyInts _ _ _ _ _ (Hr3.out.ext (And.right (And.right (by assumption)))) (by omega)).mono ?_); rintro e w1 ⟨v1, rfl, own1, x1⟩))
    clear hcw
    have hB := x1.size
    have X1 : Ext w w1 := by first | exact (Ext.refl w).drew.trans x1 | exact ((Ext.refl w).drewN _).trans x1 | exact (Ext.refl w).trans x1
    have el : (g.C.drop Wn).take (n - Wn) = g.C.drop Wn := List.take_of_length_le (by rw [List.length_drop, ← Hn.out]; exact Nat.le_refl _)
    rw [el] at own1
    have S1 := (HS.out.call (w' := w1.drewN 0) X1)
    have own1' : OwnI w1 w.heap.size v1 (g.C.drop Wn) := own1
    have S2 := Lib.hid (HS.out.newI own1' X1)
    clear el own1 own1' Hr3 lc lf ls S1 hB X1
    obtain ⟨lc, lf, ls⟩ := S2.out.cells 1 rfl
    simp only [vtCs, ← HW.out] at lc
    go_wp2_with fail
    go_loopw [2, 17] (fun vl vi wr => ∃ k : Nat, k ≤ Wn ∧ vi = .int .i64 k ∧ St W wr (ownI vl (g.C.drop Wn ++ List.replicate k 32) :: (vbox q0 b (.slice (some ⟨q, 0, none⟩) n c) g ++ L))) (fun _ vi _ => Wn - (intOf vi).toNat)
    case atStart => exact ⟨0, by omega, rfl, by simpa using S2.out⟩
    case round =>
      obtain ⟨k, hk, rfl, S⟩ := hrel
      clear lc lf ls
      obtain ⟨lc, lf, ls⟩ := S.cells 1 rfl
      simp only [vtCs] at lc
      have hld : (g.C.drop Wn ++ List.replicate k 32).length = n - Wn + k := by rw [List.length_append, List.length_drop, List.length_replicate, ← Hn.out]
      have Hld := Lib.hid hld; clear hld
      by_cases hlt : k < Wn
      · go_wp2_with (at_builtin; refine wp_addI rfl _ _ rfl (S.skip _) 0 rfl rfl rfl (RI.new _ [32] (by simp)) (by rw [Hld.out]; simp; omega) ?_)
        intro v2 w2 S3
        clear lc lf ls
        go_wp2_with fail
        go_roundw
        case rel => exact ⟨k + 1, by omega, by go_num, by rw [List.replicate_succ']; exact S3⟩
        case measure => simp [intOf]; omega
      · obtain ⟨D, hD⟩ : ∃ D, D = g.C.drop Wn ++ List.replicate k 32 := ⟨_, rfl⟩
        rw [← hD] at S
        have HD := Lib.hid hD; clear hD
        obtain ⟨A5, c5, rfl, -⟩ := (S.ownI 0 rfl).form
        go_wp2_with fail
        go_end0
        obtain rfl : k = Wn := by omega
        refine ⟨rfl, .slice A5 D.length c5, ?_⟩
        have S3 : St W _ (ownI (.slice A5 D.length c5) D :: row b 58 (vtCs q0 g (.slice A5 D.length c5)) :: ownI (.slice (some ⟨q, 0, none⟩) n c) g.C :: L) := S.setc 1 rfl 2 (.slice A5 D.length c5)
        have S4 : St W _ (vbox q0 b (.slice A5 D.length c5) { g with C := D } ++ L) := ((S3.swap).bring 2 rfl).drop
        have e : scrollG g = { g with C := D } := by unfold scrollG scrollC; rw [HWt.out, HD.out]
        rw [e]
        exact S4
end Go.Proofs.YtohjjhoobikioaaDoor
