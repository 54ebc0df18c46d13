/-
  The grid's own methods: scroll, put.
-/
import Derived.Test.YtohjjhoobikioaaDoorGM
namespace Go.Proofs.YtohjjhoobikioaaDoor
open Go.RowKit
theorem OwnI.one {w : World} {B : Nat} {v : Value} {l : List Int} (h : OwnI w B v l) : v.cells = #[v] ∧ v.oneCell' = true := by
  rcases h.shape with ⟨rfl, _⟩ | ⟨g, c, rfl, _⟩ <;> exact ⟨rfl, rfl⟩

theorem impl_copyInts (A : Option Addr) (n c : Nat) (l : List Int) (w : World) (h : RI w A n c l) (hs : n ≤ 4294967296) :
    Calls Tryd.prog 102 #[.slice A n c] w fun e w' => ∃ v, e = .returned v ∧ OwnI w' w.heap.size v l ∧ Ext w w' := by
  go_enter Tryd.func102, Tryd.ntmps102
  go_wp2_with (at_builtin; refine wp_appI rfl _ _ rfl rfl (OwnI.nil w w.heap.size) rfl h (by simp; omega) (Nat.le_refl _) ?_)
  intro v1 w1 own1 hg1 _
  go_wp2_with fail
  go_ret
  exact ⟨_, rfl, own1, (Ext.refl w).grown (OwnI.nil w w.heap.size) hg1⟩

set_option maxRecDepth 100000 in
set_option maxHeartbeats 4000000 in
theorem impl_scroll (g : Gr) (b : Nat) (v : Value) (W w : World) (L : List Pc) (S : St W w (gbox b v g ++ L)) (hg : gridOk g = true) :
    Calls Tryd.prog 129 #[.pointer (some ⟨b, 0, none⟩)] w fun e w' => e = .returned (.tuple #[]) ∧ ∃ v', St W w' (gbox b v' (scrollG g) ++ L) := by
  obtain ⟨hd1, hd2, hd3, hd4, hd5, hd6⟩ := gridOk_d hg
  have hle := row_le hg
  obtain ⟨Wn, hWn⟩ : ∃ Wn : Nat, (Wn : Int) = g.W := ⟨g.W.toNat, by omega⟩
  have hWt : g.W.toNat = Wn := by omega
  obtain ⟨n, hn⟩ : ∃ n, n = g.C.length := ⟨_, rfl⟩
  rw [← hn, hWt] at hle
  have hn8 : n ≤ 8000 := by omega
  rcases (S.ownI 1 rfl).shape with ⟨rfl, h0⟩ | ⟨q, c, rfl, -, hq, hc, hcm⟩
  · rw [h0] at hn; simp at hn; omega
  rw [← hn] at S hc
  have own := S.ownI 1 rfl
  obtain ⟨A1, c1, e1, r1⟩ := own.form
  injection e1 with e1 e2 e3
  subst e1; subst e3
  have r2 := r1.subA (lo := Wn) (hi := n) (by omega) (by omega)
  have Hr := Lib.hid r2
  obtain ⟨lc, lf, ls⟩ := S.cells 0 rfl
  simp only [gridCs, ← hWn] at lc
  have HS := Lib.hid S
  have HW := Lib.hid hWn; have Hn := Lib.hid hn; have HWt := Lib.hid hWt
  clear own r1 r2 S e2 hd5 hd6 hWn hn hWt
  go_enter Tryd.func129, Tryd.ntmps129
  go_wp2_with fail
  have kp : Hid (∀ w', Ext w w' → w'.cell? ⟨b, 0, none⟩ = some (.int .i64 Wn) ∧ w'.cell? ⟨b, 2, none⟩ = some (.slice (some ⟨q, 0, none⟩) n c) ∧ Ext w w') := by
    intro w' x
    obtain ⟨l2, -, -⟩ := (HS.out.call x).cells 0 rfl
    simp only [gridCs, ← HW.out] at l2
    exact ⟨l2 0, l2 2, x⟩
  have kp2 : Hid (∀ w' w1, (w'.cell? ⟨b, 0, none⟩ = some (.int .i64 Wn) ∧ w'.cell? ⟨b, 2, none⟩ = some (.slice (some ⟨q, 0, none⟩) n c) ∧ Ext w w') → Ext w' w1 → (w1.cell? ⟨b, 0, none⟩ = some (.int .i64 Wn) ∧ w1.cell? ⟨b, 2, none⟩ = some (.slice (some ⟨q, 0, none⟩) n c) ∧ Ext w w1)) :=
    fun w' w1 h x => kp.out w1 (h.2.2.trans x)
  by_cases hcw : c = Wn
  all_goals
    have hsub : Hid (subA (some ⟨q, 0, none⟩) c Wn = if c = Wn then some ⟨q, 0, none⟩ else some ⟨q, Wn, none⟩) := by
      show _ = _; unfold subA; split <;> simp [Addr.add_lit]
    have Hr2 := Hr.out
    rw [hsub.out] at Hr2
    first | (rw [if_pos hcw, show c - Wn = 0 by omega] at Hr2) | rw [if_neg hcw] at Hr2
    have Hr3 := Lib.hid Hr2
    clear Hr2 hsub
    go_region_held3 (fun w' => w'.cell? ⟨b, 0, none⟩ = some (.int .i64 Wn) ∧ w'.cell? ⟨b, 2, none⟩ = some (.slice (some ⟨q, 0, none⟩) n c) ∧ Ext w w')
      ((first | exact kp.out _ (Ext.refl _).drew | exact kp.out _ ((Ext.refl _).drewN _) | (refine kp2.out _ _ ?_ (by assumption); assumption)))
      (first
        | (go_at_call 102; (refine (impl_copyInts _ _ _ _ _ (Hr3.out.ext (And.right (And.right (by assumption)))) (by omega)).mono ?_); rintro e w1 ⟨v1, rfl, own1, x1⟩))
    clear hcw
    have hB := x1.size
    have X1 : Ext w w1 := by first | exact (Ext.refl w).drew.trans x1 | exact ((Ext.refl w).drewN _).trans x1 | exact (Ext.refl w).trans x1
    have el : (g.C.drop Wn).take (n - Wn) = g.C.drop Wn := List.take_of_length_le (by rw [List.length_drop, ← Hn.out]; exact Nat.le_refl _)
    rw [el] at own1
    have S1 := (HS.out.call (w' := w1.drewN 0) X1)
    have own1' : OwnI w1 w.heap.size v1 (g.C.drop Wn) := own1
    have S2 := Lib.hid (HS.out.newI own1' X1)
    clear el own1 own1' Hr3 lc lf ls S1 hB X1
    obtain ⟨lc, lf, ls⟩ := S2.out.cells 1 rfl
    simp only [gridCs, ← HW.out] at lc
    go_wp2_with fail
    go_loopw [2, 17] (fun vl vi wr => ∃ k : Nat, k ≤ Wn ∧ vi = .int .i64 k ∧ St W wr (ownI vl (g.C.drop Wn ++ List.replicate k 32) :: (gbox b (.slice (some ⟨q, 0, none⟩) n c) g ++ L))) (fun _ vi _ => Wn - (intOf vi).toNat)
    case atStart => exact ⟨0, by omega, rfl, by simpa using S2.out⟩
    case round =>
      obtain ⟨k, hk, rfl, S⟩ := hrel
      clear lc lf ls
      obtain ⟨lc, lf, ls⟩ := S.cells 1 rfl
      simp only [gridCs] at lc
      have hld : (g.C.drop Wn ++ List.replicate k 32).length = n - Wn + k := by rw [List.length_append, List.length_drop, List.length_replicate, ← Hn.out]
      have Hld := Lib.hid hld; clear hld
      by_cases hlt : k < Wn
      · go_wp2_with (at_builtin; refine wp_addI rfl _ _ rfl (S.skip _) 0 rfl rfl rfl (RI.new _ [32] (by simp)) (by rw [Hld.out]; simp; omega) ?_)
        intro v2 w2 S3
        clear lc lf ls
        go_wp2_with fail
        go_roundw
        case rel => exact ⟨k + 1, by omega, by go_num, by rw [List.replicate_succ']; exact S3⟩
        case measure => simp [intOf]; omega
      · obtain ⟨D, hD⟩ : ∃ D, D = g.C.drop Wn ++ List.replicate k 32 := ⟨_, rfl⟩
        rw [← hD] at S
        have HD := Lib.hid hD; clear hD
        obtain ⟨A5, c5, rfl, -⟩ := (S.ownI 0 rfl).form
        go_wp2_with fail
        go_end0
        obtain rfl : k = Wn := by omega
        refine ⟨rfl, .slice A5 D.length c5, ?_⟩
        have S3 : St W _ (ownI (.slice A5 D.length c5) D :: row b 40 (gridCs g (.slice A5 D.length c5)) :: ownI (.slice (some ⟨q, 0, none⟩) n c) g.C :: L) := S.setc 1 rfl 2 (.slice A5 D.length c5)
        have S4 : St W _ (gbox b (.slice A5 D.length c5) { g with C := D } ++ L) := ((S3.swap).bring 2 rfl).drop
        have e : scrollG g = { g with C := D } := by unfold scrollG scrollC; rw [HWt.out, HD.out]
        rw [e]
        exact S4
end Go.Proofs.YtohjjhoobikioaaDoor
