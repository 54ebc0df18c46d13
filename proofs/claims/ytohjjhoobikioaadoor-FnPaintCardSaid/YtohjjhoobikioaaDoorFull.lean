/-
  Full of both packages.
-/
import Derived.Test.YtohjjhoobikioaaDoorDiffS
import Derived.Test.YtohjjhoobikioaaDoorPOk
import Derived.Test.YtohjjhoobikioaaDoorOwnX
namespace Go.Proofs.YtohjjhoobikioaaDoor
open Go.RowKit

def newG (W H : Int) : Gr := ⟨W, H, List.replicate (W * H).toNat 32, 0, 0, false⟩
theorem gt_rep {m i : Nat} (h : i < m) : gt (List.replicate m 32) i = 32 := by simp [gt, h]
theorem newG_ok {W H : Int} (h : newOk W H) : gridOk (newG W H) = true := by
  obtain ⟨h1, h2, h3, h4, h5⟩ := h
  have hp : 0 ≤ W * H := Int.mul_nonneg (by omega) (by omega)
  refine gridOk_iff.2 ⟨⟨h1, h2, h3, h4, h5, ?_⟩, ⟨Int.le_refl _, (by show (0 : Int) < W; omega), Int.le_refl _, (by show (0 : Int) < H; omega), (by intro e; cases e)⟩, ?_⟩
  · show ((List.replicate (W * H).toNat (32 : Int)).length : Int) = W * H
    rw [List.length_replicate]; omega
  · intro i hi
    have hi2 : i < (W * H).toNat := by simpa [newG] using hi
    have e : gt (newG W H).C i = 32 := gt_rep hi2
    exact cellB_intro (fun q => by rw [e] at q; omega) (fun _ => .inl (by rw [e]; exact width_32))
theorem newOk_of {g : Gr} (h : gridOk g = true) : newOk g.W g.H := by
  obtain ⟨d1, d2, d3, d4, d5, -⟩ := gridOk_d h
  exact ⟨d1, d2, d3, d4, d5⟩
def fullOk (b : Gr) : Bool := gridOk b && !b.R
def fullB (b : Gr) : List UInt8 := [27, 91, 72, 27, 91, 50, 74] ++ diffB (newG b.W b.H) b
def fullD (b : Gr) : List UInt8 := if fullOk b = true then fullB b else []
theorem fullOk_iff {b : Gr} : fullOk b = true ↔ gridOk b = true ∧ b.R = false := by simp [fullOk]
theorem diffOk_new {b : Gr} (h : newOk b.W b.H) : diffOk (newG b.W b.H) b = fullOk b := by
  unfold diffOk fullOk
  rw [newG_ok h]
  simp [newG]
theorem diffOk_no {g b : Gr} (h : gridOk g = false) : diffOk g b = false := by simp [diffOk, h]
theorem zeroG_no : gridOk ⟨0, 0, [], 0, 0, false⟩ = false := by
  cases h : gridOk ⟨0, 0, [], 0, 0, false⟩
  · rfl
  · exact absurd (gridOk_d h).1 (by decide)
theorem fullD_len (b : Gr) : (fullD b).length ≤ 1600031 := by
  unfold fullD; split
  · rename_i h
    obtain ⟨h1, h2⟩ := fullOk_iff.1 h
    have := diffB_len (newG_ok (newOk_of h1)) h1 rfl rfl
    simp only [fullB, List.length_append, List.length_cons, List.length_nil]
    omega
  · simp

set_option maxRecDepth 100000 in
set_option maxHeartbeats 4000000 in
theorem impl_Full (b : Gr) (A : Option Addr) (n c : Nat) (w : World) (ht : Tab w) (hC : RI w A n c b.C) :
    Calls Tryd.prog 35 #[.agg #[.int .i64 b.W, .int .i64 b.H, .slice A n c, .int .i64 b.X, .int .i64 b.Y, .bool b.R]] w fun e w' =>
      ∃ v, e = .returned (.tuple #[v, .bool (fullOk b)]) ∧ OwnX w' w.heap.size v (fullD b) ∧ Ext w w' := by
  have S := (St.refl w).alloc #[.int .i64 b.W, .int .i64 b.H, .slice A n c, .int .i64 b.X, .int .i64 b.Y, .bool b.R] 40
  have K1 := Lib.hid (fun w h => impl_GridOk b.W b.H b.X b.Y b.R b.C A n c w h)
  by_cases hn : newOk b.W b.H
  · obtain ⟨m, hm⟩ := newOk_m hn
    have hmm : (b.W * b.H).toNat = m := by omega
    have HN := Lib.hid hn; have HM := Lib.hid hmm; have Hm := Lib.hid hm
    clear hn hm hmm
    cases hg : gridOk b
    · have E : Hid (fullOk b = false) := by show _ = _; simp [fullOk, hg]
      have hg2 : gridOk ⟨b.W, b.H, b.C, b.X, b.Y, b.R⟩ = false := hg
      rw [hg2] at K1
      clear hg hg2
      go_enter Tryd.func35, Tryd.ntmps35
      go_wp2_with fail
      refine Calls.mono (impl_GridNew_yes b.W b.H m _ HN.out Hm.out) ?_; rintro e w1 ⟨v, rfl, own, x1⟩
      obtain ⟨A1, n1, c1, rfl⟩ := own.form'
      have S1 := (S.newI own x1).skip (.cells #[.int .i64 b.W, .int .i64 b.H, .slice A1 n1 c1, .int .i64 0, .int .i64 0, .bool false] 40)
      clear own x1
      obtain ⟨lc, lf, ls⟩ := S1.cells 1 rfl
      go_wp2_with fail
      refine Calls.mono (K1.out _ (hC.ext S1.ext)) ?_; rintro e w2 ⟨rfl, x2⟩
      have S2 := S1.call x2
      obtain ⟨lc2, lf2, ls2⟩ := S2.cells 1 rfl
      go_wp2_with fail
      go_ret2
      exact ⟨_, by rw [E.out]; rfl, by unfold fullD; rw [E.out]; exact .inl (OwnB.nil _ _), S2.ext⟩
    · have hg2 : gridOk ⟨b.W, b.H, b.C, b.X, b.Y, b.R⟩ = true := hg
      rw [hg2] at K1
      have Hg := Lib.hid hg
      clear hg hg2
      cases hR : b.R
      · have E : Hid (fullOk b = true) := fullOk_iff.2 ⟨Hg.out, hR⟩
        have ED : Hid (diffOk (newG b.W b.H) b = true) := by show _ = _; rw [diffOk_new HN.out]; exact E.out
        have K2 := Lib.hid (fun A1 n1 c1 w h1 h2 h3 => impl_Diff (newG b.W b.H) b A1 n1 c1 A n c w h1 h2 h3)
        rw [ED.out] at K2
        rw [hR] at K1 K2 S
        clear hR
        go_enter Tryd.func35, Tryd.ntmps35
        go_wp2_with fail
        refine Calls.mono (impl_GridNew_yes b.W b.H m _ HN.out Hm.out) ?_; rintro e w1 ⟨v, rfl, own, x1⟩
        obtain ⟨A1, n1, c1, rfl⟩ := own.form'
        have S1 := (S.newI own x1).alloc #[.int .i64 b.W, .int .i64 b.H, .slice A1 n1 c1, .int .i64 0, .int .i64 0, .bool false] 40
        clear own x1 S
        obtain ⟨lc, lf, ls⟩ := S1.cells 2 rfl
        go_wp2_with fail
        refine Calls.mono (K1.out _ (hC.ext S1.ext)) ?_; rintro e w2 ⟨rfl, x2⟩
        have S2 := S1.call x2
        clear S1 x2 lc lf ls
        obtain ⟨lc, lf, ls⟩ := S2.cells 2 rfl
        obtain ⟨lc2, lf2, ls2⟩ := S2.cells 0 rfl
        go_wp2_with fail
        refine Calls.mono (K2.out A1 n1 c1 _ (ht.ext S2.ext) (by rw [newG, HM.out]; exact (S2.ownI 1 rfl).ri) (hC.ext S2.ext)) ?_; rintro e w3 ⟨v3, rfl, own3, x3⟩
        obtain ⟨A3, n3, c3, rfl⟩ := own3.form'
        have S3 := S2.newB own3 x3
        have hn3 : n3 ≤ 1600024 := by rw [← own3.rb.len]; exact diffD_len _ _
        clear S2 x3 lc lf ls lc2 lf2 ls2 own3
        have own4 : OwnM (w3.alloc (.cells #[.int .u8 27, .int .u8 91, .int .u8 72, .int .u8 27, .int .u8 91, .int .u8 50, .int .u8 74] 5 (7, 8))) w3.heap.size (.slice (some ⟨w3.heap.size, 0, none⟩) 7 7) [27, 91, 72, 27, 91, 50, 74] := OwnM.lit w3 _ (Nat.le_refl _) [27, 91, 72, 27, 91, 50, 74] (by simp)
        have S4 := S3.newX (.inr own4) ((Ext.refl w3).alloc _)
        have own5 : OwnM (w3.alloc (.cells #[.int .u8 27, .int .u8 91, .int .u8 72, .int .u8 27, .int .u8 91, .int .u8 50, .int .u8 74] 5 (7, 8))) 0 (.slice (some ⟨w3.heap.size, 0, none⟩) 7 7) [27, 91, 72, 27, 91, 50, 74] := OwnM.lit w3 _ (Nat.zero_le _) [27, 91, 72, 27, 91, 50, 74] (by simp)
        have kc := fun (w : World) (C : Array Value) (n c : Nat) => Lib.run_convert_bytes_const (P := Tryd.prog) w 38 5 C n c Tryd.underlying38 Tryd.underlying5
        go_wp2_with (at_builtin; refine wp_addM rfl _ _ rfl S4 0 rfl own5 rfl rfl (S4.ownB 1 rfl).rb (by simp; omega) ?_)
        intro v5 w5 S5
        go_wp2_with fail
        go_ret2
        refine ⟨v5, by rw [E.out]; rfl, ?_, S5.ext⟩
        have e : fullD b = [27, 91, 72, 27, 91, 50, 74] ++ diffD (newG b.W b.H) b := by unfold fullD fullB diffD; rw [if_pos E.out, if_pos ED.out]
        rw [e]
        exact S5.outX 0 rfl
      · have E : Hid (fullOk b = false) := by show _ = _; simp [fullOk, hR]
        rw [hR] at K1 S
        clear hR
        go_enter Tryd.func35, Tryd.ntmps35
        go_wp2_with fail
        refine Calls.mono (impl_GridNew_yes b.W b.H m _ HN.out Hm.out) ?_; rintro e w1 ⟨v, rfl, own, x1⟩
        obtain ⟨A1, n1, c1, rfl⟩ := own.form'
        have S1 := (S.newI own x1).skip (.cells #[.int .i64 b.W, .int .i64 b.H, .slice A1 n1 c1, .int .i64 0, .int .i64 0, .bool false] 40)
        clear own x1
        obtain ⟨lc, lf, ls⟩ := S1.cells 1 rfl
        go_wp2_with fail
        refine Calls.mono (K1.out _ (hC.ext S1.ext)) ?_; rintro e w2 ⟨rfl, x2⟩
        have S2 := S1.call x2
        obtain ⟨lc2, lf2, ls2⟩ := S2.cells 1 rfl
        go_wp2_with fail
        go_ret2
        exact ⟨_, by rw [E.out]; rfl, by unfold fullD; rw [E.out]; exact .inl (OwnB.nil _ _), S2.ext⟩
  · have E : Hid (fullOk b = false) := by
      show _ = _
      cases h : fullOk b
      · rfl
      · exact absurd (newOk_of (fullOk_iff.1 h).1) hn
    have HN := Lib.hid hn
    clear hn
    go_enter Tryd.func35, Tryd.ntmps35
    go_wp2_with fail
    refine Calls.mono (impl_GridNew_no b.W b.H _ HN.out) ?_; rintro e w1 ⟨rfl, x1⟩
    have S1 := S.call x1
    obtain ⟨lc, lf, ls⟩ := S1.cells 0 rfl
    have S2 := S1.skip (.cells zeroG 40)
    go_wp2_with fail
    go_ret2
    exact ⟨_, by rw [E.out]; rfl, by unfold fullD; rw [E.out]; exact .inl (OwnB.nil _ _), S2.ext⟩
set_option maxRecDepth 100000 in
set_option maxHeartbeats 4000000 in
theorem spec_Full (b : Gr) (A : Option Addr) (n c : Nat) (w : World) (hC : RI w A n c b.C) :
    Calls Tryd.prog 34 #[.agg #[.int .i64 b.W, .int .i64 b.H, .slice A n c, .int .i64 b.X, .int .i64 b.Y, .bool b.R]] w fun e w' =>
      ∃ v, e = .returned (.tuple #[v, .bool (fullOk b)]) ∧ OwnX w' w.heap.size v (fullD b) ∧ Ext w w' := by
  have S := (St.refl w).alloc #[.int .i64 b.W, .int .i64 b.H, .slice A n c, .int .i64 b.X, .int .i64 b.Y, .bool b.R] 40
  by_cases hn : newOk b.W b.H
  · obtain ⟨m, hm⟩ := newOk_m hn
    have hmm : (b.W * b.H).toNat = m := by omega
    have HN := Lib.hid hn; have HM := Lib.hid hmm; have Hm := Lib.hid hm
    have K2 := Lib.hid (fun A1 n1 c1 w h1 h2 => spec_Diff (newG b.W b.H) b A1 n1 c1 A n c w h1 h2)
    rw [diffOk_new hn] at K2
    clear hn hm hmm
    cases hg : fullOk b
    · rw [hg] at K2
      have E := Lib.hid hg
      clear hg
      go_enter Tryd.func34, Tryd.ntmps34
      go_wp2_with fail
      refine Calls.mono (spec_GridNew_yes b.W b.H m _ HN.out Hm.out) ?_; rintro e w1 ⟨v, rfl, own, x1⟩
      obtain ⟨A1, n1, c1, rfl⟩ := own.form'
      have S1 := (S.newI own x1).alloc #[.int .i64 b.W, .int .i64 b.H, .slice A1 n1 c1, .int .i64 0, .int .i64 0, .bool false] 40
      clear own x1 S
      obtain ⟨lc, lf, ls⟩ := S1.cells 2 rfl
      go_wp2_with fail
      refine Calls.mono (K2.out A1 n1 c1 _ (by rw [newG, HM.out]; exact (S1.ownI 1 rfl).ri) (hC.ext S1.ext)) ?_; rintro e w3 ⟨v3, rfl, own3, x3⟩
      have S3 := S1.call x3
      clear S1 x3 lc lf ls
      go_wp2_with fail
      go_ret2
      exact ⟨_, rfl, by unfold fullD; rw [E.out]; exact .inl (OwnB.nil _ _), S3.ext⟩
    · rw [hg] at K2
      have E := Lib.hid hg
      have ED : Hid (diffOk (newG b.W b.H) b = true) := by show _ = _; rw [diffOk_new HN.out]; exact E.out
      clear hg
      go_enter Tryd.func34, Tryd.ntmps34
      go_wp2_with fail
      refine Calls.mono (spec_GridNew_yes b.W b.H m _ HN.out Hm.out) ?_; rintro e w1 ⟨v, rfl, own, x1⟩
      obtain ⟨A1, n1, c1, rfl⟩ := own.form'
      have S1 := (S.newI own x1).alloc #[.int .i64 b.W, .int .i64 b.H, .slice A1 n1 c1, .int .i64 0, .int .i64 0, .bool false] 40
      clear own x1 S
      obtain ⟨lc, lf, ls⟩ := S1.cells 2 rfl
      go_wp2_with fail
      refine Calls.mono (K2.out A1 n1 c1 _ (by rw [newG, HM.out]; exact (S1.ownI 1 rfl).ri) (hC.ext S1.ext)) ?_; rintro e w3 ⟨v3, rfl, own3, x3⟩
      obtain ⟨A3, n3, c3, rfl⟩ := own3.form'
      have S3 := S1.newB own3 x3
      have hn3 : n3 ≤ 1600024 := by rw [← own3.rb.len]; exact diffD_len _ _
      clear S1 x3 lc lf ls own3
      have own4 : OwnM (w3.alloc (.cells #[.int .u8 27, .int .u8 91, .int .u8 72, .int .u8 27, .int .u8 91, .int .u8 50, .int .u8 74] 5 (7, 8))) w3.heap.size (.slice (some ⟨w3.heap.size, 0, none⟩) 7 7) [27, 91, 72, 27, 91, 50, 74] := OwnM.lit w3 _ (Nat.le_refl _) [27, 91, 72, 27, 91, 50, 74] (by simp)
      have S4 := S3.newX (.inr own4) ((Ext.refl w3).alloc _)
      have own5 : OwnM (w3.alloc (.cells #[.int .u8 27, .int .u8 91, .int .u8 72, .int .u8 27, .int .u8 91, .int .u8 50, .int .u8 74] 5 (7, 8))) 0 (.slice (some ⟨w3.heap.size, 0, none⟩) 7 7) [27, 91, 72, 27, 91, 50, 74] := OwnM.lit w3 _ (Nat.zero_le _) [27, 91, 72, 27, 91, 50, 74] (by simp)
      have kc := fun (w : World) (C : Array Value) (n c : Nat) => Lib.run_convert_bytes_const (P := Tryd.prog) w 38 5 C n c Tryd.underlying38 Tryd.underlying5
      go_wp2_with (at_builtin; refine wp_addM rfl _ _ rfl S4 0 rfl own5 rfl rfl (S4.ownB 1 rfl).rb (by simp; omega) ?_)
      intro v5 w5 S5
      go_wp2_with fail
      go_ret2
      refine ⟨v5, rfl, ?_, S5.ext⟩
      have e : fullD b = [27, 91, 72, 27, 91, 50, 74] ++ diffD (newG b.W b.H) b := by unfold fullD fullB diffD; rw [if_pos E.out, if_pos ED.out]
      rw [e]
      exact S5.outX 0 rfl
  · have E : Hid (fullOk b = false) := by
      show _ = _
      cases h : fullOk b
      · rfl
      · exact absurd (newOk_of (fullOk_iff.1 h).1) hn
    have HN := Lib.hid hn
    have K2 := Lib.hid (fun w h1 h2 => spec_Diff ⟨0, 0, [], 0, 0, false⟩ b none 0 0 A n c w h1 h2)
    rw [diffOk_no zeroG_no] at K2
    clear hn
    go_enter Tryd.func34, Tryd.ntmps34
    go_wp2_with fail
    refine Calls.mono (spec_GridNew_no b.W b.H _ HN.out) ?_; rintro e w1 ⟨rfl, x1⟩
    have S1 := (S.call x1).alloc zeroG 40
    obtain ⟨lc, lf, ls⟩ := S1.cells 1 rfl
    go_wp2_with fail
    refine Calls.mono (K2.out _ (RI.nil _) (hC.ext S1.ext)) ?_; rintro e w3 ⟨v3, rfl, own3, x3⟩
    have S3 := S1.call x3
    clear S1 x3 lc lf ls
    go_wp2_with fail
    go_ret2
    exact ⟨_, by rw [E.out]; rfl, by unfold fullD; rw [E.out]; exact .inl (OwnB.nil _ _), S3.ext⟩
end Go.Proofs.YtohjjhoobikioaaDoor
