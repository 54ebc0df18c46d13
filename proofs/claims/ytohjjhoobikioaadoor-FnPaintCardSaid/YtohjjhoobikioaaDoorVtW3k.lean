/-
  The terminal: control.
-/
import Derived.Test.YtohjjhoobikioaaDoorVtW3
namespace Go.Proofs.YtohjjhoobikioaaDoor
open Go.RowKit

theorem clearC_twice (C : List Int) (f t : Int) : clearC (clearC C f t) f t = clearC C f t := by
  refine ext_gt (by simp [clearC]) fun i hi => ?_
  have hi2 : i < (clearC C f t).length := by rw [clearC_len] at hi; exact hi
  have hi3 : i < C.length := by rw [clearC_len] at hi2; exact hi2
  rw [gt_clear hi2]
  cases h : hit (clearC C f t) f t i
  · rw [if_neg (by decide)]
  · rw [if_pos rfl, gt_clear hi3]
    cases h2 : hit C f t i
    · exfalso
      have e : gt (clearC C f t) i = gt C i := by rw [gt_clear hi3, h2, if_neg (by decide)]
      have e2 : hit (clearC C f t) f t i = hit C f t i := by unfold hit other; rw [e]
      rw [e2, h2] at h; cases h
    · rfl
theorem eraseV_dims (g : Gr) (n f t : Int) : (eraseV g n f t).W = g.W ∧ (eraseV g n f t).Y = g.Y ∧ (eraseV g n f t).X = g.X ∧ (eraseV g n f t).C.length = g.C.length := by
  unfold eraseV
  (repeat' split) <;> exact ⟨rfl, rfl, rfl, by first | exact clearC_len _ _ _ | rfl⟩
theorem clearG_twice (g : Gr) (f t : Int) : clearG (clearG g f t) f t = clearG g f t := by
  unfold clearG; simp only; rw [clearC_twice]
theorem eraseV_twice (g : Gr) (n f t : Int) : eraseV (eraseV g n f t) n f t = eraseV g n f t := by
  by_cases h0 : n = 0
  · subst h0; rw [eraseV_0 g, eraseV_0]; exact clearG_twice _ _ _
  by_cases h1 : n = 1
  · subst h1; rw [eraseV_1 g, eraseV_1]; exact clearG_twice _ _ _
  by_cases h2 : n = 2
  · subst h2; rw [eraseV_2 g, eraseV_2]; exact clearG_twice _ _ _
  · rw [eraseV_n h0 h1 h2, eraseV_n h0 h1 h2]
theorem vtb_04 {W w : World} {L : List Pc} {b : Nat} {vc va vp : Value} {V : VtS} (S : St W w (vtb b vc va vp V ++ L)) : w.cell? ⟨b, 0, none⟩ = some (.int .i64 V.G.W) ∧ w.cell? ⟨b, 4, none⟩ = some (.int .i64 V.G.Y) := by
  obtain ⟨lc, -, -⟩ := S.cells 0 rfl
  exact ⟨lc 0, lc 4⟩
theorem VtI.erased {V : VtS} (h : VtI V) (n f t : Int) : VtI { V with G := eraseV V.G n f t } := ⟨eraseV_ok h.g n f t, h.s, h.p, h.p2, h.b, h.n⟩
/-- cleared, or not yet -/
def clr (W w : World) (b : Nat) (vc va vp : Value) (V : VtS) (f t : Nat) (L : List Pc) : Prop := St W w (vtb b vc va vp V ++ L) ∨ St W w (vtb b vc va vp { V with G := eraseV V.G (V.P[0]?.getD 0) f t } ++ L)
theorem clr_start {W w : World} {L : List Pc} {b : Nat} {vc va vp : Value} {V : VtS} {f t : Nat} (S : St W w (vtb b vc va vp V ++ L)) : Hid (clr W w b vc va vp V f t L) := Lib.hid (.inl S)
theorem clr_done {W w : World} {L : List Pc} {b : Nat} {vc va vp : Value} {V : VtS} {f t : Nat} (S : St W w (vtb b vc va vp { V with G := eraseV V.G (V.P[0]?.getD 0) f t } ++ L)) : w.cell? ⟨b, 0, none⟩ = some (.int .i64 V.G.W) ∧ w.cell? ⟨b, 4, none⟩ = some (.int .i64 V.G.Y) ∧ Hid (clr W w b vc va vp V f t L) := by
  obtain ⟨h0, h4⟩ := vtb_04 S
  obtain ⟨d1, d2, -, -⟩ := eraseV_dims V.G (V.P[0]?.getD 0) f t
  refine ⟨by rw [h0]; simp only; rw [d1], by rw [h4]; simp only; rw [d2], Lib.hid (.inr S)⟩

theorem clr_call (V : VtS) (f t : Nat) (b : Nat) (vc va vp : Value) (W w : World) (L : List Pc) (S : clr W w b vc va vp V f t L) (hI : VtI V)
    (h1 : (f : Int) ≤ V.G.Y * V.G.W + V.G.X) (h2 : V.G.Y * V.G.W + V.G.X < t) (h3 : t ≤ V.G.C.length) :
    Calls Tryd.prog 141 #[.pointer (some ⟨b, 0, none⟩), .int .i64 f, .int .i64 t] w fun e w' => e = .returned (.tuple #[]) ∧ St W w' (vtb b vc va vp { V with G := eraseV V.G (V.P[0]?.getD 0) f t } ++ L) := by
  rcases S with S | S
  · exact vt_clear V f t f t rfl rfl b vc va vp W w L S hI h1 h2 h3
  · obtain ⟨d1, d2, d3, d4⟩ := eraseV_dims V.G (V.P[0]?.getD 0) f t
    have h := vt_clear { V with G := eraseV V.G (V.P[0]?.getD 0) f t } f t f t rfl rfl b vc va vp W w L S (hI.erased _ _ _) (by simp only; rw [d1, d2, d3]; exact h1) (by simp only; rw [d1, d2, d3]; exact h2) (by simp only; rw [d4]; exact h3)
    simp only [eraseV_twice] at h
    exact h

set_option maxRecDepth 100000 in
set_option maxHeartbeats 600000 in
theorem vt_ctl75 (V : VtS) (b : Nat) (vc va vp : Value) (W w : World) (L : List Pc) (S : St W w (vtb b vc va vp V ++ L)) (hI : VtI V) :
    Calls Tryd.prog 134 #[.pointer (some ⟨b, 0, none⟩), .int .i64 75] w fun e w' => e = .returned (.tuple #[]) ∧ St W w' (vtb b vc va vp { V with G := ctlG V.G V.P 75 } ++ L) := by
  have HI := Lib.hid hI
  obtain ⟨hd1, hd2, hd3, hd4, hd5, hd6⟩ := gridOk_d hI.g
  obtain ⟨hc1, hc2, hc3, hc4, -⟩ := gridOk_c hI.g
  have H6 := Lib.hid hd6; clear hd6
  have K0 := vt_arg V 0 b vc va vp W w L S hI
  have ha := argV_in hI.p2 0
  have ha1 := argV_in hI.p2 1
  have hg := Lib.hid hI.g
  have ebig : ∀ i, 1 ≤ argV V.P i ∧ argV V.P i ≤ 9999 := argV_in hI.p2
  clear hI ebig
  clear ha ha1
  have hpos : 0 ≤ V.G.Y * V.G.W := Int.mul_nonneg hc3 (by omega)
  have hlt : V.G.Y * V.G.W + V.G.X < V.G.C.length := by
    rw [H6.out]
    have : (V.G.Y + 1) * V.G.W ≤ V.G.W * V.G.H := by rw [Int.mul_comm V.G.W]; exact Int.mul_le_mul_of_nonneg_right (by omega) (by omega)
    rw [Int.add_mul] at this; omega
  have E := Lib.hid (ctl_K V.G V.P)
  obtain ⟨f, hf⟩ : ∃ f : Nat, (f : Int) = V.G.Y * V.G.W := ⟨(V.G.Y * V.G.W).toNat, by omega⟩
  have hle : (V.G.Y + 1) * V.G.W ≤ V.G.C.length := by
    rw [H6.out, Int.mul_comm V.G.W]; exact Int.mul_le_mul_of_nonneg_right (by omega) (by omega)
  have hy1 : (V.G.Y + 1) * V.G.W = V.G.Y * V.G.W + V.G.W := by rw [Int.add_mul, Int.one_mul]
  obtain ⟨t, ht⟩ : ∃ t : Nat, (t : Int) = (V.G.Y + 1) * V.G.W := ⟨((V.G.Y + 1) * V.G.W).toNat, by omega⟩
  have K2 := Lib.hid (fun w1 S1 => clr_call V f t b vc va vp W w1 L S1 HI.out (by omega) (by omega) (by omega))
  have hn8 : V.G.C.length ≤ 8000 := by have := H6.out; omega
  have e3 : IntKind.i64.wrap (V.G.Y * V.G.W) = (f : Int) := by rw [hf]; exact IntWalk.i64_in _ (by omega)
  have e4 : IntKind.i64.wrap ((V.G.Y + 1) * V.G.W) = (t : Int) := by rw [ht]; exact IntWalk.i64_in _ (by omega)
  rw [← hf, ← ht] at E
  have hy8 : V.G.Y ≤ 8000 := by omega
  have e5 : IntKind.i64.wrap (V.G.Y + 1) = V.G.Y + 1 := IntWalk.i64_in _ (by omega)
  clear S hlt hpos hle hy1 hf ht
  go_enter Tryd.func134, Tryd.ntmps134
  go_wp2_with fail
  refine Calls.mono (K0) ?_; rintro e w1 ⟨rfl, S1⟩
  obtain ⟨lc, lf, ls⟩ := S1.cells 0 rfl
  simp only [vtCs] at lc
  have c0 := lc 0; have c4 := lc 4
  simp at c0 c4
  have HS := Lib.hid S1; clear S1 lc lf ls
  obtain ⟨d0, d4⟩ := vtb_04 HS.out.drew
  have B0 := And.intro d0 (And.intro d4 (clr_start (f := f) (t := t) HS.out.drew))
  go_wp2_with fail
  go_region_held3 (fun w' => w'.cell? ⟨b, 0, none⟩ = some (.int .i64 V.G.W) ∧ w'.cell? ⟨b, 4, none⟩ = some (.int .i64 V.G.Y) ∧ Hid (clr W w' b vc va vp V f t L))
    ((with_reducible assumption))
    (first | (go_at_call 141; have q0 : Hid (clr W _ b vc va vp V f t L) := And.right (And.right (by assumption)); (refine Calls.mono (K2.out _ q0.out) ?_); rintro e w2 ⟨rfl, S2⟩; have B2 := clr_done S2))
  go_wp2_with fail
  ((try simp only [Exit.inBlock, Exit.then]); first | refine bodyPost_ret (results_none rfl _ _ _) rfl ?_ | refine bodyPost_end (results_none rfl _ _ _) rfl ?_)
  exact ⟨rfl, by rw [E.out]; exact S2⟩
set_option maxRecDepth 100000 in
set_option maxHeartbeats 8000000 in
theorem vt_control (V : VtS) (k : Nat) (b : Nat) (vc va vp : Value) (W w : World) (L : List Pc) (S : St W w (vtb b vc va vp V ++ L)) (hI : VtI V) (hk : k ≤ 255) :
    Calls Tryd.prog 134 #[.pointer (some ⟨b, 0, none⟩), .int .i64 k] w fun e w' => e = .returned (.tuple #[]) ∧ St W w' (vtb b vc va vp { V with G := ctlG V.G V.P k } ++ L) := by
  have HI := Lib.hid hI
  obtain ⟨hd1, hd2, hd3, hd4, hd5, hd6⟩ := gridOk_d hI.g
  obtain ⟨hc1, hc2, hc3, hc4, -⟩ := gridOk_c hI.g
  have H6 := Lib.hid hd6; clear hd6
  have K0 := vt_arg V 0 b vc va vp W w L S hI
  have ha := argV_in hI.p2 0
  have ha1 := argV_in hI.p2 1
  have hg := Lib.hid hI.g
  have ebig : ∀ i, 1 ≤ argV V.P i ∧ argV V.P i ≤ 9999 := argV_in hI.p2
  clear hI ebig
  clear ha ha1 hc1 hc2 hc3 hc4 hd1 hd2 hd3 hd4 hd5 hg H6
  by_cases h65 : k = 65
  · subst h65; exact vt_ctl65 V b vc va vp W w L S HI.out
  by_cases h66 : k = 66
  · subst h66; exact vt_ctl66 V b vc va vp W w L S HI.out
  by_cases h67 : k = 67
  · subst h67; exact vt_ctl67 V b vc va vp W w L S HI.out
  by_cases h68 : k = 68
  · subst h68; exact vt_ctl68 V b vc va vp W w L S HI.out
  by_cases h72 : k = 72
  · subst h72; exact vt_ctl72 V b vc va vp W w L S HI.out
  by_cases h74 : k = 74
  · subst h74; exact vt_ctl74 V b vc va vp W w L S HI.out
  by_cases h75 : k = 75
  · subst h75; exact vt_ctl75 V b vc va vp W w L S HI.out
  have E := Lib.hid (ctl_none (g := V.G) (P := V.P) h65 h66 h67 h68 h72 h74 h75)
  clear S
  go_enter Tryd.func134, Tryd.ntmps134
  go_wp2_with fail
  refine Calls.mono (K0) ?_; rintro e w1 ⟨rfl, S1⟩
  go_wp2_with fail
  ((try simp only [Exit.inBlock, Exit.then]); first | refine bodyPost_ret (results_none rfl _ _ _) rfl ?_ | refine bodyPost_end (results_none rfl _ _ _) rfl ?_)
  exact ⟨rfl, by rw [E.out]; exact S1⟩
end Go.Proofs.YtohjjhoobikioaaDoor
