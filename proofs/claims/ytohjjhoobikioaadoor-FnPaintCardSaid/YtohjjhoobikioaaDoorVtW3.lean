/-
  The terminal's own methods: control, sequence.
-/
import Derived.Test.YtohjjhoobikioaaDoorVtW2
namespace Go.Proofs.YtohjjhoobikioaaDoor
open Go.RowKit

theorem OwnI.lit0 (w : World) (B : Nat) (hB : B ≤ w.heap.size) (l : List Int) (hl : l.length ≤ 16) : OwnI (w.alloc (.cells (l.map (Value.int .i64)).toArray 3)) B (.slice (some ⟨w.heap.size, 0, none⟩) l.length l.length) l := by
  unfold OwnI
  refine ⟨by simp, .inr ⟨w.heap.size, _, _, rfl, hB, heap_alloc_new w _, Nat.le_refl _, by unfold maxLen; omega, by simp, List.take_of_length_le (by simp)⟩⟩
/-- the arguments' slice stored anew -/
theorem vtb_setP {W w : World} {L : List Pc} {b : Nat} {vc va vp v : Value} {V : VtS} {l : List Int} (S : St W w (ownI v l :: (vtb b vc va vp V ++ L))) : St W (w.setCell ⟨b, 7, none⟩ v) (vtb b vc v vp { V with P := l } ++ L) := by
  have S1 : St W (w.setCell ⟨b, 7, none⟩ v) (ownI v l :: row b 58 (vtCs ⟨.int .i64 V.S, v, vp, .int .i64 V.N⟩ V.G vc) :: ownI vc V.G.C :: ownI va V.P :: ownB vp V.B :: L) := S.setc 1 rfl 7 v
  have S2 : St W (w.setCell ⟨b, 7, none⟩ v) (ownI v l :: row b 58 (vtCs ⟨.int .i64 V.S, v, vp, .int .i64 V.N⟩ V.G vc) :: ownI vc V.G.C :: ownB vp V.B :: L) := (S1.bring 3 rfl).drop
  have S3 := (S2.bring 2 rfl)
  have S4 : St W (w.setCell ⟨b, 7, none⟩ v) (row b 58 (vtCs ⟨.int .i64 V.S, v, vp, .int .i64 V.N⟩ V.G vc) :: ownI vc V.G.C :: ownI v l :: ownB vp V.B :: L) := S3.bring 2 rfl
  exact S4
/-- a part of a rune, stored anew -/
theorem vtb_setB {W w : World} {L : List Pc} {b : Nat} {vc va vp v : Value} {V : VtS} {l : List UInt8} (S : St W w (ownB v l :: (vtb b vc va vp V ++ L))) : St W (w.setCell ⟨b, 8, none⟩ v) (vtb b vc va v { V with B := l } ++ L) := by
  have S1 : St W (w.setCell ⟨b, 8, none⟩ v) (ownB v l :: row b 58 (vtCs ⟨.int .i64 V.S, va, v, .int .i64 V.N⟩ V.G vc) :: ownI vc V.G.C :: ownI va V.P :: ownB vp V.B :: L) := S.setc 1 rfl 8 v
  have S2 : St W (w.setCell ⟨b, 8, none⟩ v) (ownB v l :: row b 58 (vtCs ⟨.int .i64 V.S, va, v, .int .i64 V.N⟩ V.G vc) :: ownI vc V.G.C :: ownI va V.P :: L) := (S1.bring 4 rfl).drop
  have S3 := (S2.bring 3 rfl)
  have S4 := (S3.bring 3 rfl)
  have S5 : St W (w.setCell ⟨b, 8, none⟩ v) (row b 58 (vtCs ⟨.int .i64 V.S, va, v, .int .i64 V.N⟩ V.G vc) :: ownI vc V.G.C :: ownI va V.P :: ownB v l :: L) := S4.bring 3 rfl
  exact S5
/-- no part of a rune is kept; a piece that was made lies behind -/
theorem vtb_nilB {W w : World} {L : List Pc} {b : Nat} {vc va vp : Value} {V : VtS} {h : Pc} (S : St W w (h :: (vtb b vc va vp V ++ L))) : St W (w.setCell ⟨b, 8, none⟩ (.slice none 0 0)) (vtb b vc va (.slice none 0 0) { V with B := [] } ++ (h :: L)) := by
  have S0 : St W w (ownB (.slice none 0 0) [] :: (vtb b vc va vp V ++ (h :: L))) := by
    have S1 : St W w (h :: row b 58 (vtCs ⟨.int .i64 V.S, va, vp, .int .i64 V.N⟩ V.G vc) :: ownI vc V.G.C :: ownI va V.P :: ownB vp V.B :: L) := S
    have S2 := (((S1.bring 4 rfl).bring 4 rfl).bring 4 rfl).bring 4 rfl
    exact St.nilB S2
  exact vtb_setB S0

theorem ctl_A (g : Gr) (P : List Int) : ctlG g P 65 = goG g g.X (g.Y - argV P 0) := rfl
theorem ctl_B (g : Gr) (P : List Int) : ctlG g P 66 = goG g g.X (g.Y + argV P 0) := rfl
theorem ctl_C (g : Gr) (P : List Int) : ctlG g P 67 = goG g (g.X + argV P 0) g.Y := rfl
theorem ctl_D (g : Gr) (P : List Int) : ctlG g P 68 = goG g (g.X - argV P 0) g.Y := rfl
theorem ctl_H (g : Gr) (P : List Int) : ctlG g P 72 = goG g (argV P 1 - 1) (argV P 0 - 1) := rfl
theorem ctl_J (g : Gr) (P : List Int) : ctlG g P 74 = eraseV g (P[0]?.getD 0) 0 g.C.length := rfl
theorem ctl_K (g : Gr) (P : List Int) : ctlG g P 75 = eraseV g (P[0]?.getD 0) (g.Y * g.W) ((g.Y + 1) * g.W) := rfl
theorem ctl_none {g : Gr} {P : List Int} {k : Nat} (h1 : k ≠ 65) (h2 : k ≠ 66) (h3 : k ≠ 67) (h4 : k ≠ 68) (h5 : k ≠ 72) (h6 : k ≠ 74) (h7 : k ≠ 75) : ctlG g P k = g := by
  unfold ctlG; rw [if_neg h1, if_neg h2, if_neg h3, if_neg h4, if_neg h5, if_neg h6, if_neg h7]

set_option maxRecDepth 100000 in
set_option maxHeartbeats 2000000 in
theorem vt_ctl65 (V : VtS) (b : Nat) (vc va vp : Value) (W w : World) (L : List Pc) (S : St W w (vtb b vc va vp V ++ L)) (hI : VtI V) :
    Calls Tryd.prog 134 #[.pointer (some ⟨b, 0, none⟩), .int .i64 65] w fun e w' => e = .returned (.tuple #[]) ∧ St W w' (vtb b vc va vp { V with G := ctlG V.G V.P 65 } ++ L) := by
  have HI := Lib.hid hI
  obtain ⟨hd1, hd2, hd3, hd4, hd5, hd6⟩ := gridOk_d hI.g
  obtain ⟨hc1, hc2, hc3, hc4, -⟩ := gridOk_c hI.g
  have H6 := Lib.hid hd6; clear hd6
  have K0 := vt_arg V 0 b vc va vp W w L S hI
  have ha := argV_in hI.p2 0
  have ha1 := argV_in hI.p2 1
  have hg := Lib.hid hI.g
  have ebig : ∀ i, 1 ≤ argV V.P i ∧ argV V.P i ≤ 9999 := argV_in hI.p2
  clear hI ebig
  have E := Lib.hid (ctl_A V.G V.P)
  obtain ⟨a0, ha0⟩ : ∃ a0, a0 = argV V.P 0 := ⟨_, rfl⟩
  rw [← ha0] at K0 ha E; clear ha0 S ha1
  have ew : IntKind.i64.wrap (V.G.Y - a0) = V.G.Y - a0 := IntWalk.i64_in _ (by omega)
  go_enter Tryd.func134, Tryd.ntmps134
  go_wp2_with fail
  refine Calls.mono (K0) ?_; rintro e w1 ⟨rfl, S1⟩
  obtain ⟨lc, lf, ls⟩ := S1.cells 0 rfl
  simp only [vtCs] at lc
  have HS := Lib.hid S1; clear S1
  go_wp2_with fail
  go_region_with (go_at_call 91; (refine Calls.mono (vt_moveTo _ V.G _ _ b vc W _ _ HS.out.drew hg.out (by omega) (by omega)) ?_); rintro e w2 ⟨rfl, S2⟩)
  all_goals
    go_wp2_with fail
    ((try simp only [Exit.inBlock, Exit.then]); first | refine bodyPost_ret (results_none rfl _ _ _) rfl ?_ | refine bodyPost_end (results_none rfl _ _ _) rfl ?_)
    exact ⟨rfl, by rw [E.out]; exact S2⟩
set_option maxRecDepth 100000 in
set_option maxHeartbeats 2000000 in
theorem vt_ctl66 (V : VtS) (b : Nat) (vc va vp : Value) (W w : World) (L : List Pc) (S : St W w (vtb b vc va vp V ++ L)) (hI : VtI V) :
    Calls Tryd.prog 134 #[.pointer (some ⟨b, 0, none⟩), .int .i64 66] w fun e w' => e = .returned (.tuple #[]) ∧ St W w' (vtb b vc va vp { V with G := ctlG V.G V.P 66 } ++ L) := by
  have HI := Lib.hid hI
  obtain ⟨hd1, hd2, hd3, hd4, hd5, hd6⟩ := gridOk_d hI.g
  obtain ⟨hc1, hc2, hc3, hc4, -⟩ := gridOk_c hI.g
  have H6 := Lib.hid hd6; clear hd6
  have K0 := vt_arg V 0 b vc va vp W w L S hI
  have ha := argV_in hI.p2 0
  have ha1 := argV_in hI.p2 1
  have hg := Lib.hid hI.g
  have ebig : ∀ i, 1 ≤ argV V.P i ∧ argV V.P i ≤ 9999 := argV_in hI.p2
  clear hI ebig
  have E := Lib.hid (ctl_B V.G V.P)
  obtain ⟨a0, ha0⟩ : ∃ a0, a0 = argV V.P 0 := ⟨_, rfl⟩
  rw [← ha0] at K0 ha E; clear ha0 S ha1
  have ew : IntKind.i64.wrap (V.G.Y + a0) = V.G.Y + a0 := IntWalk.i64_in _ (by omega)
  go_enter Tryd.func134, Tryd.ntmps134
  go_wp2_with fail
  refine Calls.mono (K0) ?_; rintro e w1 ⟨rfl, S1⟩
  obtain ⟨lc, lf, ls⟩ := S1.cells 0 rfl
  simp only [vtCs] at lc
  have HS := Lib.hid S1; clear S1
  go_wp2_with fail
  go_region_with (go_at_call 91; (refine Calls.mono (vt_moveTo _ V.G _ _ b vc W _ _ HS.out.drew hg.out (by omega) (by omega)) ?_); rintro e w2 ⟨rfl, S2⟩)
  all_goals
    go_wp2_with fail
    ((try simp only [Exit.inBlock, Exit.then]); first | refine bodyPost_ret (results_none rfl _ _ _) rfl ?_ | refine bodyPost_end (results_none rfl _ _ _) rfl ?_)
    exact ⟨rfl, by rw [E.out]; exact S2⟩
set_option maxRecDepth 100000 in
set_option maxHeartbeats 2000000 in
theorem vt_ctl67 (V : VtS) (b : Nat) (vc va vp : Value) (W w : World) (L : List Pc) (S : St W w (vtb b vc va vp V ++ L)) (hI : VtI V) :
    Calls Tryd.prog 134 #[.pointer (some ⟨b, 0, none⟩), .int .i64 67] w fun e w' => e = .returned (.tuple #[]) ∧ St W w' (vtb b vc va vp { V with G := ctlG V.G V.P 67 } ++ L) := by
  have HI := Lib.hid hI
  obtain ⟨hd1, hd2, hd3, hd4, hd5, hd6⟩ := gridOk_d hI.g
  obtain ⟨hc1, hc2, hc3, hc4, -⟩ := gridOk_c hI.g
  have H6 := Lib.hid hd6; clear hd6
  have K0 := vt_arg V 0 b vc va vp W w L S hI
  have ha := argV_in hI.p2 0
  have ha1 := argV_in hI.p2 1
  have hg := Lib.hid hI.g
  have ebig : ∀ i, 1 ≤ argV V.P i ∧ argV V.P i ≤ 9999 := argV_in hI.p2
  clear hI ebig
  have E := Lib.hid (ctl_C V.G V.P)
  obtain ⟨a0, ha0⟩ : ∃ a0, a0 = argV V.P 0 := ⟨_, rfl⟩
  rw [← ha0] at K0 ha E; clear ha0 S ha1
  have ew : IntKind.i64.wrap (V.G.X + a0) = V.G.X + a0 := IntWalk.i64_in _ (by omega)
  go_enter Tryd.func134, Tryd.ntmps134
  go_wp2_with fail
  refine Calls.mono (K0) ?_; rintro e w1 ⟨rfl, S1⟩
  obtain ⟨lc, lf, ls⟩ := S1.cells 0 rfl
  simp only [vtCs] at lc
  have HS := Lib.hid S1; clear S1
  go_wp2_with fail
  go_region_with (go_at_call 91; (refine Calls.mono (vt_moveTo _ V.G _ _ b vc W _ _ HS.out.drew hg.out (by omega) (by omega)) ?_); rintro e w2 ⟨rfl, S2⟩)
  all_goals
    go_wp2_with fail
    ((try simp only [Exit.inBlock, Exit.then]); first | refine bodyPost_ret (results_none rfl _ _ _) rfl ?_ | refine bodyPost_end (results_none rfl _ _ _) rfl ?_)
    exact ⟨rfl, by rw [E.out]; exact S2⟩
set_option maxRecDepth 100000 in
set_option maxHeartbeats 2000000 in
theorem vt_ctl68 (V : VtS) (b : Nat) (vc va vp : Value) (W w : World) (L : List Pc) (S : St W w (vtb b vc va vp V ++ L)) (hI : VtI V) :
    Calls Tryd.prog 134 #[.pointer (some ⟨b, 0, none⟩), .int .i64 68] w fun e w' => e = .returned (.tuple #[]) ∧ St W w' (vtb b vc va vp { V with G := ctlG V.G V.P 68 } ++ L) := by
  have HI := Lib.hid hI
  obtain ⟨hd1, hd2, hd3, hd4, hd5, hd6⟩ := gridOk_d hI.g
  obtain ⟨hc1, hc2, hc3, hc4, -⟩ := gridOk_c hI.g
  have H6 := Lib.hid hd6; clear hd6
  have K0 := vt_arg V 0 b vc va vp W w L S hI
  have ha := argV_in hI.p2 0
  have ha1 := argV_in hI.p2 1
  have hg := Lib.hid hI.g
  have ebig : ∀ i, 1 ≤ argV V.P i ∧ argV V.P i ≤ 9999 := argV_in hI.p2
  clear hI ebig
  have E := Lib.hid (ctl_D V.G V.P)
  obtain ⟨a0, ha0⟩ : ∃ a0, a0 = argV V.P 0 := ⟨_, rfl⟩
  rw [← ha0] at K0 ha E; clear ha0 S ha1
  have ew : IntKind.i64.wrap (V.G.X - a0) = V.G.X - a0 := IntWalk.i64_in _ (by omega)
  go_enter Tryd.func134, Tryd.ntmps134
  go_wp2_with fail
  refine Calls.mono (K0) ?_; rintro e w1 ⟨rfl, S1⟩
  obtain ⟨lc, lf, ls⟩ := S1.cells 0 rfl
  simp only [vtCs] at lc
  have HS := Lib.hid S1; clear S1
  go_wp2_with fail
  go_region_with (go_at_call 91; (refine Calls.mono (vt_moveTo _ V.G _ _ b vc W _ _ HS.out.drew hg.out (by omega) (by omega)) ?_); rintro e w2 ⟨rfl, S2⟩)
  all_goals
    go_wp2_with fail
    ((try simp only [Exit.inBlock, Exit.then]); first | refine bodyPost_ret (results_none rfl _ _ _) rfl ?_ | refine bodyPost_end (results_none rfl _ _ _) rfl ?_)
    exact ⟨rfl, by rw [E.out]; exact S2⟩
set_option maxRecDepth 100000 in
set_option maxHeartbeats 2000000 in
theorem vt_ctl72 (V : VtS) (b : Nat) (vc va vp : Value) (W w : World) (L : List Pc) (S : St W w (vtb b vc va vp V ++ L)) (hI : VtI V) :
    Calls Tryd.prog 134 #[.pointer (some ⟨b, 0, none⟩), .int .i64 72] w fun e w' => e = .returned (.tuple #[]) ∧ St W w' (vtb b vc va vp { V with G := ctlG V.G V.P 72 } ++ L) := by
  have HI := Lib.hid hI
  obtain ⟨hd1, hd2, hd3, hd4, hd5, hd6⟩ := gridOk_d hI.g
  obtain ⟨hc1, hc2, hc3, hc4, -⟩ := gridOk_c hI.g
  have H6 := Lib.hid hd6; clear hd6
  have K0 := vt_arg V 0 b vc va vp W w L S hI
  have ha := argV_in hI.p2 0
  have ha1 := argV_in hI.p2 1
  have hg := Lib.hid hI.g
  have ebig : ∀ i, 1 ≤ argV V.P i ∧ argV V.P i ≤ 9999 := argV_in hI.p2
  clear hI ebig
  have E := Lib.hid (ctl_H V.G V.P)
  have K1 := Lib.hid (fun w1 S1 => vt_arg V 1 b vc va vp W w1 L S1 HI.out)
  obtain ⟨a0, ha0⟩ : ∃ a0, a0 = argV V.P 0 := ⟨_, rfl⟩
  obtain ⟨a1, ha2⟩ : ∃ a1, a1 = argV V.P 1 := ⟨_, rfl⟩
  rw [← ha2] at K1 ha1 E; clear ha2
  rw [← ha0] at K0 ha E; clear ha0 S
  go_enter Tryd.func134, Tryd.ntmps134
  go_wp2_with fail
  refine Calls.mono (K0) ?_; rintro e w1 ⟨rfl, S1⟩
  go_wp2_with fail
  refine Calls.mono (K1.out _ S1) ?_; rintro e w2 ⟨rfl, S2⟩
  go_wp2_with fail
  refine Calls.mono (vt_moveTo _ V.G (a1 - 1) (a0 - 1) b vc W _ _ S2 hg.out (by omega) (by omega)) ?_; rintro e w3 ⟨rfl, S3⟩
  go_wp2_with fail
  ((try simp only [Exit.inBlock, Exit.then]); first | refine bodyPost_ret (results_none rfl _ _ _) rfl ?_ | refine bodyPost_end (results_none rfl _ _ _) rfl ?_)
  exact ⟨rfl, by rw [E.out]; exact S3⟩
set_option maxRecDepth 100000 in
set_option maxHeartbeats 2000000 in
theorem vt_ctl74 (V : VtS) (b : Nat) (vc va vp : Value) (W w : World) (L : List Pc) (S : St W w (vtb b vc va vp V ++ L)) (hI : VtI V) :
    Calls Tryd.prog 134 #[.pointer (some ⟨b, 0, none⟩), .int .i64 74] w fun e w' => e = .returned (.tuple #[]) ∧ St W w' (vtb b vc va vp { V with G := ctlG V.G V.P 74 } ++ L) := by
  have HI := Lib.hid hI
  obtain ⟨hd1, hd2, hd3, hd4, hd5, hd6⟩ := gridOk_d hI.g
  obtain ⟨hc1, hc2, hc3, hc4, -⟩ := gridOk_c hI.g
  have H6 := Lib.hid hd6; clear hd6
  have K0 := vt_arg V 0 b vc va vp W w L S hI
  have ha := argV_in hI.p2 0
  have ha1 := argV_in hI.p2 1
  have hg := Lib.hid hI.g
  have ebig : ∀ i, 1 ≤ argV V.P i ∧ argV V.P i ≤ 9999 := argV_in hI.p2
  clear hI ebig
  clear ha ha1
  have hpos : 0 ≤ V.G.Y * V.G.W := Int.mul_nonneg hc3 (by omega)
  have hlt : V.G.Y * V.G.W + V.G.X < V.G.C.length := by
    rw [H6.out]
    have : (V.G.Y + 1) * V.G.W ≤ V.G.W * V.G.H := by rw [Int.mul_comm V.G.W]; exact Int.mul_le_mul_of_nonneg_right (by omega) (by omega)
    rw [Int.add_mul] at this; omega
  have E := Lib.hid (ctl_J V.G V.P)
  obtain ⟨A, c, rfl, -⟩ := (S.ownI 1 rfl).form
  have K2 := Lib.hid (fun w1 S1 => vt_clear V 0 V.G.C.length 0 V.G.C.length rfl rfl b (.slice A V.G.C.length c) va vp W w1 L S1 HI.out (by omega) hlt (Nat.le_refl _))
  have hn8 : V.G.C.length ≤ 8000 := by have := H6.out; omega
  clear S hlt hpos
  obtain ⟨n, hn⟩ : ∃ n, n = V.G.C.length := ⟨_, rfl⟩
  rw [← hn] at K0 K2 E hn8
  have Hn := Lib.hid hn; clear hn
  go_enter Tryd.func134, Tryd.ntmps134
  go_wp2_with fail
  refine Calls.mono (K0) ?_; rintro e w1 ⟨rfl, S1⟩
  obtain ⟨lc, lf, ls⟩ := S1.cells 0 rfl
  simp only [vtCs] at lc
  have HS := Lib.hid S1; clear S1
  go_wp2_with fail
  refine Calls.mono (K2.out _ HS.out) ?_; rintro e w2 ⟨rfl, S2⟩
  go_wp2_with fail
  ((try simp only [Exit.inBlock, Exit.then]); first | refine bodyPost_ret (results_none rfl _ _ _) rfl ?_ | refine bodyPost_end (results_none rfl _ _ _) rfl ?_)
  exact ⟨rfl, by rw [E.out, Hn.out]; rw [Hn.out] at S2; exact S2⟩
end Go.Proofs.YtohjjhoobikioaaDoor
