/-
  The terminal's own methods: plain, more. Printed by gen_vtplain2.py.
-/
import Derived.Test.YtohjjhoobikioaaDoorVtW6
namespace Go.Proofs.YtohjjhoobikioaaDoor
open Go.RowKit

theorem plain_10 {V : VtS} : vtPlain V 10 = { V with G := (if V.G.Y = V.G.H - 1 then goG (scrollG V.G) V.G.X (V.G.Y + 1) else goG V.G V.G.X (V.G.Y + 1)), B := [] } := rfl
theorem plain_put {V : VtS} {k : Nat} (h0 : 32 ≤ k) (h1 : k ≤ 126) : vtPlain V k = { V with G := putG V.G k, B := [] } := by
  unfold vtPlain
  rw [if_neg (by omega), if_neg (by omega), if_neg (by omega), if_neg (by omega), if_neg (by omega), if_neg (by omega), if_pos ⟨h0, h1⟩]
theorem plain_no {V : VtS} {k : Nat} (h : k ≤ 127) (h7 : k ≠ 7) (h8 : k ≠ 8) (h13 : k ≠ 13) (h10 : k ≠ 10) (h27 : k ≠ 27) (h0 : ¬ (32 ≤ k ∧ k ≤ 126)) : vtPlain V k = { V with B := [] } := by
  unfold vtPlain
  rw [if_neg (by omega), if_neg h7, if_neg h8, if_neg h13, if_neg h10, if_neg h27, if_neg h0]
set_option maxRecDepth 100000 in
set_option maxHeartbeats 4000000 in
theorem vt_plain_10y (V : VtS) (b : Nat) (vc va vp : Value) (W w : World) (L : List Pc) (S : St W w (vtb b vc va vp V ++ L)) (hI : VtI V) (hy : V.G.Y = V.G.H - 1) :
    Calls Tryd.prog 121 #[.pointer (some ⟨b, 0, none⟩), .int .i64 10] w fun e w' => e = .returned (.tuple #[]) ∧ ∃ vc' vp', St W w' (vtb b vc' va vp' (vtPlain V 10) ++ L) := by
  have HI := Lib.hid hI
  obtain ⟨hd1, hd2, hd3, hd4, hd5, hd6⟩ := gridOk_d hI.g
  obtain ⟨hc1, hc2, hc3, hc4, -⟩ := gridOk_c hI.g
  have hN := hI.n
  have hg := Lib.hid hI.g
  have hb3 := hI.b
  obtain ⟨Ap, cp, rfl, rp⟩ := (S.ownB 3 rfl).form
  have rp := Lib.hid rp
  obtain ⟨m, hm⟩ : ∃ m, m = V.B.length := ⟨_, rfl⟩
  rw [← hm] at hb3 rp S
  have Hm := Lib.hid hm
  obtain ⟨lc, lf, ls⟩ := S.cells 0 rfl
  simp only [vtCs] at lc
  have SS := Lib.hid S
  have hyb : (V.G.Y == V.G.H - 1) = true := by simpa using hy
  have ew : IntKind.i64.wrap (V.G.H - 1) = V.G.H - 1 := IntWalk.i64_in _ (by omega)
  have ew2 : IntKind.i64.wrap (V.G.Y + 1) = V.G.Y + 1 := IntWalk.i64_in _ (by omega)
  have E : Hid (vtPlain V 10 = { V with G := goG (scrollG V.G) V.G.X (V.G.Y + 1), B := [] }) := by show _ = _; rw [plain_10, if_pos hy]
  have HX : Hid ((scrollG V.G).X = V.G.X ∧ (scrollG V.G).Y = V.G.Y) := ⟨rfl, rfl⟩
  have hgs := Lib.hid (scrollG_ok HI.out.g)
  clear S hm hI hd6
  go_enter Tryd.func121, Tryd.ntmps121
  go_wp2_with fail
  refine Calls.mono (impl_copyBytes _ _ _ _ _ rp.out (by omega)) ?_; rintro e w1 ⟨v1, rfl, own1, x1⟩
  have S1 := SS.out.newB own1 x1
  clear own1 x1 lc lf ls SS rp
  obtain ⟨lc, lf, ls⟩ := S1.cells 1 rfl
  simp only [vtCs] at lc
  have S1 := Lib.hid S1
  go_wp2_with (at_builtin; refine wp_addB rfl _ _ rfl (S1.out.skip _) 0 rfl rfl rfl (RB.lit _ _ [UInt8.ofNat 10] (rfl) (by simp)) (by rw [← Hm.out]; simp; omega) ?_)
  intro v2 w2 S2
  clear S1 lc lf ls
  obtain ⟨lc, lf, ls⟩ := S2.cells 1 rfl
  simp only [vtCs] at lc
  have S3 := Lib.hid (vtb_nilB S2)
  clear S2
  go_wp2_with fail
  clear lc lf ls
  obtain ⟨lc, lf, ls⟩ := S3.out.cells 0 rfl
  simp only [vtCs] at lc
  have Hy := Lib.hid hy; clear hy
  go_wp2_with fail
  go_quiet (fail)
  go_wp2_with fail
  obtain ⟨G2, hG2⟩ : ∃ G2, G2 = scrollG V.G := ⟨_, rfl⟩
  rw [← hG2] at E HX hgs
  refine Calls.mono (vt_scroll _ V.G b vc W _ _ ((vtb_front S3.out).drop.drewN _) hg.out) ?_; rintro e w4 ⟨rfl, vc2, S4⟩
  rw [← hG2] at S4
  clear lc lf ls hG2
  obtain ⟨lc, lf, ls⟩ := S4.cells 0 rfl
  simp only [vtCs, HX.out.1, HX.out.2] at lc
  have HS4 := Lib.hid S4; clear S4
  go_wp2_with fail
  go_region_with (go_at_call 91; (refine Calls.mono (vt_moveTo _ G2 _ _ b vc2 W _ _ HS4.out.drew hgs.out (by omega) (by omega)) ?_); rintro e w5 ⟨rfl, S5⟩)
  all_goals
    go_wp2_with fail
    ((try simp only [Exit.inBlock, Exit.then]); first | refine bodyPost_ret (results_none rfl _ _ _) rfl ?_ | refine bodyPost_end (results_none rfl _ _ _) rfl ?_)
    exact ⟨rfl, vc2, _, by rw [E.out]; exact S5⟩
set_option maxRecDepth 100000 in
set_option maxHeartbeats 4000000 in
theorem vt_plain_10n (V : VtS) (b : Nat) (vc va vp : Value) (W w : World) (L : List Pc) (S : St W w (vtb b vc va vp V ++ L)) (hI : VtI V) (hy : ¬ V.G.Y = V.G.H - 1) :
    Calls Tryd.prog 121 #[.pointer (some ⟨b, 0, none⟩), .int .i64 10] w fun e w' => e = .returned (.tuple #[]) ∧ ∃ vc' vp', St W w' (vtb b vc' va vp' (vtPlain V 10) ++ L) := by
  have HI := Lib.hid hI
  obtain ⟨hd1, hd2, hd3, hd4, hd5, hd6⟩ := gridOk_d hI.g
  obtain ⟨hc1, hc2, hc3, hc4, -⟩ := gridOk_c hI.g
  have hN := hI.n
  have hg := Lib.hid hI.g
  have hb3 := hI.b
  obtain ⟨Ap, cp, rfl, rp⟩ := (S.ownB 3 rfl).form
  have rp := Lib.hid rp
  obtain ⟨m, hm⟩ : ∃ m, m = V.B.length := ⟨_, rfl⟩
  rw [← hm] at hb3 rp S
  have Hm := Lib.hid hm
  obtain ⟨lc, lf, ls⟩ := S.cells 0 rfl
  simp only [vtCs] at lc
  have SS := Lib.hid S
  have hyb : (V.G.Y == V.G.H - 1) = false := by simpa using hy
  have ew : IntKind.i64.wrap (V.G.H - 1) = V.G.H - 1 := IntWalk.i64_in _ (by omega)
  have ew2 : IntKind.i64.wrap (V.G.Y + 1) = V.G.Y + 1 := IntWalk.i64_in _ (by omega)
  have E : Hid (vtPlain V 10 = { V with G := goG (V.G) V.G.X (V.G.Y + 1), B := [] }) := by show _ = _; rw [plain_10, if_neg hy]
  clear S hm hI hd6
  go_enter Tryd.func121, Tryd.ntmps121
  go_wp2_with fail
  refine Calls.mono (impl_copyBytes _ _ _ _ _ rp.out (by omega)) ?_; rintro e w1 ⟨v1, rfl, own1, x1⟩
  have S1 := SS.out.newB own1 x1
  clear own1 x1 lc lf ls SS rp
  obtain ⟨lc, lf, ls⟩ := S1.cells 1 rfl
  simp only [vtCs] at lc
  have S1 := Lib.hid S1
  go_wp2_with (at_builtin; refine wp_addB rfl _ _ rfl (S1.out.skip _) 0 rfl rfl rfl (RB.lit _ _ [UInt8.ofNat 10] (rfl) (by simp)) (by rw [← Hm.out]; simp; omega) ?_)
  intro v2 w2 S2
  clear S1 lc lf ls
  obtain ⟨lc, lf, ls⟩ := S2.cells 1 rfl
  simp only [vtCs] at lc
  have S3 := Lib.hid (vtb_nilB S2)
  clear S2
  go_wp2_with fail
  clear lc lf ls
  obtain ⟨lc, lf, ls⟩ := S3.out.cells 0 rfl
  simp only [vtCs] at lc
  have Hy := Lib.hid hy; clear hy
  go_wp2_with fail
  go_quiet (fail)
  go_wp2_with fail
  go_region_with (go_at_call 91; (refine Calls.mono (vt_moveTo _ V.G _ _ b vc W _ _ (((vtb_front S3.out).drop.drewN _).drew) hg.out (by omega) (by omega)) ?_); rintro e w5 ⟨rfl, S5⟩)
  all_goals
    go_wp2_with fail
    ((try simp only [Exit.inBlock, Exit.then]); first | refine bodyPost_ret (results_none rfl _ _ _) rfl ?_ | refine bodyPost_end (results_none rfl _ _ _) rfl ?_)
    exact ⟨rfl, vc, _, by rw [E.out]; exact S5⟩
set_option maxRecDepth 100000 in
set_option maxHeartbeats 4000000 in
theorem vt_plain_put (V : VtS) (k : Nat) (b : Nat) (vc va vp : Value) (W w : World) (L : List Pc) (S : St W w (vtb b vc va vp V ++ L)) (hI : VtI V) (h0 : 32 ≤ k) (h1 : k ≤ 126) :
    Calls Tryd.prog 121 #[.pointer (some ⟨b, 0, none⟩), .int .i64 k] w fun e w' => e = .returned (.tuple #[]) ∧ ∃ vc' vp', St W w' (vtb b vc' va vp' (vtPlain V k) ++ L) := by
  have HI := Lib.hid hI
  obtain ⟨hd1, hd2, hd3, hd4, hd5, hd6⟩ := gridOk_d hI.g
  obtain ⟨hc1, hc2, hc3, hc4, -⟩ := gridOk_c hI.g
  have hN := hI.n
  have hg := Lib.hid hI.g
  have hb3 := hI.b
  obtain ⟨Ap, cp, rfl, rp⟩ := (S.ownB 3 rfl).form
  have rp := Lib.hid rp
  obtain ⟨m, hm⟩ : ∃ m, m = V.B.length := ⟨_, rfl⟩
  rw [← hm] at hb3 rp S
  have Hm := Lib.hid hm
  obtain ⟨lc, lf, ls⟩ := S.cells 0 rfl
  simp only [vtCs] at lc
  have SS := Lib.hid S
  have e8 : IntKind.u8.wrap (k : Int) = (k : Int) := by unfold IntKind.wrap; simp [IntKind.signed, IntKind.bits]; omega
  have HA : Hid (∀ w, Calls Tryd.prog 97 #[.int .i64 k, .int .i64 32, .int .i64 126] w fun e w' => e = .returned (.bool true) ∧ w = w') := fun w => by have := impl_in (k : Int) 32 126 w; rw [show inB (k : Int) 32 126 = true by rw [inB_iff]; omega] at this; exact this
  have E := Lib.hid (plain_put (V := V) h0 h1)
  have B8 := Lib.hid (byteC_of (k := k) (by omega))
  clear S hm hI hd6
  go_enter Tryd.func121, Tryd.ntmps121
  go_wp2_with fail
  refine Calls.mono (impl_copyBytes _ _ _ _ _ rp.out (by omega)) ?_; rintro e w1 ⟨v1, rfl, own1, x1⟩
  have S1 := SS.out.newB own1 x1
  clear own1 x1 lc lf ls SS rp
  obtain ⟨lc, lf, ls⟩ := S1.cells 1 rfl
  simp only [vtCs] at lc
  have S1 := Lib.hid S1
  go_wp2_with (at_builtin; refine wp_addB rfl _ _ rfl (S1.out.skip _) 0 rfl rfl rfl (RB.lit _ _ [UInt8.ofNat k] (B8.out) (by simp)) (by rw [← Hm.out]; simp; omega) ?_)
  intro v2 w2 S2
  clear S1 lc lf ls
  obtain ⟨lc, lf, ls⟩ := S2.cells 1 rfl
  simp only [vtCs] at lc
  have S3 := Lib.hid (vtb_nilB S2)
  clear S2
  go_wp2_with fail
  refine Calls.mono (HA.out _) ?_; rintro e w4 ⟨rfl, hw⟩
  have hw := hw.symm
  subst hw
  go_wp2_with fail
  refine Calls.mono (vt_put _ V.G _ b vc W _ _ (vtb_front S3.out).drop hg.out) ?_; rintro e w5 ⟨rfl, v5, S5⟩
  go_wp2_with fail
  ((try simp only [Exit.inBlock, Exit.then]); first | refine bodyPost_ret (results_none rfl _ _ _) rfl ?_ | refine bodyPost_end (results_none rfl _ _ _) rfl ?_)
  exact ⟨rfl, v5, _, by rw [E.out]; exact S5⟩
set_option maxRecDepth 100000 in
set_option maxHeartbeats 4000000 in
theorem vt_plain_no (V : VtS) (k : Nat) (b : Nat) (vc va vp : Value) (W w : World) (L : List Pc) (S : St W w (vtb b vc va vp V ++ L)) (hI : VtI V) (h1 : k ≤ 127) (h7 : k ≠ 7) (h8 : k ≠ 8) (h13 : k ≠ 13) (h10 : k ≠ 10) (h27 : k ≠ 27) (h0 : ¬ (32 ≤ k ∧ k ≤ 126)) :
    Calls Tryd.prog 121 #[.pointer (some ⟨b, 0, none⟩), .int .i64 k] w fun e w' => e = .returned (.tuple #[]) ∧ ∃ vc' vp', St W w' (vtb b vc' va vp' (vtPlain V k) ++ L) := by
  have HI := Lib.hid hI
  obtain ⟨hd1, hd2, hd3, hd4, hd5, hd6⟩ := gridOk_d hI.g
  obtain ⟨hc1, hc2, hc3, hc4, -⟩ := gridOk_c hI.g
  have hN := hI.n
  have hg := Lib.hid hI.g
  have hb3 := hI.b
  obtain ⟨Ap, cp, rfl, rp⟩ := (S.ownB 3 rfl).form
  have rp := Lib.hid rp
  obtain ⟨m, hm⟩ : ∃ m, m = V.B.length := ⟨_, rfl⟩
  rw [← hm] at hb3 rp S
  have Hm := Lib.hid hm
  obtain ⟨lc, lf, ls⟩ := S.cells 0 rfl
  simp only [vtCs] at lc
  have SS := Lib.hid S
  have e8 : IntKind.u8.wrap (k : Int) = (k : Int) := by unfold IntKind.wrap; simp [IntKind.signed, IntKind.bits]; omega
  have HA : Hid (∀ w, Calls Tryd.prog 97 #[.int .i64 k, .int .i64 32, .int .i64 126] w fun e w' => e = .returned (.bool false) ∧ w = w') := fun w => by have := impl_in (k : Int) 32 126 w; rw [show inB (k : Int) 32 126 = false by rw [inB_not]; omega] at this; exact this
  have E := Lib.hid (plain_no (V := V) h1 h7 h8 h13 h10 h27 h0)
  have B8 := Lib.hid (byteC_of (k := k) (by omega))
  have n7 : ((k : Int) == 7) = false := by simp; omega
  have n8 : ((k : Int) == 8) = false := by simp; omega
  have n13 : ((k : Int) == 13) = false := by simp; omega
  have n10 : ((k : Int) == 10) = false := by simp; omega
  have n27 : ((k : Int) == 27) = false := by simp; omega
  clear h7 h8 h13 h10 h27 h0
  clear S hm hI hd6
  go_enter Tryd.func121, Tryd.ntmps121
  go_wp2_with fail
  refine Calls.mono (impl_copyBytes _ _ _ _ _ rp.out (by omega)) ?_; rintro e w1 ⟨v1, rfl, own1, x1⟩
  have S1 := SS.out.newB own1 x1
  clear own1 x1 lc lf ls SS rp
  obtain ⟨lc, lf, ls⟩ := S1.cells 1 rfl
  simp only [vtCs] at lc
  have S1 := Lib.hid S1
  go_wp2_with (at_builtin; refine wp_addB rfl _ _ rfl (S1.out.skip _) 0 rfl rfl rfl (RB.lit _ _ [UInt8.ofNat k] (B8.out) (by simp)) (by rw [← Hm.out]; simp; omega) ?_)
  intro v2 w2 S2
  clear S1 lc lf ls
  obtain ⟨lc, lf, ls⟩ := S2.cells 1 rfl
  simp only [vtCs] at lc
  have S3 := Lib.hid (vtb_nilB S2)
  clear S2
  go_wp2_with fail
  refine Calls.mono (HA.out _) ?_; rintro e w4 ⟨rfl, hw⟩
  have hw := hw.symm
  subst hw
  go_wp2_with fail
  ((try simp only [Exit.inBlock, Exit.then]); first | refine bodyPost_ret (results_none rfl _ _ _) rfl ?_ | refine bodyPost_end (results_none rfl _ _ _) rfl ?_)
  exact ⟨rfl, _, _, by rw [E.out]; exact (vtb_front S3.out).drop⟩
end Go.Proofs.YtohjjhoobikioaaDoor
