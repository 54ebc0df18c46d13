/-
  The terminal's own methods: plain. Printed by gen_vtplain.py.
-/
import Derived.Test.YtohjjhoobikioaaDoorVtW4
import Derived.Test.YtohjjhoobikioaaDoorVtW5
import Derived.Test.YtohjjhoobikioaaDoorLawKit
namespace Go.Proofs.YtohjjhoobikioaaDoor
open Go.RowKit

/-- the piece behind a terminal comes first -/
theorem vtb_front {W w : World} {L : List Pc} {b : Nat} {vc va vp : Value} {V : VtS} {h : Pc} (S : St W w (vtb b vc va vp V ++ (h :: L))) : St W w (h :: (vtb b vc va vp V ++ L)) := S.bring 4 rfl
theorem byteC_of {k : Nat} (h : k ≤ 255) : [Value.int .u8 (k : Int)] = [UInt8.ofNat k].map byteC := by
  simp only [List.map_cons, List.map_nil, byteC]
  rw [UInt8.toNat_ofNat', Nat.mod_eq_of_lt (by omega)]
/-- the reading of a rune at the beginning -/
theorem read0 (A : Option Addr) (n c : Nat) (l : List UInt8) (w : World) (h : RB w A n c l) (hn : n ≤ 1099511627776) :
    Calls Tryd.prog 132 #[.slice A n c, .int .i64 0] w fun e w' => e = .returned (.tuple #[.int .i64 (runeRead l).1, .int .i64 (runeRead l).2]) ∧ Ext w w' :=
  impl_RuneRead A n c l 0 w h (by omega) hn
set_option maxRecDepth 100000 in
set_option maxHeartbeats 4000000 in
theorem vt_plain_7 (V : VtS) (b : Nat) (vc va vp : Value) (W w : World) (L : List Pc) (S : St W w (vtb b vc va vp V ++ L)) (hI : VtI V) :
    Calls Tryd.prog 121 #[.pointer (some ⟨b, 0, none⟩), .int .i64 7] w fun e w' => e = .returned (.tuple #[]) ∧ ∃ vc' vp', St W w' (vtb b vc' va vp' (vtPlain V 7) ++ L) := by
  have HI := Lib.hid hI
  obtain ⟨hd1, hd2, hd3, hd4, hd5, hd6⟩ := gridOk_d hI.g
  obtain ⟨hc1, hc2, hc3, hc4, -⟩ := gridOk_c hI.g
  have hN := hI.n
  have hg := Lib.hid hI.g
  have hb3 := hI.b
  obtain ⟨Ap, cp, rfl, rp⟩ := (S.ownB 3 rfl).form
  have rp := Lib.hid rp
  obtain ⟨m, hm⟩ : ∃ m, m = V.B.length := ⟨_, rfl⟩
  rw [← hm] at hb3 rp S
  have Hm := Lib.hid hm
  obtain ⟨lc, lf, ls⟩ := S.cells 0 rfl
  simp only [vtCs] at lc
  have SS := Lib.hid S
  clear S hm hI hd6
  go_enter Tryd.func121, Tryd.ntmps121
  go_wp2_with fail
  refine Calls.mono (impl_copyBytes _ _ _ _ _ rp.out (by omega)) ?_; rintro e w1 ⟨v1, rfl, own1, x1⟩
  have S1 := SS.out.newB own1 x1
  clear own1 x1 lc lf ls SS rp
  obtain ⟨lc, lf, ls⟩ := S1.cells 1 rfl
  simp only [vtCs] at lc
  have S1 := Lib.hid S1
  go_wp2_with (at_builtin; refine wp_addB rfl _ _ rfl (S1.out.skip _) 0 rfl rfl rfl (RB.lit _ _ [UInt8.ofNat 7] (rfl) (by simp)) (by rw [← Hm.out]; simp; omega) ?_)
  intro v2 w2 S2
  clear S1 lc lf ls
  obtain ⟨lc, lf, ls⟩ := S2.cells 1 rfl
  simp only [vtCs] at lc
  have S3 := Lib.hid (vtb_nilB S2)
  clear S2
  go_wp2_with fail
  have S4 := vtb_setN (min (V.N + 1) 1000000) (vtb_front S3.out).drop
  go_wp2_with fail
  ((try simp only [Exit.inBlock, Exit.then]); first | refine bodyPost_ret (results_none rfl _ _ _) rfl ?_ | refine bodyPost_end (results_none rfl _ _ _) rfl ?_)
  exact ⟨rfl, _, _, S4⟩
set_option maxRecDepth 100000 in
set_option maxHeartbeats 4000000 in
theorem vt_plain_8 (V : VtS) (b : Nat) (vc va vp : Value) (W w : World) (L : List Pc) (S : St W w (vtb b vc va vp V ++ L)) (hI : VtI V) :
    Calls Tryd.prog 121 #[.pointer (some ⟨b, 0, none⟩), .int .i64 8] w fun e w' => e = .returned (.tuple #[]) ∧ ∃ vc' vp', St W w' (vtb b vc' va vp' (vtPlain V 8) ++ L) := by
  have HI := Lib.hid hI
  obtain ⟨hd1, hd2, hd3, hd4, hd5, hd6⟩ := gridOk_d hI.g
  obtain ⟨hc1, hc2, hc3, hc4, -⟩ := gridOk_c hI.g
  have hN := hI.n
  have hg := Lib.hid hI.g
  have hb3 := hI.b
  obtain ⟨Ap, cp, rfl, rp⟩ := (S.ownB 3 rfl).form
  have rp := Lib.hid rp
  obtain ⟨m, hm⟩ : ∃ m, m = V.B.length := ⟨_, rfl⟩
  rw [← hm] at hb3 rp S
  have Hm := Lib.hid hm
  obtain ⟨lc, lf, ls⟩ := S.cells 0 rfl
  simp only [vtCs] at lc
  have SS := Lib.hid S
  have ew : IntKind.i64.wrap (V.G.X - 1) = V.G.X - 1 := IntWalk.i64_in _ (by omega)
  clear S hm hI hd6
  go_enter Tryd.func121, Tryd.ntmps121
  go_wp2_with fail
  refine Calls.mono (impl_copyBytes _ _ _ _ _ rp.out (by omega)) ?_; rintro e w1 ⟨v1, rfl, own1, x1⟩
  have S1 := SS.out.newB own1 x1
  clear own1 x1 lc lf ls SS rp
  obtain ⟨lc, lf, ls⟩ := S1.cells 1 rfl
  simp only [vtCs] at lc
  have S1 := Lib.hid S1
  go_wp2_with (at_builtin; refine wp_addB rfl _ _ rfl (S1.out.skip _) 0 rfl rfl rfl (RB.lit _ _ [UInt8.ofNat 8] (rfl) (by simp)) (by rw [← Hm.out]; simp; omega) ?_)
  intro v2 w2 S2
  clear S1 lc lf ls
  obtain ⟨lc, lf, ls⟩ := S2.cells 1 rfl
  simp only [vtCs] at lc
  have S3 := Lib.hid (vtb_nilB S2)
  clear S2
  go_wp2_with fail
  clear lc lf ls
  obtain ⟨lc, lf, ls⟩ := S3.out.cells 0 rfl
  simp only [vtCs] at lc
  go_wp2_with fail
  go_region_with (go_at_call 91; (refine Calls.mono (vt_moveTo _ V.G _ _ b vc W _ _ (vtb_front S3.out).drop.drew hg.out (by omega) (by omega)) ?_); rintro e w4 ⟨rfl, S4⟩)
  all_goals
    go_wp2_with fail
    ((try simp only [Exit.inBlock, Exit.then]); first | refine bodyPost_ret (results_none rfl _ _ _) rfl ?_ | refine bodyPost_end (results_none rfl _ _ _) rfl ?_)
    exact ⟨rfl, _, _, S4⟩
set_option maxRecDepth 100000 in
set_option maxHeartbeats 4000000 in
theorem vt_plain_13 (V : VtS) (b : Nat) (vc va vp : Value) (W w : World) (L : List Pc) (S : St W w (vtb b vc va vp V ++ L)) (hI : VtI V) :
    Calls Tryd.prog 121 #[.pointer (some ⟨b, 0, none⟩), .int .i64 13] w fun e w' => e = .returned (.tuple #[]) ∧ ∃ vc' vp', St W w' (vtb b vc' va vp' (vtPlain V 13) ++ L) := by
  have HI := Lib.hid hI
  obtain ⟨hd1, hd2, hd3, hd4, hd5, hd6⟩ := gridOk_d hI.g
  obtain ⟨hc1, hc2, hc3, hc4, -⟩ := gridOk_c hI.g
  have hN := hI.n
  have hg := Lib.hid hI.g
  have hb3 := hI.b
  obtain ⟨Ap, cp, rfl, rp⟩ := (S.ownB 3 rfl).form
  have rp := Lib.hid rp
  obtain ⟨m, hm⟩ : ∃ m, m = V.B.length := ⟨_, rfl⟩
  rw [← hm] at hb3 rp S
  have Hm := Lib.hid hm
  obtain ⟨lc, lf, ls⟩ := S.cells 0 rfl
  simp only [vtCs] at lc
  have SS := Lib.hid S
  clear S hm hI hd6
  go_enter Tryd.func121, Tryd.ntmps121
  go_wp2_with fail
  refine Calls.mono (impl_copyBytes _ _ _ _ _ rp.out (by omega)) ?_; rintro e w1 ⟨v1, rfl, own1, x1⟩
  have S1 := SS.out.newB own1 x1
  clear own1 x1 lc lf ls SS rp
  obtain ⟨lc, lf, ls⟩ := S1.cells 1 rfl
  simp only [vtCs] at lc
  have S1 := Lib.hid S1
  go_wp2_with (at_builtin; refine wp_addB rfl _ _ rfl (S1.out.skip _) 0 rfl rfl rfl (RB.lit _ _ [UInt8.ofNat 13] (rfl) (by simp)) (by rw [← Hm.out]; simp; omega) ?_)
  intro v2 w2 S2
  clear S1 lc lf ls
  obtain ⟨lc, lf, ls⟩ := S2.cells 1 rfl
  simp only [vtCs] at lc
  have S3 := Lib.hid (vtb_nilB S2)
  clear S2
  go_wp2_with fail
  clear lc lf ls
  obtain ⟨lc, lf, ls⟩ := S3.out.cells 0 rfl
  simp only [vtCs] at lc
  go_wp2_with fail
  refine Calls.mono (vt_moveTo _ V.G _ _ b vc W _ _ (vtb_front S3.out).drop hg.out (by omega) (by omega)) ?_; rintro e w4 ⟨rfl, S4⟩
  go_wp2_with fail
  ((try simp only [Exit.inBlock, Exit.then]); first | refine bodyPost_ret (results_none rfl _ _ _) rfl ?_ | refine bodyPost_end (results_none rfl _ _ _) rfl ?_)
  exact ⟨rfl, _, _, S4⟩
set_option maxRecDepth 100000 in
set_option maxHeartbeats 4000000 in
theorem vt_plain_27 (V : VtS) (b : Nat) (vc va vp : Value) (W w : World) (L : List Pc) (S : St W w (vtb b vc va vp V ++ L)) (hI : VtI V) :
    Calls Tryd.prog 121 #[.pointer (some ⟨b, 0, none⟩), .int .i64 27] w fun e w' => e = .returned (.tuple #[]) ∧ ∃ vc' vp', St W w' (vtb b vc' va vp' (vtPlain V 27) ++ L) := by
  have HI := Lib.hid hI
  obtain ⟨hd1, hd2, hd3, hd4, hd5, hd6⟩ := gridOk_d hI.g
  obtain ⟨hc1, hc2, hc3, hc4, -⟩ := gridOk_c hI.g
  have hN := hI.n
  have hg := Lib.hid hI.g
  have hb3 := hI.b
  obtain ⟨Ap, cp, rfl, rp⟩ := (S.ownB 3 rfl).form
  have rp := Lib.hid rp
  obtain ⟨m, hm⟩ : ∃ m, m = V.B.length := ⟨_, rfl⟩
  rw [← hm] at hb3 rp S
  have Hm := Lib.hid hm
  obtain ⟨lc, lf, ls⟩ := S.cells 0 rfl
  simp only [vtCs] at lc
  have SS := Lib.hid S
  clear S hm hI hd6
  go_enter Tryd.func121, Tryd.ntmps121
  go_wp2_with fail
  refine Calls.mono (impl_copyBytes _ _ _ _ _ rp.out (by omega)) ?_; rintro e w1 ⟨v1, rfl, own1, x1⟩
  have S1 := SS.out.newB own1 x1
  clear own1 x1 lc lf ls SS rp
  obtain ⟨lc, lf, ls⟩ := S1.cells 1 rfl
  simp only [vtCs] at lc
  have S1 := Lib.hid S1
  go_wp2_with (at_builtin; refine wp_addB rfl _ _ rfl (S1.out.skip _) 0 rfl rfl rfl (RB.lit _ _ [UInt8.ofNat 27] (rfl) (by simp)) (by rw [← Hm.out]; simp; omega) ?_)
  intro v2 w2 S2
  clear S1 lc lf ls
  obtain ⟨lc, lf, ls⟩ := S2.cells 1 rfl
  simp only [vtCs] at lc
  have S3 := Lib.hid (vtb_nilB S2)
  clear S2
  go_wp2_with fail
  have S4 := vtb_setS 1 (vtb_front S3.out).drop
  go_wp2_with fail
  ((try simp only [Exit.inBlock, Exit.then]); first | refine bodyPost_ret (results_none rfl _ _ _) rfl ?_ | refine bodyPost_end (results_none rfl _ _ _) rfl ?_)
  exact ⟨rfl, _, _, S4⟩
end Go.Proofs.YtohjjhoobikioaaDoor
