/-
  FnFullScreen: the law's walk.
-/
import Derived.Test.YtohjjhoobikioaaDoorSvB
import Derived.Test.YtohjjhoobikioaaDoorLawFnDiff
import Derived.Test.YtohjjhoobikioaaDoorVtF
namespace Go.Proofs.YtohjjhoobikioaaDoor
open Go.RowKit

theorem fullOk_of {a : Gr} (h : gridOk a = true) (hR : a.R = false) : fullOk a = true := fullOk_iff.2 ⟨h, hR⟩
/-- a full painting fed to a terminal of that size, outside of a sequence -/
theorem feed_fullS (V : VtS) (a : Gr) (Ac Aa Ap : Option Addr) (nc cc na ca np cp : Nat) (A : Option Addr) (n c : Nat) (w : World) (hC : RI w Ac nc cc V.G.C) (hA : RI w Aa na ca V.P) (hP : RB w Ap np cp V.B) (hr : RB w A n c (fullB a)) (hV : VtV V) (hS : V.S = 0) (ha : gridOk a = true) (hw : a.W = V.G.W) (hh : a.H = V.G.H) (hR : a.R = false) :
    Calls Tryd.prog 36 #[.agg (vtRow V.G V.S (.slice Ac nc cc) (.slice Aa na ca) (.slice Ap np cp) V.N), .slice A n c] w fun e w' => ∃ vc va vp, e = .returned (.agg (vtRow a 0 vc va vp V.N)) ∧ St w w' [ownI vc a.C, ownI va [], ownB vp []] := by
  have hn : n ≤ 1099511627776 := by
    have h1 := fullD_len a
    unfold fullD at h1
    rw [if_pos (fullOk_of ha hR)] at h1
    rw [hr.len] at h1; omega
  have h := impl_VtFeed V Ac Aa Ap nc cc na ca np cp A n c (fullB a) w hC hA hP hr hV.ok hn
  have hP0 : V.P = [] := by
    rcases hV.p with e | e
    · exact e
    · omega
  have e : feed V (fullB a) = T a V.N := by
    obtain ⟨G, S, P, B, N⟩ := V
    simp only at hS hP0 hw hh
    subst hS; subst hP0
    exact feed_full ha hV.i.g hw.symm hh.symm hR
  rw [e] at h
  exact h
set_option maxRecDepth 100000 in
set_option maxHeartbeats 4000000 in
theorem law_FnFullScreen (A : Option Addr) (n c : Nat) (l : List UInt8) (W : World) (ht : Tab W) (hr : RB W A n c l) :
    Calls Tryd.prog 11 #[.slice A n c] W fun e w' => e = .returned (.bool true) ∧ Ext W w' := by
  have hn := hr.nmax
  by_cases hbig : 1048576 < n
  · go_enter Tryd.func11, Tryd.ntmps11
    go_wp2_with fail
    go_ret
    exact ⟨rfl, Ext.refl _⟩
  go_enter Tryd.func11, Tryd.ntmps11
  go_wp2_with fail
  refine (spec_MakeTerminal A n c l _ hr (by omega)).mono ?_; rintro e w1 ⟨V, a, Ac, nc, cc, Aa, na, ca, Ap, np, cp, Ab, nb, cb, rfl, hV, hS, ha, hw, hh, hR, rC, rA, rP, rb, x1⟩
  have K1 := Lib.hid (fun w h1 h2 => impl_Full a Ab nb cb w h1 h2)
  rw [fullOk_of ha hR, show fullD a = fullB a by unfold fullD; rw [if_pos (fullOk_of ha hR)]] at K1
  have K2 := Lib.hid (fun A n c w h1 h2 h3 h4 => feed_fullS V a Ac Aa Ap nc cc na ca np cp A n c w h1 h2 h3 h4 hV hS ha hw hh hR)
  have K3 := Lib.hid (fun A n c w h1 h2 => impl_SameGrid a.W a.H a.X a.Y a.R a.C A n c a.W a.H a.X a.Y a.R a.C Ab nb cb w h1 h2)
  have e3 : sameG ⟨a.W, a.H, a.C, a.X, a.Y, a.R⟩ ⟨a.W, a.H, a.C, a.X, a.Y, a.R⟩ = true := sameG_self _
  rw [e3] at K3
  clear hV hS ha hw hh hR e3
  have S1 := ((St.of x1).alloc (vtRow V.G V.S (.slice Ac nc cc) (.slice Aa na ca) (.slice Ap np cp) V.N) 58).alloc #[.int .i64 a.W, .int .i64 a.H, .slice Ab nb cb, .int .i64 a.X, .int .i64 a.Y, .bool a.R] 40
  have xr := ((Ext.refl w1).alloc (.cells (vtRow V.G V.S (.slice Ac nc cc) (.slice Aa na ca) (.slice Ap np cp) V.N) 58)).alloc (.cells #[.int .i64 a.W, .int .i64 a.H, .slice Ab nb cb, .int .i64 a.X, .int .i64 a.Y, .bool a.R] 40)
  rw [World.size_alloc] at S1
  have rC := Lib.hid (rC.ext xr)
  have rA := Lib.hid (rA.ext xr)
  have rP := Lib.hid (rP.ext xr)
  have rb := Lib.hid (rb.ext xr)
  clear x1 xr
  go_wp2_with fail
  generalize w1.heap.size = b1 at *
  refine (K1.out _ (ht.ext S1.ext) rb.out).mono ?_; rintro e w2 ⟨v2, rfl, own2, x2⟩
  obtain ⟨A2, n2, c2, rfl⟩ := own2.form'
  have S2 := S1.call x2
  have rC := Lib.hid (rC.out.ext x2)
  have rA := Lib.hid (rA.out.ext x2)
  have rP := Lib.hid (rP.out.ext x2)
  have rb := Lib.hid (rb.out.ext x2)
  have own2 := Lib.hid own2
  clear S1 x2
  obtain ⟨lc, lf, ls⟩ := S2.cells 1 rfl
  go_wp2_with fail
  refine (K2.out _ _ _ _ rC.out rA.out rP.out own2.out.rb).mono ?_; rintro e w3 ⟨vc, va, vp, rfl, S3⟩
  obtain ⟨A3, n3, c3, rfl⟩ := (S3.ownI 0 rfl).form'
  obtain ⟨A4, n4, c4, rfl⟩ := (S3.ownI 1 rfl).form'
  obtain ⟨A5, n5, c5, rfl⟩ := (S3.ownB 2 rfl).form'
  obtain rfl : n5 = 0 := (S3.ownB 2 rfl).rb.len.symm
  have T0 := (S2.joined S3).alloc (vtRow a 0 (.slice A3 n3 c3) (.slice A4 n4 c4) (.slice A5 0 c5) V.N) 58
  have rc := Lib.hid (((S3.ownI 0 rfl).ri).ext ((Ext.refl w3).alloc (.cells (vtRow a 0 (.slice A3 n3 c3) (.slice A4 n4 c4) (.slice A5 0 c5) V.N) 58)))
  have rb := Lib.hid (rb.out.ext (S3.ext.trans ((Ext.refl w3).alloc (.cells (vtRow a 0 (.slice A3 n3 c3) (.slice A4 n4 c4) (.slice A5 0 c5) V.N) 58))))
  have B1 := (S2.joined S3).gb 3 rfl
  clear S2 S3 own2 rC rA rP lc lf ls
  have TT := Lib.hid T0; clear T0
  obtain ⟨p0, p1, p2, p3, p4, p5⟩ := B1
  have p0l := World.block_lt_of_cell? w3 _ p0
  go_wp2_with fail
  refine (K3.out _ _ _ _ rc.out rb.out).mono ?_; rintro e w4 ⟨rfl, x4⟩
  have S4 := TT.out.call x4
  clear p0 p1 p2 p3 p4 p5 p0l
  obtain ⟨lc, lf, ls⟩ := S4.cells 0 rfl
  obtain ⟨lc2, lf2, ls2⟩ := S4.cells 5 rfl
  go_wp2_with fail
  go_ret
  exact ⟨rfl, S4.ext⟩
end Go.Proofs.YtohjjhoobikioaaDoor
