/-
  FnDiff: the law's walk.
-/
import Derived.Test.YtohjjhoobikioaaDoorDraw
import Derived.Test.YtohjjhoobikioaaDoorVtWc
import Derived.Test.YtohjjhoobikioaaDoorVtR
import Derived.Test.YtohjjhoobikioaaDoorPOk
namespace Go.Proofs.YtohjjhoobikioaaDoor
open Go.RowKit

theorem sameG_self (g : Gr) : sameG g g = true := by simp [sameG]
theorem vtOk_T {g : Gr} (h : gridOk g = true) : vtOk (T g 0) = true := by
  simp [vtOk, T, h, inB, argsB]
theorem RI.none (w : World) : RI w none 0 0 [] := (OwnI.nil w 0).form.elim fun A h => h.elim fun c h2 => by
  obtain ⟨e, r⟩ := h2
  injection e with e1 e2 e3
  subst e1; subst e3
  exact r
theorem RB.none (w : World) : RB w none 0 0 [] := (OwnB.nil w 0).form.elim fun A h => h.elim fun c h2 => by
  obtain ⟨e, r⟩ := h2
  injection e with e1 e2 e3
  subst e1; subst e3
  exact r
abbrev vtRow (g : Gr) (S : Int) (vc va vp : Value) (N : Int) : Array Value := #[.int .i64 g.W, .int .i64 g.H, vc, .int .i64 g.X, .int .i64 g.Y, .bool g.R, .int .i64 S, va, vp, .int .i64 N]
/-- a difference fed to a terminal that shows the first grid -/
theorem feed_made (a b : Gr) (Aa : Option Addr) (na ca : Nat) (A : Option Addr) (n c : Nat) (w : World) (hC : RI w Aa na ca a.C) (hr : RB w A n c (diffB a b)) (ha : gridOk a = true) (hb : gridOk b = true) (hw : a.W = b.W) (hh : a.H = b.H) (hR : b.R = false) :
    Calls Tryd.prog 36 #[.agg (vtRow a 0 (.slice Aa na ca) (.slice none 0 0) (.slice none 0 0) 0), .slice A n c] w fun e w' => ∃ vc va vp, e = .returned (.agg (vtRow b 0 vc va vp 0)) ∧ St w w' [ownI vc b.C, ownI va [], ownB vp []] := by
  have hn : n ≤ 1099511627776 := by
    have h1 := diffB_len ha hb hw hh
    rw [hr.len] at h1; omega
  have h := impl_VtFeed (T a 0) Aa none none na ca 0 0 0 0 A n c (diffB a b) w hC (RI.none w) (RB.none w) hr (vtOk_T ha) hn
  rw [feed_diff hb ha hw hh hR] at h
  exact h
set_option maxRecDepth 100000 in
set_option maxHeartbeats 4000000 in
theorem law_FnDiff (A : Option Addr) (n c : Nat) (l : List UInt8) (W : World) (ht : Tab W) (hr : RB W A n c l) :
    Calls Tryd.prog 8 #[.slice A n c] W fun e w' => e = .returned (.bool true) ∧ Ext W w' := by
  have hn := hr.nmax
  by_cases hbig : 1048576 < n
  · go_enter Tryd.func8, Tryd.ntmps8
    go_wp2_with fail
    go_ret
    exact ⟨rfl, Ext.refl _⟩
  go_enter Tryd.func8, Tryd.ntmps8
  go_wp2_with fail
  refine (spec_MakeGrids A n c l _ hr (by omega)).mono ?_; rintro e w1 ⟨a, b, Aa, na, ca, Ab, nb, cb, rfl, ha, hb, hw, hh, hR, ra, rb, x1⟩
  have K1 := Lib.hid (fun w h1 h2 h3 => impl_Diff a b Aa na ca Ab nb cb w h1 h2 h3)
  rw [diffOk_iff.2 ⟨ha, hb, hw, hh, hR⟩, show diffD a b = diffB a b by unfold diffD; rw [if_pos (diffOk_iff.2 ⟨ha, hb, hw, hh, hR⟩)]] at K1
  have K2 := Lib.hid (fun A n c w h1 h2 => feed_made a b Aa na ca A n c w h1 h2 ha hb hw hh hR)
  have K3 := Lib.hid (fun A n c w h1 h2 => impl_SameGrid b.W b.H b.X b.Y b.R b.C A n c b.W b.H b.X b.Y b.R b.C Ab nb cb w h1 h2)
  have e3 : sameG ⟨b.W, b.H, b.C, b.X, b.Y, b.R⟩ ⟨b.W, b.H, b.C, b.X, b.Y, b.R⟩ = true := sameG_self _
  rw [e3] at K3
  clear ha hb hw hh hR e3
  have S1 := ((St.of x1).alloc #[.int .i64 a.W, .int .i64 a.H, .slice Aa na ca, .int .i64 a.X, .int .i64 a.Y, .bool a.R] 40).alloc #[.int .i64 b.W, .int .i64 b.H, .slice Ab nb cb, .int .i64 b.X, .int .i64 b.Y, .bool b.R] 40
  have xr := ((Ext.refl w1).alloc (.cells #[.int .i64 a.W, .int .i64 a.H, .slice Aa na ca, .int .i64 a.X, .int .i64 a.Y, .bool a.R] 40)).alloc (.cells #[.int .i64 b.W, .int .i64 b.H, .slice Ab nb cb, .int .i64 b.X, .int .i64 b.Y, .bool b.R] 40)
  rw [World.size_alloc] at S1
  have ra := Lib.hid (ra.ext xr)
  have rb := Lib.hid (rb.ext xr)
  clear x1 xr
  go_wp2_with fail
  generalize w1.heap.size = b1 at *
  refine (K1.out _ (ht.ext S1.ext) ra.out rb.out).mono ?_; rintro e w2 ⟨v2, rfl, own2, x2⟩
  obtain ⟨A2, n2, c2, rfl⟩ := own2.form'
  have S2 := S1.call x2
  have ra := Lib.hid (ra.out.ext x2)
  have rb := Lib.hid (rb.out.ext x2)
  have own2 := Lib.hid own2
  clear S1 x2
  obtain ⟨q0, q1, q2, q3, q4, q5⟩ := S2.gb 1 rfl
  go_wp2_with fail
  refine (K2.out _ _ _ _ ra.out own2.out.rb).mono ?_; rintro e w3 ⟨vc, va, vp, rfl, S3⟩
  obtain ⟨A3, n3, c3, rfl⟩ := (S3.ownI 0 rfl).form'
  obtain ⟨A4, n4, c4, rfl⟩ := (S3.ownI 1 rfl).form'
  obtain ⟨A5, n5, c5, rfl⟩ := (S3.ownB 2 rfl).form'
  have T0 := (S2.joined S3).alloc (vtRow b 0 (.slice A3 n3 c3) (.slice A4 n4 c4) (.slice A5 n5 c5) 0) 58
  have rc := Lib.hid (((S3.ownI 0 rfl).ri).ext ((Ext.refl w3).alloc (.cells (vtRow b 0 (.slice A3 n3 c3) (.slice A4 n4 c4) (.slice A5 n5 c5) 0) 58)))
  have rb := Lib.hid (rb.out.ext (S3.ext.trans ((Ext.refl w3).alloc (.cells (vtRow b 0 (.slice A3 n3 c3) (.slice A4 n4 c4) (.slice A5 n5 c5) 0) 58))))
  have B1 := (S2.joined S3).gb 3 rfl
  clear S2 S3 own2 ra q0 q1 q2 q3 q4 q5
  have TT := Lib.hid T0; clear T0
  obtain ⟨p0, p1, p2, p3, p4, p5⟩ := B1
  have p0l := World.block_lt_of_cell? w3 _ p0
  go_wp2_with fail
  refine (K3.out _ _ _ _ rc.out rb.out).mono ?_; rintro e w4 ⟨rfl, x4⟩
  have S4 := TT.out.call x4
  clear p0 p1 p2 p3 p4 p5 p0l
  obtain ⟨lc, lf, ls⟩ := S4.cells 0 rfl
  go_wp2_with fail
  go_ret
  exact ⟨rfl, S4.ext⟩
end Go.Proofs.YtohjjhoobikioaaDoor
