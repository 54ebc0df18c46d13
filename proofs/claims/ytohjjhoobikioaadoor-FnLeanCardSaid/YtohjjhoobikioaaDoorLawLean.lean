/-
  FnLean: the law's walk.
-/
import Derived.Test.YtohjjhoobikioaaDoorDraw2
import Derived.Test.YtohjjhoobikioaaDoorLean
namespace Go.Proofs.YtohjjhoobikioaaDoor
open Go.RowKit

theorem cnt_self (C : List Int) (k : Nat) : cnt C C k = 0 := by
  induction k with
  | zero => rfl
  | succ k ih => rw [cnt_succ, ih]; simp

set_option maxRecDepth 100000 in
set_option maxHeartbeats 4000000 in
theorem law_FnLean (A : Option Addr) (n c : Nat) (l : List UInt8) (W : World) (ht : Tab W) (hr : RB W A n c l) :
    Calls Tryd.prog 5 #[.slice A n c] W fun e w' => e = .returned (.bool true) ∧ Ext W w' := by
  have hn := hr.nmax
  by_cases hbig : 1048576 < n
  · go_enter Tryd.func5, Tryd.ntmps5
    go_wp2_with fail
    go_ret
    exact ⟨rfl, Ext.refl _⟩
  go_enter Tryd.func5, Tryd.ntmps5
  go_wp2_with fail
  refine (spec_MakeGrids A n c l _ hr (by omega)).mono ?_; rintro e w1 ⟨a, b, Aa, na, ca, Ab, nb, cb, rfl, ha, hb, hw, hh, hR, ra, rb, x1⟩
  have K1 := Lib.hid (fun w h1 h2 h3 => impl_Diff a b Aa na ca Ab nb cb w h1 h2 h3)
  rw [diffOk_iff.2 ⟨ha, hb, hw, hh, hR⟩, show diffD a b = diffB a b by unfold diffD; rw [if_pos (diffOk_iff.2 ⟨ha, hb, hw, hh, hR⟩)]] at K1
  have K2 := Lib.hid (fun w h1 h2 h3 => impl_Diff b b Ab nb cb Ab nb cb w h1 h2 h3)
  rw [diffOk_iff.2 ⟨hb, hb, rfl, rfl, hR⟩, show diffD b b = [] by unfold diffD; rw [if_pos (diffOk_iff.2 ⟨hb, hb, rfl, rfl, hR⟩), diffB_id hR]] at K2
  have hlean := diffB_lean hb ha hw hh
  obtain ⟨k, hk⟩ : ∃ k, k = cnt a.C b.C a.C.length := ⟨_, rfl⟩
  rw [← hk] at hlean
  have k3 := fun w h1 h2 => impl_Differ a.W a.H a.X a.Y a.R a.C Aa na ca b.W b.H b.X b.Y b.R b.C Ab nb cb w h1 h2
  have e3 : differ ⟨a.W, a.H, a.C, a.X, a.Y, a.R⟩ ⟨b.W, b.H, b.C, b.X, b.Y, b.R⟩ = (k : Int) := by rw [hk]; exact differ_yes ha hb hw hh
  rw [e3] at k3
  have K3 := Lib.hid k3
  have k4 := fun w h1 h2 => impl_Differ b.W b.H b.X b.Y b.R b.C Ab nb cb b.W b.H b.X b.Y b.R b.C Ab nb cb w h1 h2
  have e4 : differ ⟨b.W, b.H, b.C, b.X, b.Y, b.R⟩ ⟨b.W, b.H, b.C, b.X, b.Y, b.R⟩ = 0 := by
    have := differ_yes hb hb rfl rfl
    rw [cnt_self] at this; exact this
  rw [e4] at k4
  have K4 := Lib.hid k4
  have hk8 : k ≤ 8000 := by
    obtain ⟨-, -, -, -, q5, q6⟩ := gridOk_d ha
    have := cnt_le a.C b.C a.C.length
    omega
  have HLn := Lib.hid hlean
  clear hlean hk k3 e3 k4 e4 ha hb hw hh hR
  have S1 := ((St.of x1).alloc #[.int .i64 a.W, .int .i64 a.H, .slice Aa na ca, .int .i64 a.X, .int .i64 a.Y, .bool a.R] 40).alloc #[.int .i64 b.W, .int .i64 b.H, .slice Ab nb cb, .int .i64 b.X, .int .i64 b.Y, .bool b.R] 40
  have xr := ((Ext.refl w1).alloc (.cells #[.int .i64 a.W, .int .i64 a.H, .slice Aa na ca, .int .i64 a.X, .int .i64 a.Y, .bool a.R] 40)).alloc (.cells #[.int .i64 b.W, .int .i64 b.H, .slice Ab nb cb, .int .i64 b.X, .int .i64 b.Y, .bool b.R] 40)
  rw [World.size_alloc] at S1
  have ra := ra.ext xr
  have rb := rb.ext xr
  clear x1 xr
  go_wp2_with fail
  generalize w1.heap.size = b1 at *
  refine (K1.out _ (ht.ext S1.ext) ra rb).mono ?_; rintro e w2 ⟨v2, rfl, own2, x2⟩
  obtain ⟨A2, n2, c2, rfl⟩ := own2.form'
  have hn2 : n2 ≤ 10 + 14 * k := by rw [← own2.rb.len]; exact HLn.out
  have S2 := S1.call x2
  have ra := ra.ext x2
  have rb := rb.ext x2
  clear S1 x2 own2
  obtain ⟨q0, q1, q2, q3, q4, q5⟩ := S2.gb 1 rfl
  obtain ⟨p0, p1, p2, p3, p4, p5⟩ := S2.gb 0 rfl
  go_wp2_with fail
  refine (K3.out _ ra rb).mono ?_; rintro e w3 ⟨rfl, x3⟩
  have S3 := S2.call x3
  have ra := ra.ext x3
  have rb := rb.ext x3
  clear S2 x3 q0 q1 q2 q3 q4 q5 p0 p1 p2 p3 p4 p5
  obtain ⟨p0, p1, p2, p3, p4, p5⟩ := S3.gb 0 rfl
  go_wp2_with fail
  refine (K2.out _ (ht.ext S3.ext) rb rb).mono ?_; rintro e w4 ⟨v4, rfl, own4, x4⟩
  obtain ⟨A4, n4, c4, rfl⟩ := own4.form'
  obtain rfl : n4 = 0 := own4.rb.len.symm
  have S4 := S3.call x4
  have rb := rb.ext x4
  clear S3 x4 own4 p0 p1 p2 p3 p4 p5
  obtain ⟨p0, p1, p2, p3, p4, p5⟩ := S4.gb 0 rfl
  go_wp2_with fail
  refine (K4.out _ rb rb).mono ?_; rintro e w5 ⟨rfl, x5⟩
  have S5 := S4.call x5
  go_wp2_with fail
  go_ret
  exact ⟨rfl, S5.ext⟩
end Go.Proofs.YtohjjhoobikioaaDoor
