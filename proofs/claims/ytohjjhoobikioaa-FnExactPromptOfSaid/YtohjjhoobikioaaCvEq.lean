/-
  The laws' helpers on structs: eq..
-/
import Derived.Test.YtohjjhoobikioaaCvT
import Derived.Test.YtohjjhoobikioaaCvH
import Derived.StillTailTactics
namespace Go.Proofs.Ytohjjhoobikioaa
open Go.RowKit

theorem cv_tail {P : Program} {id : Nat} {Q : Exit → Act → World → Prop} {a : Act} {w : World} {l : List Oper} (n : Nat) (hm : P.follows .mixedOrders = true) (hB : Region.lexTailB .any l.toArray n = true)
    (h : wpStill P l.toArray w.drew (fun a' => wpList P l.toArray Q (l.drop n) a' w.drew) (l.take n) a) : (Code.region id l.toArray true).wp P Q a w := wp_region_still_tail n hm hB h
set_option maxRecDepth 100000 in
set_option maxHeartbeats 4000000 in
theorem laws_eqLine (x : SLine) (p0 q0 : Value) (w : World) (h0 : Rd w p0 (Dv.ints x.Text)) (g0 : Rd w q0 (Dv.ints x.Text)) :
    Calls Try.prog 24 #[.agg #[p0, .int .i64 x.At], .agg #[q0, .int .i64 x.At]] w fun e w' => e = .returned (.bool true) ∧ Ext w w' := by
  have S0 := ((St.refl w).alloc #[p0, .int .i64 x.At] 35).alloc #[q0, .int .i64 x.At] 35
  simp only [World.size_alloc] at S0
  go_enter Try.func24, Try.ntmps24
  go_wp2_with fail
  refine Calls.mono (laws_eqIntS_d x.Text p0 q0 _ (h0.ext S0.ext) (g0.ext S0.ext)) ?_; rintro e w1 ⟨rfl, x1⟩
  have S1 := S0.call x1
  clear S0 x1
  obtain ⟨lc, lf, ls⟩ := S1.cells 0 rfl
  obtain ⟨mc, mf, ms⟩ := S1.cells 1 rfl
  go_wp2_with fail
  go_ret
  exact ⟨rfl, S1.ext⟩
set_option maxRecDepth 100000 in
set_option maxHeartbeats 4000000 in
theorem laws_eqLineS (l : List SLine) (v v' : Value) (w : World) (h : Rd w v (.sl 2 (l.flatMap dLine))) (h' : Rd w v' (.sl 2 (l.flatMap dLine))) :
    Calls Try.prog 50 #[v, v'] w fun e w' => e = .returned (.bool true) ∧ Ext w w' := by
  obtain ⟨A, c, rfl, hc, hcm, hA, hat⟩ := h.rows dLine_len (by decide)
  obtain ⟨A', c', rfl, hc', hcm', hA', hat'⟩ := h'.rows dLine_len (by decide)
  obtain ⟨n, hn⟩ : ∃ n, n = l.length := ⟨_, rfl⟩
  rw [← hn] at hc hat hc' hat' ⊢
  have HN := Lib.hid hn; clear hn
  have hcap : n ≤ 9223372036854775807 := by omega
  have HAT := Lib.hid hat; clear hat
  have HAT' := Lib.hid hat'; clear hat'
  go_enter Try.func50, Try.ntmps50
  go_wp2_with fail
  go_loopw [5] (fun vi wr => ∃ k : Nat, k ≤ n ∧ vi = .int .i64 k ∧ Ext w wr) (fun vi _ => n - (intOf vi).toNat)
  case atStart => exact ⟨0, by omega, rfl, Ext.refl _⟩
  case round =>
    obtain ⟨k, hk, rfl, hx⟩ := hrel
    by_cases hlt : k < n
    · have hk2 : k < l.length := by rw [← HN.out]; exact hlt
      obtain ⟨b, o, rfl, hat2⟩ := HAT.out (by omega)
      obtain ⟨b', o', rfl, hat2'⟩ := HAT'.out (by omega)
      have hg := List.getElem?_eq_getElem hk2
      generalize l[k]'hk2 = y at *
      have hxd := hx.drew
      obtain ⟨u0, c0, d0⟩ := hat2 k y hg 0 _ rfl
      have c0 := hxd.cell c0
      obtain ⟨u1, c1, d1⟩ := hat2 k y hg 1 _ rfl
      obtain rfl := d1.atv
      have c1 := hxd.cell c1
      obtain ⟨u0', c0', d0'⟩ := hat2' k y hg 0 _ rfl
      have c0' := hxd.cell c0'
      obtain ⟨u1', c1', d1'⟩ := hat2' k y hg 1 _ rfl
      obtain rfl := d1'.atv
      have c1' := hxd.cell c1'
      simp only [← Nat.add_assoc, Nat.add_zero] at c0 c0' c1 c1'
      clear hat2 hat2' hg hk2
      go_wp2_with fail
      refine cv_tail 8 (by kernel_rfl) (by kernel_rfl) ?_
      simp only [List.take_succ_cons, List.take_zero, List.drop_succ_cons, List.drop_zero]
      generalize wr.drew = wd at *
      repeat still_step
      refine wpStill_nil ?_
      go_wp2_with fail
      refine Calls.mono (laws_eqLine y u0 u0' _ (d0.ext hxd) (d0'.ext hxd)) ?_; rintro e w1 ⟨rfl, x1⟩
      go_wp2_with fail
      go_roundw
      case rel => exact ⟨k + 1, by omega, by go_num, hxd.trans x1⟩
      case measure => simp [intOf]; omega
    · go_wp2_with fail
      go_ret
      exact ⟨rfl, hx⟩
set_option maxRecDepth 100000 in
set_option maxHeartbeats 4000000 in
theorem laws_eqPiece (x : SPiece) (p0 q0 : Value) (w : World) (h0 : Rd w p0 (Dv.ints x.Text)) (g0 : Rd w q0 (Dv.ints x.Text)) :
    Calls Try.prog 71 #[.agg #[p0], .agg #[q0]] w fun e w' => e = .returned (.bool true) ∧ Ext w w' := by
  have S0 := ((St.refl w).alloc #[p0] 116).alloc #[q0] 116
  simp only [World.size_alloc] at S0
  go_enter Try.func71, Try.ntmps71
  go_wp2_with fail
  refine Calls.mono (laws_eqIntS_d x.Text p0 q0 _ (h0.ext S0.ext) (g0.ext S0.ext)) ?_; rintro e w1 ⟨rfl, x1⟩
  have S1 := S0.call x1
  clear S0 x1
  obtain ⟨lc, lf, ls⟩ := S1.cells 0 rfl
  obtain ⟨mc, mf, ms⟩ := S1.cells 1 rfl
  go_wp2_with fail
  go_ret
  exact ⟨rfl, S1.ext⟩
set_option maxRecDepth 100000 in
set_option maxHeartbeats 4000000 in
theorem laws_eqPieceS (l : List SPiece) (v v' : Value) (w : World) (h : Rd w v (.sl 1 (l.flatMap dPiece))) (h' : Rd w v' (.sl 1 (l.flatMap dPiece))) :
    Calls Try.prog 49 #[v, v'] w fun e w' => e = .returned (.bool true) ∧ Ext w w' := by
  obtain ⟨A, c, rfl, hc, hcm, hA, hat⟩ := h.rows dPiece_len (by decide)
  obtain ⟨A', c', rfl, hc', hcm', hA', hat'⟩ := h'.rows dPiece_len (by decide)
  obtain ⟨n, hn⟩ : ∃ n, n = l.length := ⟨_, rfl⟩
  rw [← hn] at hc hat hc' hat' ⊢
  have HN := Lib.hid hn; clear hn
  have hcap : n ≤ 9223372036854775807 := by omega
  have HAT := Lib.hid hat; clear hat
  have HAT' := Lib.hid hat'; clear hat'
  go_enter Try.func49, Try.ntmps49
  go_wp2_with fail
  go_loopw [5] (fun vi wr => ∃ k : Nat, k ≤ n ∧ vi = .int .i64 k ∧ Ext w wr) (fun vi _ => n - (intOf vi).toNat)
  case atStart => exact ⟨0, by omega, rfl, Ext.refl _⟩
  case round =>
    obtain ⟨k, hk, rfl, hx⟩ := hrel
    by_cases hlt : k < n
    · have hk2 : k < l.length := by rw [← HN.out]; exact hlt
      obtain ⟨b, o, rfl, hat2⟩ := HAT.out (by omega)
      obtain ⟨b', o', rfl, hat2'⟩ := HAT'.out (by omega)
      have hg := List.getElem?_eq_getElem hk2
      generalize l[k]'hk2 = y at *
      have hxd := hx.drew
      obtain ⟨u0, c0, d0⟩ := hat2 k y hg 0 _ rfl
      have c0 := hxd.cell c0
      obtain ⟨u0', c0', d0'⟩ := hat2' k y hg 0 _ rfl
      have c0' := hxd.cell c0'
      simp only [Nat.mul_one, Nat.add_zero] at c0 c0'
      clear hat2 hat2' hg hk2
      go_wp2_with fail
      refine cv_tail 8 (by kernel_rfl) (by kernel_rfl) ?_
      simp only [List.take_succ_cons, List.take_zero, List.drop_succ_cons, List.drop_zero]
      generalize wr.drew = wd at *
      repeat still_step
      refine wpStill_nil ?_
      go_wp2_with fail
      refine Calls.mono (laws_eqPiece y u0 u0' _ (d0.ext hxd) (d0'.ext hxd)) ?_; rintro e w1 ⟨rfl, x1⟩
      go_wp2_with fail
      go_roundw
      case rel => exact ⟨k + 1, by omega, by go_num, hxd.trans x1⟩
      case measure => simp [intOf]; omega
    · go_wp2_with fail
      go_ret
      exact ⟨rfl, hx⟩
set_option maxRecDepth 100000 in
set_option maxHeartbeats 4000000 in
theorem laws_eqRing (x : SRing) (p0 q0 : Value) (w : World) (h0 : Rd w p0 (.sl 1 (x.Pieces.flatMap dPiece))) (g0 : Rd w q0 (.sl 1 (x.Pieces.flatMap dPiece))) :
    Calls Try.prog 25 #[.agg #[p0], .agg #[q0]] w fun e w' => e = .returned (.bool true) ∧ Ext w w' := by
  have S0 := ((St.refl w).alloc #[p0] 38).alloc #[q0] 38
  simp only [World.size_alloc] at S0
  go_enter Try.func25, Try.ntmps25
  go_wp2_with fail
  refine Calls.mono (laws_eqPieceS x.Pieces p0 q0 _ (h0.ext S0.ext) (g0.ext S0.ext)) ?_; rintro e w1 ⟨rfl, x1⟩
  have S1 := S0.call x1
  clear S0 x1
  obtain ⟨lc, lf, ls⟩ := S1.cells 0 rfl
  obtain ⟨mc, mf, ms⟩ := S1.cells 1 rfl
  go_wp2_with fail
  go_ret
  exact ⟨rfl, S1.ext⟩
set_option maxRecDepth 100000 in
set_option maxHeartbeats 4000000 in
theorem laws_eqUndo (x : SUndo) (p0 q0 : Value) (w : World) (h0 : Rd w p0 (.sl 2 (x.Lines.flatMap dLine))) (g0 : Rd w q0 (.sl 2 (x.Lines.flatMap dLine))) :
    Calls Try.prog 26 #[.agg #[p0], .agg #[q0]] w fun e w' => e = .returned (.bool true) ∧ Ext w w' := by
  have S0 := ((St.refl w).alloc #[p0] 41).alloc #[q0] 41
  simp only [World.size_alloc] at S0
  go_enter Try.func26, Try.ntmps26
  go_wp2_with fail
  refine Calls.mono (laws_eqLineS x.Lines p0 q0 _ (h0.ext S0.ext) (g0.ext S0.ext)) ?_; rintro e w1 ⟨rfl, x1⟩
  have S1 := S0.call x1
  clear S0 x1
  obtain ⟨lc, lf, ls⟩ := S1.cells 0 rfl
  obtain ⟨mc, mf, ms⟩ := S1.cells 1 rfl
  go_wp2_with fail
  go_ret
  exact ⟨rfl, S1.ext⟩
set_option maxRecDepth 100000 in
set_option maxHeartbeats 4000000 in
theorem laws_eqEd (x : SEd) (p0 p1 p2 p3 p4 p5 q0 q1 q2 q3 q4 q5 : Value) (w : World) (h0 : Rd w p0 (Dv.ints x.Line.Text)) (h1 : Rd w p1 (.sl 1 (x.Ring.Pieces.flatMap dPiece))) (h2 : Rd w p2 (.sl 2 (x.Undo.Lines.flatMap dLine))) (h3 : Rd w p3 (Dv.ints x.Own.Text)) (h4 : Rd w p4 (Dv.ints x.Query)) (h5 : Rd w p5 (Dv.ints x.Back.Text)) (g0 : Rd w q0 (Dv.ints x.Line.Text)) (g1 : Rd w q1 (.sl 1 (x.Ring.Pieces.flatMap dPiece))) (g2 : Rd w q2 (.sl 2 (x.Undo.Lines.flatMap dLine))) (g3 : Rd w q3 (Dv.ints x.Own.Text)) (g4 : Rd w q4 (Dv.ints x.Query)) (g5 : Rd w q5 (Dv.ints x.Back.Text)) :
    Calls Try.prog 9 #[.agg #[.bool x.Vi, .int .i64 x.Mode, p0, .int .i64 x.Line.At, .int .i64 x.Count, .int .i64 x.Op, .int .i64 x.OpCount, .int .i64 x.Wait, .int .i64 x.FindR, .int .i64 x.FindHow, .int .i64 x.Last, p1, p2, .int .i64 x.Nav, p3, .int .i64 x.Own.At, p4, .int .i64 x.Hit, p5, .int .i64 x.Back.At], .agg #[.bool x.Vi, .int .i64 x.Mode, q0, .int .i64 x.Line.At, .int .i64 x.Count, .int .i64 x.Op, .int .i64 x.OpCount, .int .i64 x.Wait, .int .i64 x.FindR, .int .i64 x.FindHow, .int .i64 x.Last, q1, q2, .int .i64 x.Nav, q3, .int .i64 x.Own.At, q4, .int .i64 x.Hit, q5, .int .i64 x.Back.At]] w fun e w' => e = .returned (.bool true) ∧ Ext w w' := by
  have S0 := ((St.refl w).alloc #[.bool x.Vi, .int .i64 x.Mode, p0, .int .i64 x.Line.At, .int .i64 x.Count, .int .i64 x.Op, .int .i64 x.OpCount, .int .i64 x.Wait, .int .i64 x.FindR, .int .i64 x.FindHow, .int .i64 x.Last, p1, p2, .int .i64 x.Nav, p3, .int .i64 x.Own.At, p4, .int .i64 x.Hit, p5, .int .i64 x.Back.At] 43).alloc #[.bool x.Vi, .int .i64 x.Mode, q0, .int .i64 x.Line.At, .int .i64 x.Count, .int .i64 x.Op, .int .i64 x.OpCount, .int .i64 x.Wait, .int .i64 x.FindR, .int .i64 x.FindHow, .int .i64 x.Last, q1, q2, .int .i64 x.Nav, q3, .int .i64 x.Own.At, q4, .int .i64 x.Hit, q5, .int .i64 x.Back.At] 43
  simp only [World.size_alloc] at S0
  go_enter Try.func9, Try.ntmps9
  go_wp2_with fail
  refine Calls.mono (laws_eqLine x.Line p0 q0 _ (h0.ext S0.ext) (g0.ext S0.ext)) ?_; rintro e w1 ⟨rfl, x1⟩
  have S1 := S0.call x1
  clear S0 x1
  obtain ⟨lc, lf, ls⟩ := S1.cells 0 rfl
  obtain ⟨mc, mf, ms⟩ := S1.cells 1 rfl
  go_wp2_with fail
  refine Calls.mono (laws_eqRing x.Ring p1 q1 _ (h1.ext S1.ext) (g1.ext S1.ext)) ?_; rintro e w2 ⟨rfl, x2⟩
  have S2 := S1.call x2
  clear S1 x2 lc lf ls mc mf ms
  obtain ⟨lc, lf, ls⟩ := S2.cells 0 rfl
  obtain ⟨mc, mf, ms⟩ := S2.cells 1 rfl
  go_wp2_with fail
  refine Calls.mono (laws_eqUndo x.Undo p2 q2 _ (h2.ext S2.ext) (g2.ext S2.ext)) ?_; rintro e w3 ⟨rfl, x3⟩
  have S3 := S2.call x3
  clear S2 x3 lc lf ls mc mf ms
  obtain ⟨lc, lf, ls⟩ := S3.cells 0 rfl
  obtain ⟨mc, mf, ms⟩ := S3.cells 1 rfl
  go_wp2_with fail
  refine Calls.mono (laws_eqLine x.Own p3 q3 _ (h3.ext S3.ext) (g3.ext S3.ext)) ?_; rintro e w4 ⟨rfl, x4⟩
  have S4 := S3.call x4
  clear S3 x4 lc lf ls mc mf ms
  obtain ⟨lc, lf, ls⟩ := S4.cells 0 rfl
  obtain ⟨mc, mf, ms⟩ := S4.cells 1 rfl
  go_wp2_with fail
  refine Calls.mono (laws_eqIntS_d x.Query p4 q4 _ (h4.ext S4.ext) (g4.ext S4.ext)) ?_; rintro e w5 ⟨rfl, x5⟩
  have S5 := S4.call x5
  clear S4 x5 lc lf ls mc mf ms
  obtain ⟨lc, lf, ls⟩ := S5.cells 0 rfl
  obtain ⟨mc, mf, ms⟩ := S5.cells 1 rfl
  go_wp2_with fail
  refine Calls.mono (laws_eqLine x.Back p5 q5 _ (h5.ext S5.ext) (g5.ext S5.ext)) ?_; rintro e w6 ⟨rfl, x6⟩
  have S6 := S5.call x6
  clear S5 x6 lc lf ls mc mf ms
  obtain ⟨lc, lf, ls⟩ := S6.cells 0 rfl
  obtain ⟨mc, mf, ms⟩ := S6.cells 1 rfl
  go_wp2_with fail
  go_ret
  exact ⟨rfl, S6.ext⟩
end Go.Proofs.Ytohjjhoobikioaa
