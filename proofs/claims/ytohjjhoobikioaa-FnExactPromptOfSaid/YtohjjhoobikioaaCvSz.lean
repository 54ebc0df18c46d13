/-
  The laws' helpers on structs: sz..
-/
import Derived.Test.YtohjjhoobikioaaCvT
import Derived.Test.YtohjjhoobikioaaCvH
namespace Go.Proofs.Ytohjjhoobikioaa
open Go.RowKit

/-- what is left: nothing, or so much that what was counted fits -/
def SzAns (left : Int) (n : Nat) (w : World) (e : Ending) (w' : World) : Prop := (e = .returned (.int .i64 (-1)) ∨ ∃ r : Int, e = .returned (.int .i64 r) ∧ 0 ≤ r ∧ r + n ≤ left) ∧ Ext w w'
theorem SzAns.no {left : Int} {n : Nat} {w w' : World} (x : Ext w w') : SzAns left n w (.returned (.int .i64 (-1))) w' := ⟨.inl rfl, x⟩
theorem SzAns.yes {left r : Int} {n : Nat} {w w' : World} (x : Ext w w') (h0 : 0 ≤ r) (h : r + n ≤ left) : SzAns left n w (.returned (.int .i64 r)) w' := ⟨.inr ⟨r, rfl, h0, h⟩, x⟩
theorem laws_szIntS_d (l : List Int) (v : Value) (left : Int) (w : World) (h : Rd w v (Dv.ints l)) (hl : 0 ≤ left) (hm : left ≤ 1048576) : Calls Try.prog 17 #[v, .int .i64 left] w (SzAns left l.length w) := by
  obtain ⟨A, n, c, rfl, r⟩ := h.ints
  refine Calls.mono (h_szIntS A n c left w (by omega) hm r.nmax) ?_
  rintro e w1 ⟨rfl, x1⟩
  have hn := r.len
  rcases hszN_cases left n with ⟨h, e⟩ | ⟨h, e⟩
  · rw [e]; exact .no x1
  · rw [e]; exact .yes x1 (by omega) (by omega)
set_option maxRecDepth 100000 in
set_option maxHeartbeats 4000000 in
theorem laws_szLine (x : SLine) (p0 : Value) (left : Int) (w : World) (h0 : Rd w p0 (Dv.ints x.Text)) (hl : 0 ≤ left) (hm : left ≤ 1048576) :
    Calls Try.prog 14 #[.agg #[p0, .int .i64 x.At], .int .i64 left] w (SzAns left (sizeLine x) w) := by
  have HZ : Hid (sizeLine x = x.Text.length) := rfl
  have S0 := (St.refl w).alloc #[p0, .int .i64 x.At] 24
  go_enter Try.func14, Try.ntmps14
  go_wp2_with fail
  refine Calls.mono (laws_szIntS_d x.Text p0 left _ (h0.ext S0.ext) (by omega) (by omega)) ?_; rintro e w1 ⟨(rfl | ⟨r1, rfl, a1, b1⟩), x1⟩
  · go_wp2_with fail
    go_ret
    exact .no (S0.call x1).ext
  have S1 := S0.call x1
  go_wp2_with fail
  go_ret
  exact .yes S1.ext (by omega) (by rw [HZ.out]; omega)
set_option maxRecDepth 100000 in
set_option maxHeartbeats 4000000 in
theorem laws_szLineS (l : List SLine) (v : Value) (left : Int) (w : World) (h : Rd w v (.sl 2 (l.flatMap dLine))) (hl : 0 ≤ left) (hm : left ≤ 1048576) :
    Calls Try.prog 44 #[v, .int .i64 left] w (SzAns left (l.length + (l.map sizeLine).sum) w) := by
  obtain ⟨A, c, rfl, hc, hcm, hA, hat⟩ := h.rows dLine_len (by decide)
  obtain ⟨n, hn⟩ : ∃ n, n = l.length := ⟨_, rfl⟩
  rw [← hn] at hc hat ⊢
  have HN := Lib.hid hn; clear hn
  have hcap : n ≤ 9223372036854775807 := by omega
  have HAT := Lib.hid hat; clear hat
  by_cases hb : left < n
  · go_enter Try.func44, Try.ntmps44
    go_wp2_with fail
    go_ret
    exact .no (Ext.refl _)
  go_enter Try.func44, Try.ntmps44
  go_wp2_with fail
  go_loopw [1, 5] (fun vl vi wr => ∃ (k : Nat) (r : Int), k ≤ n ∧ vi = .int .i64 k ∧ vl = .int .i64 r ∧ 0 ≤ r ∧ r ≤ 1048576 ∧ Hid (r + (n + ((l.take k).map sizeLine).sum : Nat) ≤ left) ∧ Ext w wr) (fun _ vi _ => n - (intOf vi).toNat)
  case atStart => exact ⟨0, _, by omega, rfl, rfl, by omega, by omega, (by show _ ≤ _; simp <;> omega), Ext.refl _⟩
  case round =>
    obtain ⟨k, q, hk, rfl, rfl, hq0, hqm, HR, hx⟩ := hrel
    by_cases hlt : k < n
    · have hk2 : k < l.length := by rw [← HN.out]; exact hlt
      have HS := Lib.hid (sum_take l sizeLine hk2)
      obtain ⟨b, o, rfl, hat2⟩ := HAT.out (by omega)
      have hg := List.getElem?_eq_getElem hk2
      generalize l[k]'hk2 = y at *
      obtain ⟨u0, c0, d0⟩ := hat2 k y hg 0 _ rfl
      have c0 := hx.cell c0
      obtain ⟨u1, c1, d1⟩ := hat2 k y hg 1 _ rfl
      obtain rfl := d1.atv
      have c1 := hx.cell c1
      simp only [← Nat.add_assoc, Nat.add_zero] at c0 c1
      clear hat2 hg hk2
      go_wp2_with fail
      refine Calls.mono (laws_szLine y u0 q _ (d0.ext hx) hq0 hqm) ?_; rintro e w1 ⟨(rfl | ⟨r1, rfl, a1, b1⟩), x1⟩
      · go_wp2_with fail
        go_ret
        exact .no (hx.trans x1)
      · go_wp2_with fail
        go_roundw
        case rel => exact ⟨k + 1, _, by omega, by go_num, rfl, a1, by omega, (by show _ ≤ _; rw [HS.out]; have := HR.out; omega), hx.trans x1⟩
        case measure => simp [intOf]; omega
    · obtain rfl : k = n := by omega
      go_wp2_with fail
      go_ret
      exact .yes hx hq0 (by have h1 := HR.out; rw [List.take_of_length_le (by rw [← HN.out]; omega)] at h1; exact h1)
set_option maxRecDepth 100000 in
set_option maxHeartbeats 4000000 in
theorem laws_szPiece (x : SPiece) (p0 : Value) (left : Int) (w : World) (h0 : Rd w p0 (Dv.ints x.Text)) (hl : 0 ≤ left) (hm : left ≤ 1048576) :
    Calls Try.prog 67 #[.agg #[p0], .int .i64 left] w (SzAns left (sizePiece x) w) := by
  have HZ : Hid (sizePiece x = x.Text.length) := rfl
  have S0 := (St.refl w).alloc #[p0] 115
  go_enter Try.func67, Try.ntmps67
  go_wp2_with fail
  refine Calls.mono (laws_szIntS_d x.Text p0 left _ (h0.ext S0.ext) (by omega) (by omega)) ?_; rintro e w1 ⟨(rfl | ⟨r1, rfl, a1, b1⟩), x1⟩
  · go_wp2_with fail
    go_ret
    exact .no (S0.call x1).ext
  have S1 := S0.call x1
  go_wp2_with fail
  go_ret
  exact .yes S1.ext (by omega) (by rw [HZ.out]; omega)
set_option maxRecDepth 100000 in
set_option maxHeartbeats 4000000 in
theorem laws_szPieceS (l : List SPiece) (v : Value) (left : Int) (w : World) (h : Rd w v (.sl 1 (l.flatMap dPiece))) (hl : 0 ≤ left) (hm : left ≤ 1048576) :
    Calls Try.prog 43 #[v, .int .i64 left] w (SzAns left (l.length + (l.map sizePiece).sum) w) := by
  obtain ⟨A, c, rfl, hc, hcm, hA, hat⟩ := h.rows dPiece_len (by decide)
  obtain ⟨n, hn⟩ : ∃ n, n = l.length := ⟨_, rfl⟩
  rw [← hn] at hc hat ⊢
  have HN := Lib.hid hn; clear hn
  have hcap : n ≤ 9223372036854775807 := by omega
  have HAT := Lib.hid hat; clear hat
  by_cases hb : left < n
  · go_enter Try.func43, Try.ntmps43
    go_wp2_with fail
    go_ret
    exact .no (Ext.refl _)
  go_enter Try.func43, Try.ntmps43
  go_wp2_with fail
  go_loopw [1, 5] (fun vl vi wr => ∃ (k : Nat) (r : Int), k ≤ n ∧ vi = .int .i64 k ∧ vl = .int .i64 r ∧ 0 ≤ r ∧ r ≤ 1048576 ∧ Hid (r + (n + ((l.take k).map sizePiece).sum : Nat) ≤ left) ∧ Ext w wr) (fun _ vi _ => n - (intOf vi).toNat)
  case atStart => exact ⟨0, _, by omega, rfl, rfl, by omega, by omega, (by show _ ≤ _; simp <;> omega), Ext.refl _⟩
  case round =>
    obtain ⟨k, q, hk, rfl, rfl, hq0, hqm, HR, hx⟩ := hrel
    by_cases hlt : k < n
    · have hk2 : k < l.length := by rw [← HN.out]; exact hlt
      have HS := Lib.hid (sum_take l sizePiece hk2)
      obtain ⟨b, o, rfl, hat2⟩ := HAT.out (by omega)
      have hg := List.getElem?_eq_getElem hk2
      generalize l[k]'hk2 = y at *
      obtain ⟨u0, c0, d0⟩ := hat2 k y hg 0 _ rfl
      have c0 := hx.cell c0
      simp only [Nat.mul_one, Nat.add_zero] at c0
      clear hat2 hg hk2
      go_wp2_with fail
      refine Calls.mono (laws_szPiece y u0 q _ (d0.ext hx) hq0 hqm) ?_; rintro e w1 ⟨(rfl | ⟨r1, rfl, a1, b1⟩), x1⟩
      · go_wp2_with fail
        go_ret
        exact .no (hx.trans x1)
      · go_wp2_with fail
        go_roundw
        case rel => exact ⟨k + 1, _, by omega, by go_num, rfl, a1, by omega, (by show _ ≤ _; rw [HS.out]; have := HR.out; omega), hx.trans x1⟩
        case measure => simp [intOf]; omega
    · obtain rfl : k = n := by omega
      go_wp2_with fail
      go_ret
      exact .yes hx hq0 (by have h1 := HR.out; rw [List.take_of_length_le (by rw [← HN.out]; omega)] at h1; exact h1)
set_option maxRecDepth 100000 in
set_option maxHeartbeats 4000000 in
theorem laws_szRing (x : SRing) (p0 : Value) (left : Int) (w : World) (h0 : Rd w p0 (.sl 1 (x.Pieces.flatMap dPiece))) (hl : 0 ≤ left) (hm : left ≤ 1048576) :
    Calls Try.prog 15 #[.agg #[p0], .int .i64 left] w (SzAns left (sizeRing x) w) := by
  have HZ : Hid (sizeRing x = (x.Pieces.length + (x.Pieces.map sizePiece).sum)) := rfl
  have S0 := (St.refl w).alloc #[p0] 27
  go_enter Try.func15, Try.ntmps15
  go_wp2_with fail
  refine Calls.mono (laws_szPieceS x.Pieces p0 left _ (h0.ext S0.ext) (by omega) (by omega)) ?_; rintro e w1 ⟨(rfl | ⟨r1, rfl, a1, b1⟩), x1⟩
  · go_wp2_with fail
    go_ret
    exact .no (S0.call x1).ext
  have S1 := S0.call x1
  go_wp2_with fail
  go_ret
  exact .yes S1.ext (by omega) (by rw [HZ.out]; omega)
set_option maxRecDepth 100000 in
set_option maxHeartbeats 4000000 in
theorem laws_szUndo (x : SUndo) (p0 : Value) (left : Int) (w : World) (h0 : Rd w p0 (.sl 2 (x.Lines.flatMap dLine))) (hl : 0 ≤ left) (hm : left ≤ 1048576) :
    Calls Try.prog 16 #[.agg #[p0], .int .i64 left] w (SzAns left (sizeUndo x) w) := by
  have HZ : Hid (sizeUndo x = (x.Lines.length + (x.Lines.map sizeLine).sum)) := rfl
  have S0 := (St.refl w).alloc #[p0] 30
  go_enter Try.func16, Try.ntmps16
  go_wp2_with fail
  refine Calls.mono (laws_szLineS x.Lines p0 left _ (h0.ext S0.ext) (by omega) (by omega)) ?_; rintro e w1 ⟨(rfl | ⟨r1, rfl, a1, b1⟩), x1⟩
  · go_wp2_with fail
    go_ret
    exact .no (S0.call x1).ext
  have S1 := S0.call x1
  go_wp2_with fail
  go_ret
  exact .yes S1.ext (by omega) (by rw [HZ.out]; omega)
set_option maxRecDepth 100000 in
set_option maxHeartbeats 4000000 in
theorem laws_szEd (x : SEd) (p0 p1 p2 p3 p4 p5 : Value) (left : Int) (w : World) (h0 : Rd w p0 (Dv.ints x.Line.Text)) (h1 : Rd w p1 (.sl 1 (x.Ring.Pieces.flatMap dPiece))) (h2 : Rd w p2 (.sl 2 (x.Undo.Lines.flatMap dLine))) (h3 : Rd w p3 (Dv.ints x.Own.Text)) (h4 : Rd w p4 (Dv.ints x.Query)) (h5 : Rd w p5 (Dv.ints x.Back.Text)) (hl : 0 ≤ left) (hm : left ≤ 1048576) :
    Calls Try.prog 5 #[.agg #[.bool x.Vi, .int .i64 x.Mode, p0, .int .i64 x.Line.At, .int .i64 x.Count, .int .i64 x.Op, .int .i64 x.OpCount, .int .i64 x.Wait, .int .i64 x.FindR, .int .i64 x.FindHow, .int .i64 x.Last, p1, p2, .int .i64 x.Nav, p3, .int .i64 x.Own.At, p4, .int .i64 x.Hit, p5, .int .i64 x.Back.At], .int .i64 left] w (SzAns left (sizeEd x) w) := by
  have HZ : Hid (sizeEd x = sizeLine x.Line + sizeRing x.Ring + sizeUndo x.Undo + sizeLine x.Own + x.Query.length + sizeLine x.Back) := rfl
  have S0 := (St.refl w).alloc #[.bool x.Vi, .int .i64 x.Mode, p0, .int .i64 x.Line.At, .int .i64 x.Count, .int .i64 x.Op, .int .i64 x.OpCount, .int .i64 x.Wait, .int .i64 x.FindR, .int .i64 x.FindHow, .int .i64 x.Last, p1, p2, .int .i64 x.Nav, p3, .int .i64 x.Own.At, p4, .int .i64 x.Hit, p5, .int .i64 x.Back.At] 32
  go_enter Try.func5, Try.ntmps5
  go_wp2_with fail
  refine Calls.mono (laws_szLine x.Line p0 left _ (h0.ext S0.ext) (by omega) (by omega)) ?_; rintro e w1 ⟨(rfl | ⟨r1, rfl, a1, b1⟩), x1⟩
  · go_wp2_with fail
    go_ret
    exact .no (S0.call x1).ext
  have S1 := S0.call x1
  obtain ⟨lc1, lf1, ls1⟩ := S1.cells 0 rfl
  go_wp2_with fail
  refine Calls.mono (laws_szRing x.Ring p1 r1 _ (h1.ext S1.ext) (by omega) (by omega)) ?_; rintro e w2 ⟨(rfl | ⟨r2, rfl, a2, b2⟩), x2⟩
  · go_wp2_with fail
    go_ret
    exact .no (S1.call x2).ext
  have S2 := S1.call x2
  clear lc1 lf1 ls1
  obtain ⟨lc2, lf2, ls2⟩ := S2.cells 0 rfl
  go_wp2_with fail
  refine Calls.mono (laws_szUndo x.Undo p2 r2 _ (h2.ext S2.ext) (by omega) (by omega)) ?_; rintro e w3 ⟨(rfl | ⟨r3, rfl, a3, b3⟩), x3⟩
  · go_wp2_with fail
    go_ret
    exact .no (S2.call x3).ext
  have S3 := S2.call x3
  clear lc2 lf2 ls2
  obtain ⟨lc3, lf3, ls3⟩ := S3.cells 0 rfl
  go_wp2_with fail
  refine Calls.mono (laws_szLine x.Own p3 r3 _ (h3.ext S3.ext) (by omega) (by omega)) ?_; rintro e w4 ⟨(rfl | ⟨r4, rfl, a4, b4⟩), x4⟩
  · go_wp2_with fail
    go_ret
    exact .no (S3.call x4).ext
  have S4 := S3.call x4
  clear lc3 lf3 ls3
  obtain ⟨lc4, lf4, ls4⟩ := S4.cells 0 rfl
  go_wp2_with fail
  refine Calls.mono (laws_szIntS_d x.Query p4 r4 _ (h4.ext S4.ext) (by omega) (by omega)) ?_; rintro e w5 ⟨(rfl | ⟨r5, rfl, a5, b5⟩), x5⟩
  · go_wp2_with fail
    go_ret
    exact .no (S4.call x5).ext
  have S5 := S4.call x5
  clear lc4 lf4 ls4
  obtain ⟨lc5, lf5, ls5⟩ := S5.cells 0 rfl
  go_wp2_with fail
  refine Calls.mono (laws_szLine x.Back p5 r5 _ (h5.ext S5.ext) (by omega) (by omega)) ?_; rintro e w6 ⟨(rfl | ⟨r6, rfl, a6, b6⟩), x6⟩
  · go_wp2_with fail
    go_ret
    exact .no (S5.call x6).ext
  have S6 := S5.call x6
  clear lc5 lf5 ls5
  go_wp2_with fail
  go_ret
  exact .yes S6.ext (by omega) (by rw [HZ.out]; omega)
end Go.Proofs.Ytohjjhoobikioaa
