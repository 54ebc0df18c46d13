/-
  The laws' helpers on structs: sz..
-/
import Derived.Test.YtohjjhoobikioaaDoorCvT
import Derived.Test.YtohjjhoobikioaaDoorCvH
namespace Go.Proofs.YtohjjhoobikioaaDoor
open Go.RowKit

/-- what is left: nothing, or so much that what was counted fits -/
def SzAns (left : Int) (n : Nat) (w : World) (e : Ending) (w' : World) : Prop := (e = .returned (.int .i64 (-1)) ∨ ∃ r : Int, e = .returned (.int .i64 r) ∧ 0 ≤ r ∧ r + n ≤ left) ∧ Ext w w'
theorem SzAns.no {left : Int} {n : Nat} {w w' : World} (x : Ext w w') : SzAns left n w (.returned (.int .i64 (-1))) w' := ⟨.inl rfl, x⟩
theorem SzAns.yes {left r : Int} {n : Nat} {w w' : World} (x : Ext w w') (h0 : 0 ≤ r) (h : r + n ≤ left) : SzAns left n w (.returned (.int .i64 r)) w' := ⟨.inr ⟨r, rfl, h0, h⟩, x⟩
theorem cv_szIntS_d (l : List Int) (v : Value) (left : Int) (w : World) (h : Rd w v (Dv.ints l)) (hl : 0 ≤ left) (hm : left ≤ 1048576) : Calls Tryd.prog 56 #[v, .int .i64 left] w (SzAns left l.length w) := by
  obtain ⟨A, n, c, rfl, r⟩ := h.ints
  refine Calls.mono (h_szIntS A n c left w (by omega) hm r.nmax) ?_
  rintro e w1 ⟨rfl, x1⟩
  have hn := r.len
  rcases hszN_cases left n with ⟨h, e⟩ | ⟨h, e⟩
  · rw [e]; exact .no x1
  · rw [e]; exact .yes x1 (by omega) (by omega)
set_option maxRecDepth 100000 in
set_option maxHeartbeats 4000000 in
theorem cv_szGrid (x : SGrid) (p0 : Value) (left : Int) (w : World) (h0 : Rd w p0 (Dv.ints x.Cells)) (hl : 0 ≤ left) (hm : left ≤ 1048576) :
    Calls Tryd.prog 26 #[.agg #[.int .i64 x.W, .int .i64 x.H, p0, .int .i64 x.X, .int .i64 x.Y, .bool x.Wrap], .int .i64 left] w (SzAns left (sizeGrid x) w) := by
  have HZ : Hid (sizeGrid x = x.Cells.length) := rfl
  have S0 := (St.refl w).alloc #[.int .i64 x.W, .int .i64 x.H, p0, .int .i64 x.X, .int .i64 x.Y, .bool x.Wrap] 47
  go_enter Tryd.func26, Tryd.ntmps26
  go_wp2_with fail
  refine Calls.mono (cv_szIntS_d x.Cells p0 left _ (h0.ext S0.ext) (by omega) (by omega)) ?_; rintro e w1 ⟨(rfl | ⟨r1, rfl, a1, b1⟩), x1⟩
  · go_wp2_with fail
    go_ret
    exact .no (S0.call x1).ext
  have S1 := S0.call x1
  go_wp2_with fail
  go_ret
  exact .yes S1.ext (by omega) (by rw [HZ.out]; omega)
set_option maxRecDepth 100000 in
set_option maxHeartbeats 4000000 in
theorem cv_szGridS (l : List SGrid) (v : Value) (left : Int) (w : World) (h : Rd w v (.sl 6 (l.flatMap dGrid))) (hl : 0 ≤ left) (hm : left ≤ 1048576) :
    Calls Tryd.prog 45 #[v, .int .i64 left] w (SzAns left (l.length + (l.map sizeGrid).sum) w) := by
  obtain ⟨A, c, rfl, hc, hcm, hA, hat⟩ := h.rows dGrid_len (by decide)
  obtain ⟨n, hn⟩ : ∃ n, n = l.length := ⟨_, rfl⟩
  rw [← hn] at hc hat ⊢
  have HN := Lib.hid hn; clear hn
  have hcap : n ≤ 9223372036854775807 := by omega
  have HAT := Lib.hid hat; clear hat
  by_cases hb : left < n
  · go_enter Tryd.func45, Tryd.ntmps45
    go_wp2_with fail
    go_ret
    exact .no (Ext.refl _)
  go_enter Tryd.func45, Tryd.ntmps45
  go_wp2_with fail
  go_loopw [1, 5] (fun vl vi wr => ∃ (k : Nat) (r : Int), k ≤ n ∧ vi = .int .i64 k ∧ vl = .int .i64 r ∧ 0 ≤ r ∧ r ≤ 1048576 ∧ Hid (r + (n + ((l.take k).map sizeGrid).sum : Nat) ≤ left) ∧ Ext w wr) (fun _ vi _ => n - (intOf vi).toNat)
  case atStart => exact ⟨0, _, by omega, rfl, rfl, by omega, by omega, (by show _ ≤ _; simp <;> omega), Ext.refl _⟩
  case round =>
    obtain ⟨k, q, hk, rfl, rfl, hq0, hqm, HR, hx⟩ := hrel
    by_cases hlt : k < n
    · have hk2 : k < l.length := by rw [← HN.out]; exact hlt
      have HS := Lib.hid (sum_take l sizeGrid hk2)
      obtain ⟨b, o, rfl, hat2⟩ := HAT.out (by omega)
      have hg := List.getElem?_eq_getElem hk2
      generalize l[k]'hk2 = y at *
      obtain ⟨u0, c0, d0⟩ := hat2 k y hg 0 _ rfl
      obtain rfl := d0.atv
      have c0 := hx.cell c0
      obtain ⟨u1, c1, d1⟩ := hat2 k y hg 1 _ rfl
      obtain rfl := d1.atv
      have c1 := hx.cell c1
      obtain ⟨u2, c2, d2⟩ := hat2 k y hg 2 _ rfl
      have c2 := hx.cell c2
      obtain ⟨u3, c3, d3⟩ := hat2 k y hg 3 _ rfl
      obtain rfl := d3.atv
      have c3 := hx.cell c3
      obtain ⟨u4, c4, d4⟩ := hat2 k y hg 4 _ rfl
      obtain rfl := d4.atv
      have c4 := hx.cell c4
      obtain ⟨u5, c5, d5⟩ := hat2 k y hg 5 _ rfl
      obtain rfl := d5.atv
      have c5 := hx.cell c5
      simp only [← Nat.add_assoc, Nat.add_zero] at c0 c1 c2 c3 c4 c5
      clear hat2 hg hk2
      go_wp2_with fail
      refine Calls.mono (cv_szGrid y u2 q _ (d2.ext hx) hq0 hqm) ?_; rintro e w1 ⟨(rfl | ⟨r1, rfl, a1, b1⟩), x1⟩
      · go_wp2_with fail
        go_ret
        exact .no (hx.trans x1)
      · go_wp2_with fail
        go_roundw
        case rel => exact ⟨k + 1, _, by omega, by go_num, rfl, a1, by omega, (by show _ ≤ _; rw [HS.out]; have := HR.out; omega), hx.trans x1⟩
        case measure => simp [intOf]; omega
    · obtain rfl : k = n := by omega
      go_wp2_with fail
      go_ret
      exact .yes hx hq0 (by have h1 := HR.out; rw [List.take_of_length_le (by rw [← HN.out]; omega)] at h1; exact h1)
set_option maxRecDepth 100000 in
set_option maxHeartbeats 4000000 in
theorem cv_szPaint (x : SPaint) (p0 : Value) (left : Int) (w : World) (h0 : Rd w p0 (Dv.ints x.Shown.Cells)) (hl : 0 ≤ left) (hm : left ≤ 1048576) :
    Calls Tryd.prog 38 #[.agg #[.int .i64 x.W, .int .i64 x.H, .bool x.Known, .int .i64 x.Shown.W, .int .i64 x.Shown.H, p0, .int .i64 x.Shown.X, .int .i64 x.Shown.Y, .bool x.Shown.Wrap], .int .i64 left] w (SzAns left (sizePaint x) w) := by
  have HZ : Hid (sizePaint x = sizeGrid x.Shown) := rfl
  have S0 := (St.refl w).alloc #[.int .i64 x.W, .int .i64 x.H, .bool x.Known, .int .i64 x.Shown.W, .int .i64 x.Shown.H, p0, .int .i64 x.Shown.X, .int .i64 x.Shown.Y, .bool x.Shown.Wrap] 61
  go_enter Tryd.func38, Tryd.ntmps38
  go_wp2_with fail
  refine Calls.mono (cv_szGrid x.Shown p0 left _ (h0.ext S0.ext) (by omega) (by omega)) ?_; rintro e w1 ⟨(rfl | ⟨r1, rfl, a1, b1⟩), x1⟩
  · go_wp2_with fail
    go_ret
    exact .no (S0.call x1).ext
  have S1 := S0.call x1
  go_wp2_with fail
  go_ret
  exact .yes S1.ext (by omega) (by rw [HZ.out]; omega)
set_option maxRecDepth 100000 in
set_option maxHeartbeats 4000000 in
theorem cv_szEvent (x : SEvent) (p0 : Value) (left : Int) (w : World) (h0 : Rd w p0 (Dv.ints x.Cuts)) (hl : 0 ≤ left) (hm : left ≤ 1048576) :
    Calls Tryd.prog 13 #[.agg #[.int .i64 x.Kind, .int .i64 x.A, .int .i64 x.B, p0], .int .i64 left] w (SzAns left (sizeEvent x) w) := by
  have HZ : Hid (sizeEvent x = x.Cuts.length) := rfl
  have S0 := (St.refl w).alloc #[.int .i64 x.Kind, .int .i64 x.A, .int .i64 x.B, p0] 24
  go_enter Tryd.func13, Tryd.ntmps13
  go_wp2_with fail
  refine Calls.mono (cv_szIntS_d x.Cuts p0 left _ (h0.ext S0.ext) (by omega) (by omega)) ?_; rintro e w1 ⟨(rfl | ⟨r1, rfl, a1, b1⟩), x1⟩
  · go_wp2_with fail
    go_ret
    exact .no (S0.call x1).ext
  have S1 := S0.call x1
  go_wp2_with fail
  go_ret
  exact .yes S1.ext (by omega) (by rw [HZ.out]; omega)
set_option maxRecDepth 100000 in
set_option maxHeartbeats 4000000 in
theorem cv_szEventS (l : List SEvent) (v : Value) (left : Int) (w : World) (h : Rd w v (.sl 4 (l.flatMap dEvent))) (hl : 0 ≤ left) (hm : left ≤ 1048576) :
    Calls Tryd.prog 18 #[v, .int .i64 left] w (SzAns left (l.length + (l.map sizeEvent).sum) w) := by
  obtain ⟨A, c, rfl, hc, hcm, hA, hat⟩ := h.rows dEvent_len (by decide)
  obtain ⟨n, hn⟩ : ∃ n, n = l.length := ⟨_, rfl⟩
  rw [← hn] at hc hat ⊢
  have HN := Lib.hid hn; clear hn
  have hcap : n ≤ 9223372036854775807 := by omega
  have HAT := Lib.hid hat; clear hat
  by_cases hb : left < n
  · go_enter Tryd.func18, Tryd.ntmps18
    go_wp2_with fail
    go_ret
    exact .no (Ext.refl _)
  go_enter Tryd.func18, Tryd.ntmps18
  go_wp2_with fail
  go_loopw [1, 5] (fun vl vi wr => ∃ (k : Nat) (r : Int), k ≤ n ∧ vi = .int .i64 k ∧ vl = .int .i64 r ∧ 0 ≤ r ∧ r ≤ 1048576 ∧ Hid (r + (n + ((l.take k).map sizeEvent).sum : Nat) ≤ left) ∧ Ext w wr) (fun _ vi _ => n - (intOf vi).toNat)
  case atStart => exact ⟨0, _, by omega, rfl, rfl, by omega, by omega, (by show _ ≤ _; simp <;> omega), Ext.refl _⟩
  case round =>
    obtain ⟨k, q, hk, rfl, rfl, hq0, hqm, HR, hx⟩ := hrel
    by_cases hlt : k < n
    · have hk2 : k < l.length := by rw [← HN.out]; exact hlt
      have HS := Lib.hid (sum_take l sizeEvent hk2)
      obtain ⟨b, o, rfl, hat2⟩ := HAT.out (by omega)
      have hg := List.getElem?_eq_getElem hk2
      generalize l[k]'hk2 = y at *
      obtain ⟨u0, c0, d0⟩ := hat2 k y hg 0 _ rfl
      obtain rfl := d0.atv
      have c0 := hx.cell c0
      obtain ⟨u1, c1, d1⟩ := hat2 k y hg 1 _ rfl
      obtain rfl := d1.atv
      have c1 := hx.cell c1
      obtain ⟨u2, c2, d2⟩ := hat2 k y hg 2 _ rfl
      obtain rfl := d2.atv
      have c2 := hx.cell c2
      obtain ⟨u3, c3, d3⟩ := hat2 k y hg 3 _ rfl
      have c3 := hx.cell c3
      simp only [← Nat.add_assoc, Nat.add_zero] at c0 c1 c2 c3
      clear hat2 hg hk2
      go_wp2_with fail
      refine Calls.mono (cv_szEvent y u3 q _ (d3.ext hx) hq0 hqm) ?_; rintro e w1 ⟨(rfl | ⟨r1, rfl, a1, b1⟩), x1⟩
      · go_wp2_with fail
        go_ret
        exact .no (hx.trans x1)
      · go_wp2_with fail
        go_roundw
        case rel => exact ⟨k + 1, _, by omega, by go_num, rfl, a1, by omega, (by show _ ≤ _; rw [HS.out]; have := HR.out; omega), hx.trans x1⟩
        case measure => simp [intOf]; omega
    · obtain rfl : k = n := by omega
      go_wp2_with fail
      go_ret
      exact .yes hx hq0 (by have h1 := HR.out; rw [List.take_of_length_le (by rw [← HN.out]; omega)] at h1; exact h1)
end Go.Proofs.YtohjjhoobikioaaDoor
