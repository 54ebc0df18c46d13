/-
  The laws' helpers on structs: eq..
-/
import Derived.Test.YtohjjhoobikioaaDoorCvT
import Derived.Test.YtohjjhoobikioaaDoorCvH
import Derived.StillTailTactics
namespace Go.Proofs.YtohjjhoobikioaaDoor
open Go.RowKit

theorem cv_tail {P : Program} {id : Nat} {Q : Exit → Act → World → Prop} {a : Act} {w : World} {l : List Oper} (n : Nat) (hm : P.follows .mixedOrders = true) (hB : Region.lexTailB .any l.toArray n = true)
    (h : wpStill P l.toArray w.drew (fun a' => wpList P l.toArray Q (l.drop n) a' w.drew) (l.take n) a) : (Code.region id l.toArray true).wp P Q a w := wp_region_still_tail n hm hB h
set_option maxRecDepth 100000 in
set_option maxHeartbeats 4000000 in
theorem cv_eqGrid (x : SGrid) (p0 q0 : Value) (w : World) (h0 : Rd w p0 (Dv.ints x.Cells)) (g0 : Rd w q0 (Dv.ints x.Cells)) :
    Calls Tryd.prog 30 #[.agg #[.int .i64 x.W, .int .i64 x.H, p0, .int .i64 x.X, .int .i64 x.Y, .bool x.Wrap], .agg #[.int .i64 x.W, .int .i64 x.H, q0, .int .i64 x.X, .int .i64 x.Y, .bool x.Wrap]] w fun e w' => e = .returned (.bool true) ∧ Ext w w' := by
  have S0 := ((St.refl w).alloc #[.int .i64 x.W, .int .i64 x.H, p0, .int .i64 x.X, .int .i64 x.Y, .bool x.Wrap] 40).alloc #[.int .i64 x.W, .int .i64 x.H, q0, .int .i64 x.X, .int .i64 x.Y, .bool x.Wrap] 40
  simp only [World.size_alloc] at S0
  go_enter Tryd.func30, Tryd.ntmps30
  go_wp2_with fail
  refine Calls.mono (cv_eqIntS_d x.Cells p0 q0 _ (h0.ext S0.ext) (g0.ext S0.ext)) ?_; rintro e w1 ⟨rfl, x1⟩
  have S1 := S0.call x1
  clear S0 x1
  obtain ⟨lc, lf, ls⟩ := S1.cells 0 rfl
  obtain ⟨mc, mf, ms⟩ := S1.cells 1 rfl
  go_wp2_with fail
  go_ret
  exact ⟨rfl, S1.ext⟩
set_option maxRecDepth 100000 in
set_option maxHeartbeats 4000000 in
theorem cv_eqGridS (l : List SGrid) (v v' : Value) (w : World) (h : Rd w v (.sl 6 (l.flatMap dGrid))) (h' : Rd w v' (.sl 6 (l.flatMap dGrid))) :
    Calls Tryd.prog 49 #[v, v'] w fun e w' => e = .returned (.bool true) ∧ Ext w w' := by
  obtain ⟨A, c, rfl, hc, hcm, hA, hat⟩ := h.rows dGrid_len (by decide)
  obtain ⟨A', c', rfl, hc', hcm', hA', hat'⟩ := h'.rows dGrid_len (by decide)
  obtain ⟨n, hn⟩ : ∃ n, n = l.length := ⟨_, rfl⟩
  rw [← hn] at hc hat hc' hat' ⊢
  have HN := Lib.hid hn; clear hn
  have hcap : n ≤ 9223372036854775807 := by omega
  have HAT := Lib.hid hat; clear hat
  have HAT' := Lib.hid hat'; clear hat'
  go_enter Tryd.func49, Tryd.ntmps49
  go_wp2_with fail
  go_loopw [5] (fun vi wr => ∃ k : Nat, k ≤ n ∧ vi = .int .i64 k ∧ Ext w wr) (fun vi _ => n - (intOf vi).toNat)
  case atStart => exact ⟨0, by omega, rfl, Ext.refl _⟩
  case round =>
    obtain ⟨k, hk, rfl, hx⟩ := hrel
    by_cases hlt : k < n
    · have hk2 : k < l.length := by rw [← HN.out]; exact hlt
      obtain ⟨b, o, rfl, hat2⟩ := HAT.out (by omega)
      obtain ⟨b', o', rfl, hat2'⟩ := HAT'.out (by omega)
      have hg := List.getElem?_eq_getElem hk2
      generalize l[k]'hk2 = y at *
      have hxd := hx.drew
      obtain ⟨u0, c0, d0⟩ := hat2 k y hg 0 _ rfl
      obtain rfl := d0.atv
      have c0 := hxd.cell c0
      obtain ⟨u1, c1, d1⟩ := hat2 k y hg 1 _ rfl
      obtain rfl := d1.atv
      have c1 := hxd.cell c1
      obtain ⟨u2, c2, d2⟩ := hat2 k y hg 2 _ rfl
      have c2 := hxd.cell c2
      obtain ⟨u3, c3, d3⟩ := hat2 k y hg 3 _ rfl
      obtain rfl := d3.atv
      have c3 := hxd.cell c3
      obtain ⟨u4, c4, d4⟩ := hat2 k y hg 4 _ rfl
      obtain rfl := d4.atv
      have c4 := hxd.cell c4
      obtain ⟨u5, c5, d5⟩ := hat2 k y hg 5 _ rfl
      obtain rfl := d5.atv
      have c5 := hxd.cell c5
      obtain ⟨u0', c0', d0'⟩ := hat2' k y hg 0 _ rfl
      obtain rfl := d0'.atv
      have c0' := hxd.cell c0'
      obtain ⟨u1', c1', d1'⟩ := hat2' k y hg 1 _ rfl
      obtain rfl := d1'.atv
      have c1' := hxd.cell c1'
      obtain ⟨u2', c2', d2'⟩ := hat2' k y hg 2 _ rfl
      have c2' := hxd.cell c2'
      obtain ⟨u3', c3', d3'⟩ := hat2' k y hg 3 _ rfl
      obtain rfl := d3'.atv
      have c3' := hxd.cell c3'
      obtain ⟨u4', c4', d4'⟩ := hat2' k y hg 4 _ rfl
      obtain rfl := d4'.atv
      have c4' := hxd.cell c4'
      obtain ⟨u5', c5', d5'⟩ := hat2' k y hg 5 _ rfl
      obtain rfl := d5'.atv
      have c5' := hxd.cell c5'
      simp only [← Nat.add_assoc, Nat.add_zero] at c0 c0' c1 c1' c2 c2' c3 c3' c4 c4' c5 c5'
      clear hat2 hat2' hg hk2
      go_wp2_with fail
      refine cv_tail 8 (by kernel_rfl) (by kernel_rfl) ?_
      simp only [List.take_succ_cons, List.take_zero, List.drop_succ_cons, List.drop_zero]
      generalize wr.drew = wd at *
      repeat still_step
      refine wpStill_nil ?_
      go_wp2_with fail
      refine Calls.mono (cv_eqGrid y u2 u2' _ (d2.ext hxd) (d2'.ext hxd)) ?_; rintro e w1 ⟨rfl, x1⟩
      go_wp2_with fail
      go_roundw
      case rel => exact ⟨k + 1, by omega, by go_num, hxd.trans x1⟩
      case measure => simp [intOf]; omega
    · go_wp2_with fail
      go_ret
      exact ⟨rfl, hx⟩
set_option maxRecDepth 100000 in
set_option maxHeartbeats 4000000 in
theorem cv_eqPaint (x : SPaint) (p0 q0 : Value) (w : World) (h0 : Rd w p0 (Dv.ints x.Shown.Cells)) (g0 : Rd w q0 (Dv.ints x.Shown.Cells)) :
    Calls Tryd.prog 42 #[.agg #[.int .i64 x.W, .int .i64 x.H, .bool x.Known, .int .i64 x.Shown.W, .int .i64 x.Shown.H, p0, .int .i64 x.Shown.X, .int .i64 x.Shown.Y, .bool x.Shown.Wrap], .agg #[.int .i64 x.W, .int .i64 x.H, .bool x.Known, .int .i64 x.Shown.W, .int .i64 x.Shown.H, q0, .int .i64 x.Shown.X, .int .i64 x.Shown.Y, .bool x.Shown.Wrap]] w fun e w' => e = .returned (.bool true) ∧ Ext w w' := by
  have S0 := ((St.refl w).alloc #[.int .i64 x.W, .int .i64 x.H, .bool x.Known, .int .i64 x.Shown.W, .int .i64 x.Shown.H, p0, .int .i64 x.Shown.X, .int .i64 x.Shown.Y, .bool x.Shown.Wrap] 64).alloc #[.int .i64 x.W, .int .i64 x.H, .bool x.Known, .int .i64 x.Shown.W, .int .i64 x.Shown.H, q0, .int .i64 x.Shown.X, .int .i64 x.Shown.Y, .bool x.Shown.Wrap] 64
  simp only [World.size_alloc] at S0
  go_enter Tryd.func42, Tryd.ntmps42
  go_wp2_with fail
  refine Calls.mono (cv_eqGrid x.Shown p0 q0 _ (h0.ext S0.ext) (g0.ext S0.ext)) ?_; rintro e w1 ⟨rfl, x1⟩
  have S1 := S0.call x1
  clear S0 x1
  obtain ⟨lc, lf, ls⟩ := S1.cells 0 rfl
  obtain ⟨mc, mf, ms⟩ := S1.cells 1 rfl
  go_wp2_with fail
  go_ret
  exact ⟨rfl, S1.ext⟩
set_option maxRecDepth 100000 in
set_option maxHeartbeats 4000000 in
theorem cv_eqEvent (x : SEvent) (p0 q0 : Value) (w : World) (h0 : Rd w p0 (Dv.ints x.Cuts)) (g0 : Rd w q0 (Dv.ints x.Cuts)) :
    Calls Tryd.prog 17 #[.agg #[.int .i64 x.Kind, .int .i64 x.A, .int .i64 x.B, p0], .agg #[.int .i64 x.Kind, .int .i64 x.A, .int .i64 x.B, q0]] w fun e w' => e = .returned (.bool true) ∧ Ext w w' := by
  have S0 := ((St.refl w).alloc #[.int .i64 x.Kind, .int .i64 x.A, .int .i64 x.B, p0] 27).alloc #[.int .i64 x.Kind, .int .i64 x.A, .int .i64 x.B, q0] 27
  simp only [World.size_alloc] at S0
  go_enter Tryd.func17, Tryd.ntmps17
  go_wp2_with fail
  refine Calls.mono (cv_eqIntS_d x.Cuts p0 q0 _ (h0.ext S0.ext) (g0.ext S0.ext)) ?_; rintro e w1 ⟨rfl, x1⟩
  have S1 := S0.call x1
  clear S0 x1
  obtain ⟨lc, lf, ls⟩ := S1.cells 0 rfl
  obtain ⟨mc, mf, ms⟩ := S1.cells 1 rfl
  go_wp2_with fail
  go_ret
  exact ⟨rfl, S1.ext⟩
set_option maxRecDepth 100000 in
set_option maxHeartbeats 4000000 in
theorem cv_eqEventS (l : List SEvent) (v v' : Value) (w : World) (h : Rd w v (.sl 4 (l.flatMap dEvent))) (h' : Rd w v' (.sl 4 (l.flatMap dEvent))) :
    Calls Tryd.prog 22 #[v, v'] w fun e w' => e = .returned (.bool true) ∧ Ext w w' := by
  obtain ⟨A, c, rfl, hc, hcm, hA, hat⟩ := h.rows dEvent_len (by decide)
  obtain ⟨A', c', rfl, hc', hcm', hA', hat'⟩ := h'.rows dEvent_len (by decide)
  obtain ⟨n, hn⟩ : ∃ n, n = l.length := ⟨_, rfl⟩
  rw [← hn] at hc hat hc' hat' ⊢
  have HN := Lib.hid hn; clear hn
  have hcap : n ≤ 9223372036854775807 := by omega
  have HAT := Lib.hid hat; clear hat
  have HAT' := Lib.hid hat'; clear hat'
  go_enter Tryd.func22, Tryd.ntmps22
  go_wp2_with fail
  go_loopw [5] (fun vi wr => ∃ k : Nat, k ≤ n ∧ vi = .int .i64 k ∧ Ext w wr) (fun vi _ => n - (intOf vi).toNat)
  case atStart => exact ⟨0, by omega, rfl, Ext.refl _⟩
  case round =>
    obtain ⟨k, hk, rfl, hx⟩ := hrel
    by_cases hlt : k < n
    · have hk2 : k < l.length := by rw [← HN.out]; exact hlt
      obtain ⟨b, o, rfl, hat2⟩ := HAT.out (by omega)
      obtain ⟨b', o', rfl, hat2'⟩ := HAT'.out (by omega)
      have hg := List.getElem?_eq_getElem hk2
      generalize l[k]'hk2 = y at *
      have hxd := hx.drew
      obtain ⟨u0, c0, d0⟩ := hat2 k y hg 0 _ rfl
      obtain rfl := d0.atv
      have c0 := hxd.cell c0
      obtain ⟨u1, c1, d1⟩ := hat2 k y hg 1 _ rfl
      obtain rfl := d1.atv
      have c1 := hxd.cell c1
      obtain ⟨u2, c2, d2⟩ := hat2 k y hg 2 _ rfl
      obtain rfl := d2.atv
      have c2 := hxd.cell c2
      obtain ⟨u3, c3, d3⟩ := hat2 k y hg 3 _ rfl
      have c3 := hxd.cell c3
      obtain ⟨u0', c0', d0'⟩ := hat2' k y hg 0 _ rfl
      obtain rfl := d0'.atv
      have c0' := hxd.cell c0'
      obtain ⟨u1', c1', d1'⟩ := hat2' k y hg 1 _ rfl
      obtain rfl := d1'.atv
      have c1' := hxd.cell c1'
      obtain ⟨u2', c2', d2'⟩ := hat2' k y hg 2 _ rfl
      obtain rfl := d2'.atv
      have c2' := hxd.cell c2'
      obtain ⟨u3', c3', d3'⟩ := hat2' k y hg 3 _ rfl
      have c3' := hxd.cell c3'
      simp only [← Nat.add_assoc, Nat.add_zero] at c0 c0' c1 c1' c2 c2' c3 c3'
      clear hat2 hat2' hg hk2
      go_wp2_with fail
      refine cv_tail 8 (by kernel_rfl) (by kernel_rfl) ?_
      simp only [List.take_succ_cons, List.take_zero, List.drop_succ_cons, List.drop_zero]
      generalize wr.drew = wd at *
      repeat still_step
      refine wpStill_nil ?_
      go_wp2_with fail
      refine Calls.mono (cv_eqEvent y u3 u3' _ (d3.ext hxd) (d3'.ext hxd)) ?_; rintro e w1 ⟨rfl, x1⟩
      go_wp2_with fail
      go_roundw
      case rel => exact ⟨k + 1, by omega, by go_num, hxd.trans x1⟩
      case measure => simp [intOf]; omega
    · go_wp2_with fail
      go_ret
      exact ⟨rfl, hx⟩
end Go.Proofs.YtohjjhoobikioaaDoor
