/-
  Of several texts: Open, OpenG.
-/
import Derived.Test.YtohjjhoobikioaaDoorBase
import Derived.ShutString
import Derived.ChangeOld
/-! How the arguments of a law are opened: slices of ints. -/
namespace Go.Proofs.YtohjjhoobikioaaDoor
open Go.ChangeShapes Go.WideShapes Go.ChangeAt Go.RowKit

theorem ownKnob_none : ownKnob Tryd.prog.godebug = none := by kernel_rfl
theorem laidOut_prog : laidOutB Tryd.prog = true := by kernel_rfl
theorem cells_int : Tryd.prog.cellsOf 3 = 1 := by kernel_rfl

theorem int_range {x : Int} (w : (Lit.int .i64 x).wf = true) : -9223372036854775808 ≤ x ∧ x ≤ 9223372036854775807 := by
  simpa [Lit.wf, IntKind.min, IntKind.max, IntKind.signed, IntKind.bits] using w

set_option maxRecDepth 100000 in
theorem open_ints_in {H : Type} {enc : TypeId × Value → H} {W : World} {base : Nat} {v : Value} {d : DataW H} {ps : List MemPlace}
    (hv : Value.okWide Tryd.prog W .any base 22 v) (h : DataW.Trod enc Tryd.prog W 0 (fun _ => true) true 22 v d ps) :
    ∃ A n c zs, v = .slice A n c ∧ RI W A n c zs := by
  obtain ⟨a0, len, cap, rfl⟩ := okWide_slice Tryd.underlying22 hv
  obtain ⟨fuel, hf⟩ := h
  rcases open_ints Tryd.underlying22 Tryd.underlying3 cells_int hf with ⟨hcs, _⟩ | ⟨x, l, c, zs, hcs, _, hl, hm, hz, _, hcell, hwz⟩
  · simp [Value.cells] at hcs
    obtain ⟨rfl, rfl, rfl⟩ := hcs
    exact ⟨none, 0, 0, [], rfl, RI.nil _⟩
  · simp [Value.cells] at hcs
    obtain ⟨rfl, rfl, rfl⟩ := hcs
    have hz' : zs.length = cap := by simpa using hz
    refine ⟨_, _, _, zs.take len, rfl, by rw [List.length_take, hz']; omega, hl, by unfold maxLen at hm; omega, (fun e => nomatch e), fun hn => ?_⟩
    obtain ⟨b, off, spot⟩ := x
    have hspot : spot = none := by simpa [Addr.add] using World.cell?_spot (hcell 0 (by omega))
    subst hspot
    refine ⟨b, off, rfl, fun j hj => ?_⟩
    have := hcell j (by omega)
    rw [Addr.add_lit] at this
    rw [this]
    simp [hj]
end Go.Proofs.YtohjjhoobikioaaDoor
/-! How the arguments of a law are opened: grids. -/
namespace Go.Proofs.YtohjjhoobikioaaDoor
open Go.ChangeShapes Go.WideShapes Go.ChangeAt Go.RowKit

section
variable {H : Type} {enc : TypeId × Value → H} {W : World} {fuel : Nat} {cs : List Value} {x : DataW H × List MemPlace}
set_option maxRecDepth 100000 in
theorem rd_int (h : DataW.trod enc Tryd.prog W 0 (fun _ => true) true fuel 3 cs = some x) : ∃ n : Int, cs = [.int .i64 n] ∧ -9223372036854775808 ≤ n ∧ n ≤ 9223372036854775807 := by
  obtain ⟨n, e, _, wf⟩ := DataW.trod_int Tryd.underlying3 h
  exact ⟨n, e, int_range wf⟩
set_option maxRecDepth 100000 in
theorem rd_bool (h : DataW.trod enc Tryd.prog W 0 (fun _ => true) true fuel 4 cs = some x) : ∃ b : Bool, cs = [.bool b] := by
  obtain ⟨b, e, _⟩ := DataW.trod_bool Tryd.underlying4 h
  exact ⟨b, e⟩
set_option maxRecDepth 100000 in
theorem rd_ints (h : DataW.trod enc Tryd.prog W 0 (fun _ => true) true fuel 22 cs = some x) : ∃ A n c zs, cs = [.slice A n c] ∧ RI W A n c zs := by
  rcases open_ints Tryd.underlying22 Tryd.underlying3 cells_int h with ⟨hcs, _⟩ | ⟨a, len, cap, zs, hcs, _, hl, hm, hz, _, hcell, hwz⟩
  · exact ⟨none, 0, 0, [], hcs, RI.nil _⟩
  · have hz' : zs.length = cap := by simpa using hz
    refine ⟨_, _, _, zs.take len, hcs, by rw [List.length_take, hz']; omega, hl, by unfold maxLen at hm; omega, (fun e => nomatch e), fun hn => ?_⟩
    obtain ⟨b, off, spot⟩ := a
    have hspot : spot = none := by simpa [Addr.add] using World.cell?_spot (hcell 0 (by omega))
    subst hspot
    refine ⟨b, off, rfl, fun j hj => ?_⟩
    have := hcell j (by omega)
    rw [Addr.add_lit] at this
    rw [this]
    simp [hj]
theorem cells_grid : Tryd.prog.cellsOf 47 = 6 := by kernel_rfl
theorem cells_bool : Tryd.prog.cellsOf 4 = 1 := by kernel_rfl
theorem cells_ints : Tryd.prog.cellsOf 22 = 1 := by kernel_rfl
set_option maxRecDepth 100000 in
theorem rd_grid (h : DataW.trod enc Tryd.prog W 0 (fun _ => true) true fuel 47 cs = some x) :
    ∃ (w hh X Y : Int) (R : Bool) (C : List Int) (A : Option Addr) (n c : Nat), cs = [.int .i64 w, .int .i64 hh, .slice A n c, .int .i64 X, .int .i64 Y, .bool R] ∧ RI W A n c C := by
  obtain ⟨ys, m, _, _, hlen, hyl, hf⟩ := DataW.trod_struct Tryd.underlying47 h
  rw [cells_grid] at hlen
  match cs, hlen, ys, hyl, hf with
  | [c0, c1, c2, c3, c4, c5], _, [y0, y1, y2, y3, y4, y5], _, hf =>
    have f0 : DataW.trod enc Tryd.prog W 0 (fun _ => true) true m 3 [c0] = some y0 := by
      have g : DataW.trod enc Tryd.prog W 0 (fun _ => true) true m 3 (([c0, c1, c2, c3, c4, c5].drop 0).take (Tryd.prog.cellsOf 3)) = some y0 := hf 0 _ rfl
      rw [cells_int] at g; exact g
    have f1 : DataW.trod enc Tryd.prog W 0 (fun _ => true) true m 3 [c1] = some y1 := by
      have g : DataW.trod enc Tryd.prog W 0 (fun _ => true) true m 3 (([c0, c1, c2, c3, c4, c5].drop 1).take (Tryd.prog.cellsOf 3)) = some y1 := hf 1 _ rfl
      rw [cells_int] at g; exact g
    have f2 : DataW.trod enc Tryd.prog W 0 (fun _ => true) true m 22 [c2] = some y2 := by
      have g : DataW.trod enc Tryd.prog W 0 (fun _ => true) true m 22 (([c0, c1, c2, c3, c4, c5].drop 2).take (Tryd.prog.cellsOf 22)) = some y2 := hf 2 _ rfl
      rw [cells_ints] at g; exact g
    have f3 : DataW.trod enc Tryd.prog W 0 (fun _ => true) true m 3 [c3] = some y3 := by
      have g : DataW.trod enc Tryd.prog W 0 (fun _ => true) true m 3 (([c0, c1, c2, c3, c4, c5].drop 3).take (Tryd.prog.cellsOf 3)) = some y3 := hf 3 _ rfl
      rw [cells_int] at g; exact g
    have f4 : DataW.trod enc Tryd.prog W 0 (fun _ => true) true m 3 [c4] = some y4 := by
      have g : DataW.trod enc Tryd.prog W 0 (fun _ => true) true m 3 (([c0, c1, c2, c3, c4, c5].drop 4).take (Tryd.prog.cellsOf 3)) = some y4 := hf 4 _ rfl
      rw [cells_int] at g; exact g
    have f5 : DataW.trod enc Tryd.prog W 0 (fun _ => true) true m 4 [c5] = some y5 := by
      have g : DataW.trod enc Tryd.prog W 0 (fun _ => true) true m 4 (([c0, c1, c2, c3, c4, c5].drop 5).take (Tryd.prog.cellsOf 4)) = some y5 := hf 5 _ rfl
      rw [cells_bool] at g; exact g
    obtain ⟨w0, e0, _⟩ := rd_int f0
    obtain ⟨w1, e1, _⟩ := rd_int f1
    obtain ⟨A, n, c, C, e2, r2⟩ := rd_ints f2
    obtain ⟨w3, e3, _⟩ := rd_int f3
    obtain ⟨w4, e4, _⟩ := rd_int f4
    obtain ⟨b5, e5⟩ := rd_bool f5
    simp only [List.cons.injEq, and_true] at e0 e1 e2 e3 e4 e5
    subst e0; subst e1; subst e2; subst e3; subst e4; subst e5
    exact ⟨_, _, _, _, _, C, _, _, _, rfl, r2⟩
set_option maxRecDepth 100000 in
theorem open_grid_in {base : Nat} {v : Value} {d : DataW H} {ps : List MemPlace} (hv : Value.okWide Tryd.prog W .any base 47 v) (h : DataW.Trod enc Tryd.prog W 0 (fun _ => true) true 47 v d ps) :
    ∃ (w hh X Y : Int) (R : Bool) (C : List Int) (A : Option Addr) (n c : Nat), v = .agg #[.int .i64 w, .int .i64 hh, .slice A n c, .int .i64 X, .int .i64 Y, .bool R] ∧ RI W A n c C := by
  obtain ⟨cs, rfl, hsz⟩ := okWide_struct Tryd.underlying47 hv
  obtain ⟨f, hf⟩ := h
  obtain ⟨w, hh, X, Y, R, C, A, n, c, e, r⟩ := rd_grid hf
  refine ⟨w, hh, X, Y, R, C, A, n, c, ?_, r⟩
  have e' : cs.toList = _ := e
  congr 1
  exact Array.toList_inj.1 e'
end
end Go.Proofs.YtohjjhoobikioaaDoor
