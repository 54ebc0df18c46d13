/-
  How the arguments of a law are opened: painters.
-/
import Derived.Test.YtohjjhoobikioaaDoorOpen
namespace Go.Proofs.YtohjjhoobikioaaDoor
open Go.ChangeShapes Go.WideShapes Go.ChangeAt Go.RowKit

section
variable {H : Type} {enc : TypeId × Value → H} {W : World} {fuel : Nat} {cs : List Value} {x : DataW H × List MemPlace}
theorem cells_paint : Tryd.prog.cellsOf 61 = 9 := by kernel_rfl
set_option maxRecDepth 100000 in
theorem rd_paint (h : DataW.trod enc Tryd.prog W 0 (fun _ => true) true fuel 61 cs = some x) :
    ∃ (pw ph : Int) (K : Bool) (w hh X Y : Int) (R : Bool) (C : List Int) (A : Option Addr) (n c : Nat), cs = [.int .i64 pw, .int .i64 ph, .bool K, .int .i64 w, .int .i64 hh, .slice A n c, .int .i64 X, .int .i64 Y, .bool R] ∧ RI W A n c C := by
  obtain ⟨ys, m, _, _, hlen, hyl, hf⟩ := DataW.trod_struct Tryd.underlying61 h
  rw [cells_paint] at hlen
  match cs, hlen, ys, hyl, hf with
  | [c0, c1, c2, c3, c4, c5, c6, c7, c8], _, [y0, y1, y2, y3], _, hf =>
    have f0 : DataW.trod enc Tryd.prog W 0 (fun _ => true) true m 3 [c0] = some y0 := by
      have g : DataW.trod enc Tryd.prog W 0 (fun _ => true) true m 3 (([c0, c1, c2, c3, c4, c5, c6, c7, c8].drop 0).take (Tryd.prog.cellsOf 3)) = some y0 := hf 0 _ rfl
      rw [cells_int] at g; exact g
    have f1 : DataW.trod enc Tryd.prog W 0 (fun _ => true) true m 3 [c1] = some y1 := by
      have g : DataW.trod enc Tryd.prog W 0 (fun _ => true) true m 3 (([c0, c1, c2, c3, c4, c5, c6, c7, c8].drop 1).take (Tryd.prog.cellsOf 3)) = some y1 := hf 1 _ rfl
      rw [cells_int] at g; exact g
    have f2 : DataW.trod enc Tryd.prog W 0 (fun _ => true) true m 4 [c2] = some y2 := by
      have g : DataW.trod enc Tryd.prog W 0 (fun _ => true) true m 4 (([c0, c1, c2, c3, c4, c5, c6, c7, c8].drop 2).take (Tryd.prog.cellsOf 4)) = some y2 := hf 2 _ rfl
      rw [cells_bool] at g; exact g
    have f3 : DataW.trod enc Tryd.prog W 0 (fun _ => true) true m 47 [c3, c4, c5, c6, c7, c8] = some y3 := by
      have g : DataW.trod enc Tryd.prog W 0 (fun _ => true) true m 47 (([c0, c1, c2, c3, c4, c5, c6, c7, c8].drop 3).take (Tryd.prog.cellsOf 47)) = some y3 := hf 3 _ rfl
      rw [cells_grid] at g; exact g
    obtain ⟨w0, e0, _⟩ := rd_int f0
    obtain ⟨w1, e1, _⟩ := rd_int f1
    obtain ⟨b2, e2⟩ := rd_bool f2
    obtain ⟨w, hh, X, Y, R, C, A, n, c, e3, r⟩ := rd_grid f3
    simp only [List.cons.injEq, and_true] at e0 e1 e2 e3
    obtain ⟨e3, e4, e5, e6, e7, e8⟩ := e3
    subst e0; subst e1; subst e2; subst e3; subst e4; subst e5; subst e6; subst e7; subst e8
    exact ⟨_, _, _, _, _, _, _, _, C, _, _, _, rfl, r⟩
set_option maxRecDepth 100000 in
theorem open_paint_in {base : Nat} {v : Value} {d : DataW H} {ps : List MemPlace} (hv : Value.okWide Tryd.prog W .any base 61 v) (h : DataW.Trod enc Tryd.prog W 0 (fun _ => true) true 61 v d ps) :
    ∃ (pw ph : Int) (K : Bool) (w hh X Y : Int) (R : Bool) (C : List Int) (A : Option Addr) (n c : Nat), v = .agg #[.int .i64 pw, .int .i64 ph, .bool K, .int .i64 w, .int .i64 hh, .slice A n c, .int .i64 X, .int .i64 Y, .bool R] ∧ RI W A n c C := by
  obtain ⟨cs, rfl, hsz⟩ := okWide_struct Tryd.underlying61 hv
  obtain ⟨f, hf⟩ := h
  obtain ⟨pw, ph, K, w, hh, X, Y, R, C, A, n, c, e, r⟩ := rd_paint hf
  refine ⟨pw, ph, K, w, hh, X, Y, R, C, A, n, c, ?_, r⟩
  have e' : cs.toList = _ := e
  congr 1
  exact Array.toList_inj.1 e'
end
end Go.Proofs.YtohjjhoobikioaaDoor
