/-
  How the arguments of a law are opened: events.
-/
import Derived.Test.YtohjjhoobikioaaDoorOpen
namespace Go.Proofs.YtohjjhoobikioaaDoor
open Go.ChangeShapes Go.WideShapes Go.ChangeAt Go.RowKit

section
variable {H : Type} {enc : TypeId × Value → H} {W : World} {fuel : Nat} {cs : List Value} {x : DataW H × List MemPlace}
theorem cells_event : Tryd.prog.cellsOf 24 = 4 := by kernel_rfl
set_option maxRecDepth 100000 in
theorem rd_event (h : DataW.trod enc Tryd.prog W 0 (fun _ => true) true fuel 24 cs = some x) :
    ∃ (k a b : Int) (C : List Int) (A : Option Addr) (n c : Nat), cs = [.int .i64 k, .int .i64 a, .int .i64 b, .slice A n c] ∧ RI W A n c C := by
  obtain ⟨ys, m, _, _, hlen, hyl, hf⟩ := DataW.trod_struct Tryd.underlying24 h
  rw [cells_event] at hlen
  match cs, hlen, ys, hyl, hf with
  | [c0, c1, c2, c3], _, [y0, y1, y2, y3], _, hf =>
    have f0 : DataW.trod enc Tryd.prog W 0 (fun _ => true) true m 3 [c0] = some y0 := by
      have g : DataW.trod enc Tryd.prog W 0 (fun _ => true) true m 3 (([c0, c1, c2, c3].drop 0).take (Tryd.prog.cellsOf 3)) = some y0 := hf 0 _ rfl
      rw [cells_int] at g; exact g
    have f1 : DataW.trod enc Tryd.prog W 0 (fun _ => true) true m 3 [c1] = some y1 := by
      have g : DataW.trod enc Tryd.prog W 0 (fun _ => true) true m 3 (([c0, c1, c2, c3].drop 1).take (Tryd.prog.cellsOf 3)) = some y1 := hf 1 _ rfl
      rw [cells_int] at g; exact g
    have f2 : DataW.trod enc Tryd.prog W 0 (fun _ => true) true m 3 [c2] = some y2 := by
      have g : DataW.trod enc Tryd.prog W 0 (fun _ => true) true m 3 (([c0, c1, c2, c3].drop 2).take (Tryd.prog.cellsOf 3)) = some y2 := hf 2 _ rfl
      rw [cells_int] at g; exact g
    have f3 : DataW.trod enc Tryd.prog W 0 (fun _ => true) true m 22 [c3] = some y3 := by
      have g : DataW.trod enc Tryd.prog W 0 (fun _ => true) true m 22 (([c0, c1, c2, c3].drop 3).take (Tryd.prog.cellsOf 22)) = some y3 := hf 3 _ rfl
      rw [cells_ints] at g; exact g
    obtain ⟨w0, e0, _⟩ := rd_int f0
    obtain ⟨w1, e1, _⟩ := rd_int f1
    obtain ⟨w2, e2, _⟩ := rd_int f2
    obtain ⟨A, n, c, C, e3, r3⟩ := rd_ints f3
    simp only [List.cons.injEq, and_true] at e0 e1 e2 e3
    subst e0; subst e1; subst e2; subst e3
    exact ⟨_, _, _, C, _, _, _, rfl, r3⟩
set_option maxRecDepth 100000 in
theorem open_event_in {base : Nat} {v : Value} {d : DataW H} {ps : List MemPlace} (hv : Value.okWide Tryd.prog W .any base 24 v) (h : DataW.Trod enc Tryd.prog W 0 (fun _ => true) true 24 v d ps) :
    ∃ (k a b : Int) (C : List Int) (A : Option Addr) (n c : Nat), v = .agg #[.int .i64 k, .int .i64 a, .int .i64 b, .slice A n c] ∧ RI W A n c C := by
  obtain ⟨cs, rfl, hsz⟩ := okWide_struct Tryd.underlying24 hv
  obtain ⟨f, hf⟩ := h
  obtain ⟨k, a, b, C, A, n, c, e, r⟩ := rd_event hf
  refine ⟨k, a, b, C, A, n, c, ?_, r⟩
  have e' : cs.toList = _ := e
  congr 1
  exact Array.toList_inj.1 e'
end
end Go.Proofs.YtohjjhoobikioaaDoor
