/-
  How the arguments of a law are opened: structs of structs and slices.
-/
import Derived.Test.YtohjjhoobikioaaDoorCvT
import Derived.Test.YtohjjhoobikioaaDoorOpenT
namespace Go.Proofs.YtohjjhoobikioaaDoor
open Go.ChangeShapes Go.WideShapes Go.ChangeAt Go.RowKit Go.Deep

section
variable {H : Type} {enc : TypeId × Value → H} {W : World} {fuel : Nat} {cs : List Value} {x : DataW H × List MemPlace}
theorem cellsOf_Grid : Tryd.prog.cellsOf 47 = 6 := by kernel_rfl
set_option maxRecDepth 100000 in
theorem rdo_Grid (h : DataW.trod enc Tryd.prog W 0 (fun _ => true) true fuel 47 cs = some x) : ∃ a : SGrid, rngGrid a ∧ Rds W cs (dGrid a) := by
  obtain ⟨ys, m, _, _, hlen, hyl, hf⟩ := DataW.trod_struct Tryd.underlying47 h
  rw [cellsOf_Grid] at hlen
  have e0 : DataW.trod enc Tryd.prog W 0 (fun _ => true) true m 3 ((cs.drop 0).take 1) = ys[0]? := by
    have g := hf 0 _ rfl
    exact (congrArg (fun z => DataW.trod enc Tryd.prog W 0 (fun _ => true) true m 3 ((cs.drop 0).take z)) cells_int).symm.trans g
  rw [List.getElem?_eq_getElem (show 0 < ys.length by rw [hyl]; exact Nat.le_of_ble_eq_true rfl)] at e0
  obtain ⟨a0, g0, r0⟩ := rdo_int e0
  have e1 : DataW.trod enc Tryd.prog W 0 (fun _ => true) true m 3 ((cs.drop 1).take 1) = ys[1]? := by
    have g := hf 1 _ rfl
    exact (congrArg (fun z => DataW.trod enc Tryd.prog W 0 (fun _ => true) true m 3 ((cs.drop 1).take z)) cells_int).symm.trans g
  rw [List.getElem?_eq_getElem (show 1 < ys.length by rw [hyl]; exact Nat.le_of_ble_eq_true rfl)] at e1
  obtain ⟨a1, g1, r1⟩ := rdo_int e1
  have e2 : DataW.trod enc Tryd.prog W 0 (fun _ => true) true m 22 ((cs.drop 2).take 1) = ys[2]? := by
    have g := hf 2 _ rfl
    exact (congrArg (fun z => DataW.trod enc Tryd.prog W 0 (fun _ => true) true m 22 ((cs.drop 2).take z)) cells_ints).symm.trans g
  rw [List.getElem?_eq_getElem (show 2 < ys.length by rw [hyl]; exact Nat.le_of_ble_eq_true rfl)] at e2
  obtain ⟨a2, g2, r2⟩ := rdo_ints e2
  have e3 : DataW.trod enc Tryd.prog W 0 (fun _ => true) true m 3 ((cs.drop 3).take 1) = ys[3]? := by
    have g := hf 3 _ rfl
    exact (congrArg (fun z => DataW.trod enc Tryd.prog W 0 (fun _ => true) true m 3 ((cs.drop 3).take z)) cells_int).symm.trans g
  rw [List.getElem?_eq_getElem (show 3 < ys.length by rw [hyl]; exact Nat.le_of_ble_eq_true rfl)] at e3
  obtain ⟨a3, g3, r3⟩ := rdo_int e3
  have e4 : DataW.trod enc Tryd.prog W 0 (fun _ => true) true m 3 ((cs.drop 4).take 1) = ys[4]? := by
    have g := hf 4 _ rfl
    exact (congrArg (fun z => DataW.trod enc Tryd.prog W 0 (fun _ => true) true m 3 ((cs.drop 4).take z)) cells_int).symm.trans g
  rw [List.getElem?_eq_getElem (show 4 < ys.length by rw [hyl]; exact Nat.le_of_ble_eq_true rfl)] at e4
  obtain ⟨a4, g4, r4⟩ := rdo_int e4
  have e5 : DataW.trod enc Tryd.prog W 0 (fun _ => true) true m 4 ((cs.drop 5).take 1) = ys[5]? := by
    have g := hf 5 _ rfl
    exact (congrArg (fun z => DataW.trod enc Tryd.prog W 0 (fun _ => true) true m 4 ((cs.drop 5).take z)) cells_bool).symm.trans g
  rw [List.getElem?_eq_getElem (show 5 < ys.length by rw [hyl]; exact Nat.le_of_ble_eq_true rfl)] at e5
  obtain ⟨a5, r5⟩ := rdo_bool e5
  have z6 : Rds W (cs.drop 6) [] := by rw [List.drop_eq_nil_of_le (by omega)]; exact .nil
  have z5 := Rds.part 5 1 r5 z6
  have z4 := Rds.part 4 1 r4 z5
  have z3 := Rds.part 3 1 r3 z4
  have z2 := Rds.part 2 1 r2 z3
  have z1 := Rds.part 1 1 r1 z2
  have z0 := Rds.part 0 1 r0 z1
  exact ⟨⟨a0, a1, a2, a3, a4, a5⟩, ⟨g0, g1, g2, g3, g4⟩, z0⟩
theorem cellsOf_slGrid : Tryd.prog.cellsOf 71 = 1 := by kernel_rfl
set_option maxRecDepth 100000 in
theorem rdo_slGrid (h : DataW.trod enc Tryd.prog W 0 (fun _ => true) true fuel 71 cs = some x) : ∃ l : List SGrid, (∀ z ∈ l, rngGrid z) ∧ Rds W cs [.sl 6 (l.flatMap dGrid)] :=
  rdo_slice (by decide) dGrid_len Tryd.underlying71 cellsOf_Grid rdo_Grid h
theorem cellsOf_Paint : Tryd.prog.cellsOf 61 = 9 := by kernel_rfl
set_option maxRecDepth 100000 in
theorem rdo_Paint (h : DataW.trod enc Tryd.prog W 0 (fun _ => true) true fuel 61 cs = some x) : ∃ a : SPaint, rngPaint a ∧ Rds W cs (dPaint a) := by
  obtain ⟨ys, m, _, _, hlen, hyl, hf⟩ := DataW.trod_struct Tryd.underlying61 h
  rw [cellsOf_Paint] at hlen
  have e0 : DataW.trod enc Tryd.prog W 0 (fun _ => true) true m 3 ((cs.drop 0).take 1) = ys[0]? := by
    have g := hf 0 _ rfl
    exact (congrArg (fun z => DataW.trod enc Tryd.prog W 0 (fun _ => true) true m 3 ((cs.drop 0).take z)) cells_int).symm.trans g
  rw [List.getElem?_eq_getElem (show 0 < ys.length by rw [hyl]; exact Nat.le_of_ble_eq_true rfl)] at e0
  obtain ⟨a0, g0, r0⟩ := rdo_int e0
  have e1 : DataW.trod enc Tryd.prog W 0 (fun _ => true) true m 3 ((cs.drop 1).take 1) = ys[1]? := by
    have g := hf 1 _ rfl
    exact (congrArg (fun z => DataW.trod enc Tryd.prog W 0 (fun _ => true) true m 3 ((cs.drop 1).take z)) cells_int).symm.trans g
  rw [List.getElem?_eq_getElem (show 1 < ys.length by rw [hyl]; exact Nat.le_of_ble_eq_true rfl)] at e1
  obtain ⟨a1, g1, r1⟩ := rdo_int e1
  have e2 : DataW.trod enc Tryd.prog W 0 (fun _ => true) true m 4 ((cs.drop 2).take 1) = ys[2]? := by
    have g := hf 2 _ rfl
    exact (congrArg (fun z => DataW.trod enc Tryd.prog W 0 (fun _ => true) true m 4 ((cs.drop 2).take z)) cells_bool).symm.trans g
  rw [List.getElem?_eq_getElem (show 2 < ys.length by rw [hyl]; exact Nat.le_of_ble_eq_true rfl)] at e2
  obtain ⟨a2, r2⟩ := rdo_bool e2
  have e3 : DataW.trod enc Tryd.prog W 0 (fun _ => true) true m 47 ((cs.drop 3).take 6) = ys[3]? := by
    have g := hf 3 _ rfl
    exact (congrArg (fun z => DataW.trod enc Tryd.prog W 0 (fun _ => true) true m 47 ((cs.drop 3).take z)) cellsOf_Grid).symm.trans g
  rw [List.getElem?_eq_getElem (show 3 < ys.length by rw [hyl]; exact Nat.le_of_ble_eq_true rfl)] at e3
  obtain ⟨a3, g3, r3⟩ := rdo_Grid e3
  have z4 : Rds W (cs.drop 9) [] := by rw [List.drop_eq_nil_of_le (by omega)]; exact .nil
  have z3 := Rds.part 3 6 r3 z4
  have z2 := Rds.part 2 1 r2 z3
  have z1 := Rds.part 1 1 r1 z2
  have z0 := Rds.part 0 1 r0 z1
  exact ⟨⟨a0, a1, a2, a3⟩, ⟨g0, g1, g3⟩, z0⟩
theorem cellsOf_Event : Tryd.prog.cellsOf 24 = 4 := by kernel_rfl
set_option maxRecDepth 100000 in
theorem rdo_Event (h : DataW.trod enc Tryd.prog W 0 (fun _ => true) true fuel 24 cs = some x) : ∃ a : SEvent, rngEvent a ∧ Rds W cs (dEvent a) := by
  obtain ⟨ys, m, _, _, hlen, hyl, hf⟩ := DataW.trod_struct Tryd.underlying24 h
  rw [cellsOf_Event] at hlen
  have e0 : DataW.trod enc Tryd.prog W 0 (fun _ => true) true m 3 ((cs.drop 0).take 1) = ys[0]? := by
    have g := hf 0 _ rfl
    exact (congrArg (fun z => DataW.trod enc Tryd.prog W 0 (fun _ => true) true m 3 ((cs.drop 0).take z)) cells_int).symm.trans g
  rw [List.getElem?_eq_getElem (show 0 < ys.length by rw [hyl]; exact Nat.le_of_ble_eq_true rfl)] at e0
  obtain ⟨a0, g0, r0⟩ := rdo_int e0
  have e1 : DataW.trod enc Tryd.prog W 0 (fun _ => true) true m 3 ((cs.drop 1).take 1) = ys[1]? := by
    have g := hf 1 _ rfl
    exact (congrArg (fun z => DataW.trod enc Tryd.prog W 0 (fun _ => true) true m 3 ((cs.drop 1).take z)) cells_int).symm.trans g
  rw [List.getElem?_eq_getElem (show 1 < ys.length by rw [hyl]; exact Nat.le_of_ble_eq_true rfl)] at e1
  obtain ⟨a1, g1, r1⟩ := rdo_int e1
  have e2 : DataW.trod enc Tryd.prog W 0 (fun _ => true) true m 3 ((cs.drop 2).take 1) = ys[2]? := by
    have g := hf 2 _ rfl
    exact (congrArg (fun z => DataW.trod enc Tryd.prog W 0 (fun _ => true) true m 3 ((cs.drop 2).take z)) cells_int).symm.trans g
  rw [List.getElem?_eq_getElem (show 2 < ys.length by rw [hyl]; exact Nat.le_of_ble_eq_true rfl)] at e2
  obtain ⟨a2, g2, r2⟩ := rdo_int e2
  have e3 : DataW.trod enc Tryd.prog W 0 (fun _ => true) true m 22 ((cs.drop 3).take 1) = ys[3]? := by
    have g := hf 3 _ rfl
    exact (congrArg (fun z => DataW.trod enc Tryd.prog W 0 (fun _ => true) true m 22 ((cs.drop 3).take z)) cells_ints).symm.trans g
  rw [List.getElem?_eq_getElem (show 3 < ys.length by rw [hyl]; exact Nat.le_of_ble_eq_true rfl)] at e3
  obtain ⟨a3, g3, r3⟩ := rdo_ints e3
  have z4 : Rds W (cs.drop 4) [] := by rw [List.drop_eq_nil_of_le (by omega)]; exact .nil
  have z3 := Rds.part 3 1 r3 z4
  have z2 := Rds.part 2 1 r2 z3
  have z1 := Rds.part 1 1 r1 z2
  have z0 := Rds.part 0 1 r0 z1
  exact ⟨⟨a0, a1, a2, a3⟩, ⟨g0, g1, g2, g3⟩, z0⟩
theorem cellsOf_slEvent : Tryd.prog.cellsOf 31 = 1 := by kernel_rfl
set_option maxRecDepth 100000 in
theorem rdo_slEvent (h : DataW.trod enc Tryd.prog W 0 (fun _ => true) true fuel 31 cs = some x) : ∃ l : List SEvent, (∀ z ∈ l, rngEvent z) ∧ Rds W cs [.sl 4 (l.flatMap dEvent)] :=
  rdo_slice (by decide) dEvent_len Tryd.underlying31 cellsOf_Event rdo_Event h
set_option maxRecDepth 100000 in
theorem open_Grid_in {base : Nat} {v : Value} {d : DataW H} {ps : List MemPlace} (hv : Value.okWide Tryd.prog W .any base 47 v) (h : DataW.Trod enc Tryd.prog W 0 (fun _ => true) true 47 v d ps) :
    ∃ (x : SGrid) (p0 : Value), v = .agg #[.int .i64 x.W, .int .i64 x.H, p0, .int .i64 x.X, .int .i64 x.Y, .bool x.Wrap] ∧ rngGrid x ∧ Rd W p0 (Dv.ints x.Cells) := by
  obtain ⟨cs, rfl, hsz⟩ := okWide_struct Tryd.underlying47 hv
  obtain ⟨f, hf⟩ := h
  obtain ⟨a, g, r⟩ := rdo_Grid hf
  obtain ⟨p0, e, r0⟩ := rds_Grid r
  have e' : cs.toList = _ := e
  exact ⟨a, p0, congrArg Value.agg (Array.toList_inj.1 e'), g, r0⟩
set_option maxRecDepth 100000 in
theorem open_slGrid_in {base : Nat} {v : Value} {d : DataW H} {ps : List MemPlace} (hv : Value.okWide Tryd.prog W .any base 71 v) (h : DataW.Trod enc Tryd.prog W 0 (fun _ => true) true 71 v d ps) :
    ∃ l : List SGrid, (∀ z ∈ l, rngGrid z) ∧ Rd W v (.sl 6 (l.flatMap dGrid)) := by
  obtain ⟨a0, len, cap, rfl⟩ := okWide_slice Tryd.underlying71 hv
  obtain ⟨f, hf⟩ := h
  obtain ⟨l, g, r⟩ := rdo_slGrid hf
  exact ⟨l, g, Rds.one r⟩
set_option maxRecDepth 100000 in
theorem open_Paint_in {base : Nat} {v : Value} {d : DataW H} {ps : List MemPlace} (hv : Value.okWide Tryd.prog W .any base 61 v) (h : DataW.Trod enc Tryd.prog W 0 (fun _ => true) true 61 v d ps) :
    ∃ (x : SPaint) (p0 : Value), v = .agg #[.int .i64 x.W, .int .i64 x.H, .bool x.Known, .int .i64 x.Shown.W, .int .i64 x.Shown.H, p0, .int .i64 x.Shown.X, .int .i64 x.Shown.Y, .bool x.Shown.Wrap] ∧ rngPaint x ∧ Rd W p0 (Dv.ints x.Shown.Cells) := by
  obtain ⟨cs, rfl, hsz⟩ := okWide_struct Tryd.underlying61 hv
  obtain ⟨f, hf⟩ := h
  obtain ⟨a, g, r⟩ := rdo_Paint hf
  obtain ⟨p0, e, r0⟩ := rds_Paint r
  have e' : cs.toList = _ := e
  exact ⟨a, p0, congrArg Value.agg (Array.toList_inj.1 e'), g, r0⟩
set_option maxRecDepth 100000 in
theorem open_Event_in {base : Nat} {v : Value} {d : DataW H} {ps : List MemPlace} (hv : Value.okWide Tryd.prog W .any base 24 v) (h : DataW.Trod enc Tryd.prog W 0 (fun _ => true) true 24 v d ps) :
    ∃ (x : SEvent) (p0 : Value), v = .agg #[.int .i64 x.Kind, .int .i64 x.A, .int .i64 x.B, p0] ∧ rngEvent x ∧ Rd W p0 (Dv.ints x.Cuts) := by
  obtain ⟨cs, rfl, hsz⟩ := okWide_struct Tryd.underlying24 hv
  obtain ⟨f, hf⟩ := h
  obtain ⟨a, g, r⟩ := rdo_Event hf
  obtain ⟨p0, e, r0⟩ := rds_Event r
  have e' : cs.toList = _ := e
  exact ⟨a, p0, congrArg Value.agg (Array.toList_inj.1 e'), g, r0⟩
set_option maxRecDepth 100000 in
theorem open_slEvent_in {base : Nat} {v : Value} {d : DataW H} {ps : List MemPlace} (hv : Value.okWide Tryd.prog W .any base 31 v) (h : DataW.Trod enc Tryd.prog W 0 (fun _ => true) true 31 v d ps) :
    ∃ l : List SEvent, (∀ z ∈ l, rngEvent z) ∧ Rd W v (.sl 4 (l.flatMap dEvent)) := by
  obtain ⟨a0, len, cap, rfl⟩ := okWide_slice Tryd.underlying31 hv
  obtain ⟨f, hf⟩ := h
  obtain ⟨l, g, r⟩ := rdo_slEvent hf
  exact ⟨l, g, Rds.one r⟩
end
end Go.Proofs.YtohjjhoobikioaaDoor
