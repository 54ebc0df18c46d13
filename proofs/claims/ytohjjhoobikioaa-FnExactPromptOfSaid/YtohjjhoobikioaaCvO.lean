/-
  How the arguments of a law are opened: structs of structs and slices.
-/
import Derived.Test.YtohjjhoobikioaaCvT
import Derived.Test.YtohjjhoobikioaaOpenT
namespace Go.Proofs.Ytohjjhoobikioaa
open Go.ChangeShapes Go.WideShapes Go.ChangeAt Go.RowKit Go.Deep

section
variable {H : Type} {enc : TypeId × Value → H} {W : World} {fuel : Nat} {cs : List Value} {x : DataW H × List MemPlace}
theorem cellsOf_Line : Try.prog.cellsOf 24 = 2 := by kernel_rfl
set_option maxRecDepth 100000 in
theorem rdo_Line (h : DataW.trod enc Try.prog W 0 (fun _ => true) true fuel 24 cs = some x) : ∃ a : SLine, rngLine a ∧ Rds W cs (dLine a) := by
  obtain ⟨ys, m, _, _, hlen, hyl, hf⟩ := DataW.trod_struct Try.underlying24 h
  rw [cellsOf_Line] at hlen
  have e0 : DataW.trod enc Try.prog W 0 (fun _ => true) true m 22 ((cs.drop 0).take 1) = ys[0]? := by
    have g := hf 0 _ rfl
    exact (congrArg (fun z => DataW.trod enc Try.prog W 0 (fun _ => true) true m 22 ((cs.drop 0).take z)) cells_ints).symm.trans g
  rw [List.getElem?_eq_getElem (show 0 < ys.length by rw [hyl]; exact Nat.le_of_ble_eq_true rfl)] at e0
  obtain ⟨a0, g0, r0⟩ := rdo_ints e0
  have e1 : DataW.trod enc Try.prog W 0 (fun _ => true) true m 3 ((cs.drop 1).take 1) = ys[1]? := by
    have g := hf 1 _ rfl
    exact (congrArg (fun z => DataW.trod enc Try.prog W 0 (fun _ => true) true m 3 ((cs.drop 1).take z)) cells_int).symm.trans g
  rw [List.getElem?_eq_getElem (show 1 < ys.length by rw [hyl]; exact Nat.le_of_ble_eq_true rfl)] at e1
  obtain ⟨a1, g1, r1⟩ := rdo_int e1
  have z2 : Rds W (cs.drop 2) [] := by rw [List.drop_eq_nil_of_le (by omega)]; exact .nil
  have z1 := Rds.part 1 1 r1 z2
  have z0 := Rds.part 0 1 r0 z1
  exact ⟨⟨a0, a1⟩, ⟨g0, g1⟩, z0⟩
theorem cellsOf_slLine : Try.prog.cellsOf 28 = 1 := by kernel_rfl
set_option maxRecDepth 100000 in
theorem rdo_slLine (h : DataW.trod enc Try.prog W 0 (fun _ => true) true fuel 28 cs = some x) : ∃ l : List SLine, (∀ z ∈ l, rngLine z) ∧ Rds W cs [.sl 2 (l.flatMap dLine)] :=
  rdo_slice (by decide) dLine_len Try.underlying28 cellsOf_Line rdo_Line h
theorem cellsOf_Piece : Try.prog.cellsOf 115 = 1 := by kernel_rfl
set_option maxRecDepth 100000 in
theorem rdo_Piece (h : DataW.trod enc Try.prog W 0 (fun _ => true) true fuel 115 cs = some x) : ∃ a : SPiece, rngPiece a ∧ Rds W cs (dPiece a) := by
  obtain ⟨ys, m, _, _, hlen, hyl, hf⟩ := DataW.trod_struct Try.underlying115 h
  rw [cellsOf_Piece] at hlen
  have e0 : DataW.trod enc Try.prog W 0 (fun _ => true) true m 22 ((cs.drop 0).take 1) = ys[0]? := by
    have g := hf 0 _ rfl
    exact (congrArg (fun z => DataW.trod enc Try.prog W 0 (fun _ => true) true m 22 ((cs.drop 0).take z)) cells_ints).symm.trans g
  rw [List.getElem?_eq_getElem (show 0 < ys.length by rw [hyl]; exact Nat.le_of_ble_eq_true rfl)] at e0
  obtain ⟨a0, g0, r0⟩ := rdo_ints e0
  have z1 : Rds W (cs.drop 1) [] := by rw [List.drop_eq_nil_of_le (by omega)]; exact .nil
  have z0 := Rds.part 0 1 r0 z1
  exact ⟨⟨a0⟩, g0, z0⟩
theorem cellsOf_slPiece : Try.prog.cellsOf 25 = 1 := by kernel_rfl
set_option maxRecDepth 100000 in
theorem rdo_slPiece (h : DataW.trod enc Try.prog W 0 (fun _ => true) true fuel 25 cs = some x) : ∃ l : List SPiece, (∀ z ∈ l, rngPiece z) ∧ Rds W cs [.sl 1 (l.flatMap dPiece)] :=
  rdo_slice (by decide) dPiece_len Try.underlying25 cellsOf_Piece rdo_Piece h
theorem cellsOf_Ring : Try.prog.cellsOf 27 = 1 := by kernel_rfl
set_option maxRecDepth 100000 in
theorem rdo_Ring (h : DataW.trod enc Try.prog W 0 (fun _ => true) true fuel 27 cs = some x) : ∃ a : SRing, rngRing a ∧ Rds W cs (dRing a) := by
  obtain ⟨ys, m, _, _, hlen, hyl, hf⟩ := DataW.trod_struct Try.underlying27 h
  rw [cellsOf_Ring] at hlen
  have e0 : DataW.trod enc Try.prog W 0 (fun _ => true) true m 25 ((cs.drop 0).take 1) = ys[0]? := by
    have g := hf 0 _ rfl
    exact (congrArg (fun z => DataW.trod enc Try.prog W 0 (fun _ => true) true m 25 ((cs.drop 0).take z)) cellsOf_slPiece).symm.trans g
  rw [List.getElem?_eq_getElem (show 0 < ys.length by rw [hyl]; exact Nat.le_of_ble_eq_true rfl)] at e0
  obtain ⟨a0, g0, r0⟩ := rdo_slPiece e0
  have z1 : Rds W (cs.drop 1) [] := by rw [List.drop_eq_nil_of_le (by omega)]; exact .nil
  have z0 := Rds.part 0 1 r0 z1
  exact ⟨⟨a0⟩, g0, z0⟩
theorem cellsOf_Undo : Try.prog.cellsOf 30 = 1 := by kernel_rfl
set_option maxRecDepth 100000 in
theorem rdo_Undo (h : DataW.trod enc Try.prog W 0 (fun _ => true) true fuel 30 cs = some x) : ∃ a : SUndo, rngUndo a ∧ Rds W cs (dUndo a) := by
  obtain ⟨ys, m, _, _, hlen, hyl, hf⟩ := DataW.trod_struct Try.underlying30 h
  rw [cellsOf_Undo] at hlen
  have e0 : DataW.trod enc Try.prog W 0 (fun _ => true) true m 28 ((cs.drop 0).take 1) = ys[0]? := by
    have g := hf 0 _ rfl
    exact (congrArg (fun z => DataW.trod enc Try.prog W 0 (fun _ => true) true m 28 ((cs.drop 0).take z)) cellsOf_slLine).symm.trans g
  rw [List.getElem?_eq_getElem (show 0 < ys.length by rw [hyl]; exact Nat.le_of_ble_eq_true rfl)] at e0
  obtain ⟨a0, g0, r0⟩ := rdo_slLine e0
  have z1 : Rds W (cs.drop 1) [] := by rw [List.drop_eq_nil_of_le (by omega)]; exact .nil
  have z0 := Rds.part 0 1 r0 z1
  exact ⟨⟨a0⟩, g0, z0⟩
theorem cellsOf_Ed : Try.prog.cellsOf 32 = 20 := by kernel_rfl
set_option maxRecDepth 100000 in
theorem rdo_Ed (h : DataW.trod enc Try.prog W 0 (fun _ => true) true fuel 32 cs = some x) : ∃ a : SEd, rngEd a ∧ Rds W cs (dEd a) := by
  obtain ⟨ys, m, _, _, hlen, hyl, hf⟩ := DataW.trod_struct Try.underlying32 h
  rw [cellsOf_Ed] at hlen
  have e0 : DataW.trod enc Try.prog W 0 (fun _ => true) true m 4 ((cs.drop 0).take 1) = ys[0]? := by
    have g := hf 0 _ rfl
    exact (congrArg (fun z => DataW.trod enc Try.prog W 0 (fun _ => true) true m 4 ((cs.drop 0).take z)) cells_bool).symm.trans g
  rw [List.getElem?_eq_getElem (show 0 < ys.length by rw [hyl]; exact Nat.le_of_ble_eq_true rfl)] at e0
  obtain ⟨a0, r0⟩ := rdo_bool e0
  have e1 : DataW.trod enc Try.prog W 0 (fun _ => true) true m 3 ((cs.drop 1).take 1) = ys[1]? := by
    have g := hf 1 _ rfl
    exact (congrArg (fun z => DataW.trod enc Try.prog W 0 (fun _ => true) true m 3 ((cs.drop 1).take z)) cells_int).symm.trans g
  rw [List.getElem?_eq_getElem (show 1 < ys.length by rw [hyl]; exact Nat.le_of_ble_eq_true rfl)] at e1
  obtain ⟨a1, g1, r1⟩ := rdo_int e1
  have e2 : DataW.trod enc Try.prog W 0 (fun _ => true) true m 24 ((cs.drop 2).take 2) = ys[2]? := by
    have g := hf 2 _ rfl
    exact (congrArg (fun z => DataW.trod enc Try.prog W 0 (fun _ => true) true m 24 ((cs.drop 2).take z)) cellsOf_Line).symm.trans g
  rw [List.getElem?_eq_getElem (show 2 < ys.length by rw [hyl]; exact Nat.le_of_ble_eq_true rfl)] at e2
  obtain ⟨a2, g2, r2⟩ := rdo_Line e2
  have e3 : DataW.trod enc Try.prog W 0 (fun _ => true) true m 3 ((cs.drop 4).take 1) = ys[3]? := by
    have g := hf 3 _ rfl
    exact (congrArg (fun z => DataW.trod enc Try.prog W 0 (fun _ => true) true m 3 ((cs.drop 4).take z)) cells_int).symm.trans g
  rw [List.getElem?_eq_getElem (show 3 < ys.length by rw [hyl]; exact Nat.le_of_ble_eq_true rfl)] at e3
  obtain ⟨a3, g3, r3⟩ := rdo_int e3
  have e4 : DataW.trod enc Try.prog W 0 (fun _ => true) true m 3 ((cs.drop 5).take 1) = ys[4]? := by
    have g := hf 4 _ rfl
    exact (congrArg (fun z => DataW.trod enc Try.prog W 0 (fun _ => true) true m 3 ((cs.drop 5).take z)) cells_int).symm.trans g
  rw [List.getElem?_eq_getElem (show 4 < ys.length by rw [hyl]; exact Nat.le_of_ble_eq_true rfl)] at e4
  obtain ⟨a4, g4, r4⟩ := rdo_int e4
  have e5 : DataW.trod enc Try.prog W 0 (fun _ => true) true m 3 ((cs.drop 6).take 1) = ys[5]? := by
    have g := hf 5 _ rfl
    exact (congrArg (fun z => DataW.trod enc Try.prog W 0 (fun _ => true) true m 3 ((cs.drop 6).take z)) cells_int).symm.trans g
  rw [List.getElem?_eq_getElem (show 5 < ys.length by rw [hyl]; exact Nat.le_of_ble_eq_true rfl)] at e5
  obtain ⟨a5, g5, r5⟩ := rdo_int e5
  have e6 : DataW.trod enc Try.prog W 0 (fun _ => true) true m 3 ((cs.drop 7).take 1) = ys[6]? := by
    have g := hf 6 _ rfl
    exact (congrArg (fun z => DataW.trod enc Try.prog W 0 (fun _ => true) true m 3 ((cs.drop 7).take z)) cells_int).symm.trans g
  rw [List.getElem?_eq_getElem (show 6 < ys.length by rw [hyl]; exact Nat.le_of_ble_eq_true rfl)] at e6
  obtain ⟨a6, g6, r6⟩ := rdo_int e6
  have e7 : DataW.trod enc Try.prog W 0 (fun _ => true) true m 3 ((cs.drop 8).take 1) = ys[7]? := by
    have g := hf 7 _ rfl
    exact (congrArg (fun z => DataW.trod enc Try.prog W 0 (fun _ => true) true m 3 ((cs.drop 8).take z)) cells_int).symm.trans g
  rw [List.getElem?_eq_getElem (show 7 < ys.length by rw [hyl]; exact Nat.le_of_ble_eq_true rfl)] at e7
  obtain ⟨a7, g7, r7⟩ := rdo_int e7
  have e8 : DataW.trod enc Try.prog W 0 (fun _ => true) true m 3 ((cs.drop 9).take 1) = ys[8]? := by
    have g := hf 8 _ rfl
    exact (congrArg (fun z => DataW.trod enc Try.prog W 0 (fun _ => true) true m 3 ((cs.drop 9).take z)) cells_int).symm.trans g
  rw [List.getElem?_eq_getElem (show 8 < ys.length by rw [hyl]; exact Nat.le_of_ble_eq_true rfl)] at e8
  obtain ⟨a8, g8, r8⟩ := rdo_int e8
  have e9 : DataW.trod enc Try.prog W 0 (fun _ => true) true m 3 ((cs.drop 10).take 1) = ys[9]? := by
    have g := hf 9 _ rfl
    exact (congrArg (fun z => DataW.trod enc Try.prog W 0 (fun _ => true) true m 3 ((cs.drop 10).take z)) cells_int).symm.trans g
  rw [List.getElem?_eq_getElem (show 9 < ys.length by rw [hyl]; exact Nat.le_of_ble_eq_true rfl)] at e9
  obtain ⟨a9, g9, r9⟩ := rdo_int e9
  have e10 : DataW.trod enc Try.prog W 0 (fun _ => true) true m 27 ((cs.drop 11).take 1) = ys[10]? := by
    have g := hf 10 _ rfl
    exact (congrArg (fun z => DataW.trod enc Try.prog W 0 (fun _ => true) true m 27 ((cs.drop 11).take z)) cellsOf_Ring).symm.trans g
  rw [List.getElem?_eq_getElem (show 10 < ys.length by rw [hyl]; exact Nat.le_of_ble_eq_true rfl)] at e10
  obtain ⟨a10, g10, r10⟩ := rdo_Ring e10
  have e11 : DataW.trod enc Try.prog W 0 (fun _ => true) true m 30 ((cs.drop 12).take 1) = ys[11]? := by
    have g := hf 11 _ rfl
    exact (congrArg (fun z => DataW.trod enc Try.prog W 0 (fun _ => true) true m 30 ((cs.drop 12).take z)) cellsOf_Undo).symm.trans g
  rw [List.getElem?_eq_getElem (show 11 < ys.length by rw [hyl]; exact Nat.le_of_ble_eq_true rfl)] at e11
  obtain ⟨a11, g11, r11⟩ := rdo_Undo e11
  have e12 : DataW.trod enc Try.prog W 0 (fun _ => true) true m 3 ((cs.drop 13).take 1) = ys[12]? := by
    have g := hf 12 _ rfl
    exact (congrArg (fun z => DataW.trod enc Try.prog W 0 (fun _ => true) true m 3 ((cs.drop 13).take z)) cells_int).symm.trans g
  rw [List.getElem?_eq_getElem (show 12 < ys.length by rw [hyl]; exact Nat.le_of_ble_eq_true rfl)] at e12
  obtain ⟨a12, g12, r12⟩ := rdo_int e12
  have e13 : DataW.trod enc Try.prog W 0 (fun _ => true) true m 24 ((cs.drop 14).take 2) = ys[13]? := by
    have g := hf 13 _ rfl
    exact (congrArg (fun z => DataW.trod enc Try.prog W 0 (fun _ => true) true m 24 ((cs.drop 14).take z)) cellsOf_Line).symm.trans g
  rw [List.getElem?_eq_getElem (show 13 < ys.length by rw [hyl]; exact Nat.le_of_ble_eq_true rfl)] at e13
  obtain ⟨a13, g13, r13⟩ := rdo_Line e13
  have e14 : DataW.trod enc Try.prog W 0 (fun _ => true) true m 22 ((cs.drop 16).take 1) = ys[14]? := by
    have g := hf 14 _ rfl
    exact (congrArg (fun z => DataW.trod enc Try.prog W 0 (fun _ => true) true m 22 ((cs.drop 16).take z)) cells_ints).symm.trans g
  rw [List.getElem?_eq_getElem (show 14 < ys.length by rw [hyl]; exact Nat.le_of_ble_eq_true rfl)] at e14
  obtain ⟨a14, g14, r14⟩ := rdo_ints e14
  have e15 : DataW.trod enc Try.prog W 0 (fun _ => true) true m 3 ((cs.drop 17).take 1) = ys[15]? := by
    have g := hf 15 _ rfl
    exact (congrArg (fun z => DataW.trod enc Try.prog W 0 (fun _ => true) true m 3 ((cs.drop 17).take z)) cells_int).symm.trans g
  rw [List.getElem?_eq_getElem (show 15 < ys.length by rw [hyl]; exact Nat.le_of_ble_eq_true rfl)] at e15
  obtain ⟨a15, g15, r15⟩ := rdo_int e15
  have e16 : DataW.trod enc Try.prog W 0 (fun _ => true) true m 24 ((cs.drop 18).take 2) = ys[16]? := by
    have g := hf 16 _ rfl
    exact (congrArg (fun z => DataW.trod enc Try.prog W 0 (fun _ => true) true m 24 ((cs.drop 18).take z)) cellsOf_Line).symm.trans g
  rw [List.getElem?_eq_getElem (show 16 < ys.length by rw [hyl]; exact Nat.le_of_ble_eq_true rfl)] at e16
  obtain ⟨a16, g16, r16⟩ := rdo_Line e16
  have z17 : Rds W (cs.drop 20) [] := by rw [List.drop_eq_nil_of_le (by omega)]; exact .nil
  have z16 := Rds.part 18 2 r16 z17
  have z15 := Rds.part 17 1 r15 z16
  have z14 := Rds.part 16 1 r14 z15
  have z13 := Rds.part 14 2 r13 z14
  have z12 := Rds.part 13 1 r12 z13
  have z11 := Rds.part 12 1 r11 z12
  have z10 := Rds.part 11 1 r10 z11
  have z9 := Rds.part 10 1 r9 z10
  have z8 := Rds.part 9 1 r8 z9
  have z7 := Rds.part 8 1 r7 z8
  have z6 := Rds.part 7 1 r6 z7
  have z5 := Rds.part 6 1 r5 z6
  have z4 := Rds.part 5 1 r4 z5
  have z3 := Rds.part 4 1 r3 z4
  have z2 := Rds.part 2 2 r2 z3
  have z1 := Rds.part 1 1 r1 z2
  have z0 := Rds.part 0 1 r0 z1
  exact ⟨⟨a0, a1, a2, a3, a4, a5, a6, a7, a8, a9, a10, a11, a12, a13, a14, a15, a16⟩, ⟨g1, g2, g3, g4, g5, g6, g7, g8, g9, g10, g11, g12, g13, g14, g15, g16⟩, z0⟩
set_option maxRecDepth 100000 in
theorem open_Line_in {base : Nat} {v : Value} {d : DataW H} {ps : List MemPlace} (hv : Value.okWide Try.prog W .any base 24 v) (h : DataW.Trod enc Try.prog W 0 (fun _ => true) true 24 v d ps) :
    ∃ (x : SLine) (p0 : Value), v = .agg #[p0, .int .i64 x.At] ∧ rngLine x ∧ Rd W p0 (Dv.ints x.Text) := by
  obtain ⟨cs, rfl, hsz⟩ := okWide_struct Try.underlying24 hv
  obtain ⟨f, hf⟩ := h
  obtain ⟨a, g, r⟩ := rdo_Line hf
  obtain ⟨p0, e, r0⟩ := rds_Line r
  have e' : cs.toList = _ := e
  exact ⟨a, p0, congrArg Value.agg (Array.toList_inj.1 e'), g, r0⟩
set_option maxRecDepth 100000 in
theorem open_slLine_in {base : Nat} {v : Value} {d : DataW H} {ps : List MemPlace} (hv : Value.okWide Try.prog W .any base 28 v) (h : DataW.Trod enc Try.prog W 0 (fun _ => true) true 28 v d ps) :
    ∃ l : List SLine, (∀ z ∈ l, rngLine z) ∧ Rd W v (.sl 2 (l.flatMap dLine)) := by
  obtain ⟨a0, len, cap, rfl⟩ := okWide_slice Try.underlying28 hv
  obtain ⟨f, hf⟩ := h
  obtain ⟨l, g, r⟩ := rdo_slLine hf
  exact ⟨l, g, Rds.one r⟩
set_option maxRecDepth 100000 in
theorem open_Piece_in {base : Nat} {v : Value} {d : DataW H} {ps : List MemPlace} (hv : Value.okWide Try.prog W .any base 115 v) (h : DataW.Trod enc Try.prog W 0 (fun _ => true) true 115 v d ps) :
    ∃ (x : SPiece) (p0 : Value), v = .agg #[p0] ∧ rngPiece x ∧ Rd W p0 (Dv.ints x.Text) := by
  obtain ⟨cs, rfl, hsz⟩ := okWide_struct Try.underlying115 hv
  obtain ⟨f, hf⟩ := h
  obtain ⟨a, g, r⟩ := rdo_Piece hf
  obtain ⟨p0, e, r0⟩ := rds_Piece r
  have e' : cs.toList = _ := e
  exact ⟨a, p0, congrArg Value.agg (Array.toList_inj.1 e'), g, r0⟩
set_option maxRecDepth 100000 in
theorem open_slPiece_in {base : Nat} {v : Value} {d : DataW H} {ps : List MemPlace} (hv : Value.okWide Try.prog W .any base 25 v) (h : DataW.Trod enc Try.prog W 0 (fun _ => true) true 25 v d ps) :
    ∃ l : List SPiece, (∀ z ∈ l, rngPiece z) ∧ Rd W v (.sl 1 (l.flatMap dPiece)) := by
  obtain ⟨a0, len, cap, rfl⟩ := okWide_slice Try.underlying25 hv
  obtain ⟨f, hf⟩ := h
  obtain ⟨l, g, r⟩ := rdo_slPiece hf
  exact ⟨l, g, Rds.one r⟩
set_option maxRecDepth 100000 in
theorem open_Ring_in {base : Nat} {v : Value} {d : DataW H} {ps : List MemPlace} (hv : Value.okWide Try.prog W .any base 27 v) (h : DataW.Trod enc Try.prog W 0 (fun _ => true) true 27 v d ps) :
    ∃ (x : SRing) (p0 : Value), v = .agg #[p0] ∧ rngRing x ∧ Rd W p0 (.sl 1 (x.Pieces.flatMap dPiece)) := by
  obtain ⟨cs, rfl, hsz⟩ := okWide_struct Try.underlying27 hv
  obtain ⟨f, hf⟩ := h
  obtain ⟨a, g, r⟩ := rdo_Ring hf
  obtain ⟨p0, e, r0⟩ := rds_Ring r
  have e' : cs.toList = _ := e
  exact ⟨a, p0, congrArg Value.agg (Array.toList_inj.1 e'), g, r0⟩
set_option maxRecDepth 100000 in
theorem open_Undo_in {base : Nat} {v : Value} {d : DataW H} {ps : List MemPlace} (hv : Value.okWide Try.prog W .any base 30 v) (h : DataW.Trod enc Try.prog W 0 (fun _ => true) true 30 v d ps) :
    ∃ (x : SUndo) (p0 : Value), v = .agg #[p0] ∧ rngUndo x ∧ Rd W p0 (.sl 2 (x.Lines.flatMap dLine)) := by
  obtain ⟨cs, rfl, hsz⟩ := okWide_struct Try.underlying30 hv
  obtain ⟨f, hf⟩ := h
  obtain ⟨a, g, r⟩ := rdo_Undo hf
  obtain ⟨p0, e, r0⟩ := rds_Undo r
  have e' : cs.toList = _ := e
  exact ⟨a, p0, congrArg Value.agg (Array.toList_inj.1 e'), g, r0⟩
set_option maxRecDepth 100000 in
theorem open_Ed_in {base : Nat} {v : Value} {d : DataW H} {ps : List MemPlace} (hv : Value.okWide Try.prog W .any base 32 v) (h : DataW.Trod enc Try.prog W 0 (fun _ => true) true 32 v d ps) :
    ∃ (x : SEd) (p0 p1 p2 p3 p4 p5 : Value), v = .agg #[.bool x.Vi, .int .i64 x.Mode, p0, .int .i64 x.Line.At, .int .i64 x.Count, .int .i64 x.Op, .int .i64 x.OpCount, .int .i64 x.Wait, .int .i64 x.FindR, .int .i64 x.FindHow, .int .i64 x.Last, p1, p2, .int .i64 x.Nav, p3, .int .i64 x.Own.At, p4, .int .i64 x.Hit, p5, .int .i64 x.Back.At] ∧ rngEd x ∧ Rd W p0 (Dv.ints x.Line.Text) ∧ Rd W p1 (.sl 1 (x.Ring.Pieces.flatMap dPiece)) ∧ Rd W p2 (.sl 2 (x.Undo.Lines.flatMap dLine)) ∧ Rd W p3 (Dv.ints x.Own.Text) ∧ Rd W p4 (Dv.ints x.Query) ∧ Rd W p5 (Dv.ints x.Back.Text) := by
  obtain ⟨cs, rfl, hsz⟩ := okWide_struct Try.underlying32 hv
  obtain ⟨f, hf⟩ := h
  obtain ⟨a, g, r⟩ := rdo_Ed hf
  obtain ⟨p0, p1, p2, p3, p4, p5, e, r0, r1, r2, r3, r4, r5⟩ := rds_Ed r
  have e' : cs.toList = _ := e
  exact ⟨a, p0, p1, p2, p3, p4, p5, congrArg Value.agg (Array.toList_inj.1 e'), g, r0, r1, r2, r3, r4, r5⟩
end
end Go.Proofs.Ytohjjhoobikioaa
