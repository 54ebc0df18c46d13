/-
  Structs of the laws, plainly: as data, their sizes.
-/
import Derived.Test.YtohjjhoobikioaaDoorDv
namespace Go.Proofs.YtohjjhoobikioaaDoor
open Go.RowKit

structure SNode where
  Id : Int
  Body : List UInt8
  Safe : List UInt8
instance : Inhabited SNode := ⟨⟨default, default, default⟩⟩
def dNode (x : SNode) : List Dv := [.one (.int .i64 x.Id), Dv.bytes x.Body, Dv.bytes x.Safe]
theorem dNode_len (x : SNode) : (dNode x).length = 3 := rfl
def sizeNode (x : SNode) : Nat := x.Body.length + x.Safe.length
def rngNode (x : SNode) : Prop := R64 x.Id
theorem rds_Node {w : World} {cs : List Value} {x : SNode} (h : Rds w cs (dNode x)) : ∃ p0 p1, cs = ([.int .i64 x.Id, p0, p1] : List Value) ∧ Rd w p0 (Dv.bytes x.Body) ∧ Rd w p1 (Dv.bytes x.Safe) := by
  unfold dNode at h
  obtain ⟨c0, cs0, rfl, h0, k0⟩ := h.uncons
  obtain rfl := h0.atv
  obtain ⟨c1, cs1, rfl, h1, k1⟩ := k0.uncons
  obtain ⟨c2, cs2, rfl, h2, k2⟩ := k1.uncons
  obtain rfl := k2.unnil
  exact ⟨_, _, rfl, h1, h2⟩
structure SLink where
  Name : List UInt8
  Id : Int
instance : Inhabited SLink := ⟨⟨default, default⟩⟩
def dLink (x : SLink) : List Dv := [.one (strC x.Name), .one (.int .i64 x.Id)]
theorem dLink_len (x : SLink) : (dLink x).length = 2 := rfl
def sizeLink (x : SLink) : Nat := x.Name.length
def rngLink (x : SLink) : Prop := R64 x.Id
theorem rds_Link {w : World} {cs : List Value} {x : SLink} (h : Rds w cs (dLink x)) : cs = ([.string ⟨x.Name.toArray⟩, .int .i64 x.Id] : List Value) := by
  unfold dLink at h
  obtain ⟨c0, cs0, rfl, h0, k0⟩ := h.uncons
  obtain rfl := h0.atv
  obtain ⟨c1, cs1, rfl, h1, k1⟩ := k0.uncons
  obtain rfl := h1.atv
  obtain rfl := k1.unnil
  rfl
structure STurn where
  Kind : Int
  Name : List UInt8
  To : List UInt8
  Id : Int
instance : Inhabited STurn := ⟨⟨default, default, default, default⟩⟩
def dTurn (x : STurn) : List Dv := [.one (.int .i64 x.Kind), .one (strC x.Name), .one (strC x.To), .one (.int .i64 x.Id)]
theorem dTurn_len (x : STurn) : (dTurn x).length = 4 := rfl
def sizeTurn (x : STurn) : Nat := x.Name.length + x.To.length
def rngTurn (x : STurn) : Prop := R64 x.Kind ∧ R64 x.Id
theorem rds_Turn {w : World} {cs : List Value} {x : STurn} (h : Rds w cs (dTurn x)) : cs = ([.int .i64 x.Kind, .string ⟨x.Name.toArray⟩, .string ⟨x.To.toArray⟩, .int .i64 x.Id] : List Value) := by
  unfold dTurn at h
  obtain ⟨c0, cs0, rfl, h0, k0⟩ := h.uncons
  obtain rfl := h0.atv
  obtain ⟨c1, cs1, rfl, h1, k1⟩ := k0.uncons
  obtain rfl := h1.atv
  obtain ⟨c2, cs2, rfl, h2, k2⟩ := k1.uncons
  obtain rfl := h2.atv
  obtain ⟨c3, cs3, rfl, h3, k3⟩ := k2.uncons
  obtain rfl := h3.atv
  obtain rfl := k3.unnil
  rfl
structure SDisk where
  Room : Int
  Fuse : Int
  Next : Int
  Nodes : List SNode
  Kept : List SLink
  Turns : List STurn
instance : Inhabited SDisk := ⟨⟨default, default, default, default, default, default⟩⟩
def dDisk (x : SDisk) : List Dv := [.one (.int .i64 x.Room), .one (.int .i64 x.Fuse), .one (.int .i64 x.Next), .sl 3 (x.Nodes.flatMap dNode), .sl 2 (x.Kept.flatMap dLink), .sl 4 (x.Turns.flatMap dTurn)]
theorem dDisk_len (x : SDisk) : (dDisk x).length = 6 := rfl
def sizeDisk (x : SDisk) : Nat := (x.Nodes.length + (x.Nodes.map sizeNode).sum) + (x.Kept.length + (x.Kept.map sizeLink).sum) + (x.Turns.length + (x.Turns.map sizeTurn).sum)
def rngDisk (x : SDisk) : Prop := R64 x.Room ∧ R64 x.Fuse ∧ R64 x.Next ∧ (∀ z ∈ x.Nodes, rngNode z) ∧ (∀ z ∈ x.Kept, rngLink z) ∧ (∀ z ∈ x.Turns, rngTurn z)
theorem rds_Disk {w : World} {cs : List Value} {x : SDisk} (h : Rds w cs (dDisk x)) : ∃ p0 p1 p2, cs = ([.int .i64 x.Room, .int .i64 x.Fuse, .int .i64 x.Next, p0, p1, p2] : List Value) ∧ Rd w p0 (.sl 3 (x.Nodes.flatMap dNode)) ∧ Rd w p1 (.sl 2 (x.Kept.flatMap dLink)) ∧ Rd w p2 (.sl 4 (x.Turns.flatMap dTurn)) := by
  unfold dDisk at h
  obtain ⟨c0, cs0, rfl, h0, k0⟩ := h.uncons
  obtain rfl := h0.atv
  obtain ⟨c1, cs1, rfl, h1, k1⟩ := k0.uncons
  obtain rfl := h1.atv
  obtain ⟨c2, cs2, rfl, h2, k2⟩ := k1.uncons
  obtain rfl := h2.atv
  obtain ⟨c3, cs3, rfl, h3, k3⟩ := k2.uncons
  obtain ⟨c4, cs4, rfl, h4, k4⟩ := k3.uncons
  obtain ⟨c5, cs5, rfl, h5, k5⟩ := k4.uncons
  obtain rfl := k5.unnil
  exact ⟨_, _, _, rfl, h3, h4, h5⟩
structure SEntry where
  Num : Int
  Text : List UInt8
instance : Inhabited SEntry := ⟨⟨default, default⟩⟩
def dEntry (x : SEntry) : List Dv := [.one (.int .i64 x.Num), .one (strC x.Text)]
theorem dEntry_len (x : SEntry) : (dEntry x).length = 2 := rfl
def sizeEntry (x : SEntry) : Nat := x.Text.length
def rngEntry (x : SEntry) : Prop := R64 x.Num
theorem rds_Entry {w : World} {cs : List Value} {x : SEntry} (h : Rds w cs (dEntry x)) : cs = ([.int .i64 x.Num, .string ⟨x.Text.toArray⟩] : List Value) := by
  unfold dEntry at h
  obtain ⟨c0, cs0, rfl, h0, k0⟩ := h.uncons
  obtain rfl := h0.atv
  obtain ⟨c1, cs1, rfl, h1, k1⟩ := k0.uncons
  obtain rfl := h1.atv
  obtain rfl := k1.unnil
  rfl
structure SStore where
  Disk : SDisk
  Keep : Int
  Size : Int
  List : List SEntry
  Len : Int
instance : Inhabited SStore := ⟨⟨default, default, default, default, default⟩⟩
def dStore (x : SStore) : List Dv := [.one (.int .i64 x.Disk.Room), .one (.int .i64 x.Disk.Fuse), .one (.int .i64 x.Disk.Next), .sl 3 (x.Disk.Nodes.flatMap dNode), .sl 2 (x.Disk.Kept.flatMap dLink), .sl 4 (x.Disk.Turns.flatMap dTurn), .one (.int .i64 x.Keep), .one (.int .i64 x.Size), .sl 2 (x.List.flatMap dEntry), .one (.int .i64 x.Len)]
theorem dStore_len (x : SStore) : (dStore x).length = 10 := rfl
def sizeStore (x : SStore) : Nat := sizeDisk x.Disk + (x.List.length + (x.List.map sizeEntry).sum)
def rngStore (x : SStore) : Prop := rngDisk x.Disk ∧ R64 x.Keep ∧ R64 x.Size ∧ (∀ z ∈ x.List, rngEntry z) ∧ R64 x.Len
theorem rds_Store {w : World} {cs : List Value} {x : SStore} (h : Rds w cs (dStore x)) : ∃ p0 p1 p2 p3, cs = ([.int .i64 x.Disk.Room, .int .i64 x.Disk.Fuse, .int .i64 x.Disk.Next, p0, p1, p2, .int .i64 x.Keep, .int .i64 x.Size, p3, .int .i64 x.Len] : List Value) ∧ Rd w p0 (.sl 3 (x.Disk.Nodes.flatMap dNode)) ∧ Rd w p1 (.sl 2 (x.Disk.Kept.flatMap dLink)) ∧ Rd w p2 (.sl 4 (x.Disk.Turns.flatMap dTurn)) ∧ Rd w p3 (.sl 2 (x.List.flatMap dEntry)) := by
  unfold dStore at h
  obtain ⟨c0, cs0, rfl, h0, k0⟩ := h.uncons
  obtain rfl := h0.atv
  obtain ⟨c1, cs1, rfl, h1, k1⟩ := k0.uncons
  obtain rfl := h1.atv
  obtain ⟨c2, cs2, rfl, h2, k2⟩ := k1.uncons
  obtain rfl := h2.atv
  obtain ⟨c3, cs3, rfl, h3, k3⟩ := k2.uncons
  obtain ⟨c4, cs4, rfl, h4, k4⟩ := k3.uncons
  obtain ⟨c5, cs5, rfl, h5, k5⟩ := k4.uncons
  obtain ⟨c6, cs6, rfl, h6, k6⟩ := k5.uncons
  obtain rfl := h6.atv
  obtain ⟨c7, cs7, rfl, h7, k7⟩ := k6.uncons
  obtain rfl := h7.atv
  obtain ⟨c8, cs8, rfl, h8, k8⟩ := k7.uncons
  obtain ⟨c9, cs9, rfl, h9, k9⟩ := k8.uncons
  obtain rfl := h9.atv
  obtain rfl := k9.unnil
  exact ⟨_, _, _, _, rfl, h3, h4, h5, h8⟩
structure SGrid where
  W : Int
  H : Int
  Cells : List Int
  X : Int
  Y : Int
  Wrap : Bool
instance : Inhabited SGrid := ⟨⟨default, default, default, default, default, default⟩⟩
def dGrid (x : SGrid) : List Dv := [.one (.int .i64 x.W), .one (.int .i64 x.H), Dv.ints x.Cells, .one (.int .i64 x.X), .one (.int .i64 x.Y), .one (.bool x.Wrap)]
theorem dGrid_len (x : SGrid) : (dGrid x).length = 6 := rfl
def sizeGrid (x : SGrid) : Nat := x.Cells.length
def rngGrid (x : SGrid) : Prop := R64 x.W ∧ R64 x.H ∧ (∀ z ∈ x.Cells, R64 z) ∧ R64 x.X ∧ R64 x.Y
theorem rds_Grid {w : World} {cs : List Value} {x : SGrid} (h : Rds w cs (dGrid x)) : ∃ p0, cs = ([.int .i64 x.W, .int .i64 x.H, p0, .int .i64 x.X, .int .i64 x.Y, .bool x.Wrap] : List Value) ∧ Rd w p0 (Dv.ints x.Cells) := by
  unfold dGrid at h
  obtain ⟨c0, cs0, rfl, h0, k0⟩ := h.uncons
  obtain rfl := h0.atv
  obtain ⟨c1, cs1, rfl, h1, k1⟩ := k0.uncons
  obtain rfl := h1.atv
  obtain ⟨c2, cs2, rfl, h2, k2⟩ := k1.uncons
  obtain ⟨c3, cs3, rfl, h3, k3⟩ := k2.uncons
  obtain rfl := h3.atv
  obtain ⟨c4, cs4, rfl, h4, k4⟩ := k3.uncons
  obtain rfl := h4.atv
  obtain ⟨c5, cs5, rfl, h5, k5⟩ := k4.uncons
  obtain rfl := h5.atv
  obtain rfl := k5.unnil
  exact ⟨_, rfl, h2⟩
structure SKey where
  Kind : Int
  R : Int
instance : Inhabited SKey := ⟨⟨default, default⟩⟩
def dKey (x : SKey) : List Dv := [.one (.int .i64 x.Kind), .one (.int .i64 x.R)]
theorem dKey_len (x : SKey) : (dKey x).length = 2 := rfl
def sizeKey (_ : SKey) : Nat := 0
def rngKey (x : SKey) : Prop := R64 x.Kind ∧ R64 x.R
theorem rds_Key {w : World} {cs : List Value} {x : SKey} (h : Rds w cs (dKey x)) : cs = ([.int .i64 x.Kind, .int .i64 x.R] : List Value) := by
  unfold dKey at h
  obtain ⟨c0, cs0, rfl, h0, k0⟩ := h.uncons
  obtain rfl := h0.atv
  obtain ⟨c1, cs1, rfl, h1, k1⟩ := k0.uncons
  obtain rfl := h1.atv
  obtain rfl := k1.unnil
  rfl
structure SDec where
  State : Int
  Part : List UInt8
instance : Inhabited SDec := ⟨⟨default, default⟩⟩
def dDec (x : SDec) : List Dv := [.one (.int .i64 x.State), Dv.bytes x.Part]
theorem dDec_len (x : SDec) : (dDec x).length = 2 := rfl
def sizeDec (x : SDec) : Nat := x.Part.length
def rngDec (x : SDec) : Prop := R64 x.State
theorem rds_Dec {w : World} {cs : List Value} {x : SDec} (h : Rds w cs (dDec x)) : ∃ p0, cs = ([.int .i64 x.State, p0] : List Value) ∧ Rd w p0 (Dv.bytes x.Part) := by
  unfold dDec at h
  obtain ⟨c0, cs0, rfl, h0, k0⟩ := h.uncons
  obtain rfl := h0.atv
  obtain ⟨c1, cs1, rfl, h1, k1⟩ := k0.uncons
  obtain rfl := k1.unnil
  exact ⟨_, rfl, h1⟩
structure SLine where
  Text : List Int
  At : Int
instance : Inhabited SLine := ⟨⟨default, default⟩⟩
def dLine (x : SLine) : List Dv := [Dv.ints x.Text, .one (.int .i64 x.At)]
theorem dLine_len (x : SLine) : (dLine x).length = 2 := rfl
def sizeLine (x : SLine) : Nat := x.Text.length
def rngLine (x : SLine) : Prop := (∀ z ∈ x.Text, R64 z) ∧ R64 x.At
theorem rds_Line {w : World} {cs : List Value} {x : SLine} (h : Rds w cs (dLine x)) : ∃ p0, cs = ([p0, .int .i64 x.At] : List Value) ∧ Rd w p0 (Dv.ints x.Text) := by
  unfold dLine at h
  obtain ⟨c0, cs0, rfl, h0, k0⟩ := h.uncons
  obtain ⟨c1, cs1, rfl, h1, k1⟩ := k0.uncons
  obtain rfl := h1.atv
  obtain rfl := k1.unnil
  exact ⟨_, rfl, h0⟩
structure SPiece where
  Text : List Int
instance : Inhabited SPiece := ⟨⟨default⟩⟩
def dPiece (x : SPiece) : List Dv := [Dv.ints x.Text]
theorem dPiece_len (x : SPiece) : (dPiece x).length = 1 := rfl
def sizePiece (x : SPiece) : Nat := x.Text.length
def rngPiece (x : SPiece) : Prop := (∀ z ∈ x.Text, R64 z)
theorem rds_Piece {w : World} {cs : List Value} {x : SPiece} (h : Rds w cs (dPiece x)) : ∃ p0, cs = ([p0] : List Value) ∧ Rd w p0 (Dv.ints x.Text) := by
  unfold dPiece at h
  obtain ⟨c0, cs0, rfl, h0, k0⟩ := h.uncons
  obtain rfl := k0.unnil
  exact ⟨_, rfl, h0⟩
structure SRing where
  Pieces : List SPiece
instance : Inhabited SRing := ⟨⟨default⟩⟩
def dRing (x : SRing) : List Dv := [.sl 1 (x.Pieces.flatMap dPiece)]
theorem dRing_len (x : SRing) : (dRing x).length = 1 := rfl
def sizeRing (x : SRing) : Nat := (x.Pieces.length + (x.Pieces.map sizePiece).sum)
def rngRing (x : SRing) : Prop := (∀ z ∈ x.Pieces, rngPiece z)
theorem rds_Ring {w : World} {cs : List Value} {x : SRing} (h : Rds w cs (dRing x)) : ∃ p0, cs = ([p0] : List Value) ∧ Rd w p0 (.sl 1 (x.Pieces.flatMap dPiece)) := by
  unfold dRing at h
  obtain ⟨c0, cs0, rfl, h0, k0⟩ := h.uncons
  obtain rfl := k0.unnil
  exact ⟨_, rfl, h0⟩
structure SUndo where
  Lines : List SLine
instance : Inhabited SUndo := ⟨⟨default⟩⟩
def dUndo (x : SUndo) : List Dv := [.sl 2 (x.Lines.flatMap dLine)]
theorem dUndo_len (x : SUndo) : (dUndo x).length = 1 := rfl
def sizeUndo (x : SUndo) : Nat := (x.Lines.length + (x.Lines.map sizeLine).sum)
def rngUndo (x : SUndo) : Prop := (∀ z ∈ x.Lines, rngLine z)
theorem rds_Undo {w : World} {cs : List Value} {x : SUndo} (h : Rds w cs (dUndo x)) : ∃ p0, cs = ([p0] : List Value) ∧ Rd w p0 (.sl 2 (x.Lines.flatMap dLine)) := by
  unfold dUndo at h
  obtain ⟨c0, cs0, rfl, h0, k0⟩ := h.uncons
  obtain rfl := k0.unnil
  exact ⟨_, rfl, h0⟩
structure SHist where
  First : Int
  Lines : List (List UInt8)
instance : Inhabited SHist := ⟨⟨default, default⟩⟩
def dHist (x : SHist) : List Dv := [.one (.int .i64 x.First), Dv.strs x.Lines]
theorem dHist_len (x : SHist) : (dHist x).length = 2 := rfl
def sizeHist (x : SHist) : Nat := (x.Lines.length + (x.Lines.map List.length).sum)
def rngHist (x : SHist) : Prop := R64 x.First
theorem rds_Hist {w : World} {cs : List Value} {x : SHist} (h : Rds w cs (dHist x)) : ∃ p0, cs = ([.int .i64 x.First, p0] : List Value) ∧ Rd w p0 (Dv.strs x.Lines) := by
  unfold dHist at h
  obtain ⟨c0, cs0, rfl, h0, k0⟩ := h.uncons
  obtain rfl := h0.atv
  obtain ⟨c1, cs1, rfl, h1, k1⟩ := k0.uncons
  obtain rfl := k1.unnil
  exact ⟨_, rfl, h1⟩
structure SRef where
  Kind : Int
  N : Int
  Text : List UInt8
  End : Int
instance : Inhabited SRef := ⟨⟨default, default, default, default⟩⟩
def dRef (x : SRef) : List Dv := [.one (.int .i64 x.Kind), .one (.int .i64 x.N), .one (strC x.Text), .one (.int .i64 x.End)]
theorem dRef_len (x : SRef) : (dRef x).length = 4 := rfl
def sizeRef (x : SRef) : Nat := x.Text.length
def rngRef (x : SRef) : Prop := R64 x.Kind ∧ R64 x.N ∧ R64 x.End
theorem rds_Ref {w : World} {cs : List Value} {x : SRef} (h : Rds w cs (dRef x)) : cs = ([.int .i64 x.Kind, .int .i64 x.N, .string ⟨x.Text.toArray⟩, .int .i64 x.End] : List Value) := by
  unfold dRef at h
  obtain ⟨c0, cs0, rfl, h0, k0⟩ := h.uncons
  obtain rfl := h0.atv
  obtain ⟨c1, cs1, rfl, h1, k1⟩ := k0.uncons
  obtain rfl := h1.atv
  obtain ⟨c2, cs2, rfl, h2, k2⟩ := k1.uncons
  obtain rfl := h2.atv
  obtain ⟨c3, cs3, rfl, h3, k3⟩ := k2.uncons
  obtain rfl := h3.atv
  obtain rfl := k3.unnil
  rfl
structure SEd where
  Vi : Bool
  Mode : Int
  Line : SLine
  Count : Int
  Op : Int
  OpCount : Int
  Wait : Int
  FindR : Int
  FindHow : Int
  Last : Int
  Ring : SRing
  Undo : SUndo
  Nav : Int
  Own : SLine
  Query : List Int
  Hit : Int
  Back : SLine
instance : Inhabited SEd := ⟨⟨default, default, default, default, default, default, default, default, default, default, default, default, default, default, default, default, default⟩⟩
def dEd (x : SEd) : List Dv := [.one (.bool x.Vi), .one (.int .i64 x.Mode), Dv.ints x.Line.Text, .one (.int .i64 x.Line.At), .one (.int .i64 x.Count), .one (.int .i64 x.Op), .one (.int .i64 x.OpCount), .one (.int .i64 x.Wait), .one (.int .i64 x.FindR), .one (.int .i64 x.FindHow), .one (.int .i64 x.Last), .sl 1 (x.Ring.Pieces.flatMap dPiece), .sl 2 (x.Undo.Lines.flatMap dLine), .one (.int .i64 x.Nav), Dv.ints x.Own.Text, .one (.int .i64 x.Own.At), Dv.ints x.Query, .one (.int .i64 x.Hit), Dv.ints x.Back.Text, .one (.int .i64 x.Back.At)]
theorem dEd_len (x : SEd) : (dEd x).length = 20 := rfl
def sizeEd (x : SEd) : Nat := sizeLine x.Line + sizeRing x.Ring + sizeUndo x.Undo + sizeLine x.Own + x.Query.length + sizeLine x.Back
def rngEd (x : SEd) : Prop := R64 x.Mode ∧ rngLine x.Line ∧ R64 x.Count ∧ R64 x.Op ∧ R64 x.OpCount ∧ R64 x.Wait ∧ R64 x.FindR ∧ R64 x.FindHow ∧ R64 x.Last ∧ rngRing x.Ring ∧ rngUndo x.Undo ∧ R64 x.Nav ∧ rngLine x.Own ∧ (∀ z ∈ x.Query, R64 z) ∧ R64 x.Hit ∧ rngLine x.Back
theorem rds_Ed {w : World} {cs : List Value} {x : SEd} (h : Rds w cs (dEd x)) : ∃ p0 p1 p2 p3 p4 p5, cs = ([.bool x.Vi, .int .i64 x.Mode, p0, .int .i64 x.Line.At, .int .i64 x.Count, .int .i64 x.Op, .int .i64 x.OpCount, .int .i64 x.Wait, .int .i64 x.FindR, .int .i64 x.FindHow, .int .i64 x.Last, p1, p2, .int .i64 x.Nav, p3, .int .i64 x.Own.At, p4, .int .i64 x.Hit, p5, .int .i64 x.Back.At] : List Value) ∧ Rd w p0 (Dv.ints x.Line.Text) ∧ Rd w p1 (.sl 1 (x.Ring.Pieces.flatMap dPiece)) ∧ Rd w p2 (.sl 2 (x.Undo.Lines.flatMap dLine)) ∧ Rd w p3 (Dv.ints x.Own.Text) ∧ Rd w p4 (Dv.ints x.Query) ∧ Rd w p5 (Dv.ints x.Back.Text) := by
  unfold dEd at h
  obtain ⟨c0, cs0, rfl, h0, k0⟩ := h.uncons
  obtain rfl := h0.atv
  obtain ⟨c1, cs1, rfl, h1, k1⟩ := k0.uncons
  obtain rfl := h1.atv
  obtain ⟨c2, cs2, rfl, h2, k2⟩ := k1.uncons
  obtain ⟨c3, cs3, rfl, h3, k3⟩ := k2.uncons
  obtain rfl := h3.atv
  obtain ⟨c4, cs4, rfl, h4, k4⟩ := k3.uncons
  obtain rfl := h4.atv
  obtain ⟨c5, cs5, rfl, h5, k5⟩ := k4.uncons
  obtain rfl := h5.atv
  obtain ⟨c6, cs6, rfl, h6, k6⟩ := k5.uncons
  obtain rfl := h6.atv
  obtain ⟨c7, cs7, rfl, h7, k7⟩ := k6.uncons
  obtain rfl := h7.atv
  obtain ⟨c8, cs8, rfl, h8, k8⟩ := k7.uncons
  obtain rfl := h8.atv
  obtain ⟨c9, cs9, rfl, h9, k9⟩ := k8.uncons
  obtain rfl := h9.atv
  obtain ⟨c10, cs10, rfl, h10, k10⟩ := k9.uncons
  obtain rfl := h10.atv
  obtain ⟨c11, cs11, rfl, h11, k11⟩ := k10.uncons
  obtain ⟨c12, cs12, rfl, h12, k12⟩ := k11.uncons
  obtain ⟨c13, cs13, rfl, h13, k13⟩ := k12.uncons
  obtain rfl := h13.atv
  obtain ⟨c14, cs14, rfl, h14, k14⟩ := k13.uncons
  obtain ⟨c15, cs15, rfl, h15, k15⟩ := k14.uncons
  obtain rfl := h15.atv
  obtain ⟨c16, cs16, rfl, h16, k16⟩ := k15.uncons
  obtain ⟨c17, cs17, rfl, h17, k17⟩ := k16.uncons
  obtain rfl := h17.atv
  obtain ⟨c18, cs18, rfl, h18, k18⟩ := k17.uncons
  obtain ⟨c19, cs19, rfl, h19, k19⟩ := k18.uncons
  obtain rfl := h19.atv
  obtain rfl := k19.unnil
  exact ⟨_, _, _, _, _, _, rfl, h2, h11, h12, h14, h16, h18⟩
structure SPaint where
  W : Int
  H : Int
  Known : Bool
  Shown : SGrid
instance : Inhabited SPaint := ⟨⟨default, default, default, default⟩⟩
def dPaint (x : SPaint) : List Dv := [.one (.int .i64 x.W), .one (.int .i64 x.H), .one (.bool x.Known), .one (.int .i64 x.Shown.W), .one (.int .i64 x.Shown.H), Dv.ints x.Shown.Cells, .one (.int .i64 x.Shown.X), .one (.int .i64 x.Shown.Y), .one (.bool x.Shown.Wrap)]
theorem dPaint_len (x : SPaint) : (dPaint x).length = 9 := rfl
def sizePaint (x : SPaint) : Nat := sizeGrid x.Shown
def rngPaint (x : SPaint) : Prop := R64 x.W ∧ R64 x.H ∧ rngGrid x.Shown
theorem rds_Paint {w : World} {cs : List Value} {x : SPaint} (h : Rds w cs (dPaint x)) : ∃ p0, cs = ([.int .i64 x.W, .int .i64 x.H, .bool x.Known, .int .i64 x.Shown.W, .int .i64 x.Shown.H, p0, .int .i64 x.Shown.X, .int .i64 x.Shown.Y, .bool x.Shown.Wrap] : List Value) ∧ Rd w p0 (Dv.ints x.Shown.Cells) := by
  unfold dPaint at h
  obtain ⟨c0, cs0, rfl, h0, k0⟩ := h.uncons
  obtain rfl := h0.atv
  obtain ⟨c1, cs1, rfl, h1, k1⟩ := k0.uncons
  obtain rfl := h1.atv
  obtain ⟨c2, cs2, rfl, h2, k2⟩ := k1.uncons
  obtain rfl := h2.atv
  obtain ⟨c3, cs3, rfl, h3, k3⟩ := k2.uncons
  obtain rfl := h3.atv
  obtain ⟨c4, cs4, rfl, h4, k4⟩ := k3.uncons
  obtain rfl := h4.atv
  obtain ⟨c5, cs5, rfl, h5, k5⟩ := k4.uncons
  obtain ⟨c6, cs6, rfl, h6, k6⟩ := k5.uncons
  obtain rfl := h6.atv
  obtain ⟨c7, cs7, rfl, h7, k7⟩ := k6.uncons
  obtain rfl := h7.atv
  obtain ⟨c8, cs8, rfl, h8, k8⟩ := k7.uncons
  obtain rfl := h8.atv
  obtain rfl := k8.unnil
  exact ⟨_, rfl, h5⟩
structure SSent where
  Text : List UInt8
  Bad : Bool
  Code : Int
instance : Inhabited SSent := ⟨⟨default, default, default⟩⟩
def dSent (x : SSent) : List Dv := [.one (strC x.Text), .one (.bool x.Bad), .one (.int .i64 x.Code)]
theorem dSent_len (x : SSent) : (dSent x).length = 3 := rfl
def sizeSent (x : SSent) : Nat := x.Text.length
def rngSent (x : SSent) : Prop := R64 x.Code
theorem rds_Sent {w : World} {cs : List Value} {x : SSent} (h : Rds w cs (dSent x)) : cs = ([.string ⟨x.Text.toArray⟩, .bool x.Bad, .int .i64 x.Code] : List Value) := by
  unfold dSent at h
  obtain ⟨c0, cs0, rfl, h0, k0⟩ := h.uncons
  obtain rfl := h0.atv
  obtain ⟨c1, cs1, rfl, h1, k1⟩ := k0.uncons
  obtain rfl := h1.atv
  obtain ⟨c2, cs2, rfl, h2, k2⟩ := k1.uncons
  obtain rfl := h2.atv
  obtain rfl := k2.unnil
  rfl
structure SSession where
  Vi : Bool
  Keep : Int
  Size : Int
  Up : Bool
  Store : SStore
  Disk : SDisk
  Paint : SPaint
  Dec : SDec
  Ed : SEd
  Hist : SHist
  Acc : List UInt8
  Note : List UInt8
  Sent : List SSent
instance : Inhabited SSession := ⟨⟨default, default, default, default, default, default, default, default, default, default, default, default, default⟩⟩
def dSession (x : SSession) : List Dv := [.one (.bool x.Vi), .one (.int .i64 x.Keep), .one (.int .i64 x.Size), .one (.bool x.Up), .one (.int .i64 x.Store.Disk.Room), .one (.int .i64 x.Store.Disk.Fuse), .one (.int .i64 x.Store.Disk.Next), .sl 3 (x.Store.Disk.Nodes.flatMap dNode), .sl 2 (x.Store.Disk.Kept.flatMap dLink), .sl 4 (x.Store.Disk.Turns.flatMap dTurn), .one (.int .i64 x.Store.Keep), .one (.int .i64 x.Store.Size), .sl 2 (x.Store.List.flatMap dEntry), .one (.int .i64 x.Store.Len), .one (.int .i64 x.Disk.Room), .one (.int .i64 x.Disk.Fuse), .one (.int .i64 x.Disk.Next), .sl 3 (x.Disk.Nodes.flatMap dNode), .sl 2 (x.Disk.Kept.flatMap dLink), .sl 4 (x.Disk.Turns.flatMap dTurn), .one (.int .i64 x.Paint.W), .one (.int .i64 x.Paint.H), .one (.bool x.Paint.Known), .one (.int .i64 x.Paint.Shown.W), .one (.int .i64 x.Paint.Shown.H), Dv.ints x.Paint.Shown.Cells, .one (.int .i64 x.Paint.Shown.X), .one (.int .i64 x.Paint.Shown.Y), .one (.bool x.Paint.Shown.Wrap), .one (.int .i64 x.Dec.State), Dv.bytes x.Dec.Part, .one (.bool x.Ed.Vi), .one (.int .i64 x.Ed.Mode), Dv.ints x.Ed.Line.Text, .one (.int .i64 x.Ed.Line.At), .one (.int .i64 x.Ed.Count), .one (.int .i64 x.Ed.Op), .one (.int .i64 x.Ed.OpCount), .one (.int .i64 x.Ed.Wait), .one (.int .i64 x.Ed.FindR), .one (.int .i64 x.Ed.FindHow), .one (.int .i64 x.Ed.Last), .sl 1 (x.Ed.Ring.Pieces.flatMap dPiece), .sl 2 (x.Ed.Undo.Lines.flatMap dLine), .one (.int .i64 x.Ed.Nav), Dv.ints x.Ed.Own.Text, .one (.int .i64 x.Ed.Own.At), Dv.ints x.Ed.Query, .one (.int .i64 x.Ed.Hit), Dv.ints x.Ed.Back.Text, .one (.int .i64 x.Ed.Back.At), .one (.int .i64 x.Hist.First), Dv.strs x.Hist.Lines, .one (strC x.Acc), .one (strC x.Note), .sl 3 (x.Sent.flatMap dSent)]
theorem dSession_len (x : SSession) : (dSession x).length = 56 := rfl
def sizeSession (x : SSession) : Nat := sizeStore x.Store + sizeDisk x.Disk + sizePaint x.Paint + sizeDec x.Dec + sizeEd x.Ed + sizeHist x.Hist + x.Acc.length + x.Note.length + (x.Sent.length + (x.Sent.map sizeSent).sum)
def rngSession (x : SSession) : Prop := R64 x.Keep ∧ R64 x.Size ∧ rngStore x.Store ∧ rngDisk x.Disk ∧ rngPaint x.Paint ∧ rngDec x.Dec ∧ rngEd x.Ed ∧ rngHist x.Hist ∧ (∀ z ∈ x.Sent, rngSent z)
theorem rds_Session {w : World} {cs : List Value} {x : SSession} (h : Rds w cs (dSession x)) : ∃ p0 p1 p2 p3 p4 p5 p6 p7 p8 p9 p10 p11 p12 p13 p14 p15 p16, cs = ([.bool x.Vi, .int .i64 x.Keep, .int .i64 x.Size, .bool x.Up, .int .i64 x.Store.Disk.Room, .int .i64 x.Store.Disk.Fuse, .int .i64 x.Store.Disk.Next, p0, p1, p2, .int .i64 x.Store.Keep, .int .i64 x.Store.Size, p3, .int .i64 x.Store.Len, .int .i64 x.Disk.Room, .int .i64 x.Disk.Fuse, .int .i64 x.Disk.Next, p4, p5, p6, .int .i64 x.Paint.W, .int .i64 x.Paint.H, .bool x.Paint.Known, .int .i64 x.Paint.Shown.W, .int .i64 x.Paint.Shown.H, p7, .int .i64 x.Paint.Shown.X, .int .i64 x.Paint.Shown.Y, .bool x.Paint.Shown.Wrap, .int .i64 x.Dec.State, p8, .bool x.Ed.Vi, .int .i64 x.Ed.Mode, p9, .int .i64 x.Ed.Line.At, .int .i64 x.Ed.Count, .int .i64 x.Ed.Op, .int .i64 x.Ed.OpCount, .int .i64 x.Ed.Wait, .int .i64 x.Ed.FindR, .int .i64 x.Ed.FindHow, .int .i64 x.Ed.Last, p10, p11, .int .i64 x.Ed.Nav, p12, .int .i64 x.Ed.Own.At, p13, .int .i64 x.Ed.Hit, p14, .int .i64 x.Ed.Back.At, .int .i64 x.Hist.First, p15, .string ⟨x.Acc.toArray⟩, .string ⟨x.Note.toArray⟩, p16] : List Value) ∧ Rd w p0 (.sl 3 (x.Store.Disk.Nodes.flatMap dNode)) ∧ Rd w p1 (.sl 2 (x.Store.Disk.Kept.flatMap dLink)) ∧ Rd w p2 (.sl 4 (x.Store.Disk.Turns.flatMap dTurn)) ∧ Rd w p3 (.sl 2 (x.Store.List.flatMap dEntry)) ∧ Rd w p4 (.sl 3 (x.Disk.Nodes.flatMap dNode)) ∧ Rd w p5 (.sl 2 (x.Disk.Kept.flatMap dLink)) ∧ Rd w p6 (.sl 4 (x.Disk.Turns.flatMap dTurn)) ∧ Rd w p7 (Dv.ints x.Paint.Shown.Cells) ∧ Rd w p8 (Dv.bytes x.Dec.Part) ∧ Rd w p9 (Dv.ints x.Ed.Line.Text) ∧ Rd w p10 (.sl 1 (x.Ed.Ring.Pieces.flatMap dPiece)) ∧ Rd w p11 (.sl 2 (x.Ed.Undo.Lines.flatMap dLine)) ∧ Rd w p12 (Dv.ints x.Ed.Own.Text) ∧ Rd w p13 (Dv.ints x.Ed.Query) ∧ Rd w p14 (Dv.ints x.Ed.Back.Text) ∧ Rd w p15 (Dv.strs x.Hist.Lines) ∧ Rd w p16 (.sl 3 (x.Sent.flatMap dSent)) := by
  unfold dSession at h
  obtain ⟨c0, cs0, rfl, h0, k0⟩ := h.uncons
  obtain rfl := h0.atv
  obtain ⟨c1, cs1, rfl, h1, k1⟩ := k0.uncons
  obtain rfl := h1.atv
  obtain ⟨c2, cs2, rfl, h2, k2⟩ := k1.uncons
  obtain rfl := h2.atv
  obtain ⟨c3, cs3, rfl, h3, k3⟩ := k2.uncons
  obtain rfl := h3.atv
  obtain ⟨c4, cs4, rfl, h4, k4⟩ := k3.uncons
  obtain rfl := h4.atv
  obtain ⟨c5, cs5, rfl, h5, k5⟩ := k4.uncons
  obtain rfl := h5.atv
  obtain ⟨c6, cs6, rfl, h6, k6⟩ := k5.uncons
  obtain rfl := h6.atv
  obtain ⟨c7, cs7, rfl, h7, k7⟩ := k6.uncons
  obtain ⟨c8, cs8, rfl, h8, k8⟩ := k7.uncons
  obtain ⟨c9, cs9, rfl, h9, k9⟩ := k8.uncons
  obtain ⟨c10, cs10, rfl, h10, k10⟩ := k9.uncons
  obtain rfl := h10.atv
  obtain ⟨c11, cs11, rfl, h11, k11⟩ := k10.uncons
  obtain rfl := h11.atv
  obtain ⟨c12, cs12, rfl, h12, k12⟩ := k11.uncons
  obtain ⟨c13, cs13, rfl, h13, k13⟩ := k12.uncons
  obtain rfl := h13.atv
  obtain ⟨c14, cs14, rfl, h14, k14⟩ := k13.uncons
  obtain rfl := h14.atv
  obtain ⟨c15, cs15, rfl, h15, k15⟩ := k14.uncons
  obtain rfl := h15.atv
  obtain ⟨c16, cs16, rfl, h16, k16⟩ := k15.uncons
  obtain rfl := h16.atv
  obtain ⟨c17, cs17, rfl, h17, k17⟩ := k16.uncons
  obtain ⟨c18, cs18, rfl, h18, k18⟩ := k17.uncons
  obtain ⟨c19, cs19, rfl, h19, k19⟩ := k18.uncons
  obtain ⟨c20, cs20, rfl, h20, k20⟩ := k19.uncons
  obtain rfl := h20.atv
  obtain ⟨c21, cs21, rfl, h21, k21⟩ := k20.uncons
  obtain rfl := h21.atv
  obtain ⟨c22, cs22, rfl, h22, k22⟩ := k21.uncons
  obtain rfl := h22.atv
  obtain ⟨c23, cs23, rfl, h23, k23⟩ := k22.uncons
  obtain rfl := h23.atv
  obtain ⟨c24, cs24, rfl, h24, k24⟩ := k23.uncons
  obtain rfl := h24.atv
  obtain ⟨c25, cs25, rfl, h25, k25⟩ := k24.uncons
  obtain ⟨c26, cs26, rfl, h26, k26⟩ := k25.uncons
  obtain rfl := h26.atv
  obtain ⟨c27, cs27, rfl, h27, k27⟩ := k26.uncons
  obtain rfl := h27.atv
  obtain ⟨c28, cs28, rfl, h28, k28⟩ := k27.uncons
  obtain rfl := h28.atv
  obtain ⟨c29, cs29, rfl, h29, k29⟩ := k28.uncons
  obtain rfl := h29.atv
  obtain ⟨c30, cs30, rfl, h30, k30⟩ := k29.uncons
  obtain ⟨c31, cs31, rfl, h31, k31⟩ := k30.uncons
  obtain rfl := h31.atv
  obtain ⟨c32, cs32, rfl, h32, k32⟩ := k31.uncons
  obtain rfl := h32.atv
  obtain ⟨c33, cs33, rfl, h33, k33⟩ := k32.uncons
  obtain ⟨c34, cs34, rfl, h34, k34⟩ := k33.uncons
  obtain rfl := h34.atv
  obtain ⟨c35, cs35, rfl, h35, k35⟩ := k34.uncons
  obtain rfl := h35.atv
  obtain ⟨c36, cs36, rfl, h36, k36⟩ := k35.uncons
  obtain rfl := h36.atv
  obtain ⟨c37, cs37, rfl, h37, k37⟩ := k36.uncons
  obtain rfl := h37.atv
  obtain ⟨c38, cs38, rfl, h38, k38⟩ := k37.uncons
  obtain rfl := h38.atv
  obtain ⟨c39, cs39, rfl, h39, k39⟩ := k38.uncons
  obtain rfl := h39.atv
  obtain ⟨c40, cs40, rfl, h40, k40⟩ := k39.uncons
  obtain rfl := h40.atv
  obtain ⟨c41, cs41, rfl, h41, k41⟩ := k40.uncons
  obtain rfl := h41.atv
  obtain ⟨c42, cs42, rfl, h42, k42⟩ := k41.uncons
  obtain ⟨c43, cs43, rfl, h43, k43⟩ := k42.uncons
  obtain ⟨c44, cs44, rfl, h44, k44⟩ := k43.uncons
  obtain rfl := h44.atv
  obtain ⟨c45, cs45, rfl, h45, k45⟩ := k44.uncons
  obtain ⟨c46, cs46, rfl, h46, k46⟩ := k45.uncons
  obtain rfl := h46.atv
  obtain ⟨c47, cs47, rfl, h47, k47⟩ := k46.uncons
  obtain ⟨c48, cs48, rfl, h48, k48⟩ := k47.uncons
  obtain rfl := h48.atv
  obtain ⟨c49, cs49, rfl, h49, k49⟩ := k48.uncons
  obtain ⟨c50, cs50, rfl, h50, k50⟩ := k49.uncons
  obtain rfl := h50.atv
  obtain ⟨c51, cs51, rfl, h51, k51⟩ := k50.uncons
  obtain rfl := h51.atv
  obtain ⟨c52, cs52, rfl, h52, k52⟩ := k51.uncons
  obtain ⟨c53, cs53, rfl, h53, k53⟩ := k52.uncons
  obtain rfl := h53.atv
  obtain ⟨c54, cs54, rfl, h54, k54⟩ := k53.uncons
  obtain rfl := h54.atv
  obtain ⟨c55, cs55, rfl, h55, k55⟩ := k54.uncons
  obtain rfl := k55.unnil
  exact ⟨_, _, _, _, _, _, _, _, _, _, _, _, _, _, _, _, _, rfl, h7, h8, h9, h12, h17, h18, h19, h25, h30, h33, h42, h43, h45, h47, h49, h52, h55⟩
structure SEvent where
  Kind : Int
  A : Int
  B : Int
  Cuts : List Int
instance : Inhabited SEvent := ⟨⟨default, default, default, default⟩⟩
def dEvent (x : SEvent) : List Dv := [.one (.int .i64 x.Kind), .one (.int .i64 x.A), .one (.int .i64 x.B), Dv.ints x.Cuts]
theorem dEvent_len (x : SEvent) : (dEvent x).length = 4 := rfl
def sizeEvent (x : SEvent) : Nat := x.Cuts.length
def rngEvent (x : SEvent) : Prop := R64 x.Kind ∧ R64 x.A ∧ R64 x.B ∧ (∀ z ∈ x.Cuts, R64 z)
theorem rds_Event {w : World} {cs : List Value} {x : SEvent} (h : Rds w cs (dEvent x)) : ∃ p0, cs = ([.int .i64 x.Kind, .int .i64 x.A, .int .i64 x.B, p0] : List Value) ∧ Rd w p0 (Dv.ints x.Cuts) := by
  unfold dEvent at h
  obtain ⟨c0, cs0, rfl, h0, k0⟩ := h.uncons
  obtain rfl := h0.atv
  obtain ⟨c1, cs1, rfl, h1, k1⟩ := k0.uncons
  obtain rfl := h1.atv
  obtain ⟨c2, cs2, rfl, h2, k2⟩ := k1.uncons
  obtain rfl := h2.atv
  obtain ⟨c3, cs3, rfl, h3, k3⟩ := k2.uncons
  obtain rfl := k3.unnil
  exact ⟨_, rfl, h3⟩
end Go.Proofs.YtohjjhoobikioaaDoor
