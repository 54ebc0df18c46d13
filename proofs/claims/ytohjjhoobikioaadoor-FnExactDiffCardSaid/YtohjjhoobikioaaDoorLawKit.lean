/-
  What the laws' walks share: boxes seen as facts, what a drawn region keeps.
-/
import Derived.Test.YtohjjhoobikioaaDoorSep2
import Derived.Test.YtohjjhoobikioaaDoorGBox
import Derived.Test.YtohjjhoobikioaaDoorHelpB
import Derived.Test.YtohjjhoobikioaaDoorPHelp
namespace Go.Proofs.YtohjjhoobikioaaDoor
open Go.RowKit

theorem St.gb {W w : World} {L : List Pc} {b : Nat} {T : TypeId} {gW gH gX gY : Int} {gR : Bool} {v : Value} (S : St W w L) (i : Nat) (e : L[i]? = some (YtohjjhoobikioaaDoor.row b T #[.int .i64 gW, .int .i64 gH, v, .int .i64 gX, .int .i64 gY, .bool gR])) : GBox w b gW gH v gX gY gR := by
  obtain ⟨lc, -, -⟩ := S.cells i e
  exact ⟨lc 0, lc 1, lc 2, lc 3, lc 4, lc 5⟩
theorem keepS1 {W w' w1 : World} {L : List Pc} {b : Nat} {gW gH gX gY : Int} {gR : Bool} {v : Value} (h : GBox w' b gW gH v gX gY gR ∧ St W w' L) (x : Ext w' w1) : GBox w1 b gW gH v gX gY gR ∧ St W w1 L := ⟨h.1.ext x, h.2.call x⟩
theorem keepS2 {W w' w1 : World} {L : List Pc} {b b' : Nat} {gW gH gX gY gW' gH' gX' gY' : Int} {gR gR' : Bool} {v v' : Value} (h : GBox w' b gW gH v gX gY gR ∧ GBox w' b' gW' gH' v' gX' gY' gR' ∧ St W w' L) (x : Ext w' w1) :
    GBox w1 b gW gH v gX gY gR ∧ GBox w1 b' gW' gH' v' gX' gY' gR' ∧ St W w1 L := ⟨h.1.ext x, h.2.1.ext x, h.2.2.call x⟩
theorem St.markI {W w w' : World} {L : List Pc} {v : Value} {l l' : List Int} {B : Nat} (S : St W w L) (i : Nat) (e : L[i]? = some (YtohjjhoobikioaaDoor.ownI v l)) (h : OwnI w' B v l') (g : w.grownBy w' v.ownBlock) : St W w' (L.set i (YtohjjhoobikioaaDoor.ownI v l')) :=
  S.appI i e (h.mono (Nat.zero_le _)) g (.inl rfl)
theorem St.markB {W w w' : World} {L : List Pc} {v : Value} {l l' : List UInt8} {B : Nat} (S : St W w L) (i : Nat) (e : L[i]? = some (YtohjjhoobikioaaDoor.ownB v l)) (h : OwnB w' B v l') (g : w.grownBy w' v.ownBlock) : St W w' (L.set i (YtohjjhoobikioaaDoor.ownB v l')) :=
  S.appB i e (h.mono (Nat.zero_le _)) g (.inl rfl)
end Go.Proofs.YtohjjhoobikioaaDoor
