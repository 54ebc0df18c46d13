/-
  Memory in pieces, more: what a call hands out; a struct of six cells stored cell by cell.
-/
import Derived.Test.YtohjjhoobikioaaDoorSep
namespace Go.Proofs.YtohjjhoobikioaaDoor
open Go.RowKit

theorem ownUp {w : World} {E : TypeId} {k B : Nat} {v : Value} {n : Nat} {cs : List Value} (h : w.ownsRow 0 E k v n cs) (hb : ∀ b, v.ownBlock = some b → B ≤ b) : w.ownsRow B E k v n cs :=
  ⟨h.1, by
    rcases h.2 with h2 | ⟨g, cap, cur, rfl, _, r⟩
    · exact .inl h2
    · exact .inr ⟨g, cap, cur, rfl, hb g rfl, r⟩⟩
/-- the i-th piece, seen from where the call began: it is new -/
theorem St.outI {W w : World} {v : Value} {l : List Int} {L : List Pc} (S : St W w L) (i : Nat) (e : L[i]? = some (YtohjjhoobikioaaDoor.ownI v l)) : OwnI w W.heap.size v l := by
  obtain ⟨F, s, _, hb⟩ := (S.bring i e).sep
  obtain ⟨F1, _, rfl, ⟨rfl, a⟩, _⟩ := s.uncons
  exact ownUp a (fun b hv => (hb b (List.mem_append_left _ (by rw [hv]; simp))).1)
theorem St.outB {W w : World} {v : Value} {l : List UInt8} {L : List Pc} (S : St W w L) (i : Nat) (e : L[i]? = some (YtohjjhoobikioaaDoor.ownB v l)) : OwnB w W.heap.size v l := by
  obtain ⟨F, s, _, hb⟩ := (S.bring i e).sep
  obtain ⟨F1, _, rfl, ⟨rfl, a⟩, _⟩ := s.uncons
  exact ownUp a (fun b hv => (hb b (List.mem_append_left _ (by rw [hv]; simp))).1)
theorem St.setc1 {W w : World} {b : Nat} {T : TypeId} {cs : Array Value} {L : List Pc} (S : St W w (YtohjjhoobikioaaDoor.row b T cs :: L)) (k : Nat) (u : Value) : St W (w.setCell ⟨b, k, none⟩ u) (YtohjjhoobikioaaDoor.row b T (cs.setIfInBounds k u) :: L) :=
  S.set (setCell_row (S.row 0 rfl) k u) (grown_setCell _ _ _)
theorem six {cs : Array Value} (hs : cs.size = 6) (a0 a1 a2 a3 a4 a5 : Value) : (((((cs.setIfInBounds 0 a0).setIfInBounds 1 a1).setIfInBounds 2 a2).setIfInBounds 3 a3).setIfInBounds 4 a4).setIfInBounds 5 a5 = #[a0, a1, a2, a3, a4, a5] := by
  obtain ⟨l⟩ := cs
  match l, hs with
  | [_, _, _, _, _, _], _ => rfl
theorem St.set6h {W w : World} {b : Nat} {T : TypeId} {cs : Array Value} {L : List Pc} (S : St W w (YtohjjhoobikioaaDoor.row b T cs :: L)) (hs : cs.size = 6) (a0 a1 a2 a3 a4 a5 : Value) :
    St W ((((((w.setCell ⟨b, 0, none⟩ a0).setCell ⟨b, 1, none⟩ a1).setCell ⟨b, 2, none⟩ a2).setCell ⟨b, 3, none⟩ a3).setCell ⟨b, 4, none⟩ a4).setCell ⟨b, 5, none⟩ a5) (YtohjjhoobikioaaDoor.row b T #[a0, a1, a2, a3, a4, a5] :: L) := by
  have h1 := S.setc1 0 a0
  have h2 := h1.setc1 1 a1
  have h3 := h2.setc1 2 a2
  have h4 := h3.setc1 3 a3
  have h5 := h4.setc1 4 a4
  have h6 := h5.setc1 5 a5
  exact h6.castR (six hs a0 a1 a2 a3 a4 a5)
/-- six cells stored one by one -/
theorem St.set6 {W w : World} {b : Nat} {T : TypeId} {cs : Array Value} {L : List Pc} (S : St W w L) (i : Nat) (e : L[i]? = some (YtohjjhoobikioaaDoor.row b T cs)) (hs : cs.size = 6) (a0 a1 a2 a3 a4 a5 : Value) :
    St W ((((((w.setCell ⟨b, 0, none⟩ a0).setCell ⟨b, 1, none⟩ a1).setCell ⟨b, 2, none⟩ a2).setCell ⟨b, 3, none⟩ a3).setCell ⟨b, 4, none⟩ a4).setCell ⟨b, 5, none⟩ a5) (L.set i (YtohjjhoobikioaaDoor.row b T #[a0, a1, a2, a3, a4, a5])) :=
  S.upd i e fun _ S' => S'.set6h hs a0 a1 a2 a3 a4 a5
end Go.Proofs.YtohjjhoobikioaaDoor
