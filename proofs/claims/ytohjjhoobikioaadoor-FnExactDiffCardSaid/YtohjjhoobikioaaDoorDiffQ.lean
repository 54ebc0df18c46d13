/-
  The difference of two grids, plainly: all rows.
-/
import Derived.Test.YtohjjhoobikioaaDoorDiffP
namespace Go.Proofs.YtohjjhoobikioaaDoor
open Go.RowKit

/-- the first k rows, and the end -/
def rowsDiff (a g : Gr) : Nat → Gr × List UInt8
  | 0 => (g, [])
  | k + 1 => rowDiff a (k * a.W.toNat) (k * a.W.toNat + a.W.toNat) k (k * a.W.toNat) (rowsDiff a g k).1 (rowsDiff a g k).2
def diffB (g a : Gr) : List UInt8 := (rowsDiff a g a.H.toNat).2 ++ emitStep (rowsDiff a g a.H.toNat).1 a.X a.Y

theorem rowDiff_ok {a : Gr} (ha : gridOk a = true) {s e : Nat} {y : Int} (hy0 : 0 ≤ y) (hy1 : y < a.H) (hsy : (s : Int) = y * a.W) (he : (e : Int) = s + a.W) : ∀ (m i : Nat) (g : Gr) (o : List UInt8), e - i ≤ m → s ≤ i → DInv a g s i →
    gridOk (rowDiff a s e y i g o).1 = true ∧ (rowDiff a s e y i g o).1.W = a.W ∧ (rowDiff a s e y i g o).1.H = a.H ∧ (rowDiff a s e y i g o).2.length ≤ o.length + 40 * (e - i) := by
  intro m
  induction m with
  | zero =>
    intro i g o hm hs h
    rw [rowDiff_end (by omega)]
    exact ⟨h.ok, h.w, h.h, by simp⟩
  | succ m ih =>
    intro i g o hm hs h
    by_cases hie : i < e
    · by_cases hd : gt g.C i = gt a.C i
      · rw [rowDiff_same hie hd]
        obtain ⟨q1, q2, q3, q4⟩ := ih (i + 1) g o (by omega) (by omega) (h.next hd)
        exact ⟨q1, q2, q3, by omega⟩
      · have hl := emitStep_len g ((i : Int) - s) y
        cases hb : blanks ((a.C.drop i).take (e - i))
        · obtain ⟨hw, h'⟩ := h.put ha hs hy0 hy1 hsy (by omega) hd
          rw [rowDiff_put hie hd hb (hw.imp id (fun x => x.1))]
          have hr := runeBytes_len (gt a.C i)
          obtain ⟨q1, q2, q3, q4⟩ := ih _ _ (o ++ emitStep g ((i : Int) - s) y ++ runeBytes (gt a.C i)) (by omega) (by omega) h'
          refine ⟨q1, q2, q3, ?_⟩
          simp only [List.length_append] at q4
          omega
        · rw [rowDiff_tail hie hd hb]
          exact ⟨clearG_ok (goG_ok h.ok _ _) _ _, h.w, h.h, by simp only [List.length_append, List.length_cons, List.length_nil]; omega⟩
    · rw [rowDiff_end hie]
      exact ⟨h.ok, h.w, h.h, by simp⟩

theorem rowsDiff_ok {a g : Gr} (ha : gridOk a = true) (hg : gridOk g = true) (hw : g.W = a.W) (hh : g.H = a.H) : ∀ k : Nat, (k : Int) ≤ a.H →
    gridOk (rowsDiff a g k).1 = true ∧ (rowsDiff a g k).1.W = a.W ∧ (rowsDiff a g k).1.H = a.H ∧ (rowsDiff a g k).2.length ≤ 8000 * k := by
  obtain ⟨d1, d2, d3, d4, d5, d6⟩ := gridOk_d ha
  intro k
  induction k with
  | zero => intro _; exact ⟨hg, hw, hh, by simp [rowsDiff]⟩
  | succ k ih =>
    intro hk
    obtain ⟨q1, q2, q3, q4⟩ := ih (by omega)
    have hs : ((k * a.W.toNat : Nat) : Int) = (k : Int) * a.W := by rw [Int.natCast_mul, Int.toNat_of_nonneg (by omega)]
    obtain ⟨r1, r2, r3, r4⟩ := rowDiff_ok ha (s := k * a.W.toNat) (e := k * a.W.toNat + a.W.toNat) (y := k) (by omega) (by omega) hs (by rw [Int.natCast_add, Int.toNat_of_nonneg (by omega)]) _ _ (rowsDiff a g k).1 (rowsDiff a g k).2 (Nat.le_refl _) (Nat.le_refl _) (DInv.start _ q1 q2 q3)
    refine ⟨r1, r2, r3, Nat.le_trans r4 ?_⟩
    rw [Nat.add_sub_cancel_left]
    omega
end Go.Proofs.YtohjjhoobikioaaDoor
