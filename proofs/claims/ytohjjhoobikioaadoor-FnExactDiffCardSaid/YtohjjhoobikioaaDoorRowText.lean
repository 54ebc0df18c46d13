/-
  Rows of a grid as text, plainly: blanks at the end do not count, nor second halves.
-/
import Derived.Test.YtohjjhoobikioaaDoorGPure
import Derived.Test.YtohjjhoobikioaaDoorTextOf
namespace Go.Proofs.YtohjjhoobikioaaDoor
open Go.RowKit

/-- the length without the blanks at the end, of the first k -/
def trimLen (l : List Int) : Nat → Nat
  | 0 => 0
  | k + 1 => if l[k]?.getD 0 = 32 then trimLen l k else k + 1
def trimR (l : List Int) : List Int := l.take (trimLen l l.length)
theorem trimLen_succ (l : List Int) (k : Nat) : trimLen l (k + 1) = if l[k]?.getD 0 = 32 then trimLen l k else k + 1 := rfl
theorem trimLen_le (l : List Int) (k : Nat) : trimLen l k ≤ k := by
  induction k with
  | zero => simp [trimLen]
  | succ k ih => rw [trimLen_succ]; split <;> omega
theorem trimLen_congr {l m : List Int} : ∀ {k : Nat}, (∀ i, i < k → l[i]?.getD 0 = m[i]?.getD 0) → trimLen l k = trimLen m k
  | 0, _ => rfl
  | k + 1, h => by
    rw [trimLen_succ, trimLen_succ, h k (by omega), trimLen_congr (fun i hi => h i (by omega))]
theorem trimR_blank (p : List Int) : trimR (p ++ [32]) = trimR p := by
  unfold trimR
  rw [List.length_append, List.length_singleton]
  rw [trimLen_succ, if_pos (by simp), trimLen_congr (m := p) (fun i hi => by rw [List.getElem?_append_left hi])]
  rw [List.take_append_of_le_length]
  exact trimLen_le _ _
theorem trimR_keep (p : List Int) {x : Int} (hx : x ≠ 32) : trimR (p ++ [x]) = p ++ [x] := by
  unfold trimR
  rw [List.length_append, List.length_singleton]
  rw [trimLen_succ, if_neg (by simpa using hx)]
  exact List.take_of_length_le (by simp)

def noHalf (l : List Int) : List Int := l.filter (fun x => x != -1)
theorem textOf_append (a b : List Int) : textOf (a ++ b) = textOf a ++ textOf b := by simp [textOf]
theorem runeBytes_half : runeBytes (-1) = [] := by simp [runeBytes, runeOk, inB]
theorem textOf_noHalf (l : List Int) : textOf (noHalf l) = textOf l := by
  induction l with
  | nil => rfl
  | cons a t ih =>
    unfold noHalf at *
    by_cases h : a = -1
    · subst h
      simp only [List.filter_cons, bne_self_eq_false, Bool.false_eq_true, if_false]
      rw [ih]; simp [textOf, runeBytes_half]
    · rw [List.filter_cons_of_pos (by simpa using h)]
      simp only [textOf, List.flatMap_cons] at *
      rw [ih]
/-- a second half stands behind a wide rune -/
def halvesOk (l : List Int) : Prop := ∀ i, i < l.length → l[i]?.getD 0 = -1 → 0 < i ∧ l[i - 1]?.getD 0 ≠ 32 ∧ l[i - 1]?.getD 0 ≠ -1
theorem list_snoc (l : List Int) : l = [] ∨ ∃ p x, l = p ++ [x] := by
  rcases List.eq_nil_or_concat l with h | ⟨p, x, h⟩
  · exact .inl h
  · exact .inr ⟨p, x, by simpa using h⟩
theorem halvesOk_pre {p : List Int} {x : Int} (h : halvesOk (p ++ [x])) : halvesOk p := by
  intro i hi e
  have := h i (by simp; omega) (by rw [List.getElem?_append_left hi]; exact e)
  rw [List.getElem?_append_left (by omega)] at this
  exact this
theorem rowText_same : ∀ (n : Nat) (l : List Int), l.length = n → halvesOk l → textOf (trimR (noHalf l)) = textOf (trimR l)
  | 0, l, hn, _ => by
    obtain rfl := List.length_eq_zero_iff.1 hn
    rfl
  | n + 1, l, hn, h => by
    rcases list_snoc l with rfl | ⟨p, x, rfl⟩
    · simp at hn
    have ih := rowText_same n p (by simpa using hn) (halvesOk_pre h)
    by_cases hb : x = 32
    · subst hb
      have e : noHalf (p ++ [32]) = noHalf p ++ [32] := by simp [noHalf, List.filter_append]
      rw [e, trimR_blank, trimR_blank, ih]
    · rw [trimR_keep p hb]
      by_cases hh : x = -1
      · subst hh
        have e : noHalf (p ++ [-1]) = noHalf p := by simp [noHalf, List.filter_append]
        have h1 := h p.length (by simp) (by simp)
        rcases list_snoc p with rfl | ⟨q, z, rfl⟩
        · simp at h1
        have hz : z ≠ 32 ∧ z ≠ -1 := by
          have := h1.2
          simpa using this
        have e2 : noHalf (q ++ [z]) = noHalf q ++ [z] := by simp [noHalf, List.filter_append, hz.2]
        rw [e, e2, trimR_keep _ hz.1, ← e2, textOf_noHalf, textOf_append (q ++ [z]) [-1]]
        simp [textOf, runeBytes_half]
      · have e : noHalf (p ++ [x]) = noHalf p ++ [x] := by simp [noHalf, List.filter_append, hh]
        rw [e, trimR_keep _ hb, ← e, textOf_noHalf]

/-- the cells of row y -/
def rowOf (g : Gr) (y : Int) : List Int := (g.C.drop (y * g.W).toNat).take g.W.toNat
def gridRow (g : Gr) (y : Int) : List UInt8 := if gridOk g = true ∧ 0 ≤ y ∧ y < g.H then textOf (trimR (rowOf g y)) else []
theorem row_in {W H y : Int} {n : Nat} (hW : 2 ≤ W) (hn : (n : Int) = W * H) (h0 : 0 ≤ y) (h1 : y < H) : 0 ≤ y * W ∧ y * W + W ≤ n := by
  have a : 0 ≤ y * W := Int.mul_nonneg h0 (by omega)
  have b : W * (y + 1) ≤ W * H := Int.mul_le_mul_of_nonneg_left (by omega) (by omega)
  rw [Int.mul_add, Int.mul_comm W y] at b
  omega
theorem rowOf_len {g : Gr} {y : Int} (hg : gridOk g = true) (h0 : 0 ≤ y) (h1 : y < g.H) : (rowOf g y).length = g.W.toNat := by
  obtain ⟨⟨a1, a2, a3, a4, a5, a6⟩, -, -⟩ := gridOk_iff.1 hg
  have := row_in a1 a6 h0 h1
  unfold rowOf
  rw [List.length_take, List.length_drop]
  omega
theorem rowOf_get {g : Gr} {y : Int} {i : Nat} (hi : i < g.W.toNat) : (rowOf g y)[i]? = g.C[(y * g.W).toNat + i]? := by
  unfold rowOf
  rw [List.getElem?_take, if_pos hi, List.getElem?_drop]
theorem row_halves {g : Gr} {y : Int} (hg : gridOk g = true) (h0 : 0 ≤ y) (h1 : y < g.H) : halvesOk (rowOf g y) := by
  have hl := rowOf_len hg h0 h1
  obtain ⟨⟨a1, a2, a3, a4, a5, a6⟩, -, hc⟩ := gridOk_iff.1 hg
  have hr := row_in a1 a6 h0 h1
  intro i hi e
  rw [hl] at hi
  have hcell := hc ((y * g.W).toNat + i) (by omega)
  have hm : (((y * g.W).toNat + i : Nat) : Int) % g.W = i := by
    have : (((y * g.W).toNat + i : Nat) : Int) = i + g.W * y := by rw [Int.mul_comm g.W y]; omega
    rw [this, Int.add_mul_emod_self_left]
    exact Int.emod_eq_of_lt (by omega) (by omega)
  rw [rowOf_get hi] at e
  unfold cellB at hcell
  rw [if_pos e, hm] at hcell
  simp only [Bool.and_eq_true, decide_eq_true_eq] at hcell
  have hi0 : 0 < i := by omega
  refine ⟨hi0, ?_⟩
  rw [rowOf_get (by omega)]
  have e2 : (y * g.W).toNat + i - 1 = (y * g.W).toNat + (i - 1) := by omega
  rw [e2] at hcell
  constructor
  · intro h; rw [h] at hcell; exact absurd hcell.2 (by decide)
  · intro h; rw [h] at hcell; exact absurd hcell.2 (by decide)
theorem rowText_grid {g : Gr} {y : Int} (hg : gridOk g = true) (h0 : 0 ≤ y) (h1 : y < g.H) : textOf (trimR (noHalf (rowOf g y))) = gridRow g y := by
  rw [rowText_same _ _ rfl (row_halves hg h0 h1)]
  unfold gridRow; rw [if_pos ⟨hg, h0, h1⟩]
end Go.Proofs.YtohjjhoobikioaaDoor
