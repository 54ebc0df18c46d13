/-
  How long a difference is, plainly.
-/
import Derived.Test.YtohjjhoobikioaaDoorDiffP
import Derived.Test.YtohjjhoobikioaaDoorGDiffer
namespace Go.Proofs.YtohjjhoobikioaaDoor
open Go.RowKit

theorem numText_len3 {n : Int} (h : n < 1000) : (numText n).length ≤ 3 := by
  unfold numText; split
  · exact decDigits_len 2 _ (by omega)
  · simp
theorem emitGoto_len10 {x y : Int} (hx : x < 200) (hy : y < 200) : (emitGoto x y).length ≤ 10 := by
  have h1 := numText_len3 (n := y + 1) (by omega)
  have h2 := numText_len3 (n := x + 1) (by omega)
  simp only [emitGoto, List.length_append, List.length_cons, List.length_nil]
  omega
theorem emitStep_len10 (g : Gr) {x y : Int} (hx : x < 200) (hy : y < 200) : (emitStep g x y).length ≤ 10 := by
  unfold emitStep
  split
  · simp
  · refine Nat.le_trans (better_len _ _ _) (Nat.le_trans (better_len _ _ _) (Nat.le_trans (better_len _ _ _) (Nat.le_trans (better_len _ _ _) (emitGoto_len10 hx hy))))

theorem cnt_mono (C D : List Int) {i j : Nat} (h : i ≤ j) : cnt C D i ≤ cnt C D j := by
  induction j with
  | zero => obtain rfl : i = 0 := by omega
            exact Nat.le_refl _
  | succ j ih =>
    rcases Nat.lt_or_ge i (j + 1) with h1 | h1
    · have := ih (by omega); rw [cnt_succ]; omega
    · obtain rfl : i = j + 1 := by omega
      exact Nat.le_refl _
theorem cnt_more (C D : List Int) {i j : Nat} (h : i < j) (hd : gt C i ≠ gt D i) : cnt C D i + 1 ≤ cnt C D j := by
  have h1 := cnt_mono C D (i := i + 1) (j := j) (by omega)
  rw [cnt_succ, if_pos (by simpa using hd)] at h1
  exact h1

/-- what differs now differed at first, from cell i on -/
def LInv (g0 g a : List Int) (i : Nat) : Prop := ∀ j, i ≤ j → j < a.length → gt g j ≠ gt a j → gt g0 j ≠ gt a j

theorem gt_put_after {C : List Int} {i j : Nat} {r : Int} (hw : width r = 1 ∨ width r = 2) (hj : j < C.length) (hij : i + (width r).toNat ≤ j) : gt (putC C i r) j = if hit C i ((i : Int) + width r) j then 32 else gt C j := by
  have h0 := gt_clear (C := C) (f := i) (t := (i : Int) + width r) hj
  rw [← h0]
  unfold putC
  split
  · rw [gt, List.getElem?_set_ne (by omega), List.getElem?_set_ne (by omega)]
  · rw [gt, List.getElem?_set_ne (by omega)]

theorem put_lean {a g : Gr} {g0 : List Int} {i : Nat} (ha : gridOk a = true) (hl : g.C.length = a.C.length) (hi : i < a.C.length) (h : LInv g0 g.C a.C i)
    (hw : width (gt a.C i) = 1 ∨ width (gt a.C i) = 2) : LInv g0 (putC g.C i (gt a.C i)) a.C (i + (width (gt a.C i)).toNat) := by
  intro j h1 h2 h3
  rw [gt_put_after hw (by omega) h1] at h3
  by_cases hh : hit g.C i ((i : Int) + width (gt a.C i)) j = true
  · have e : gt g.C j = -1 := by
      by_cases e : gt g.C j = -1
      · exact e
      · exfalso
        unfold hit other at hh
        rw [if_neg e] at hh
        by_cases e2 : width (gt g.C j) = 2
        · rw [if_pos e2] at hh; simp at hh
          omega
        · rw [if_neg e2] at hh; simp at hh
          omega
    have hj : j = i + (width (gt a.C i)).toNat := by
      unfold hit at hh
      rw [other_half e] at hh
      simp at hh; omega
    refine h j (by omega) h2 ?_
    rw [e]
    intro hq
    obtain ⟨p, q⟩ := vc_half (gridOk_vc ha) h2 hq.symm
    rcases hw with w1 | w2
    · rw [show j - 1 = i by omega, w1] at q; exact absurd q (by decide)
    · rw [show j - 1 = i + 1 by omega, (vc_wide (gridOk_vc ha) hi w2).2, width_half] at q; exact absurd q (by decide)
  · rw [if_neg hh] at h3
    exact h j (by omega) h2 h3

theorem clear_lean {a g : Gr} {g0 : List Int} {i e : Nat} (hg : gridOk g = true) (hl : g.C.length = a.C.length) (he : (e : Int) % g.W = 0) (hie : i ≤ e) (h : LInv g0 g.C a.C i) : LInv g0 (clearC g.C i e) a.C e := by
  intro j h1 h2 h3
  rw [gt_clear (by omega)] at h3
  rw [if_neg] at h3
  · exact h j (by omega) h2 h3
  · intro hh
    unfold hit other at hh
    by_cases e2 : width (gt g.C j) = 2
    · rw [if_pos e2] at hh; simp at hh; omega
    · rw [if_neg e2] at hh
      by_cases e1 : gt g.C j = -1
      · rw [if_pos e1] at hh
        have := (vc_half (gridOk_vc hg) (by omega) e1).1
        simp at hh
        obtain rfl : j = e := by omega
        omega
      · rw [if_neg e1] at hh; simp at hh; omega

theorem rowDiff_lean {a : Gr} {g0 : List Int} (ha : gridOk a = true) {s e : Nat} {y : Int} (hy0 : 0 ≤ y) (hy1 : y < a.H) (hsy : (s : Int) = y * a.W) (he : (e : Int) = s + a.W) : ∀ (m i : Nat) (g : Gr) (o : List UInt8), e - i ≤ m → s ≤ i → i ≤ e → DInv a g s i → LInv g0 g.C a.C i →
    (rowDiff a s e y i g o).2.length + 14 * cnt g0 a.C i ≤ o.length + 14 * cnt g0 a.C e ∧ LInv g0 (rowDiff a s e y i g o).1.C a.C e := by
  obtain ⟨d1, d2, d3, d4, d5, d6⟩ := gridOk_d ha
  have hel : e ≤ a.C.length := by
    have h1 : (y + 1) * a.W ≤ a.H * a.W := Int.mul_le_mul_of_nonneg_right (by omega) (by omega)
    rw [Int.add_mul, Int.one_mul, Int.mul_comm a.H] at h1
    omega
  have hem : (e : Int) % a.W = 0 := by rw [he, hsy, show y * a.W + a.W = (y + 1) * a.W by rw [Int.add_mul, Int.one_mul]]; exact Int.mul_emod_left _ _
  intro m
  induction m with
  | zero =>
    intro i g o hm hs hie h hL
    obtain rfl : i = e := by omega
    rw [rowDiff_end (by omega)]
    exact ⟨Nat.le_refl _, hL⟩
  | succ m ih =>
    intro i g o hm hs hie h hL
    by_cases hlt : i < e
    · by_cases hd : gt g.C i = gt a.C i
      · rw [rowDiff_same hlt hd]
        obtain ⟨q1, q2⟩ := ih (i + 1) g o (by omega) (by omega) (by omega) (h.next hd) (fun j h1 h2 h3 => hL j (by omega) h2 h3)
        have := cnt_mono g0 a.C (i := i) (j := i + 1) (by omega)
        exact ⟨by omega, q2⟩
      · have hl := emitStep_len10 g (x := (i : Int) - s) (y := y) (by omega) (by omega)
        have hc : gt g0 i ≠ gt a.C i := hL i (Nat.le_refl _) (by omega) hd
        cases hb : blanks ((a.C.drop i).take (e - i))
        · obtain ⟨hw, h'⟩ := h.put ha hs hy0 hy1 hsy (by omega) hd
          have hww := hw.imp id (fun x : _ ∧ _ => x.1)
          have hwe : i + (width (gt a.C i)).toNat ≤ e := by omega
          have hC : (putG (goG g ((i : Int) - s) y) (gt a.C i)).C = putC g.C i (gt a.C i) := h.cells ha hs hy0 hy1 hsy (by omega) hd
          rw [rowDiff_put hlt hd hb hww]
          have hr := runeBytes_len (gt a.C i)
          obtain ⟨q1, q2⟩ := ih _ _ (o ++ emitStep g ((i : Int) - s) y ++ runeBytes (gt a.C i)) (by omega) (by omega) hwe h' (by rw [hC]; exact put_lean ha (h.len ha) (by omega) hL hww)
          have := cnt_more g0 a.C (i := i) (j := i + (width (gt a.C i)).toNat) (by omega) hc
          refine ⟨?_, q2⟩
          simp only [List.length_append] at q1
          omega
        · rw [rowDiff_tail hlt hd hb]
          have := cnt_more g0 a.C (i := i) (j := e) hlt hc
          refine ⟨by simp only [List.length_append, List.length_cons, List.length_nil]; omega, ?_⟩
          exact clear_lean (g := g) h.ok (h.len ha) (by rw [h.w]; exact hem) hie hL
    · obtain rfl : i = e := by omega
      rw [rowDiff_end hlt]
      exact ⟨Nat.le_refl _, hL⟩

theorem rowsDiff_lean {a g : Gr} (ha : gridOk a = true) (hg : gridOk g = true) (hw : g.W = a.W) (hh : g.H = a.H) : ∀ k : Nat, (k : Int) ≤ a.H →
    (rowsDiff a g k).2.length ≤ 14 * cnt g.C a.C (k * a.W.toNat) ∧ LInv g.C (rowsDiff a g k).1.C a.C (k * a.W.toNat) := by
  obtain ⟨d1, d2, d3, d4, d5, d6⟩ := gridOk_d ha
  intro k
  induction k with
  | zero => intro _; exact ⟨Nat.zero_le _, fun j _ _ h => h⟩
  | succ k ih =>
    intro hk
    obtain ⟨q1, q2⟩ := ih (by omega)
    obtain ⟨p1, p2, p3, -⟩ := rowsDiff_ok ha hg hw hh k (by omega)
    have hs : ((k * a.W.toNat : Nat) : Int) = (k : Int) * a.W := by rw [Int.natCast_mul, Int.toNat_of_nonneg (by omega)]
    obtain ⟨r1, r2⟩ := rowDiff_lean ha (g0 := g.C) (s := k * a.W.toNat) (e := k * a.W.toNat + a.W.toNat) (y := k) (by omega) (by omega) hs (by rw [Int.natCast_add, Int.toNat_of_nonneg (by omega)]) _ _ (rowsDiff a g k).1 (rowsDiff a g k).2 (Nat.le_refl _) (Nat.le_refl _) (by omega) (DInv.start _ p1 p2 p3) q2
    have e : (k + 1) * a.W.toNat = k * a.W.toNat + a.W.toNat := Nat.succ_mul _ _
    rw [e]
    refine ⟨?_, r2⟩
    show (rowDiff a (k * a.W.toNat) (k * a.W.toNat + a.W.toNat) k (k * a.W.toNat) (rowsDiff a g k).1 (rowsDiff a g k).2).2.length ≤ _
    omega
theorem diffB_lean {a g : Gr} (ha : gridOk a = true) (hg : gridOk g = true) (hw : g.W = a.W) (hh : g.H = a.H) : (diffB g a).length ≤ 10 + 14 * cnt g.C a.C g.C.length := by
  obtain ⟨d1, d2, d3, d4, d5, d6⟩ := gridOk_d ha
  obtain ⟨e1, e2, e3, e4, e5, e6⟩ := gridOk_d hg
  obtain ⟨c1, c2, c3, c4, -⟩ := gridOk_c ha
  have h1 := (rowsDiff_lean ha hg hw hh a.H.toNat (by omega)).1
  have h2 := emitStep_len10 (rowsDiff a g a.H.toNat).1 (x := a.X) (y := a.Y) (by omega) (by omega)
  have e : a.H.toNat * a.W.toNat = g.C.length := by
    have : ((a.H.toNat * a.W.toNat : Nat) : Int) = g.C.length := by
      rw [Int.natCast_mul, Int.toNat_of_nonneg (by omega), Int.toNat_of_nonneg (by omega), e6, hw, hh, Int.mul_comm]
    exact Int.ofNat_inj.1 this
  rw [e] at h1
  simp only [diffB, List.length_append]
  omega
theorem rowDiff_id {a : Gr} {s e : Nat} {y : Int} : ∀ (m i : Nat) (o : List UInt8), e - i ≤ m → rowDiff a s e y i a o = (a, o) := by
  intro m
  induction m with
  | zero => intro i o h; exact rowDiff_end (by omega)
  | succ m ih =>
    intro i o h
    by_cases hlt : i < e
    · rw [rowDiff_same hlt rfl]; exact ih _ _ (by omega)
    · exact rowDiff_end hlt
theorem rowsDiff_id (a : Gr) : ∀ k, rowsDiff a a k = (a, [])
  | 0 => rfl
  | k + 1 => by
    show rowDiff a _ _ _ _ (rowsDiff a a k).1 (rowsDiff a a k).2 = _
    rw [rowsDiff_id a k]
    exact rowDiff_id _ _ _ (Nat.le_refl _)
theorem diffB_id {a : Gr} (h : a.R = false) : diffB a a = [] := by
  simp only [diffB, rowsDiff_id, List.nil_append]
  unfold emitStep
  rw [if_pos ⟨rfl, h, rfl⟩]
end Go.Proofs.YtohjjhoobikioaaDoor
