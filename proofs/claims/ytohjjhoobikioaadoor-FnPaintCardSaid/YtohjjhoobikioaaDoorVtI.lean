/-
  The terminal, plainly: what holds of it behind each byte.
-/
import Derived.Test.YtohjjhoobikioaaDoorVtP
namespace Go.Proofs.YtohjjhoobikioaaDoor
open Go.RowKit

structure VtI (v : VtS) : Prop where
  g : gridOk v.G = true
  s : 0 ≤ v.S ∧ v.S ≤ 2
  p : v.P.length ≤ 4
  p2 : ∀ x ∈ v.P, 0 ≤ x ∧ x ≤ 9999
  b : v.B.length ≤ 3
  n : 0 ≤ v.N ∧ v.N ≤ 1000000

theorem seqLen_le (x : Nat) : seqLen x ≤ 4 := by unfold seqLen; (repeat' split) <;> omega
theorem runeBegin_len {l : List UInt8} (h : runeBegin l = true) : l.length ≤ 3 := by
  cases l with
  | nil => simp
  | cons x t =>
    simp only [runeBegin] at h
    split at h
    · cases h
    · rename_i h2
      have := seqLen_le x.toNat
      simp only [List.length_cons]
      omega
theorem P1_len {P : List Int} (h : P.length ≤ 4) : 1 ≤ (P1 P).length ∧ (P1 P).length ≤ 4 := by
  unfold P1; split
  · simp
  · rename_i h2
    cases P with
    | nil => exact absurd rfl h2
    | cons a l => simp at h ⊢; omega
theorem P1_mem {P : List Int} (h : ∀ x ∈ P, 0 ≤ x ∧ x ≤ 9999) : ∀ x ∈ P1 P, 0 ≤ x ∧ x ≤ 9999 := by
  unfold P1; split
  · intro x hx; simp at hx; omega
  · exact h
theorem getD_mem {P : List Int} (h : ∀ x ∈ P, 0 ≤ x ∧ x ≤ 9999) (i : Nat) : 0 ≤ P[i]?.getD 0 ∧ P[i]?.getD 0 ≤ 9999 := by
  by_cases hi : i < P.length
  · rw [List.getElem?_eq_getElem hi]; exact h _ (List.getElem_mem hi)
  · rw [List.getElem?_eq_none (by omega)]; simp
theorem argV_in {P : List Int} (h : ∀ x ∈ P, 0 ≤ x ∧ x ≤ 9999) (i : Nat) : 1 ≤ argV P i ∧ argV P i ≤ 9999 := by
  have := getD_mem h i
  unfold argV; split <;> omega
theorem eraseV_ok {g : Gr} (h : gridOk g = true) (n f t : Int) : gridOk (eraseV g n f t) = true := by
  unfold eraseV; (repeat' split) <;> first | exact clearG_ok h _ _ | exact h
theorem ctlG_ok {g : Gr} (h : gridOk g = true) (P : List Int) (b : Nat) : gridOk (ctlG g P b) = true := by
  unfold ctlG; (repeat' split) <;> first | exact goG_ok h _ _ | exact eraseV_ok h _ _ _ | exact h
theorem vtPlain_ok {v : VtS} (h : VtI v) (b : Nat) : VtI (vtPlain v b) := by
  obtain ⟨h1, h2, h3, h4, h5, h6⟩ := h
  have h0 : ([] : List UInt8).length ≤ 3 := by simp
  unfold vtPlain
  by_cases c1 : 128 ≤ b
  · rw [if_pos c1]
    by_cases c2 : (runeRead (v.B ++ [UInt8.ofNat b])).2 = (v.B.length : Int) + 1
    · rw [if_pos c2]; exact ⟨putG_ok h1 _, h2, h3, h4, h0, h6⟩
    rw [if_neg c2]
    by_cases c3 : runeBegin (v.B ++ [UInt8.ofNat b]) = true
    · rw [if_pos c3]; exact ⟨h1, h2, h3, h4, runeBegin_len c3, h6⟩
    · rw [if_neg c3]; exact ⟨h1, h2, h3, h4, h0, h6⟩
  rw [if_neg c1]
  by_cases c7 : b = 7
  · rw [if_pos c7]; exact ⟨h1, h2, h3, h4, h0, show 0 ≤ min (v.N + 1) 1000000 ∧ min (v.N + 1) 1000000 ≤ 1000000 by omega⟩
  rw [if_neg c7]
  by_cases c8 : b = 8
  · rw [if_pos c8]; exact ⟨goG_ok h1 _ _, h2, h3, h4, h0, h6⟩
  rw [if_neg c8]
  by_cases c13 : b = 13
  · rw [if_pos c13]; exact ⟨goG_ok h1 _ _, h2, h3, h4, h0, h6⟩
  rw [if_neg c13]
  by_cases c10 : b = 10
  · rw [if_pos c10]
    refine ⟨?_, h2, h3, h4, h0, h6⟩
    show gridOk (if _ then _ else _) = true
    split
    · exact goG_ok (scrollG_ok h1) _ _
    · exact goG_ok h1 _ _
  rw [if_neg c10]
  by_cases c27 : b = 27
  · rw [if_pos c27]; exact ⟨h1, by show (0 : Int) ≤ 1 ∧ (1 : Int) ≤ 2; omega, h3, h4, h0, h6⟩
  rw [if_neg c27]
  by_cases c32 : 32 ≤ b ∧ b ≤ 126
  · rw [if_pos c32]; exact ⟨putG_ok h1 _, h2, h3, h4, h0, h6⟩
  · rw [if_neg c32]; exact ⟨h1, h2, h3, h4, h0, h6⟩
theorem digP_ok {P : List Int} (hl : P.length ≤ 4) (h : ∀ x ∈ P, 0 ≤ x ∧ x ≤ 9999) {b : Nat} (hb : 48 ≤ b) : (digP P b).length ≤ 4 ∧ ∀ x ∈ digP P b, 0 ≤ x ∧ x ≤ 9999 := by
  refine ⟨by unfold digP; rw [List.length_set]; exact (P1_len hl).2, fun x hx => ?_⟩
  unfold digP at hx
  rcases List.mem_or_eq_of_mem_set hx with h1 | h1
  · exact P1_mem h x h1
  · have := getD_mem (P1_mem h) ((P1 P).length - 1)
    omega
theorem semP_ok {P : List Int} (hl : P.length ≤ 4) (h : ∀ x ∈ P, 0 ≤ x ∧ x ≤ 9999) : (semP P).length ≤ 4 ∧ ∀ x ∈ semP P, 0 ≤ x ∧ x ≤ 9999 := by
  unfold semP
  split
  · refine ⟨by simp; omega, fun x hx => ?_⟩
    rcases List.mem_append.1 hx with h1 | h1
    · exact P1_mem h x h1
    · simp at h1; omega
  · exact ⟨(P1_len hl).2, P1_mem h⟩
theorem vtSeq_ok {v : VtS} (h : VtI v) (b : Nat) : VtI (vtSeq v b) := by
  obtain ⟨h1, h2, h3, h4, h5, h6⟩ := h
  unfold vtSeq
  split
  · rename_i hb; exact ⟨h1, h2, (digP_ok h3 h4 hb.1).1, (digP_ok h3 h4 hb.1).2, h5, h6⟩
  split
  · exact ⟨h1, h2, (semP_ok h3 h4).1, (semP_ok h3 h4).2, h5, h6⟩
  split
  · exact ⟨ctlG_ok h1 _ _, by simp, by simp, by simp, h5, h6⟩
  · exact ⟨h1, by simp, by simp, by simp, h5, h6⟩
theorem vtStep_ok {v : VtS} (h : VtI v) (b : Nat) : VtI (vtStep v b) := by
  unfold vtStep
  split
  · exact vtPlain_ok h b
  split
  · obtain ⟨h1, h2, h3, h4, h5, h6⟩ := h
    split
    · exact ⟨h1, by simp, h3, h4, h5, h6⟩
    · exact ⟨h1, by simp, h3, h4, h5, h6⟩
  · exact vtSeq_ok h b
theorem feed_ok {v : VtS} (h : VtI v) (l : List UInt8) : VtI (feed v l) := by
  induction l generalizing v with
  | nil => exact h
  | cons b l ih => exact ih (vtStep_ok h b.toNat)
theorem vtOk_I {v : VtS} (h : vtOk v = true) : VtI v := by
  simp only [vtOk, Bool.and_eq_true, Bool.or_eq_true, decide_eq_true_eq, inB_iff, argsB, List.all_eq_true] at h
  obtain ⟨⟨⟨⟨⟨⟨h1, h2⟩, h3⟩, -⟩, h5⟩, h6⟩, h7⟩ := h
  refine ⟨h1, h2, h3, h6, ?_, h5⟩
  rcases h7 with h7 | h7
  · rw [h7]; simp
  · exact runeBegin_len h7.2
end Go.Proofs.YtohjjhoobikioaaDoor
