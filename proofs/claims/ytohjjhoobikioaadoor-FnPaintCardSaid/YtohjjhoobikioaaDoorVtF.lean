/-
  A full painting makes a terminal show the grid, plainly.
-/
import Derived.Test.YtohjjhoobikioaaDoorVtR
import Derived.Test.YtohjjhoobikioaaDoorFull
namespace Go.Proofs.YtohjjhoobikioaaDoor
open Go.RowKit

theorem clear_all {C : List Int} {n : Nat} (h : C.length = n) : clearC C 0 (n : Int) = List.replicate n 32 := by
  subst h
  refine ext_gt (by simp [clearC]) fun i hi => ?_
  have hi' : i < C.length := by simpa [clearC] using hi
  rw [gt_clear hi', gt_rep hi', if_pos]
  show (decide _ || decide _) = true
  rw [Bool.or_eq_true]
  exact .inl (decide_eq_true ⟨by omega, by omega⟩)
/-- the bytes of a full painting make any terminal of that size, outside of a sequence, show the grid -/
theorem feed_full {a g : Gr} {N : Int} {B : List UInt8} (ha : gridOk a = true) (hg : gridOk g = true) (hw : g.W = a.W) (hh : g.H = a.H) (hR : a.R = false) : feed ⟨g, 0, [], B, N⟩ (fullB a) = T a N := by
  obtain ⟨d1, d2, d3, d4, d5, d6⟩ := gridOk_d hg
  unfold fullB
  have e0 : ([27, 91, 72, 27, 91, 50, 74] : List UInt8) ++ diffB (newG a.W a.H) a = [27, 91] ++ ([72] ++ ([27, 91] ++ ([50, 74] ++ diffB (newG a.W a.H) a))) := rfl
  rw [e0, feed_esc, feed_append]
  have e1 : feed ⟨g, 2, [], [], N⟩ [72] = T (goG g 0 0) N := by
    rw [feed_one, show (72 : UInt8).toNat = 72 from rfl, step_ctl (by decide) (by decide)]; rfl
  rw [e1]
  unfold T
  rw [feed_esc, feed_append]
  have e2 : feed ⟨goG g 0 0, 2, [], [], N⟩ [50, 74] = T (newG a.W a.H) N := by
    rw [feed_cons, feed_one, show (50 : UInt8).toNat = 50 from rfl, show (74 : UInt8).toNat = 74 from rfl, step_dig (by decide) (by decide), step_ctl (by decide) (by decide)]
    congr 1
    have e3 : digP [] 50 = [2] := by decide
    rw [e3]
    show clearG (goG g 0 0) 0 ((goG g 0 0).C.length : Int) = newG a.W a.H
    have e4 : (g.C.length : Int) = a.W * a.H := by rw [d6, hw, hh]
    unfold clearG goG newG
    simp only
    rw [clear_all rfl, clampI_id (Int.le_refl 0) (by omega), clampI_id (Int.le_refl 0) (by omega), ← e4, hw, hh]
    simp
  rw [e2]
  exact feed_diff ha (newG_ok (newOk_of ha)) rfl rfl hR
theorem runeRead_all {l : List UInt8} (h2 : 2 ≤ l.length) (h : (runeRead l).2 = (l.length : Int)) : runeBytes (runeRead l).1 = l := by
  cases l with
  | nil => simp at h2
  | cons x t =>
    simp only [runeRead] at h ⊢
    split
    · rename_i h1; rw [if_pos h1] at h; simp at h h2; omega
    rename_i h1; rw [if_neg h1] at h
    split
    · rename_i h3; rw [if_pos h3] at h; simp at h; omega
    rename_i h3; rw [if_neg h3] at h
    split
    · rename_i h4; rw [if_pos h4] at h
      have e : seqLen x.toNat = (x :: t).length := by simp only [List.length_cons] at h ⊢; omega
      rw [h4, List.take_of_length_le (by rw [e]; exact Nat.le_refl _)]
    · rename_i h4; rw [if_neg h4] at h; simp at h; omega
theorem begin_pre {r : Int} (hk : runeOk r = true) {k : Nat} (h0 : 0 < k) (h : k < (runeBytes r).length) : runeBegin ((runeBytes r).take k) = true := by
  obtain ⟨r0, r1⟩ := runeOk_range hk
  by_cases h1 : r < 128
  · have E : runeBytes r = [by8 r] := by simp [runeBytes, hk, h1]
    rw [E] at h; simp at h; omega
  by_cases h2 : r < 2048
  · have E : runeBytes r = [by8 (192 + r / 64), by8 (128 + r % 64)] := by simp [runeBytes, hk, h1, h2]
    have a0 := by8_nat (x := 192 + r / 64) (by omega) (by omega)
    rw [E] at h ⊢
    generalize by8 (192 + r / 64) = c0 at *
    have hs : seqLen c0.toNat = 2 := by unfold seqLen; rw [if_neg (by omega), if_pos (by omega)]
    simp only [List.length_cons, List.length_nil] at h
    obtain rfl : k = 1 := by omega
    show runeBegin [c0] = true
    simp only [runeBegin]
    rw [if_neg (by rw [hs]; simp; omega), hs]
    exact spanOk_of (r := r) (by simp only [lead]; rw [if_pos (by decide)]; omega) (by simp only [lead]; rw [if_pos (by decide)]; omega) (by show (128 : Int) ≤ r; omega) hk
  by_cases h3 : r < 65536
  · have E : runeBytes r = [by8 (224 + r / 4096), by8 (128 + r / 64 % 64), by8 (128 + r % 64)] := by simp [runeBytes, hk, h1, h2, h3]
    have a0 := by8_nat (x := 224 + r / 4096) (by omega) (by omega)
    have a1 := by8_nat (x := 128 + r / 64 % 64) (by omega) (by omega)
    rw [E] at h ⊢
    generalize by8 (224 + r / 4096) = c0 at *
    generalize by8 (128 + r / 64 % 64) = c1 at *
    have hs : seqLen c0.toNat = 3 := by unfold seqLen; rw [if_neg (by omega), if_neg (by omega), if_pos (by omega)]
    have hl : lead c0.toNat 3 = (c0.toNat : Int) - 224 := by unfold lead; rw [if_neg (by decide), if_pos rfl]
    have hc : (128 ≤ c1.toNat ∧ c1.toNat ≤ 191) := by omega
    simp only [List.length_cons, List.length_nil] at h
    obtain rfl | rfl : k = 1 ∨ k = 2 := by omega
    · show runeBegin [c0] = true
      simp only [runeBegin]
      rw [if_neg (by rw [hs]; simp; omega), hs]
      have e : spans [c0] (lead c0.toNat 3, lead c0.toNat 3) 1 (3 - 1) = some (((lead c0.toNat 3) * 64) * 64, ((lead c0.toNat 3) * 64 + 63) * 64 + 63) := by simp [spans, span1]
      rw [e, hl]
      exact spanOk_of (r := r) (by omega) (by omega) (by show (2048 : Int) ≤ r; omega) hk
    · show runeBegin [c0, c1] = true
      simp only [runeBegin]
      rw [if_neg (by rw [hs]; simp; omega), hs]
      have e : spans [c0, c1] (lead c0.toNat 3, lead c0.toNat 3) 1 (3 - 1) = some (((lead c0.toNat 3) * 64 + c1.toNat - 128) * 64, ((lead c0.toNat 3) * 64 + c1.toNat - 128) * 64 + 63) := by simp [spans, span1, hc]
      rw [e, hl]
      exact spanOk_of (r := r) (by omega) (by omega) (by show (2048 : Int) ≤ r; omega) hk
  · have E : runeBytes r = [by8 (240 + r / 262144), by8 (128 + r / 4096 % 64), by8 (128 + r / 64 % 64), by8 (128 + r % 64)] := by simp [runeBytes, hk, h1, h2, h3]
    have a0 := by8_nat (x := 240 + r / 262144) (by omega) (by omega)
    have a1 := by8_nat (x := 128 + r / 4096 % 64) (by omega) (by omega)
    have a2 := by8_nat (x := 128 + r / 64 % 64) (by omega) (by omega)
    rw [E] at h ⊢
    generalize by8 (240 + r / 262144) = c0 at *
    generalize by8 (128 + r / 4096 % 64) = c1 at *
    generalize by8 (128 + r / 64 % 64) = c2 at *
    have hs : seqLen c0.toNat = 4 := by unfold seqLen; rw [if_neg (by omega), if_neg (by omega), if_neg (by omega), if_pos (by omega)]
    have hl : lead c0.toNat 4 = (c0.toNat : Int) - 240 := by unfold lead; rw [if_neg (by decide), if_neg (by decide)]
    have hc : (128 ≤ c1.toNat ∧ c1.toNat ≤ 191) := by omega
    have hc2 : (128 ≤ c2.toNat ∧ c2.toNat ≤ 191) := by omega
    simp only [List.length_cons, List.length_nil] at h
    obtain rfl | rfl | rfl : k = 1 ∨ k = 2 ∨ k = 3 := by omega
    · show runeBegin [c0] = true
      simp only [runeBegin]
      rw [if_neg (by rw [hs]; simp; omega), hs]
      have e : spans [c0] (lead c0.toNat 4, lead c0.toNat 4) 1 (4 - 1) = some ((((lead c0.toNat 4) * 64) * 64) * 64, (((lead c0.toNat 4) * 64 + 63) * 64 + 63) * 64 + 63) := by simp [spans, span1]
      rw [e, hl]
      exact spanOk_of (r := r) (by omega) (by omega) (by show (65536 : Int) ≤ r; omega) hk
    · show runeBegin [c0, c1] = true
      simp only [runeBegin]
      rw [if_neg (by rw [hs]; simp; omega), hs]
      have e : spans [c0, c1] (lead c0.toNat 4, lead c0.toNat 4) 1 (4 - 1) = some ((((lead c0.toNat 4) * 64 + c1.toNat - 128) * 64) * 64, (((lead c0.toNat 4) * 64 + c1.toNat - 128) * 64 + 63) * 64 + 63) := by simp [spans, span1, hc]
      rw [e, hl]
      exact spanOk_of (r := r) (by omega) (by omega) (by show (65536 : Int) ≤ r; omega) hk
    · show runeBegin [c0, c1, c2] = true
      simp only [runeBegin]
      rw [if_neg (by rw [hs]; simp; omega), hs]
      have e : spans [c0, c1, c2] (lead c0.toNat 4, lead c0.toNat 4) 1 (4 - 1) = some ((((lead c0.toNat 4) * 64 + c1.toNat - 128) * 64 + c2.toNat - 128) * 64, (((lead c0.toNat 4) * 64 + c1.toNat - 128) * 64 + c2.toNat - 128) * 64 + 63) := by simp [spans, span1, hc, hc2]
      rw [e, hl]
      exact spanOk_of (r := r) (by omega) (by omega) (by show (65536 : Int) ≤ r; omega) hk
/-- bytes that can be filled up to a rune begin one -/
theorem begin_of_fill {b f : List UInt8} (h0 : b ≠ []) (hf : f ≠ []) (h : (runeRead (b ++ f)).2 = ((b ++ f).length : Int)) : runeBegin b = true := by
  have l1 : 0 < b.length := List.length_pos_iff.2 h0
  have l2 : 0 < f.length := List.length_pos_iff.2 hf
  have e := runeRead_all (by rw [List.length_append]; omega) h
  have hk : runeOk (runeRead (b ++ f)).1 = true := by
    cases hr : runeOk (runeRead (b ++ f)).1
    · have e2 : runeBytes (runeRead (b ++ f)).1 = [] := by unfold runeBytes; rw [if_pos hr]
      rw [e2] at e
      have := congrArg List.length e
      rw [List.length_append] at this; simp at this; omega
    · rfl
  have p := begin_pre hk (k := b.length) l1 (by rw [e, List.length_append]; omega)
  rw [e, List.take_left'  rfl] at p
  exact p
end Go.Proofs.YtohjjhoobikioaaDoor
