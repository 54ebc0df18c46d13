/- Part 9 of a proof in several texts (an abstract evaluator, what the functions compute). -/
import Derived.Test.YtnmneoekpikpkaaGreatDoorPkFnViChange8
namespace Go.Proofs.YtnmneoekpikpkaaGreatDoor
open Go.RowKit
set_option linter.unusedSimpArgs false
set_option linter.unusedVariables false
set_option maxHeartbeats 8000000
set_option maxRecDepth 10000
theorem nat8_drop {b : List UInt8} {k i : Nat} (h : k + i < b.length) : nat8 (b.drop k) i = (b[k + i].toNat : Int) := by
  unfold nat8
  rw [List.getElem?_drop, List.getElem?_eq_getElem h]; rfl
theorem nat8_drop0 {b : List UInt8} {k : Nat} (h : k < b.length) : nat8 (b.drop k) 0 = (b[k].toNat : Int) := nat8_drop (i := 0) h
theorem dec_at {b : List UInt8} {k : Nat} (h : k < b.length) : dec (b.drop k) = if cls (b[k].toNat : Int) ≠ 0 ∧ k + cls (b[k].toNat : Int) ≤ b.length ∧ runeBytes (val (b.drop k) (cls (b[k].toNat : Int))) = (b.drop k).take (cls (b[k].toNat : Int)) then some (val (b.drop k) (cls (b[k].toNat : Int)), cls (b[k].toNat : Int)) else none := by
  have e : b.drop k = b[k] :: b.drop (k + 1) := (List.drop_eq_getElem_cons h)
  have hn := nat8_drop0 h
  rw [e] at hn ⊢
  rw [dec_cons, hn]
  have hl : (b[k] :: b.drop (k + 1)).length = b.length - k := by rw [← e, List.length_drop]
  rw [hl]
  congr 1
  simp only [eq_iff_iff]
  constructor
  · rintro ⟨a, b, c⟩; exact ⟨a, by omega, c⟩
  · rintro ⟨a, b, c⟩; exact ⟨a, by omega, c⟩
theorem cut1 {b : List UInt8} {k : Nat} (h : k < b.length) : (b.drop k).take 1 = [b[k]] := by
  rw [List.drop_eq_getElem_cons h]; rfl
theorem cut2 {b : List UInt8} {k : Nat} (h : k + 1 < b.length) : (b.drop k).take 2 = [b[k], b[k + 1]] := by
  rw [List.drop_eq_getElem_cons (by omega : k < b.length), List.take_succ_cons, cut1 h]
theorem cut3 {b : List UInt8} {k : Nat} (h : k + 2 < b.length) : (b.drop k).take 3 = [b[k], b[k + 1], b[k + 2]] := by
  rw [List.drop_eq_getElem_cons (by omega : k < b.length), List.take_succ_cons, cut2 (by omega)]
theorem cut4 {b : List UInt8} {k : Nat} (h : k + 3 < b.length) : (b.drop k).take 4 = [b[k], b[k + 1], b[k + 2], b[k + 3]] := by
  rw [List.drop_eq_getElem_cons (by omega : k < b.length), List.take_succ_cons, cut3 (by omega)]
def decR : Option (Int × Nat) → Int
  | some x => x.1
  | none => 0
def decN : Option (Int × Nat) → Int
  | some x => x.2
  | none => 0
theorem toList_arr (l : List UInt8) : (ByteArray.mk l.toArray).toList = l := by simp
theorem E_iRuneRead (b : List UInt8) (k : Nat) (hk : k < b.length) (hb : b.length ≤ 1000000000) : M_iRuneRead [.lst (some 0) (byts b), V.v (.int .i64 ((k : Int)))] [] [] = some ⟨.tup [V.v (.int .i64 (decR (dec (b.drop k)))), V.v (.int .i64 (decN (dec (b.drop k))))], [], []⟩ := by
  unfold M_iRuneRead
  have hc := b[k].toNat_lt
  have h1 : ¬ ((b.length : Int) ≤ k) := by omega
  have h0 : ¬ ((k : Int) < 0) := by omega
  have w0 := w64 (b[k].toNat : Int) (by omega)
  rw [dec_at hk]
  generalize hx : (b[k].toNat : Int) = x at w0
  have hx0 : 0 ≤ x ∧ x ≤ 255 := by omega
  have hxo : UInt8.ofNat x.toNat = b[k] := by rw [← hx]; simp
  by_cases c1 : x < 128
  · have e1 : cls x = 1 := by simp [cls, c1]
    have hok : runeOk x = true := by
      have i1 : inR x 0 1114111 = true := inR_iff.2 (by omega)
      have i2 : inR x 55296 57343 = false := inR_no (by rw [inR_iff]; omega)
      simp [runeOk, i1, i2]
    have e2 : val (b.drop k) 1 = x := by rw [val, nat8_drop0 hk, hx]
    have e3 : runeBytes x = (b.drop k).take 1 := by
      rw [cut1 hk]; simp [runeBytes, hok, c1]; rw [← hx, by8_of]
    have e4 : k + 1 ≤ b.length := hk
    simp [Tryz.func64, Tryz.f64, h0, h1, hk, byts_get hk, hx, w0, c1, e1, e2, e3, e4, decR, decN]
  by_cases c2 : inR x 192 223 = true
  · have e1 : cls x = 2 := by simp [cls, c1, c2]
    obtain ⟨a1, a2⟩ := inR_of c2
    have w1 := w64 (x - 192) (by omega)
    have w2 := w64 ((b.length : Int) - 2) (by omega)
    by_cases e4 : k + 2 ≤ b.length
    · have e5 : ¬ ((b.length : Int) - 2 < k) := by omega
      have w3 := w64 ((k : Int) + 1) (by omega)
      have w4 := w64 ((k : Int) + 2) (by omega)
      have f1 : (0 : Int) ≤ (k : Int) + 1 := by omega
      have f2 : (k : Int) + 2 ≤ b.length := by omega
      have f3 : ((k : Int) + 2).toNat = k + 2 := by omega
      have f4 : k + 2 - (k + 1) = 1 := by omega
      have f5 : k + 2 - k = 2 := by omega
      have f7 : (k : Int) ≤ (k : Int) + 2 := by omega
      have f8 : (k : Int) + 1 ≤ (k : Int) + 2 := by omega
      have g1 : k + 1 < b.length := by omega
      have r1 := b[k + 1].toNat_lt
      have p1 := w64 (b[k + 1].toNat : Int) (by omega)
      have q10 := w64 ((x - 192) * 64) (by omega)
      have q11 := w64 ((x - 192) * 64 + (b[k + 1].toNat : Int)) (by omega)
      have q12 := w64 ((x - 192) * 64 + (b[k + 1].toNat : Int) - 128) (by omega)
      have v1 : val (b.drop k) 2 = (x - 192) * 64 + (b[k + 1].toNat : Int) - 128 := by rw [val, nat8_drop0 hk, nat8_drop g1, hx]
      have z0 : runeBytes ((x - 192) * 64 + (b[k + 1].toNat : Int) - 128) = [b[k], b[k + 1]] ∨ runeBytes ((x - 192) * 64 + (b[k + 1].toNat : Int) - 128) ≠ [b[k], b[k + 1]] := Decidable.em _
      rcases z0 with z | z
      · simp [Tryz.func64, Tryz.f64, h0, h1, hk, byts_get hk, hx, w0, c1, c2, e1, e4, e5, w1, w2, w3, w4, decR, decN, E_iin, f1, f2, f3, f4, f5, f7, f8, cut1 (k := k + 1) g1, cut2 g1, byts_cons, byts_nil, loopV_unf, p1, q10, q11, q12, E_iRuneBytes, bytes_of_byts, v1, z, hxo]
      · simp [Tryz.func64, Tryz.f64, h0, h1, hk, byts_get hk, hx, w0, c1, c2, e1, e4, e5, w1, w2, w3, w4, decR, decN, E_iin, f1, f2, f3, f4, f5, f7, f8, cut1 (k := k + 1) g1, cut2 g1, byts_cons, byts_nil, loopV_unf, p1, q10, q11, q12, E_iRuneBytes, bytes_of_byts, v1, z, hxo]
    · have e5 : (b.length : Int) - 2 < k := by omega
      simp [Tryz.func64, Tryz.f64, h0, h1, hk, byts_get hk, hx, w0, c1, c2, e1, e4, e5, w1, w2, decR, decN, E_iin]
  by_cases c3 : inR x 224 239 = true
  · have e1 : cls x = 3 := by simp [cls, c1, c2, c3]
    obtain ⟨a1, a2⟩ := inR_of c3
    have w1 := w64 (x - 224) (by omega)
    have w2 := w64 ((b.length : Int) - 3) (by omega)
    by_cases e4 : k + 3 ≤ b.length
    · have e5 : ¬ ((b.length : Int) - 3 < k) := by omega
      have w3 := w64 ((k : Int) + 1) (by omega)
      have w4 := w64 ((k : Int) + 3) (by omega)
      have f1 : (0 : Int) ≤ (k : Int) + 1 := by omega
      have f2 : (k : Int) + 3 ≤ b.length := by omega
      have f3 : ((k : Int) + 3).toNat = k + 3 := by omega
      have f4 : k + 3 - (k + 1) = 2 := by omega
      have f5 : k + 3 - k = 3 := by omega
      have f7 : (k : Int) ≤ (k : Int) + 3 := by omega
      have f8 : (k : Int) + 1 ≤ (k : Int) + 3 := by omega
      have g1 : k + 1 < b.length := by omega
      have r1 := b[k + 1].toNat_lt
      have p1 := w64 (b[k + 1].toNat : Int) (by omega)
      have g2 : k + 2 < b.length := by omega
      have r2 := b[k + 2].toNat_lt
      have p2 := w64 (b[k + 2].toNat : Int) (by omega)
      have q10 := w64 ((x - 224) * 64) (by omega)
      have q11 := w64 ((x - 224) * 64 + (b[k + 1].toNat : Int)) (by omega)
      have q12 := w64 ((x - 224) * 64 + (b[k + 1].toNat : Int) - 128) (by omega)
      have q20 := w64 (((x - 224) * 64 + (b[k + 1].toNat : Int) - 128) * 64) (by omega)
      have q21 := w64 (((x - 224) * 64 + (b[k + 1].toNat : Int) - 128) * 64 + (b[k + 2].toNat : Int)) (by omega)
      have q22 := w64 (((x - 224) * 64 + (b[k + 1].toNat : Int) - 128) * 64 + (b[k + 2].toNat : Int) - 128) (by omega)
      have v1 : val (b.drop k) 3 = ((x - 224) * 64 + (b[k + 1].toNat : Int) - 128) * 64 + (b[k + 2].toNat : Int) - 128 := by rw [val, nat8_drop0 hk, nat8_drop g1, nat8_drop g2, hx]
      have z0 : runeBytes (((x - 224) * 64 + (b[k + 1].toNat : Int) - 128) * 64 + (b[k + 2].toNat : Int) - 128) = [b[k], b[k + 1], b[k + 2]] ∨ runeBytes (((x - 224) * 64 + (b[k + 1].toNat : Int) - 128) * 64 + (b[k + 2].toNat : Int) - 128) ≠ [b[k], b[k + 1], b[k + 2]] := Decidable.em _
      rcases z0 with z | z
      · simp [Tryz.func64, Tryz.f64, h0, h1, hk, byts_get hk, hx, w0, c1, c2, c3, e1, e4, e5, w1, w2, w3, w4, decR, decN, E_iin, f1, f2, f3, f4, f5, f7, f8, cut2 (k := k + 1) g2, cut3 g2, byts_cons, byts_nil, loopV_unf, p1, p2, q10, q11, q12, q20, q21, q22, E_iRuneBytes, bytes_of_byts, v1, z, hxo]
      · simp [Tryz.func64, Tryz.f64, h0, h1, hk, byts_get hk, hx, w0, c1, c2, c3, e1, e4, e5, w1, w2, w3, w4, decR, decN, E_iin, f1, f2, f3, f4, f5, f7, f8, cut2 (k := k + 1) g2, cut3 g2, byts_cons, byts_nil, loopV_unf, p1, p2, q10, q11, q12, q20, q21, q22, E_iRuneBytes, bytes_of_byts, v1, z, hxo]
    · have e5 : (b.length : Int) - 3 < k := by omega
      simp [Tryz.func64, Tryz.f64, h0, h1, hk, byts_get hk, hx, w0, c1, c2, c3, e1, e4, e5, w1, w2, decR, decN, E_iin]
  by_cases c4 : inR x 240 247 = true
  · have e1 : cls x = 4 := by simp [cls, c1, c2, c3, c4]
    obtain ⟨a1, a2⟩ := inR_of c4
    have w1 := w64 (x - 240) (by omega)
    have w2 := w64 ((b.length : Int) - 4) (by omega)
    by_cases e4 : k + 4 ≤ b.length
    · have e5 : ¬ ((b.length : Int) - 4 < k) := by omega
      have w3 := w64 ((k : Int) + 1) (by omega)
      have w4 := w64 ((k : Int) + 4) (by omega)
      have f1 : (0 : Int) ≤ (k : Int) + 1 := by omega
      have f2 : (k : Int) + 4 ≤ b.length := by omega
      have f3 : ((k : Int) + 4).toNat = k + 4 := by omega
      have f4 : k + 4 - (k + 1) = 3 := by omega
      have f5 : k + 4 - k = 4 := by omega
      have f7 : (k : Int) ≤ (k : Int) + 4 := by omega
      have f8 : (k : Int) + 1 ≤ (k : Int) + 4 := by omega
      have g1 : k + 1 < b.length := by omega
      have r1 := b[k + 1].toNat_lt
      have p1 := w64 (b[k + 1].toNat : Int) (by omega)
      have g2 : k + 2 < b.length := by omega
      have r2 := b[k + 2].toNat_lt
      have p2 := w64 (b[k + 2].toNat : Int) (by omega)
      have g3 : k + 3 < b.length := by omega
      have r3 := b[k + 3].toNat_lt
      have p3 := w64 (b[k + 3].toNat : Int) (by omega)
      have q10 := w64 ((x - 240) * 64) (by omega)
      have q11 := w64 ((x - 240) * 64 + (b[k + 1].toNat : Int)) (by omega)
      have q12 := w64 ((x - 240) * 64 + (b[k + 1].toNat : Int) - 128) (by omega)
      have q20 := w64 (((x - 240) * 64 + (b[k + 1].toNat : Int) - 128) * 64) (by omega)
      have q21 := w64 (((x - 240) * 64 + (b[k + 1].toNat : Int) - 128) * 64 + (b[k + 2].toNat : Int)) (by omega)
      have q22 := w64 (((x - 240) * 64 + (b[k + 1].toNat : Int) - 128) * 64 + (b[k + 2].toNat : Int) - 128) (by omega)
      have q30 := w64 ((((x - 240) * 64 + (b[k + 1].toNat : Int) - 128) * 64 + (b[k + 2].toNat : Int) - 128) * 64) (by omega)
      have q31 := w64 ((((x - 240) * 64 + (b[k + 1].toNat : Int) - 128) * 64 + (b[k + 2].toNat : Int) - 128) * 64 + (b[k + 3].toNat : Int)) (by omega)
      have q32 := w64 ((((x - 240) * 64 + (b[k + 1].toNat : Int) - 128) * 64 + (b[k + 2].toNat : Int) - 128) * 64 + (b[k + 3].toNat : Int) - 128) (by omega)
      have v1 : val (b.drop k) 4 = (((x - 240) * 64 + (b[k + 1].toNat : Int) - 128) * 64 + (b[k + 2].toNat : Int) - 128) * 64 + (b[k + 3].toNat : Int) - 128 := by rw [val, nat8_drop0 hk, nat8_drop g1, nat8_drop g2, nat8_drop g3, hx]
      have z0 : runeBytes ((((x - 240) * 64 + (b[k + 1].toNat : Int) - 128) * 64 + (b[k + 2].toNat : Int) - 128) * 64 + (b[k + 3].toNat : Int) - 128) = [b[k], b[k + 1], b[k + 2], b[k + 3]] ∨ runeBytes ((((x - 240) * 64 + (b[k + 1].toNat : Int) - 128) * 64 + (b[k + 2].toNat : Int) - 128) * 64 + (b[k + 3].toNat : Int) - 128) ≠ [b[k], b[k + 1], b[k + 2], b[k + 3]] := Decidable.em _
      rcases z0 with z | z
      · simp [Tryz.func64, Tryz.f64, h0, h1, hk, byts_get hk, hx, w0, c1, c2, c3, c4, e1, e4, e5, w1, w2, w3, w4, decR, decN, E_iin, f1, f2, f3, f4, f5, f7, f8, cut3 (k := k + 1) g3, cut4 g3, byts_cons, byts_nil, loopV_unf, p1, p2, p3, q10, q11, q12, q20, q21, q22, q30, q31, q32, E_iRuneBytes, bytes_of_byts, v1, z, hxo]
      · simp [Tryz.func64, Tryz.f64, h0, h1, hk, byts_get hk, hx, w0, c1, c2, c3, c4, e1, e4, e5, w1, w2, w3, w4, decR, decN, E_iin, f1, f2, f3, f4, f5, f7, f8, cut3 (k := k + 1) g3, cut4 g3, byts_cons, byts_nil, loopV_unf, p1, p2, p3, q10, q11, q12, q20, q21, q22, q30, q31, q32, E_iRuneBytes, bytes_of_byts, v1, z, hxo]
    · have e5 : (b.length : Int) - 4 < k := by omega
      simp [Tryz.func64, Tryz.f64, h0, h1, hk, byts_get hk, hx, w0, c1, c2, c3, c4, e1, e4, e5, w1, w2, decR, decN, E_iin]
  have e1 : cls x = 0 := by simp [cls, c1, c2, c3, c4]
  simp [Tryz.func64, Tryz.f64, h0, h1, hk, byts_get hk, hx, w0, c1, c2, c3, c4, e1, decR, decN, E_iin]
theorem dec_val {b : List UInt8} {r : Int} {n : Nat} (h : dec b = some (r, n)) : r = val b n ∧ n ≤ 4 := by
  cases b with
  | nil => cases h
  | cons c l =>
    rw [dec_cons] at h
    by_cases hc : cls (nat8 (c :: l) 0) ≠ 0 ∧ cls (nat8 (c :: l) 0) ≤ (c :: l).length ∧ runeBytes (val (c :: l) (cls (nat8 (c :: l) 0))) = (c :: l).take (cls (nat8 (c :: l) 0))
    · rw [if_pos hc] at h
      simp only [Option.some.injEq, Prod.mk.injEq] at h
      refine ⟨by rw [← h.1, h.2], ?_⟩
      rw [← h.2]
      unfold cls
      split
      · omega
      split
      · omega
      split
      · omega
      split <;> omega
    · rw [if_neg hc] at h; cases h
theorem dec_find (b : List UInt8) : ∃ N, N ≤ 4 ∧ (∀ j, j < N → j + 1 ≤ b.length ∧ runeBytes (val b (j + 1)) ≠ b.take (j + 1)) ∧ ((N < 4 ∧ N + 1 ≤ b.length ∧ runeBytes (val b (N + 1)) = b.take (N + 1) ∧ dec b = some (val b (N + 1), N + 1)) ∨ ((N = 4 ∨ b.length < N + 1) ∧ dec b = none)) := by
  have step : ∀ n, n ≤ 4 → (∀ j, j < n → j + 1 ≤ b.length ∧ runeBytes (val b (j + 1)) ≠ b.take (j + 1)) → ∃ N, N ≤ 4 ∧ (∀ j, j < N → j + 1 ≤ b.length ∧ runeBytes (val b (j + 1)) ≠ b.take (j + 1)) ∧ ((N < 4 ∧ N + 1 ≤ b.length ∧ runeBytes (val b (N + 1)) = b.take (N + 1) ∧ dec b = some (val b (N + 1), N + 1)) ∨ ((N = 4 ∨ b.length < N + 1) ∧ dec b = none)) := by
    intro n
    induction h : 4 - n generalizing n with
    | zero =>
      intro hn hall
      refine ⟨n, hn, hall, .inr ⟨.inl (by omega), ?_⟩⟩
      cases e : dec b with
      | none => rfl
      | some x =>
        obtain ⟨r, m⟩ := x
        obtain ⟨a1, a2, a3, a4, a5⟩ := dec_some e
        obtain ⟨v1, v2⟩ := dec_val e
        have := (hall (m - 1) (by omega)).2
        rw [show m - 1 + 1 = m by omega, ← v1] at this
        exact absurd a2 this
    | succ d ih =>
      intro hn hall
      by_cases hl : n + 1 ≤ b.length
      · by_cases ht : runeBytes (val b (n + 1)) = b.take (n + 1)
        · exact ⟨n, hn, hall, .inl ⟨by omega, hl, ht, (cls_of (by omega) hl ht).2⟩⟩
        · refine ih (n + 1) (by omega) (by omega) fun j hj => ?_
          rcases Nat.lt_or_ge j n with h1 | h1
          · exact hall j h1
          · obtain rfl : j = n := by omega
            exact ⟨hl, ht⟩
      · refine ⟨n, hn, hall, .inr ⟨.inr (by omega), ?_⟩⟩
        cases e : dec b with
        | none => rfl
        | some x =>
          obtain ⟨r, m⟩ := x
          obtain ⟨a1, a2, a3, a4, a5⟩ := dec_some e
          obtain ⟨v1, v2⟩ := dec_val e
          have := (hall (m - 1) (by omega)).2
          rw [show m - 1 + 1 = m by omega, ← v1] at this
          exact absurd a2 this
  exact step 0 (by omega) fun j hj => by omega
end Go.Proofs.YtnmneoekpikpkaaGreatDoor
namespace Go.Proofs.YtnmneoekpikpkaaGreatDoor
open Go.RowKit
set_option linter.unusedSimpArgs false
set_option linter.unusedVariables false
set_option maxHeartbeats 8000000
set_option maxRecDepth 10000
theorem rowsOfStr_byts (s : ByteArray) : rowsOfStr s = byts s.data.toList := rfl
theorem textOf_pos {r : Int} (h : runeOk r = true) : 1 ≤ (runeBytes r).length := by
  rcases runeBytes_cases h with ⟨_, _, e⟩ | ⟨_, _, e⟩ | ⟨_, _, e⟩ | ⟨_, _, e⟩ <;> rw [e] <;> simp
theorem E_iRunesOf (s : ByteArray) (l : List Int) (rest : List UInt8) (h : Reads s.data.toList l rest) (hs : s.size ≤ 65536) : M_iRunesOf [V.v (.string s)] [] [] = some ⟨.tup [.own 0, V.v (.bool rest.isEmpty)], [], [(0, if rest.isEmpty then ints l else [])]⟩ := by
  unfold M_iRunesOf
  have h1 : ¬ (65536 < (s.size : Int)) := by omega
  have h2 : s.size ≤ 4611686018427387904 := by omega
  have hsz : s.data.toList.length = s.size := by simp
  have hds : s.data.toList.length = s.data.size := Array.length_toList
  have hl := h.len
  simp [Tryz.func45, Tryz.f45, h1, h2, rowsOfStr_byts]
  rw [loopV_go (fun j => .on ⟨[(6, V.v (.int .i64 (((textOf (l.take j)).length : Int)))), (5, .fz (byts s.data.toList)), (4, .own 2000001000)], [], [(2000001000, ints (l.take j))], [(13, [])]⟩) l.length ?_ ?_]
  · obtain ⟨e1, e2⟩ := h.end
    have e3 := h.2.2
    cases rest with
    | nil =>
      have e4 : ¬ ((textOf l).length < s.size) := by rw [List.length_nil] at e2; omega
      simp [e4]
    | cons c rest =>
      have e4 : (textOf l).length < s.data.toList.length := by rw [List.length_cons] at e2; omega
      have e5 : (textOf l).length < s.size := by omega
      have e5b : (textOf l).length < s.data.size := by omega
      have e6 := E_iRuneRead s.data.toList (textOf l).length e4 (by omega)
      rw [e1, e3] at e6
      simp [e5, e5b, e6, decR, decN]
  · simp [textOf, ints_nil]
  · intro j hj
    obtain ⟨a1, a2, a3⟩ := h.at hj
    have a4 : (textOf (l.take (j + 1))).length ≤ 65536 := by
      have := textOf_take hj
      have e : (textOf (l.take (j + 1))).length ≤ s.data.toList.length := by
        conv => rhs; rw [h.1]
        rw [List.length_append]
        have : l = l.take (j + 1) ++ l.drop (j + 1) := (List.take_append_drop _ _).symm
        conv => rhs; rw [this]
        unfold textOf
        rw [List.flatMap_append, List.length_append]; omega
      omega
    have w1 := w64 ((textOf (l.take (j + 1))).length : Int) (by omega)
    have e5 : (textOf (l.take j)).length < s.size := by omega
    have e5b : (textOf (l.take j)).length < s.data.size := by omega
    have e6 := E_iRuneRead s.data.toList _ a1 (by omega)
    rw [a2] at e6
    have e7 := textOf_pos (h.2.1 l[j] (List.getElem_mem hj))
    have e8 : ¬ (runeBytes l[j] = []) := fun e => by rw [e] at e7; simp at e7
    have e9 : ((textOf (l.take j)).length : Int) + ((runeBytes l[j]).length : Int) = ((textOf (l.take (j + 1))).length : Int) := by omega
    have e10 : (l.take j).length ≤ 65536 := by simp; omega
    have e11 : ints (l.take j) ++ [[D.a (.int .i64 (l[j]))]] = ints (l.take (j + 1)) := by rw [ints_snoc, List.take_add_one, List.getElem?_eq_getElem hj]; rfl
    simp [e5, e5b, e6, decR, decN, e8]
    simp (disch := omega) only [grd_pos]
    simp [e9, w1, e11]
theorem E_iRunesOf_big (s : ByteArray) (hs : 65536 < s.size) : M_iRunesOf [V.v (.string s)] [] [] = some ⟨.tup [.own 0, V.v (.bool false)], [], [(0, [])]⟩ := by
  unfold M_iRunesOf
  have h1 : 65536 < (s.size : Int) := by omega
  simp [Tryz.func45, Tryz.f45, h1]
end Go.Proofs.YtnmneoekpikpkaaGreatDoor
namespace Go.Proofs.YtnmneoekpikpkaaGreatDoor
open Go.RowKit
set_option linter.unusedSimpArgs false
set_option linter.unusedVariables false
set_option maxHeartbeats 8000000
set_option maxRecDepth 10000
structure HistI (f : Int) (l : List ByteArray) : Prop where
  first : 1 ≤ f ∧ f ≤ 1000000000
  len : l.length ≤ 60
  each : ∀ s ∈ l, 1 ≤ s.size ∧ s.size ≤ 1000
def histLast (f : Int) (l : List ByteArray) : Int := if l = [] then 0 else f + l.length - 1
theorem E_iHistOk (f : Int) (l : List ByteArray) (h : HistI f l) : M_iHistOk [.agg [V.v (.int .i64 f), .lst (some 0) (strs l)]] [] [] = some ⟨V.v (.bool true), [], []⟩ := by
  have q1 : inR f 1 1000000000 = true := inR_iff.2 h.first
  have q2 : ¬ (60 : Int) < l.length := by have := h.len; omega
  have q3 := h.len
  unfold M_iHistOk
  simp [Tryz.func34, Tryz.f34, E_iin, q1, q2]
  rw [loopV_go (fun j => .on ⟨[(18, V.v (.int .i64 ((j : Int)))), (17, V.v (.int .i64 ((l.length : Int)))), (16, .lst (some 0) (strs l))], [], [], []⟩) l.length ?_ ?_]
  · simp
  · simp
  · intro j hj
    have hw := w64 (j + 1) (by omega)
    have e := h.each l[j] (List.getElem_mem hj)
    have q4 : inR (l[j].size : Int) 1 1000 = true := inR_iff.2 (by omega)
    simp [hj, hw, E_iin, q4]
theorem E_iHistLast (f : Int) (l : List ByteArray) (h : HistI f l) : M_iHistLast [.agg [V.v (.int .i64 f), .lst (some 0) (strs l)]] [] [] = some ⟨V.v (.int .i64 (histLast f l)), [], []⟩ := by
  have e := E_iHistOk f l h
  have h1 := h.first
  have h2 := h.len
  have w1 := w64 (f + l.length) (by omega)
  have w2 := w64 (f + l.length - 1) (by omega)
  unfold M_iHistLast histLast
  by_cases hl : l = []
  · subst hl
    simp only [show strs [] = [] from rfl] at e
    simp [Tryz.func14, Tryz.f14, e, show strs [] = [] from rfl]
  · simp [Tryz.func14, Tryz.f14, e, hl, w1, w2]
theorem E_iHistGet (f : Int) (l : List ByteArray) (h : HistI f l) (k : Nat) (hk : k < l.length) : M_iHistGet [.agg [V.v (.int .i64 f), .lst (some 0) (strs l)], V.v (.int .i64 (f + k))] [] [] = some ⟨.tup [V.v (.string (l[k])), V.v (.bool true)], [], []⟩ := by
  have e := E_iHistOk f l h
  have h1 := h.first
  have h2 := h.len
  have w1 := w64 (f + l.length) (by omega)
  have w2 := w64 (f + l.length - 1) (by omega)
  have w3 := w64 (f + k - f) (by omega)
  have q : inR (f + k) f (f + l.length - 1) = true := inR_iff.2 (by omega)
  have q2 : f + (k : Int) - f = k := by omega
  rw [q2] at w3
  unfold M_iHistGet
  simp [Tryz.func13, Tryz.f13, e, E_iin, w1, w2, q, q2, w3, hk]
theorem E_iHistGet_no (f : Int) (l : List ByteArray) (h : HistI f l) (n : Int) (hn : n < f ∨ f + l.length ≤ n) : M_iHistGet [.agg [V.v (.int .i64 f), .lst (some 0) (strs l)], V.v (.int .i64 n)] [] [] = some ⟨.tup [V.v (.string (⟨#[]⟩)), V.v (.bool false)], [], []⟩ := by
  have e := E_iHistOk f l h
  have h1 := h.first
  have h2 := h.len
  have w1 := w64 (f + l.length) (by omega)
  have w2 := w64 (f + l.length - 1) (by omega)
  have q : inR n f (f + l.length - 1) = false := by
    cases e : inR n f (f + l.length - 1)
    · rfl
    · have := inR_iff.1 e; omega
  unfold M_iHistGet
  simp [Tryz.func13, Tryz.f13, e, E_iin, w1, w2, q]
theorem E_sHistOk (f : Int) (l : List ByteArray) (h : HistI f l) : M_sHistOk [.agg [V.v (.int .i64 f), .lst (some 0) (strs l)]] [] [] = some ⟨V.v (.bool true), [], []⟩ := by
  have q1 := h.first
  have q2 := h.len
  have q3 : ¬ f < 1 := by omega
  have q4 : (l.length : Int) ≤ 60 := by omega
  unfold M_sHistOk
  simp [Tryz.func62, Tryz.f62]
  rw [loopV_go (fun j => .on ⟨[(8, V.v (.int .i64 ((j : Int)))), (7, V.v (.int .i64 ((l.length : Int)))), (6, .lst (some 0) (strs l)), (1, .ref 1 0)], [(1, [V.v (.int .i64 f), .lst (some 0) (strs l)])], [], []⟩) l.length ?_ ?_]
  · simp [q1, q2, q4]
  · simp
  · intro j hj
    have hw := w64 (j + 1) (by omega)
    have e := h.each l[j] (List.getElem_mem hj)
    have q5 : ¬ (l[j].size : Int) < 1 := by omega
    have q6 : ¬ (1000 : Int) < l[j].size := by omega
    simp [hj, hw, q5, q6]
def Cmd (s : ByteArray) : Prop := ∃ t, Reads s.data.toList t [] ∧ textOk t = true ∧ 1 ≤ s.size ∧ s.size ≤ 1000
theorem cmd_of {s : ByteArray} (l : List Int) (h1 : s.data.toList = textOf l) (h2 : l.all typed = true) (h3 : 1 ≤ s.size ∧ s.size ≤ 60) (h4 : l.length ≤ 60) : Cmd s := by
  refine ⟨l, ⟨by rw [List.append_nil]; exact h1, fun r hr => ?_, rfl⟩, ?_, h3.1, by omega⟩
  · have := List.all_eq_true.1 h2 r hr
    simp only [typed, Bool.or_eq_true, beq_iff_eq] at this
    rcases this with (h | h) | h
    · simp only [printable, Bool.and_eq_true] at h; exact h.1.1
    · subst h; decide
    · subst h; decide
  · simp only [textOk, h2, Bool.and_true, decide_eq_true_eq]; omega
def ascI (s : ByteArray) : List Int := s.data.toList.map fun b => (b.toNat : Int)
theorem cmd_asc {s : ByteArray} (h1 : s.data.toList = textOf (ascI s)) (h2 : (ascI s).all typed = true) (h3 : 1 ≤ s.size ∧ s.size ≤ 60) : Cmd s :=
  cmd_of (ascI s) h1 h2 h3 (by unfold ascI; rw [List.length_map, Array.length_toList]; exact h3.2)
theorem EX_sl05Text (b : List UInt8) (i h : Int) (hb : b.length ≤ 1048576) (hi : 0 ≤ i ∧ i ≤ b.length) : ∃ (s : ByteArray) (i' h' : Int), M_sl05Text [.ref 0 0] [curV b i h] [] = some ⟨V.v (.string s), [curV b i' h'], []⟩ ∧ Cmd s ∧ 0 ≤ i' ∧ i' ≤ b.length := by
  obtain ⟨k, i1, h1, e1, r1, j1⟩ := EX_sl01Below b i h 12 hb hi (by omega)
  unfold curV at e1
  generalize hE : M_sl05Text [.ref 0 0] [curV b i h] [] = R
  unfold M_sl05Text curV at hE
  have ko : k = 0 ∨ k = 1 ∨ k = 2 ∨ k = 3 ∨ k = 4 ∨ k = 5 ∨ k = 6 ∨ k = 7 ∨ k = 8 ∨ k = 9 ∨ k = 10 ∨ k = 11 := by omega
  rcases ko with rfl | rfl | rfl | rfl | rfl | rfl | rfl | rfl | rfl | rfl | rfl | rfl <;>
    (simp [Tryz.func43, Tryz.f43, e1] at hE; first | exact ⟨_, _, _, hE.symm, cmd_asc (by decide) (by decide) (by decide), j1⟩ | exact ⟨_, _, _, hE.symm, cmd_of [101, 99, 104, 111, 32, 233] (by decide) (by decide) (by decide) (by decide), j1⟩)
theorem E_sHistAdd (f : Int) (l : List ByteArray) (s : ByteArray) (h : HistI f l) (hf : f ≤ 1000) (hs : 1 ≤ s.size ∧ s.size ≤ 1000) : ∃ (f' : Int) (l' : List ByteArray), M_sHistAdd [.agg [V.v (.int .i64 f), .lst (some 0) (strs l)], V.v (.string s)] [] [] = some ⟨.tup [.agg [V.v (.int .i64 f'), .own 0], V.v (.bool true)], [], [(0, strs l')]⟩ ∧ HistI f' l' ∧ f' ≤ f + 1 ∧ ∀ x ∈ l', x ∈ l ∨ x = s := by
  have h1 := h.first
  have h2 := h.len
  have e1 := E_sHistOk f l h
  have g1 : l.length * 16 ≤ 140737488355328 := by omega
  have g2 : l.length ≤ 4611686018427387904 := by omega
  have g3 : (l.length + 1) * 16 ≤ 140737488355328 := by omega
  have g4 : l.length ≤ 4611686018427387903 := by omega
  have hsn : strs l ++ [[.a (.string s)]] = strs (l ++ [s]) := strs_snoc l s
  generalize hE : M_sHistAdd _ _ _ = R
  unfold M_sHistAdd at hE
  by_cases hl : l.length = 60
  · have w := w64 (f + 1) (by omega)
    have hh : HistI (f + 1) ((l ++ [s]).drop 1) := ⟨by omega, by simp; omega, fun x hx => by
      rcases List.mem_append.1 (List.mem_of_mem_drop hx) with hx | hx
      · exact h.each x hx
      · rw [List.mem_singleton.1 hx]; exact hs⟩
    have e2 := E_sHistOk _ _ hh
    have ht : ((l ++ [s]).drop 1).take 60 = (l ++ [s]).drop 1 := List.take_of_length_le (by simp; omega)
    simp [-strs_app, -List.drop_one, Tryz.func42, Tryz.f42, e1, g1, g2, g3, g4, hl, w, hsn, ht, e2] at hE
    exact ⟨f + 1, (l ++ [s]).drop 1, hE.symm, hh, by omega, fun x hx => by
      rcases List.mem_append.1 (List.mem_of_mem_drop hx) with hx | hx
      · exact .inl hx
      · exact .inr (List.mem_singleton.1 hx)⟩
  · have hh : HistI f (l ++ [s]) := ⟨h1, by simp; omega, fun x hx => by
      rcases List.mem_append.1 hx with hx | hx
      · exact h.each x hx
      · rw [List.mem_singleton.1 hx]; exact hs⟩
    have e2 := E_sHistOk _ _ hh
    have q : ¬ (60 : Int) < l.length + 1 := by omega
    simp [-strs_app, Tryz.func42, Tryz.f42, e1, e2, g1, g2, g3, g4, q, hsn] at hE
    exact ⟨f, l ++ [s], hE.symm, hh, by omega, fun x hx => by
      rcases List.mem_append.1 hx with hx | hx
      · exact .inl hx
      · exact .inr (List.mem_singleton.1 hx)⟩
theorem EX_sl16Draw (b : List UInt8) (i h : Int) (hb : b.length ≤ 1048576) (hi : 0 ≤ i ∧ i ≤ b.length) : ∃ (f : Int) (l : List ByteArray) (i' h' : Int), M_sl16Draw [.ref 0 0] [curV b i h] [] = some ⟨.agg [V.v (.int .i64 f), .own 0], [curV b i' h'], [(0, strs l)]⟩ ∧ HistI f l ∧ (∀ s ∈ l, Cmd s) ∧ 0 ≤ i' ∧ i' ≤ b.length := by
  obtain ⟨x, i1, h1, e1, r1, j1⟩ := EX_sl01Below b i h 5 hb hi (by omega)
  obtain ⟨y, i2, h2, e2, r2, j2⟩ := EX_sl01Below b i1 h1 8 hb j1 (by omega)
  obtain ⟨z, i3, h3, e3, r3, j3⟩ := EX_sl01Below b i2 h2 12 hb j2 (by omega)
  unfold curV at e1 e2 e3
  have w1 := w64 (1 + x) (by omega)
  generalize hE : M_sl16Draw _ _ _ = R
  unfold M_sl16Draw curV at hE
  by_cases hz : z = 0
  · subst hz
    obtain ⟨v, i4, h4, e4, r4, j4⟩ := EX_sl01Below b i3 h3 4 hb j3 (by omega)
    unfold curV at e4
    obtain ⟨m, hm⟩ := Int.eq_ofNat_of_zero_le (show 0 ≤ 59 + v by omega)
    have w2 := w64 (59 + v) (by omega)
    rw [hm] at w2
    simp [Tryz.func23, Tryz.f23, e1, e2, e3, e4, w1, hm, w2] at hE
    generalize hL : loopV _ _ = L at hE
    obtain ⟨⟨f, l, i6, h6⟩, ⟨a1, a2, a3, a4⟩, e⟩ := loopV_ex hL (σ := Int × List ByteArray × Int × Int) (fun j a => .on ⟨[(4, V.v (.int .i64 ((m : Int) - j))), (3, .ref 3 0), (2, .ref 2 0), (0, .ref 1000000000 0)], [(1000000000, [.lst (some 0) (byts b), V.v (.int .i64 a.2.2.1), V.v (.int .i64 a.2.2.2)]), (3, [V.v (.int .i64 a.1), .own 2000000000]), (2, [V.v (.int .i64 0), .own 2000000001])], [(2000000001, []), (2000000000, strs a.2.1)], []⟩) m (fun j a => HistI a.1 a.2.1 ∧ (∀ s ∈ a.2.1, Cmd s) ∧ (a.1 ≤ 5 + j) ∧ 0 ≤ a.2.2.1 ∧ a.2.2.1 ≤ b.length) (1 + x, [], i4, h4) (by simp [show strs [] = [] from rfl]) ⟨⟨by simp only; omega, by simp, fun s hs => by cases hs⟩, fun s hs => (by cases hs), by simp only; omega, j4⟩ (fun j a hj ⟨p1, p2, p3, p4⟩ => by
      obtain ⟨f, l, i6, h6⟩ := a
      simp only at p1 p2 p3 p4
      obtain ⟨s, i7, h7, d1, c1, j7⟩ := EX_sl05Text b i6 h6 hb p4
      obtain ⟨t, _, _, c2, c3⟩ := id c1
      obtain ⟨f', l', d2, q1, q2, q3⟩ := E_sHistAdd f l s p1 (by omega) ⟨c2, c3⟩
      unfold curV at d1
      have g : (0 : Int) < (m : Int) - j := by omega
      have hw2 : (m : Int) - j - 1 = (m : Int) - ((j : Int) + 1) := by omega
      have hw := w64 ((m : Int) - ((j : Int) + 1)) (by omega)
      refine ⟨(f', l', i7, h7), ⟨q1, fun y hy => (q3 y hy).elim (p2 y) (fun e => e ▸ c1), by simp only; omega, j7⟩, ?_⟩
      simp [hj, d1, d2, hw2, hw])
    subst e
    simp at hE
    simp only at a1 a2 a4
    exact ⟨f, l, i6, h6, hE.symm, a1, a2, a4⟩
  · obtain ⟨m, hm⟩ := Int.eq_ofNat_of_zero_le (show 0 ≤ y by omega)
    simp [Tryz.func23, Tryz.f23, e1, e2, e3, hz, w1, hm] at hE
    generalize hL : loopV _ _ = L at hE
    obtain ⟨⟨f, l, i6, h6⟩, ⟨a1, a2, a3, a4⟩, e⟩ := loopV_ex hL (σ := Int × List ByteArray × Int × Int) (fun j a => .on ⟨[(4, V.v (.int .i64 ((m : Int) - j))), (3, .ref 3 0), (2, .ref 2 0), (0, .ref 1000000000 0)], [(1000000000, [.lst (some 0) (byts b), V.v (.int .i64 a.2.2.1), V.v (.int .i64 a.2.2.2)]), (3, [V.v (.int .i64 a.1), .own 2000000000]), (2, [V.v (.int .i64 0), .own 2000000001])], [(2000000001, []), (2000000000, strs a.2.1)], []⟩) m (fun j a => HistI a.1 a.2.1 ∧ (∀ s ∈ a.2.1, Cmd s) ∧ (a.1 ≤ 5 + j) ∧ 0 ≤ a.2.2.1 ∧ a.2.2.1 ≤ b.length) (1 + x, [], i3, h3) (by simp [show strs [] = [] from rfl]) ⟨⟨by simp only; omega, by simp, fun s hs => by cases hs⟩, fun s hs => (by cases hs), by simp only; omega, j3⟩ (fun j a hj ⟨p1, p2, p3, p4⟩ => by
      obtain ⟨f, l, i6, h6⟩ := a
      simp only at p1 p2 p3 p4
      obtain ⟨s, i7, h7, d1, c1, j7⟩ := EX_sl05Text b i6 h6 hb p4
      obtain ⟨t, _, _, c2, c3⟩ := id c1
      obtain ⟨f', l', d2, q1, q2, q3⟩ := E_sHistAdd f l s p1 (by omega) ⟨c2, c3⟩
      unfold curV at d1
      have g : (0 : Int) < (m : Int) - j := by omega
      have hw2 : (m : Int) - j - 1 = (m : Int) - ((j : Int) + 1) := by omega
      have hw := w64 ((m : Int) - ((j : Int) + 1)) (by omega)
      refine ⟨(f', l', i7, h7), ⟨q1, fun y hy => (q3 y hy).elim (p2 y) (fun e => e ▸ c1), by simp only; omega, j7⟩, ?_⟩
      simp [hj, d1, d2, hw2, hw])
    subst e
    simp at hE
    simp only at a1 a2 a4
    exact ⟨f, l, i6, h6, hE.symm, a1, a2, a4⟩
end Go.Proofs.YtnmneoekpikpkaaGreatDoor
namespace Go.Proofs.YtnmneoekpikpkaaGreatDoor
open Go.RowKit
set_option linter.unusedSimpArgs false
set_option linter.unusedVariables false
set_option maxHeartbeats 16000000
set_option maxRecDepth 100000
def findB (fr fh : Int) : Bool := (fr == 0 && fh == 0) || (fr != 0 && (printable fr && inR fh 0 3))
def edOk (vi : Bool) (mode : Int) (lt : List Int) (la cnt op opc wt fr fh last : Int) (rp : List TPiece) (ul : List TLine) (nav : Int) (ot : List Int) (oa : Int) (q : List Int) (hit : Int) (bt : List Int) (ba : Int) : Bool :=
  lineOk lt la && (lineOk ot oa && (lineOk bt ba && (inR cnt 0 999 && (inR opc 0 999 && (modeB vi mode lt la op opc wt && (findB fr fh && (inR last 0 3 && (ringOk rp && (undoOk ul && (inR nav 0 1000000060 && (inR hit 0 1000000060 && ((nav != 0 || emptyL ot oa) && (decide (q.length ≤ 40) && (q.all printable && seekB mode q hit bt ba))))))))))))))
theorem E_iEdOk (vi : Bool) (mode : Int) (lt : List Int) (la cnt op opc wt fr fh last : Int) (rp : List TPiece) (ul : List TLine) (nav : Int) (ot : List Int) (oa : Int) (q : List Int) (hit : Int) (bt : List Int) (ba : Int) (h1 : lt.length ≤ 1000000000) (h2 : ot.length ≤ 1000000000) (h3 : bt.length ≤ 1000000000) (h4 : q.length ≤ 1000000000) (h5 : smL (dPieces rp) = true) (h6 : smL (dLines ul) = true) : M_iEdOk [.agg [V.v (.bool vi), V.v (.int .i64 mode), .lst (some 0) (ints lt), V.v (.int .i64 la), V.v (.int .i64 cnt), V.v (.int .i64 op), V.v (.int .i64 opc), V.v (.int .i64 wt), V.v (.int .i64 fr), V.v (.int .i64 fh), V.v (.int .i64 last), .lst (some 1) (dPieces rp), .lst (some 2) (dLines ul), V.v (.int .i64 nav), .lst (some 3) (ints ot), V.v (.int .i64 oa), .lst (some 4) (ints q), V.v (.int .i64 hit), .lst (some 5) (ints bt), V.v (.int .i64 ba)]] [] [] = some ⟨V.v (.bool (edOk vi mode lt la cnt op opc wt fr fh last rp ul nav ot oa q hit bt ba)), [], []⟩ := by
  unfold M_iEdOk
  cases a0 : lineOk lt la
  · simp [Tryz.func11, Tryz.f11, edOk, findB, E_iLineOk, h1, h2, h3, h5, h6, E_iin, E_imodeOk, E_iRingOk, E_iUndoOk, E_iemptyLine, E_iPrintable, a0]
  cases a1 : lineOk ot oa
  · simp [Tryz.func11, Tryz.f11, edOk, findB, E_iLineOk, h1, h2, h3, h5, h6, E_iin, E_imodeOk, E_iRingOk, E_iUndoOk, E_iemptyLine, E_iPrintable, a0, a1]
  cases a2 : lineOk bt ba
  · simp [Tryz.func11, Tryz.f11, edOk, findB, E_iLineOk, h1, h2, h3, h5, h6, E_iin, E_imodeOk, E_iRingOk, E_iUndoOk, E_iemptyLine, E_iPrintable, a0, a1, a2]
  cases a3 : inR cnt 0 999
  · simp [Tryz.func11, Tryz.f11, edOk, findB, E_iLineOk, h1, h2, h3, h5, h6, E_iin, E_imodeOk, E_iRingOk, E_iUndoOk, E_iemptyLine, E_iPrintable, a0, a1, a2, a3]
  cases a4 : inR opc 0 999
  · simp [Tryz.func11, Tryz.f11, edOk, findB, E_iLineOk, h1, h2, h3, h5, h6, E_iin, E_imodeOk, E_iRingOk, E_iUndoOk, E_iemptyLine, E_iPrintable, a0, a1, a2, a3, a4]
  cases a5 : modeB vi mode lt la op opc wt
  · simp [Tryz.func11, Tryz.f11, edOk, findB, E_iLineOk, h1, h2, h3, h5, h6, E_iin, E_imodeOk, E_iRingOk, E_iUndoOk, E_iemptyLine, E_iPrintable, a0, a1, a2, a3, a4, a5]
  by_cases f0 : fr = 0
  · subst f0
    by_cases f1 : fh = 0
    rotate_left
    · simp [Tryz.func11, Tryz.f11, edOk, findB, E_iLineOk, h1, h2, h3, h5, h6, E_iin, E_imodeOk, E_iRingOk, E_iUndoOk, E_iemptyLine, E_iPrintable, a0, a1, a2, a3, a4, a5, f1]
    subst f1
    cases c0 : inR last 0 3
    · simp [Tryz.func11, Tryz.f11, edOk, findB, E_iLineOk, h1, h2, h3, h5, h6, E_iin, E_imodeOk, E_iRingOk, E_iUndoOk, E_iemptyLine, E_iPrintable, a0, a1, a2, a3, a4, a5, c0]
    cases c1 : ringOk rp
    · simp [Tryz.func11, Tryz.f11, edOk, findB, E_iLineOk, h1, h2, h3, h5, h6, E_iin, E_imodeOk, E_iRingOk, E_iUndoOk, E_iemptyLine, E_iPrintable, a0, a1, a2, a3, a4, a5, c0, c1]
    cases c2 : undoOk ul
    · simp [Tryz.func11, Tryz.f11, edOk, findB, E_iLineOk, h1, h2, h3, h5, h6, E_iin, E_imodeOk, E_iRingOk, E_iUndoOk, E_iemptyLine, E_iPrintable, a0, a1, a2, a3, a4, a5, c0, c1, c2]
    cases c3 : inR nav 0 1000000060
    · simp [Tryz.func11, Tryz.f11, edOk, findB, E_iLineOk, h1, h2, h3, h5, h6, E_iin, E_imodeOk, E_iRingOk, E_iUndoOk, E_iemptyLine, E_iPrintable, a0, a1, a2, a3, a4, a5, c0, c1, c2, c3]
    cases c4 : inR hit 0 1000000060
    · simp [Tryz.func11, Tryz.f11, edOk, findB, E_iLineOk, h1, h2, h3, h5, h6, E_iin, E_imodeOk, E_iRingOk, E_iUndoOk, E_iemptyLine, E_iPrintable, a0, a1, a2, a3, a4, a5, c0, c1, c2, c3, c4]
    by_cases d0 : nav = 0
    · subst d0
      cases e0 : emptyL ot oa
      · simp [Tryz.func11, Tryz.f11, edOk, findB, E_iLineOk, h1, h2, h3, h5, h6, E_iin, E_imodeOk, E_iRingOk, E_iUndoOk, E_iemptyLine, E_iPrintable, a0, a1, a2, a3, a4, a5, c0, c1, c2, c3, c4, e0]
      by_cases d1 : q.length ≤ 40
      rotate_left
      · have d1' : 40 < (q.length : Int) := by omega
        simp [Tryz.func11, Tryz.f11, edOk, findB, E_iLineOk, h1, h2, h3, h5, h6, E_iin, E_imodeOk, E_iRingOk, E_iUndoOk, E_iemptyLine, E_iPrintable, a0, a1, a2, a3, a4, a5, c0, c1, c2, c3, c4, e0, d1, d1']
      have d1' : ¬ (40 < (q.length : Int)) := by omega
      simp [Tryz.func11, Tryz.f11, edOk, findB, E_iLineOk, h1, h2, h3, h5, h6, E_iin, E_imodeOk, E_iRingOk, E_iUndoOk, E_iemptyLine, E_iPrintable, a0, a1, a2, a3, a4, a5, c0, c1, c2, c3, c4, e0, d1, d1']
      rcases firstBad printable q with g | ⟨g, N, hN, g1, g2⟩
      · rw [loopV_go (fun j => .on ⟨[(109, V.v (.int .i64 ((j : Int)))), (108, V.v (.int .i64 ((q.length : Int)))), (107, .lst (some 4) (ints q)), (1, .ref 1 0)], [(1, [V.v (.bool vi), V.v (.int .i64 mode), .lst (some 0) (ints lt), V.v (.int .i64 la), V.v (.int .i64 cnt), V.v (.int .i64 op), V.v (.int .i64 opc), V.v (.int .i64 wt), V.v (.int .i64 0), V.v (.int .i64 0), V.v (.int .i64 last), .lst (some 1) (dPieces rp), .lst (some 2) (dLines ul), V.v (.int .i64 0), .lst (some 3) (ints ot), V.v (.int .i64 oa), .lst (some 4) (ints q), V.v (.int .i64 hit), .lst (some 5) (ints bt), V.v (.int .i64 ba)])], [], []⟩) q.length ?_ ?_]
        · by_cases m3 : mode = 3
          · simp [Tryz.func11, Tryz.f11, edOk, findB, E_iLineOk, h1, h2, h3, h5, h6, E_iin, E_imodeOk, E_iRingOk, E_iUndoOk, E_iemptyLine, E_iPrintable, a0, a1, a2, a3, a4, a5, c0, c1, c2, c3, c4, e0, d1, d1', g, seekB, m3]
          · by_cases q0 : q = []
            · subst q0
              by_cases t0 : hit = 0
              · subst t0; cases em : emptyL bt ba <;> simp [Tryz.func11, Tryz.f11, edOk, findB, E_iLineOk, h1, h2, h3, h5, h6, E_iin, E_imodeOk, E_iRingOk, E_iUndoOk, E_iemptyLine, E_iPrintable, a0, a1, a2, a3, a4, a5, c0, c1, c2, c3, c4, e0, d1, d1', g, seekB, m3, em]
              · simp [Tryz.func11, Tryz.f11, edOk, findB, E_iLineOk, h1, h2, h3, h5, h6, E_iin, E_imodeOk, E_iRingOk, E_iUndoOk, E_iemptyLine, E_iPrintable, a0, a1, a2, a3, a4, a5, c0, c1, c2, c3, c4, e0, d1, d1', g, seekB, m3, t0]
            · simp [Tryz.func11, Tryz.f11, edOk, findB, E_iLineOk, h1, h2, h3, h5, h6, E_iin, E_imodeOk, E_iRingOk, E_iUndoOk, E_iemptyLine, E_iPrintable, a0, a1, a2, a3, a4, a5, c0, c1, c2, c3, c4, e0, d1, d1', g, seekB, m3, q0]
        · simp
        · intro j hj
          have hw := w64 (j + 1) (by omega)
          have := List.all_eq_true.1 g q[j] (List.getElem_mem hj)
          simp [hj, hw, ints_get hj, E_iPrintable, this]
      · rw [loopV_go (fun j => .on ⟨[(109, V.v (.int .i64 ((j : Int)))), (108, V.v (.int .i64 ((q.length : Int)))), (107, .lst (some 4) (ints q)), (1, .ref 1 0)], [(1, [V.v (.bool vi), V.v (.int .i64 mode), .lst (some 0) (ints lt), V.v (.int .i64 la), V.v (.int .i64 cnt), V.v (.int .i64 op), V.v (.int .i64 opc), V.v (.int .i64 wt), V.v (.int .i64 0), V.v (.int .i64 0), V.v (.int .i64 last), .lst (some 1) (dPieces rp), .lst (some 2) (dLines ul), V.v (.int .i64 0), .lst (some 3) (ints ot), V.v (.int .i64 oa), .lst (some 4) (ints q), V.v (.int .i64 hit), .lst (some 5) (ints bt), V.v (.int .i64 ba)])], [], []⟩) N ?_ ?_]
        · simp [hN, ints_get hN, E_iPrintable, g1, g, edOk]
        · simp
        · intro j hj
          have hj' : j < q.length := by omega
          have hw := w64 (j + 1) (by omega)
          simp [hj', hw, ints_get hj', E_iPrintable, g2 j hj' hj]
    · skip
      by_cases d1 : q.length ≤ 40
      rotate_left
      · have d1' : 40 < (q.length : Int) := by omega
        simp [Tryz.func11, Tryz.f11, edOk, findB, E_iLineOk, h1, h2, h3, h5, h6, E_iin, E_imodeOk, E_iRingOk, E_iUndoOk, E_iemptyLine, E_iPrintable, a0, a1, a2, a3, a4, a5, c0, c1, c2, c3, c4, d0, d1, d1']
      have d1' : ¬ (40 < (q.length : Int)) := by omega
      simp [Tryz.func11, Tryz.f11, edOk, findB, E_iLineOk, h1, h2, h3, h5, h6, E_iin, E_imodeOk, E_iRingOk, E_iUndoOk, E_iemptyLine, E_iPrintable, a0, a1, a2, a3, a4, a5, c0, c1, c2, c3, c4, d0, d1, d1']
      rcases firstBad printable q with g | ⟨g, N, hN, g1, g2⟩
      · rw [loopV_go (fun j => .on ⟨[(109, V.v (.int .i64 ((j : Int)))), (108, V.v (.int .i64 ((q.length : Int)))), (107, .lst (some 4) (ints q)), (1, .ref 1 0)], [(1, [V.v (.bool vi), V.v (.int .i64 mode), .lst (some 0) (ints lt), V.v (.int .i64 la), V.v (.int .i64 cnt), V.v (.int .i64 op), V.v (.int .i64 opc), V.v (.int .i64 wt), V.v (.int .i64 0), V.v (.int .i64 0), V.v (.int .i64 last), .lst (some 1) (dPieces rp), .lst (some 2) (dLines ul), V.v (.int .i64 nav), .lst (some 3) (ints ot), V.v (.int .i64 oa), .lst (some 4) (ints q), V.v (.int .i64 hit), .lst (some 5) (ints bt), V.v (.int .i64 ba)])], [], []⟩) q.length ?_ ?_]
        · by_cases m3 : mode = 3
          · simp [Tryz.func11, Tryz.f11, edOk, findB, E_iLineOk, h1, h2, h3, h5, h6, E_iin, E_imodeOk, E_iRingOk, E_iUndoOk, E_iemptyLine, E_iPrintable, a0, a1, a2, a3, a4, a5, c0, c1, c2, c3, c4, d0, d1, d1', g, seekB, m3]
          · by_cases q0 : q = []
            · subst q0
              by_cases t0 : hit = 0
              · subst t0; cases em : emptyL bt ba <;> simp [Tryz.func11, Tryz.f11, edOk, findB, E_iLineOk, h1, h2, h3, h5, h6, E_iin, E_imodeOk, E_iRingOk, E_iUndoOk, E_iemptyLine, E_iPrintable, a0, a1, a2, a3, a4, a5, c0, c1, c2, c3, c4, d0, d1, d1', g, seekB, m3, em]
              · simp [Tryz.func11, Tryz.f11, edOk, findB, E_iLineOk, h1, h2, h3, h5, h6, E_iin, E_imodeOk, E_iRingOk, E_iUndoOk, E_iemptyLine, E_iPrintable, a0, a1, a2, a3, a4, a5, c0, c1, c2, c3, c4, d0, d1, d1', g, seekB, m3, t0]
            · simp [Tryz.func11, Tryz.f11, edOk, findB, E_iLineOk, h1, h2, h3, h5, h6, E_iin, E_imodeOk, E_iRingOk, E_iUndoOk, E_iemptyLine, E_iPrintable, a0, a1, a2, a3, a4, a5, c0, c1, c2, c3, c4, d0, d1, d1', g, seekB, m3, q0]
        · simp
        · intro j hj
          have hw := w64 (j + 1) (by omega)
          have := List.all_eq_true.1 g q[j] (List.getElem_mem hj)
          simp [hj, hw, ints_get hj, E_iPrintable, this]
      · rw [loopV_go (fun j => .on ⟨[(109, V.v (.int .i64 ((j : Int)))), (108, V.v (.int .i64 ((q.length : Int)))), (107, .lst (some 4) (ints q)), (1, .ref 1 0)], [(1, [V.v (.bool vi), V.v (.int .i64 mode), .lst (some 0) (ints lt), V.v (.int .i64 la), V.v (.int .i64 cnt), V.v (.int .i64 op), V.v (.int .i64 opc), V.v (.int .i64 wt), V.v (.int .i64 0), V.v (.int .i64 0), V.v (.int .i64 last), .lst (some 1) (dPieces rp), .lst (some 2) (dLines ul), V.v (.int .i64 nav), .lst (some 3) (ints ot), V.v (.int .i64 oa), .lst (some 4) (ints q), V.v (.int .i64 hit), .lst (some 5) (ints bt), V.v (.int .i64 ba)])], [], []⟩) N ?_ ?_]
        · simp [hN, ints_get hN, E_iPrintable, g1, g, edOk]
        · simp
        · intro j hj
          have hj' : j < q.length := by omega
          have hw := w64 (j + 1) (by omega)
          simp [hj', hw, ints_get hj', E_iPrintable, g2 j hj' hj]
  · skip
    cases f1 : printable fr
    · simp [Tryz.func11, Tryz.f11, edOk, findB, E_iLineOk, h1, h2, h3, h5, h6, E_iin, E_imodeOk, E_iRingOk, E_iUndoOk, E_iemptyLine, E_iPrintable, a0, a1, a2, a3, a4, a5, f0, f1]
    cases f2 : inR fh 0 3
    · simp [Tryz.func11, Tryz.f11, edOk, findB, E_iLineOk, h1, h2, h3, h5, h6, E_iin, E_imodeOk, E_iRingOk, E_iUndoOk, E_iemptyLine, E_iPrintable, a0, a1, a2, a3, a4, a5, f0, f1, f2]
    cases c0 : inR last 0 3
    · simp [Tryz.func11, Tryz.f11, edOk, findB, E_iLineOk, h1, h2, h3, h5, h6, E_iin, E_imodeOk, E_iRingOk, E_iUndoOk, E_iemptyLine, E_iPrintable, a0, a1, a2, a3, a4, a5, f0, f1, f2, c0]
    cases c1 : ringOk rp
    · simp [Tryz.func11, Tryz.f11, edOk, findB, E_iLineOk, h1, h2, h3, h5, h6, E_iin, E_imodeOk, E_iRingOk, E_iUndoOk, E_iemptyLine, E_iPrintable, a0, a1, a2, a3, a4, a5, f0, f1, f2, c0, c1]
    cases c2 : undoOk ul
    · simp [Tryz.func11, Tryz.f11, edOk, findB, E_iLineOk, h1, h2, h3, h5, h6, E_iin, E_imodeOk, E_iRingOk, E_iUndoOk, E_iemptyLine, E_iPrintable, a0, a1, a2, a3, a4, a5, f0, f1, f2, c0, c1, c2]
    cases c3 : inR nav 0 1000000060
    · simp [Tryz.func11, Tryz.f11, edOk, findB, E_iLineOk, h1, h2, h3, h5, h6, E_iin, E_imodeOk, E_iRingOk, E_iUndoOk, E_iemptyLine, E_iPrintable, a0, a1, a2, a3, a4, a5, f0, f1, f2, c0, c1, c2, c3]
    cases c4 : inR hit 0 1000000060
    · simp [Tryz.func11, Tryz.f11, edOk, findB, E_iLineOk, h1, h2, h3, h5, h6, E_iin, E_imodeOk, E_iRingOk, E_iUndoOk, E_iemptyLine, E_iPrintable, a0, a1, a2, a3, a4, a5, f0, f1, f2, c0, c1, c2, c3, c4]
    by_cases d0 : nav = 0
    · subst d0
      cases e0 : emptyL ot oa
      · simp [Tryz.func11, Tryz.f11, edOk, findB, E_iLineOk, h1, h2, h3, h5, h6, E_iin, E_imodeOk, E_iRingOk, E_iUndoOk, E_iemptyLine, E_iPrintable, a0, a1, a2, a3, a4, a5, f0, f1, f2, c0, c1, c2, c3, c4, e0]
      by_cases d1 : q.length ≤ 40
      rotate_left
      · have d1' : 40 < (q.length : Int) := by omega
        simp [Tryz.func11, Tryz.f11, edOk, findB, E_iLineOk, h1, h2, h3, h5, h6, E_iin, E_imodeOk, E_iRingOk, E_iUndoOk, E_iemptyLine, E_iPrintable, a0, a1, a2, a3, a4, a5, f0, f1, f2, c0, c1, c2, c3, c4, e0, d1, d1']
      have d1' : ¬ (40 < (q.length : Int)) := by omega
      simp [Tryz.func11, Tryz.f11, edOk, findB, E_iLineOk, h1, h2, h3, h5, h6, E_iin, E_imodeOk, E_iRingOk, E_iUndoOk, E_iemptyLine, E_iPrintable, a0, a1, a2, a3, a4, a5, f0, f1, f2, c0, c1, c2, c3, c4, e0, d1, d1']
      rcases firstBad printable q with g | ⟨g, N, hN, g1, g2⟩
      · rw [loopV_go (fun j => .on ⟨[(109, V.v (.int .i64 ((j : Int)))), (108, V.v (.int .i64 ((q.length : Int)))), (107, .lst (some 4) (ints q)), (1, .ref 1 0)], [(1, [V.v (.bool vi), V.v (.int .i64 mode), .lst (some 0) (ints lt), V.v (.int .i64 la), V.v (.int .i64 cnt), V.v (.int .i64 op), V.v (.int .i64 opc), V.v (.int .i64 wt), V.v (.int .i64 fr), V.v (.int .i64 fh), V.v (.int .i64 last), .lst (some 1) (dPieces rp), .lst (some 2) (dLines ul), V.v (.int .i64 0), .lst (some 3) (ints ot), V.v (.int .i64 oa), .lst (some 4) (ints q), V.v (.int .i64 hit), .lst (some 5) (ints bt), V.v (.int .i64 ba)])], [], []⟩) q.length ?_ ?_]
        · by_cases m3 : mode = 3
          · simp [Tryz.func11, Tryz.f11, edOk, findB, E_iLineOk, h1, h2, h3, h5, h6, E_iin, E_imodeOk, E_iRingOk, E_iUndoOk, E_iemptyLine, E_iPrintable, a0, a1, a2, a3, a4, a5, f0, f1, f2, c0, c1, c2, c3, c4, e0, d1, d1', g, seekB, m3]
          · by_cases q0 : q = []
            · subst q0
              by_cases t0 : hit = 0
              · subst t0; cases em : emptyL bt ba <;> simp [Tryz.func11, Tryz.f11, edOk, findB, E_iLineOk, h1, h2, h3, h5, h6, E_iin, E_imodeOk, E_iRingOk, E_iUndoOk, E_iemptyLine, E_iPrintable, a0, a1, a2, a3, a4, a5, f0, f1, f2, c0, c1, c2, c3, c4, e0, d1, d1', g, seekB, m3, em]
              · simp [Tryz.func11, Tryz.f11, edOk, findB, E_iLineOk, h1, h2, h3, h5, h6, E_iin, E_imodeOk, E_iRingOk, E_iUndoOk, E_iemptyLine, E_iPrintable, a0, a1, a2, a3, a4, a5, f0, f1, f2, c0, c1, c2, c3, c4, e0, d1, d1', g, seekB, m3, t0]
            · simp [Tryz.func11, Tryz.f11, edOk, findB, E_iLineOk, h1, h2, h3, h5, h6, E_iin, E_imodeOk, E_iRingOk, E_iUndoOk, E_iemptyLine, E_iPrintable, a0, a1, a2, a3, a4, a5, f0, f1, f2, c0, c1, c2, c3, c4, e0, d1, d1', g, seekB, m3, q0]
        · simp
        · intro j hj
          have hw := w64 (j + 1) (by omega)
          have := List.all_eq_true.1 g q[j] (List.getElem_mem hj)
          simp [hj, hw, ints_get hj, E_iPrintable, this]
      · rw [loopV_go (fun j => .on ⟨[(109, V.v (.int .i64 ((j : Int)))), (108, V.v (.int .i64 ((q.length : Int)))), (107, .lst (some 4) (ints q)), (1, .ref 1 0)], [(1, [V.v (.bool vi), V.v (.int .i64 mode), .lst (some 0) (ints lt), V.v (.int .i64 la), V.v (.int .i64 cnt), V.v (.int .i64 op), V.v (.int .i64 opc), V.v (.int .i64 wt), V.v (.int .i64 fr), V.v (.int .i64 fh), V.v (.int .i64 last), .lst (some 1) (dPieces rp), .lst (some 2) (dLines ul), V.v (.int .i64 0), .lst (some 3) (ints ot), V.v (.int .i64 oa), .lst (some 4) (ints q), V.v (.int .i64 hit), .lst (some 5) (ints bt), V.v (.int .i64 ba)])], [], []⟩) N ?_ ?_]
        · simp [hN, ints_get hN, E_iPrintable, g1, g, edOk]
        · simp
        · intro j hj
          have hj' : j < q.length := by omega
          have hw := w64 (j + 1) (by omega)
          simp [hj', hw, ints_get hj', E_iPrintable, g2 j hj' hj]
    · skip
      by_cases d1 : q.length ≤ 40
      rotate_left
      · have d1' : 40 < (q.length : Int) := by omega
        simp [Tryz.func11, Tryz.f11, edOk, findB, E_iLineOk, h1, h2, h3, h5, h6, E_iin, E_imodeOk, E_iRingOk, E_iUndoOk, E_iemptyLine, E_iPrintable, a0, a1, a2, a3, a4, a5, f0, f1, f2, c0, c1, c2, c3, c4, d0, d1, d1']
      have d1' : ¬ (40 < (q.length : Int)) := by omega
      simp [Tryz.func11, Tryz.f11, edOk, findB, E_iLineOk, h1, h2, h3, h5, h6, E_iin, E_imodeOk, E_iRingOk, E_iUndoOk, E_iemptyLine, E_iPrintable, a0, a1, a2, a3, a4, a5, f0, f1, f2, c0, c1, c2, c3, c4, d0, d1, d1']
      rcases firstBad printable q with g | ⟨g, N, hN, g1, g2⟩
      · rw [loopV_go (fun j => .on ⟨[(109, V.v (.int .i64 ((j : Int)))), (108, V.v (.int .i64 ((q.length : Int)))), (107, .lst (some 4) (ints q)), (1, .ref 1 0)], [(1, [V.v (.bool vi), V.v (.int .i64 mode), .lst (some 0) (ints lt), V.v (.int .i64 la), V.v (.int .i64 cnt), V.v (.int .i64 op), V.v (.int .i64 opc), V.v (.int .i64 wt), V.v (.int .i64 fr), V.v (.int .i64 fh), V.v (.int .i64 last), .lst (some 1) (dPieces rp), .lst (some 2) (dLines ul), V.v (.int .i64 nav), .lst (some 3) (ints ot), V.v (.int .i64 oa), .lst (some 4) (ints q), V.v (.int .i64 hit), .lst (some 5) (ints bt), V.v (.int .i64 ba)])], [], []⟩) q.length ?_ ?_]
        · by_cases m3 : mode = 3
          · simp [Tryz.func11, Tryz.f11, edOk, findB, E_iLineOk, h1, h2, h3, h5, h6, E_iin, E_imodeOk, E_iRingOk, E_iUndoOk, E_iemptyLine, E_iPrintable, a0, a1, a2, a3, a4, a5, f0, f1, f2, c0, c1, c2, c3, c4, d0, d1, d1', g, seekB, m3]
          · by_cases q0 : q = []
            · subst q0
              by_cases t0 : hit = 0
              · subst t0; cases em : emptyL bt ba <;> simp [Tryz.func11, Tryz.f11, edOk, findB, E_iLineOk, h1, h2, h3, h5, h6, E_iin, E_imodeOk, E_iRingOk, E_iUndoOk, E_iemptyLine, E_iPrintable, a0, a1, a2, a3, a4, a5, f0, f1, f2, c0, c1, c2, c3, c4, d0, d1, d1', g, seekB, m3, em]
              · simp [Tryz.func11, Tryz.f11, edOk, findB, E_iLineOk, h1, h2, h3, h5, h6, E_iin, E_imodeOk, E_iRingOk, E_iUndoOk, E_iemptyLine, E_iPrintable, a0, a1, a2, a3, a4, a5, f0, f1, f2, c0, c1, c2, c3, c4, d0, d1, d1', g, seekB, m3, t0]
            · simp [Tryz.func11, Tryz.f11, edOk, findB, E_iLineOk, h1, h2, h3, h5, h6, E_iin, E_imodeOk, E_iRingOk, E_iUndoOk, E_iemptyLine, E_iPrintable, a0, a1, a2, a3, a4, a5, f0, f1, f2, c0, c1, c2, c3, c4, d0, d1, d1', g, seekB, m3, q0]
        · simp
        · intro j hj
          have hw := w64 (j + 1) (by omega)
          have := List.all_eq_true.1 g q[j] (List.getElem_mem hj)
          simp [hj, hw, ints_get hj, E_iPrintable, this]
      · rw [loopV_go (fun j => .on ⟨[(109, V.v (.int .i64 ((j : Int)))), (108, V.v (.int .i64 ((q.length : Int)))), (107, .lst (some 4) (ints q)), (1, .ref 1 0)], [(1, [V.v (.bool vi), V.v (.int .i64 mode), .lst (some 0) (ints lt), V.v (.int .i64 la), V.v (.int .i64 cnt), V.v (.int .i64 op), V.v (.int .i64 opc), V.v (.int .i64 wt), V.v (.int .i64 fr), V.v (.int .i64 fh), V.v (.int .i64 last), .lst (some 1) (dPieces rp), .lst (some 2) (dLines ul), V.v (.int .i64 nav), .lst (some 3) (ints ot), V.v (.int .i64 oa), .lst (some 4) (ints q), V.v (.int .i64 hit), .lst (some 5) (ints bt), V.v (.int .i64 ba)])], [], []⟩) N ?_ ?_]
        · simp [hN, ints_get hN, E_iPrintable, g1, g, edOk]
        · simp
        · intro j hj
          have hj' : j < q.length := by omega
          have hw := w64 (j + 1) (by omega)
          simp [hj', hw, ints_get hj', E_iPrintable, g2 j hj' hj]
def TEd.ok (e : TEd) : Bool := edOk e.Vi e.Mode e.Line.Text e.Line.At e.Count e.Op e.OpCount e.Wait e.FindR e.FindHow e.Last e.Ring.Pieces e.Undo.Lines e.Nav e.Own.Text e.Own.At e.Query e.Hit e.Back.Text e.Back.At
structure TEd.sm (e : TEd) : Prop where
  h1 : e.Line.Text.length ≤ 1000000000
  h2 : e.Own.Text.length ≤ 1000000000
  h3 : e.Back.Text.length ≤ 1000000000
  h4 : e.Query.length ≤ 1000000000
  h5 : smL (dPieces e.Ring.Pieces) = true
  h6 : smL (dLines e.Undo.Lines) = true
theorem TEd.ok_of {e : TEd} (h : e.ok = true) : lineOk e.Line.Text e.Line.At = true ∧ e.Query.length ≤ 40 ∧ e.Query.all printable = true := by
  simp only [TEd.ok, edOk, Bool.and_eq_true, decide_eq_true_eq] at h
  exact ⟨h.1, h.2.2.2.2.2.2.2.2.2.2.2.2.2.1, h.2.2.2.2.2.2.2.2.2.2.2.2.2.2.1⟩
theorem sm_pieces {l : List TPiece} (h : ringOk l = true) : smL (dPieces l) = true := by
  simp only [ringOk, Bool.and_eq_true, decide_eq_true_eq] at h
  refine bnL_of (by simp; omega) fun j r e => ?_
  have hj : j < l.length := by have := (List.getElem?_eq_some_iff.1 e).1; simpa using this
  rw [dPieces_get hj] at e
  injection e with e; subst e
  have := List.all_eq_true.1 h.1 l[j] (List.getElem_mem hj)
  simp only [pieceB, textOk, Bool.and_eq_true, decide_eq_true_eq] at this
  simp only [bnR_cons, bnR_nil, bnD_l, Bool.and_true]
  exact bnL_ints (by omega)
theorem sm_lines {l : List TLine} (h : undoOk l = true) : smL (dLines l) = true := by
  simp only [undoOk, Bool.and_eq_true, decide_eq_true_eq] at h
  refine bnL_of (by simp; omega) fun j r e => ?_
  have hj : j < l.length := by have := (List.getElem?_eq_some_iff.1 e).1; simpa using this
  rw [dLines_get hj] at e
  injection e with e; subst e
  have := List.all_eq_true.1 h.1 l[j] (List.getElem_mem hj)
  simp only [lineB, lineOk, textOk, Bool.and_eq_true, decide_eq_true_eq] at this
  simp only [bnR_cons, bnR_nil, bnD_l, bnD_a, Bool.and_true]
  exact bnL_ints (by omega)
theorem TEd.sm_of {e : TEd} (h : e.ok = true) : e.sm := by
  simp only [TEd.ok, edOk, Bool.and_eq_true, decide_eq_true_eq] at h
  obtain ⟨a1, a2, a3, a4, a5, a6, a7, a8, a9, a10, a11, a12, a13, a14, a15, a16⟩ := h
  have len : ∀ {l : List Int} {a : Int}, lineOk l a = true → l.length ≤ 1000000000 := fun h => by
    simp only [lineOk, textOk, Bool.and_eq_true, decide_eq_true_eq] at h; omega
  exact ⟨len a1, len a2, len a3, by omega, sm_pieces a9, sm_lines a10⟩
end Go.Proofs.YtnmneoekpikpkaaGreatDoor
namespace Go.Proofs.YtnmneoekpikpkaaGreatDoor
open Go.RowKit
set_option linter.unusedSimpArgs false
set_option linter.unusedVariables false
set_option maxHeartbeats 8000000
set_option maxRecDepth 10000
theorem EX_sMakeEmacs (b : List UInt8) (hb : b.length ≤ 1048576) : ∃ (t : List Int) (a : Nat) (r : List TPiece) (last f : Int) (l : List ByteArray),
    M_sMakeEmacs [.lst (some 0) (byts b)] [] [] = some ⟨.tup [.agg [V.v (.bool false), V.v (.int .i64 0), .own 0, V.v (.int .i64 (a : Int)), V.v (.int .i64 0), V.v (.int .i64 0), V.v (.int .i64 0), V.v (.int .i64 0), V.v (.int .i64 0), V.v (.int .i64 0), V.v (.int .i64 last), .own 1, .own 2, V.v (.int .i64 0), .own 3, V.v (.int .i64 0), .own 4, V.v (.int .i64 0), .own 5, V.v (.int .i64 0)], .agg [V.v (.int .i64 f), .own 6]], [], [(0, ints t), (1, dPieces r), (2, []), (3, []), (4, []), (5, []), (6, strs l)]⟩ ∧
    t.all typed = true ∧ t.length ≤ 16 ∧ a ≤ t.length ∧ ringOk r = true ∧ (0 ≤ last ∧ last ≤ 3) ∧ HistI f l ∧ ∀ s ∈ l, Cmd s := by
  obtain ⟨h0, e0⟩ := EX_sl01New b hb
  obtain ⟨t, a, i1, h1, e1, r1, r2, r3, j1⟩ := EX_sl13Draw b 0 h0 hb (by omega)
  obtain ⟨r, i2, h2, e2, r4, j2⟩ := EX_sl15Ring b i1 h1 hb j1
  obtain ⟨last, i3, h3, e3, r5, j3⟩ := EX_sl01Below b i2 h2 4 hb j2 (by omega)
  obtain ⟨f, l, i4, h4, e4, r6, r7, j4⟩ := EX_sl16Draw b i3 h3 hb j3
  have e5 := E_sEdNew false
  unfold curV at e0 e1 e2 e3 e4
  generalize hE : M_sMakeEmacs _ _ _ = R
  unfold M_sMakeEmacs at hE
  simp [Tryz.func8, Tryz.f8, e0, e1, e2, e3, e4, e5] at hE
  exact ⟨t, a, r, last, f, l, hE.symm, r1, r2, r3, r4, by omega, r6, r7⟩
end Go.Proofs.YtnmneoekpikpkaaGreatDoor
namespace Go.Proofs.YtnmneoekpikpkaaGreatDoor
open Go.RowKit
set_option linter.unusedSimpArgs false
set_option linter.unusedVariables false
set_option maxHeartbeats 16000000
set_option maxRecDepth 100000
theorem atEnd_no {l : List Int} {a : Int} (h : atEnd l a = false) : l = [] ∨ (l ≠ [] ∧ ¬ a = l.length) := by
  cases l with
  | nil => exact .inl rfl
  | cons x l => exact .inr ⟨by simp, by simpa [atEnd] using h⟩
theorem atEnd_yes {l : List Int} {a : Int} (h : atEnd l a = true) : 0 < l.length ∧ a = l.length := by
  simpa [atEnd, List.length_pos_iff] using h
end Go.Proofs.YtnmneoekpikpkaaGreatDoor
namespace Go.Proofs.YtnmneoekpikpkaaGreatDoor
open Go.RowKit
set_option linter.unusedSimpArgs false
set_option linter.unusedVariables false
set_option maxHeartbeats 8000000
set_option maxRecDepth 10000
theorem E_icopyInts (l : List Int) (i : Option Nat) (h : l.length ≤ 1000000) : M_icopyInts [.lst i (ints l)] [] [] = some ⟨.own 0, [], [(0, ints l)]⟩ := by
  have g1 : l.length * 8 ≤ 140737488355328 := by omega
  have g2 : l.length ≤ 4611686018427387904 := by omega
  unfold M_icopyInts
  simp [Tryz.func69, Tryz.f69, g1, g2]
theorem E_icopyLine (l : List Int) (i : Option Nat) (a : Int) (h : l.length ≤ 1000000) : M_icopyLine [.agg [.lst i (ints l), V.v (.int .i64 a)]] [] [] = some ⟨.agg [.own 0, V.v (.int .i64 a)], [], [(0, ints l)]⟩ := by
  have e := E_icopyInts l (some 0) h
  unfold M_icopyLine
  simp [Tryz.func66, Tryz.f66, e]
theorem E_icopyRing (l : List TPiece) (i : Option Nat) (h : l.length ≤ 1000) (hp : ∀ p ∈ l, p.Text.length ≤ 2000) : M_icopyRing [.agg [.lst i (dPieces l)]] [] [] = some ⟨.agg [.own 0], [], [(0, dPieces l)]⟩ := by
  unfold M_icopyRing
  simp [Tryz.func67, Tryz.f67]
  rw [loopV_go (fun k => .on ⟨[(9, V.v (.int .i64 ((k : Int)))), (8, V.v (.int .i64 ((l.length : Int)))), (7, .lst i (dPieces l)), (3, .ref 3 0), (2, .ref 2 0)], [(3, [.own 2000000000]), (2, [.own 2000000001])], [(2000000001, []), (2000000000, dPieces (l.take k))], []⟩) l.length ?_ ?_]
  · simp
  · simp [show dPieces [] = [] from rfl]
  · intro k hk
    have hw := w64 ((k : Int) + 1) (by omega)
    have hq := hp l[k] (List.getElem_mem hk)
    have e := E_icopyInts l[k].Text (some 0) (by omega)
    have g3 : min k l.length = k := by omega
    have g4 : (k + 1) * 24 ≤ 140737488355328 := by omega
    have g5 : k ≤ 4611686018427387903 := by omega
    have g6 : dPieces (l.take (k + 1)) = dPieces (l.take k) ++ [[.l (ints l[k].Text)]] := by rw [dPieces_snoc, ← List.take_succ_eq_append_getElem hk]
    simp [hk, hw, e, g3, g4, g5, g6]
theorem E_icopyUndo (l : List TLine) (i : Option Nat) (h : l.length ≤ 1000) (hp : ∀ p ∈ l, p.Text.length ≤ 2000) : M_icopyUndo [.agg [.lst i (dLines l)]] [] [] = some ⟨.agg [.own 0], [], [(0, dLines l)]⟩ := by
  unfold M_icopyUndo
  simp [Tryz.func68, Tryz.f68]
  rw [loopV_go (fun k => .on ⟨[(9, V.v (.int .i64 ((k : Int)))), (8, V.v (.int .i64 ((l.length : Int)))), (7, .lst i (dLines l)), (3, .ref 3 0), (2, .ref 2 0)], [(3, [.own 2000000000]), (2, [.own 2000000001])], [(2000000001, []), (2000000000, dLines (l.take k))], []⟩) l.length ?_ ?_]
  · simp
  · simp [show dLines [] = [] from rfl]
  · intro k hk
    have hw := w64 ((k : Int) + 1) (by omega)
    have hq := hp l[k] (List.getElem_mem hk)
    have e := E_icopyLine l[k].Text (some 0) l[k].At (by omega)
    have g3 : min k l.length = k := by omega
    have g4 : (k + 1) * 32 ≤ 140737488355328 := by omega
    have g5 : k ≤ 4611686018427387903 := by omega
    have g6 : dLines (l.take (k + 1)) = dLines (l.take k) ++ [[.l (ints l[k].Text), D.a (.int .i64 (l[k].At))]] := by rw [dLines_snoc, ← List.take_succ_eq_append_getElem hk]
    simp [hk, hw, e, g3, g4, g5, g6]
structure EdB (e : TEd) : Prop where
  line : e.Line.Text.length ≤ 2000
  own : e.Own.Text.length ≤ 2000
  back : e.Back.Text.length ≤ 2000
  query : e.Query.length ≤ 2000
  ring : e.Ring.Pieces.length ≤ 1000 ∧ ∀ p ∈ e.Ring.Pieces, p.Text.length ≤ 2000
  undo : e.Undo.Lines.length ≤ 1000 ∧ ∀ p ∈ e.Undo.Lines, p.Text.length ≤ 2000
theorem E_icopyEd (e : TEd) (h : EdB e) : M_icopyEd [.agg [V.v (.bool e.Vi), V.v (.int .i64 e.Mode), .lst (some 0) (ints e.Line.Text), V.v (.int .i64 e.Line.At), V.v (.int .i64 e.Count), V.v (.int .i64 e.Op), V.v (.int .i64 e.OpCount), V.v (.int .i64 e.Wait), V.v (.int .i64 e.FindR), V.v (.int .i64 e.FindHow), V.v (.int .i64 e.Last), .lst (some 1) (dPieces e.Ring.Pieces), .lst (some 2) (dLines e.Undo.Lines), V.v (.int .i64 e.Nav), .lst (some 3) (ints e.Own.Text), V.v (.int .i64 e.Own.At), .lst (some 4) (ints e.Query), V.v (.int .i64 e.Hit), .lst (some 5) (ints e.Back.Text), V.v (.int .i64 e.Back.At)]] [] [] = some ⟨.agg [V.v (.bool e.Vi), V.v (.int .i64 e.Mode), .own 0, V.v (.int .i64 e.Line.At), V.v (.int .i64 e.Count), V.v (.int .i64 e.Op), V.v (.int .i64 e.OpCount), V.v (.int .i64 e.Wait), V.v (.int .i64 e.FindR), V.v (.int .i64 e.FindHow), V.v (.int .i64 e.Last), .own 1, .own 2, V.v (.int .i64 e.Nav), .own 3, V.v (.int .i64 e.Own.At), .own 4, V.v (.int .i64 e.Hit), .own 5, V.v (.int .i64 e.Back.At)], [], [(0, ints e.Line.Text), (1, dPieces e.Ring.Pieces), (2, dLines e.Undo.Lines), (3, ints e.Own.Text), (4, ints e.Query), (5, ints e.Back.Text)]⟩ := by
  have e1 := E_icopyLine e.Line.Text (some 0) e.Line.At (by have := h.line; omega)
  have e2 := E_icopyLine e.Own.Text (some 0) e.Own.At (by have := h.own; omega)
  have e3 := E_icopyLine e.Back.Text (some 0) e.Back.At (by have := h.back; omega)
  have e4 := E_icopyRing e.Ring.Pieces (some 0) h.ring.1 h.ring.2
  have e5 := E_icopyUndo e.Undo.Lines (some 0) h.undo.1 h.undo.2
  have e6 := E_icopyInts e.Query (some 0) (by have := h.query; omega)
  unfold M_icopyEd
  simp [Tryz.func48, Tryz.f48, e1, e2, e3, e4, e5, e6]
theorem E_isettled (e : TEd) (h : EdB e) (last : Int) : M_isettled [.agg [V.v (.bool e.Vi), V.v (.int .i64 e.Mode), .lst (some 0) (ints e.Line.Text), V.v (.int .i64 e.Line.At), V.v (.int .i64 e.Count), V.v (.int .i64 e.Op), V.v (.int .i64 e.OpCount), V.v (.int .i64 e.Wait), V.v (.int .i64 e.FindR), V.v (.int .i64 e.FindHow), V.v (.int .i64 e.Last), .lst (some 1) (dPieces e.Ring.Pieces), .lst (some 2) (dLines e.Undo.Lines), V.v (.int .i64 e.Nav), .lst (some 3) (ints e.Own.Text), V.v (.int .i64 e.Own.At), .lst (some 4) (ints e.Query), V.v (.int .i64 e.Hit), .lst (some 5) (ints e.Back.Text), V.v (.int .i64 e.Back.At)], V.v (.int .i64 last)] [] [] = some ⟨.agg [V.v (.bool e.Vi), V.v (.int .i64 e.Mode), .own 0, V.v (.int .i64 e.Line.At), V.v (.int .i64 0), V.v (.int .i64 0), V.v (.int .i64 0), V.v (.int .i64 0), V.v (.int .i64 e.FindR), V.v (.int .i64 e.FindHow), V.v (.int .i64 last), .own 1, .own 2, V.v (.int .i64 e.Nav), .own 3, V.v (.int .i64 e.Own.At), .own 4, V.v (.int .i64 e.Hit), .own 5, V.v (.int .i64 e.Back.At)], [], [(0, ints e.Line.Text), (1, dPieces e.Ring.Pieces), (2, dLines e.Undo.Lines), (3, ints e.Own.Text), (4, ints e.Query), (5, ints e.Back.Text)]⟩ := by
  have e1 := E_icopyEd e h
  unfold M_isettled
  simp [Tryz.func123, Tryz.f123, e1]
theorem E_ibell (e : TEd) (h : EdB e) : M_ibell [.agg [V.v (.bool e.Vi), V.v (.int .i64 e.Mode), .lst (some 0) (ints e.Line.Text), V.v (.int .i64 e.Line.At), V.v (.int .i64 e.Count), V.v (.int .i64 e.Op), V.v (.int .i64 e.OpCount), V.v (.int .i64 e.Wait), V.v (.int .i64 e.FindR), V.v (.int .i64 e.FindHow), V.v (.int .i64 e.Last), .lst (some 1) (dPieces e.Ring.Pieces), .lst (some 2) (dLines e.Undo.Lines), V.v (.int .i64 e.Nav), .lst (some 3) (ints e.Own.Text), V.v (.int .i64 e.Own.At), .lst (some 4) (ints e.Query), V.v (.int .i64 e.Hit), .lst (some 5) (ints e.Back.Text), V.v (.int .i64 e.Back.At)]] [] [] = some ⟨.tup [.agg [V.v (.bool e.Vi), V.v (.int .i64 e.Mode), .own 0, V.v (.int .i64 e.Line.At), V.v (.int .i64 0), V.v (.int .i64 0), V.v (.int .i64 0), V.v (.int .i64 0), V.v (.int .i64 e.FindR), V.v (.int .i64 e.FindHow), V.v (.int .i64 0), .own 1, .own 2, V.v (.int .i64 e.Nav), .own 3, V.v (.int .i64 e.Own.At), .own 4, V.v (.int .i64 e.Hit), .own 5, V.v (.int .i64 e.Back.At)], V.v (.int .i64 1)], [], [(0, ints e.Line.Text), (1, dPieces e.Ring.Pieces), (2, dLines e.Undo.Lines), (3, ints e.Own.Text), (4, ints e.Query), (5, ints e.Back.Text)]⟩ := by
  have e1 := E_isettled e h 0
  unfold M_ibell
  simp [Tryz.func87, Tryz.f87, e1]
end Go.Proofs.YtnmneoekpikpkaaGreatDoor
namespace Go.Proofs.YtnmneoekpikpkaaGreatDoor
open Go.RowKit
set_option linter.unusedSimpArgs false
set_option linter.unusedVariables false
set_option maxHeartbeats 8000000
set_option maxRecDepth 10000
theorem E_iEdOk' (e : TEd) (ok : e.ok = true) : M_iEdOk [.agg [V.v (.bool e.Vi), V.v (.int .i64 e.Mode), .lst (some 0) (ints e.Line.Text), V.v (.int .i64 e.Line.At), V.v (.int .i64 e.Count), V.v (.int .i64 e.Op), V.v (.int .i64 e.OpCount), V.v (.int .i64 e.Wait), V.v (.int .i64 e.FindR), V.v (.int .i64 e.FindHow), V.v (.int .i64 e.Last), .lst (some 1) (dPieces e.Ring.Pieces), .lst (some 2) (dLines e.Undo.Lines), V.v (.int .i64 e.Nav), .lst (some 3) (ints e.Own.Text), V.v (.int .i64 e.Own.At), .lst (some 4) (ints e.Query), V.v (.int .i64 e.Hit), .lst (some 5) (ints e.Back.Text), V.v (.int .i64 e.Back.At)]] [] [] = some ⟨V.v (.bool true), [], []⟩ := by
  have hsm := TEd.sm_of ok
  have hE := E_iEdOk e.Vi e.Mode e.Line.Text e.Line.At e.Count e.Op e.OpCount e.Wait e.FindR e.FindHow e.Last e.Ring.Pieces e.Undo.Lines e.Nav e.Own.Text e.Own.At e.Query e.Hit e.Back.Text e.Back.At hsm.h1 hsm.h2 hsm.h3 hsm.h4 hsm.h5 hsm.h6
  rw [hE]
  have : edOk e.Vi e.Mode e.Line.Text e.Line.At e.Count e.Op e.OpCount e.Wait e.FindR e.FindHow e.Last e.Ring.Pieces e.Undo.Lines e.Nav e.Own.Text e.Own.At e.Query e.Hit e.Back.Text e.Back.At = true := ok
  rw [this]
theorem EdB.of {e : TEd} (ok : e.ok = true) : EdB e := by
  simp only [TEd.ok, edOk, Bool.and_eq_true, decide_eq_true_eq] at ok
  obtain ⟨a1, a2, a3, a4, a5, a6, a7, a8, a9, a10, a11, a12, a13, a14, a15, a16⟩ := ok
  have len : ∀ {l : List Int} {a : Int}, lineOk l a = true → l.length ≤ 400 := fun h => by
    simp only [lineOk, textOk, Bool.and_eq_true, decide_eq_true_eq] at h; exact h.1.1
  simp only [ringOk, undoOk, Bool.and_eq_true, decide_eq_true_eq] at a9 a10
  refine ⟨by have := len a1; omega, by have := len a2; omega, by have := len a3; omega, by omega, ⟨by omega, fun p hp => ?_⟩, by omega, fun p hp => ?_⟩
  · have := List.all_eq_true.1 a9.1 p hp
    simp only [pieceB, textOk, Bool.and_eq_true, decide_eq_true_eq] at this; omega
  · have := List.all_eq_true.1 a10.1 p hp
    simp only [lineB] at this
    have := len this; omega
theorem E_iKeyOk_name (k : Int) (h : 4 ≤ k ∧ k ≤ 16) : M_iKeyOk [.agg [V.v (.int .i64 k), V.v (.int .i64 0)]] [] [] = some ⟨V.v (.bool true), [], []⟩ := by
  have q : inR k 4 16 = true := inR_iff.2 h
  have q1 : ¬ k = 1 := by omega
  have q2 : ¬ k = 2 := by omega
  have q3 : ¬ k = 3 := by omega
  unfold M_iKeyOk
  simp [Tryz.func47, Tryz.f47, E_iin, q, q1, q2, q3]
theorem E_icanKey (e : TEd) (ok : e.ok = true) (f : Int) (l : List ByteArray) (h : HistI f l) (k : Int) (hk : 4 ≤ k ∧ k ≤ 16) : M_icanKey [.agg [V.v (.bool e.Vi), V.v (.int .i64 e.Mode), .lst (some 0) (ints e.Line.Text), V.v (.int .i64 e.Line.At), V.v (.int .i64 e.Count), V.v (.int .i64 e.Op), V.v (.int .i64 e.OpCount), V.v (.int .i64 e.Wait), V.v (.int .i64 e.FindR), V.v (.int .i64 e.FindHow), V.v (.int .i64 e.Last), .lst (some 1) (dPieces e.Ring.Pieces), .lst (some 2) (dLines e.Undo.Lines), V.v (.int .i64 e.Nav), .lst (some 3) (ints e.Own.Text), V.v (.int .i64 e.Own.At), .lst (some 4) (ints e.Query), V.v (.int .i64 e.Hit), .lst (some 5) (ints e.Back.Text), V.v (.int .i64 e.Back.At)], .agg [V.v (.int .i64 f), .lst (some 6) (strs l)], .agg [V.v (.int .i64 k), V.v (.int .i64 0)]] [] [] = some ⟨V.v (.bool true), [], []⟩ := by
  have e1 := E_iEdOk' e ok
  have e2 := E_iHistOk f l h
  have e3 := E_iKeyOk_name k hk
  unfold M_icanKey
  simp [Tryz.func79, Tryz.f79, e1, e2, e3]
theorem E_iinCommand0 (t : List Int) (a mode : Int) (h : ¬ mode = 2) : M_iinCommand [.agg [.lst (some 0) (ints t), V.v (.int .i64 a)], V.v (.int .i64 mode)] [] [] = some ⟨.agg [.lst (some 0) (ints t), V.v (.int .i64 a)], [], []⟩ := by
  unfold M_iinCommand
  simp [Tryz.func125, Tryz.f125, h]
theorem E_iLineOf (s : ByteArray) (t : List Int) (h : Reads s.data.toList t []) (ht : textOk t = true) (hs : s.size ≤ 65536) : M_iLineOf [V.v (.string s)] [] [] = some ⟨.tup [.agg [.own 0, V.v (.int .i64 ((t.length : Int)))], V.v (.bool true)], [], [(0, ints t)]⟩ := by
  have e1 := E_iRunesOf s t [] h hs
  have hl : t.length ≤ 400 := by simp only [textOk, Bool.and_eq_true, decide_eq_true_eq] at ht; exact ht.1
  have e2 := E_iLineOk t t.length (by omega)
  have q : lineOk t t.length = true := by
    unfold lineOk
    rw [ht, inR_iff.2 (by omega)]; rfl
  rw [q] at e2
  unfold M_iLineOf
  simp [Tryz.func153, Tryz.f153, e1, e2]
theorem E_iEdStep_up (e : TEd) (ok : e.ok = true) (hm : e.Mode = 0) (hn : e.Nav = 0) (f : Int) (l : List ByteArray) (h : HistI f l) (hl : l ≠ []) (t : List Int) (hr : Reads (l[l.length - 1]'(by have := List.length_pos_iff.2 hl; omega)).data.toList t []) (ht : textOk t = true) :
    M_iEdStep [.agg [V.v (.bool e.Vi), V.v (.int .i64 e.Mode), .lst (some 0) (ints e.Line.Text), V.v (.int .i64 e.Line.At), V.v (.int .i64 e.Count), V.v (.int .i64 e.Op), V.v (.int .i64 e.OpCount), V.v (.int .i64 e.Wait), V.v (.int .i64 e.FindR), V.v (.int .i64 e.FindHow), V.v (.int .i64 e.Last), .lst (some 1) (dPieces e.Ring.Pieces), .lst (some 2) (dLines e.Undo.Lines), V.v (.int .i64 e.Nav), .lst (some 3) (ints e.Own.Text), V.v (.int .i64 e.Own.At), .lst (some 4) (ints e.Query), V.v (.int .i64 e.Hit), .lst (some 5) (ints e.Back.Text), V.v (.int .i64 e.Back.At)], .agg [V.v (.int .i64 f), .lst (some 6) (strs l)], V.v (.int .i64 ((-1)))] [] [] = some ⟨.tup [.agg [V.v (.bool e.Vi), V.v (.int .i64 e.Mode), .own 0, V.v (.int .i64 (t.length : Int)), V.v (.int .i64 0), V.v (.int .i64 0), V.v (.int .i64 0), V.v (.int .i64 0), V.v (.int .i64 e.FindR), V.v (.int .i64 e.FindHow), V.v (.int .i64 0), .own 1, .own 2, V.v (.int .i64 (f + l.length - 1)), .own 3, V.v (.int .i64 e.Line.At), .own 4, V.v (.int .i64 e.Hit), .own 5, V.v (.int .i64 e.Back.At)], V.v (.bool true)], [], [(0, ints t), (1, dPieces e.Ring.Pieces), (2, []), (3, ints e.Line.Text), (4, ints e.Query), (5, ints e.Back.Text)]⟩ := by
  have hlen : 0 < l.length := List.length_pos_iff.2 hl
  have h1 := h.first
  have h2 := h.len
  have hs := h.each _ (List.getElem_mem (l := l) (n := l.length - 1) (by omega))
  have e1 := E_iEdOk' e ok
  have e2 := E_isettled e (EdB.of ok) 0
  have e3 := E_iHistLast f l h
  have e4 := E_iHistGet f l h (l.length - 1) (by omega)
  have e5 := E_iLineOf _ t hr ht (by omega)
  have e6 := E_icopyLine e.Line.Text (some 0) e.Line.At (by have := (EdB.of ok).line; omega)
  have c1 : (((l.length - 1 : Nat) : Int)) = (l.length : Int) - 1 := by omega
  have c2 : f + ((l.length : Int) - 1) = f + l.length - 1 := by omega
  rw [c1, c2] at e4
  unfold histLast at e3
  rw [if_neg hl] at e3
  have w1 := w64 (f + l.length - 1 + 1) (by omega)
  have w2 := w64 (f + l.length - 1 + 1 + -1) (by omega)
  have c3 : f + (l.length : Int) - 1 + 1 + -1 = f + l.length - 1 := by omega
  have c4 : f + (l.length : Int) - 1 + 1 = f + l.length := by omega
  have c5 : f + (l.length : Int) + -1 = f + l.length - 1 := by omega
  rw [c3] at w2
  rw [c4] at w1
  simp only [hm, hn] at e1 e2 ⊢
  generalize hE : M_iEdStep _ _ _ = R
  unfold M_iEdStep at hE
  simp [Tryz.func143, Tryz.f143, e1, e2, e3, e4, e5, e6, hm, hn, w1, w2, c3, c4, c5] at hE
  exact hE.symm
theorem reads_nil : Reads (⟨#[]⟩ : ByteArray).data.toList [] [] := ⟨rfl, (fun _ h => nomatch h), rfl⟩
theorem E_iEdStep_none (e : TEd) (ok : e.ok = true) (hm : e.Mode = 0) (hn : e.Nav = 0) (f : Int) (h : HistI f []) :
    M_iEdStep [.agg [V.v (.bool e.Vi), V.v (.int .i64 e.Mode), .lst (some 0) (ints e.Line.Text), V.v (.int .i64 e.Line.At), V.v (.int .i64 e.Count), V.v (.int .i64 e.Op), V.v (.int .i64 e.OpCount), V.v (.int .i64 e.Wait), V.v (.int .i64 e.FindR), V.v (.int .i64 e.FindHow), V.v (.int .i64 e.Last), .lst (some 1) (dPieces e.Ring.Pieces), .lst (some 2) (dLines e.Undo.Lines), V.v (.int .i64 e.Nav), .lst (some 3) (ints e.Own.Text), V.v (.int .i64 e.Own.At), .lst (some 4) (ints e.Query), V.v (.int .i64 e.Hit), .lst (some 5) (ints e.Back.Text), V.v (.int .i64 e.Back.At)], .agg [V.v (.int .i64 f), .lst (some 6) []], V.v (.int .i64 ((-1)))] [] [] = some ⟨.tup [.agg [V.v (.bool false), V.v (.int .i64 0), .own 0, V.v (.int .i64 0), V.v (.int .i64 0), V.v (.int .i64 0), V.v (.int .i64 0), V.v (.int .i64 0), V.v (.int .i64 0), V.v (.int .i64 0), V.v (.int .i64 0), .own 1, .own 2, V.v (.int .i64 0), .own 3, V.v (.int .i64 0), .own 4, V.v (.int .i64 0), .own 5, V.v (.int .i64 0)], V.v (.bool false)], [], [(0, []), (1, []), (2, []), (3, []), (4, []), (5, [])]⟩ := by
  have h1 := h.first
  have e1 := E_iEdOk' e ok
  have e2 := E_isettled e (EdB.of ok) 0
  have e3 := E_iHistLast f [] h
  have e4 := E_iHistGet_no f [] h 0 (by omega)
  have e5 := E_iLineOf _ [] reads_nil (by decide) (by decide)
  simp only [show strs [] = [] from rfl, show ints [] = [] from rfl, histLast, if_true, List.length_nil, Int.natCast_zero] at e3 e4 e5
  simp only [hm, hn] at e1 e2 ⊢
  generalize hE : M_iEdStep _ _ _ = R
  unfold M_iEdStep at hE
  simp [Tryz.func143, Tryz.f143, e1, e2, e3, e4, e5, hm, hn] at hE
  exact hE.symm
theorem E_iEdStep_down (e : TEd) (ok : e.ok = true) (hm : e.Mode = 0) (f : Int) (l : List ByteArray) (h : HistI f l) (hl : l ≠ []) (hn : e.Nav = f + l.length - 1) :
    M_iEdStep [.agg [V.v (.bool e.Vi), V.v (.int .i64 e.Mode), .lst (some 0) (ints e.Line.Text), V.v (.int .i64 e.Line.At), V.v (.int .i64 e.Count), V.v (.int .i64 e.Op), V.v (.int .i64 e.OpCount), V.v (.int .i64 e.Wait), V.v (.int .i64 e.FindR), V.v (.int .i64 e.FindHow), V.v (.int .i64 e.Last), .lst (some 1) (dPieces e.Ring.Pieces), .lst (some 2) (dLines e.Undo.Lines), V.v (.int .i64 e.Nav), .lst (some 3) (ints e.Own.Text), V.v (.int .i64 e.Own.At), .lst (some 4) (ints e.Query), V.v (.int .i64 e.Hit), .lst (some 5) (ints e.Back.Text), V.v (.int .i64 e.Back.At)], .agg [V.v (.int .i64 f), .lst (some 6) (strs l)], V.v (.int .i64 1)] [] [] = some ⟨.tup [.agg [V.v (.bool e.Vi), V.v (.int .i64 e.Mode), .own 0, V.v (.int .i64 e.Own.At), V.v (.int .i64 0), V.v (.int .i64 0), V.v (.int .i64 0), V.v (.int .i64 0), V.v (.int .i64 e.FindR), V.v (.int .i64 e.FindHow), V.v (.int .i64 0), .own 1, .own 2, V.v (.int .i64 0), .own 3, V.v (.int .i64 0), .own 4, V.v (.int .i64 e.Hit), .own 5, V.v (.int .i64 e.Back.At)], V.v (.bool true)], [], [(0, ints e.Own.Text), (1, dPieces e.Ring.Pieces), (2, []), (3, []), (4, ints e.Query), (5, ints e.Back.Text)]⟩ := by
  have hlen : 0 < l.length := List.length_pos_iff.2 hl
  have h1 := h.first
  have h2 := h.len
  have e1 := E_iEdOk' e ok
  have e2 := E_isettled e (EdB.of ok) 0
  have e3 := E_iHistLast f l h
  have e6 := E_icopyLine e.Own.Text (some 0) e.Own.At (by have := (EdB.of ok).own; omega)
  have e7 := E_iinCommand0 e.Own.Text e.Own.At 0 (by omega)
  unfold histLast at e3
  rw [if_neg hl] at e3
  have w1 := w64 (f + l.length - 1 + 1) (by omega)
  have c4 : f + (l.length : Int) - 1 + 1 = f + l.length := by omega
  rw [c4] at w1
  have q : ¬ f + (l.length : Int) - 1 = 0 := by omega
  simp only [hm, hn] at e1 e2 ⊢
  generalize hE : M_iEdStep _ _ _ = R
  unfold M_iEdStep at hE
  simp [Tryz.func143, Tryz.f143, e1, e2, e3, e6, e7, hm, hn, w1, c4, q] at hE
  exact hE.symm
theorem E_istep_ok (e e' : TEd) (f by_ : Int) (l : List ByteArray) (h : M_iEdStep [.agg [V.v (.bool e.Vi), V.v (.int .i64 e.Mode), .lst (some 0) (ints e.Line.Text), V.v (.int .i64 e.Line.At), V.v (.int .i64 e.Count), V.v (.int .i64 e.Op), V.v (.int .i64 e.OpCount), V.v (.int .i64 e.Wait), V.v (.int .i64 e.FindR), V.v (.int .i64 e.FindHow), V.v (.int .i64 e.Last), .lst (some 1) (dPieces e.Ring.Pieces), .lst (some 2) (dLines e.Undo.Lines), V.v (.int .i64 e.Nav), .lst (some 3) (ints e.Own.Text), V.v (.int .i64 e.Own.At), .lst (some 4) (ints e.Query), V.v (.int .i64 e.Hit), .lst (some 5) (ints e.Back.Text), V.v (.int .i64 e.Back.At)], .agg [V.v (.int .i64 f), .lst (some 6) (strs l)], V.v (.int .i64 by_)] [] [] = some ⟨.tup [.agg [V.v (.bool e'.Vi), V.v (.int .i64 e'.Mode), .own 0, V.v (.int .i64 e'.Line.At), V.v (.int .i64 e'.Count), V.v (.int .i64 e'.Op), V.v (.int .i64 e'.OpCount), V.v (.int .i64 e'.Wait), V.v (.int .i64 e'.FindR), V.v (.int .i64 e'.FindHow), V.v (.int .i64 e'.Last), .own 1, .own 2, V.v (.int .i64 e'.Nav), .own 3, V.v (.int .i64 e'.Own.At), .own 4, V.v (.int .i64 e'.Hit), .own 5, V.v (.int .i64 e'.Back.At)], V.v (.bool true)], [], [(0, ints e'.Line.Text), (1, dPieces e'.Ring.Pieces), (2, dLines e'.Undo.Lines), (3, ints e'.Own.Text), (4, ints e'.Query), (5, ints e'.Back.Text)]⟩) :
    M_istep [.agg [V.v (.bool e.Vi), V.v (.int .i64 e.Mode), .lst (some 0) (ints e.Line.Text), V.v (.int .i64 e.Line.At), V.v (.int .i64 e.Count), V.v (.int .i64 e.Op), V.v (.int .i64 e.OpCount), V.v (.int .i64 e.Wait), V.v (.int .i64 e.FindR), V.v (.int .i64 e.FindHow), V.v (.int .i64 e.Last), .lst (some 1) (dPieces e.Ring.Pieces), .lst (some 2) (dLines e.Undo.Lines), V.v (.int .i64 e.Nav), .lst (some 3) (ints e.Own.Text), V.v (.int .i64 e.Own.At), .lst (some 4) (ints e.Query), V.v (.int .i64 e.Hit), .lst (some 5) (ints e.Back.Text), V.v (.int .i64 e.Back.At)], .agg [V.v (.int .i64 f), .lst (some 6) (strs l)], V.v (.int .i64 by_)] [] [] = some ⟨.tup [.agg [V.v (.bool e'.Vi), V.v (.int .i64 e'.Mode), .own 0, V.v (.int .i64 e'.Line.At), V.v (.int .i64 e'.Count), V.v (.int .i64 e'.Op), V.v (.int .i64 e'.OpCount), V.v (.int .i64 e'.Wait), V.v (.int .i64 e'.FindR), V.v (.int .i64 e'.FindHow), V.v (.int .i64 e'.Last), .own 1, .own 2, V.v (.int .i64 e'.Nav), .own 3, V.v (.int .i64 e'.Own.At), .own 4, V.v (.int .i64 e'.Hit), .own 5, V.v (.int .i64 e'.Back.At)], V.v (.int .i64 0)], [], [(0, ints e'.Line.Text), (1, dPieces e'.Ring.Pieces), (2, dLines e'.Undo.Lines), (3, ints e'.Own.Text), (4, ints e'.Query), (5, ints e'.Back.Text)]⟩ := by
  unfold M_istep
  simp [Tryz.func107, Tryz.f107, h]
theorem E_istep_no (e : TEd) (hb : EdB e) (f by_ : Int) (l : List ByteArray) (h : M_iEdStep [.agg [V.v (.bool e.Vi), V.v (.int .i64 e.Mode), .lst (some 0) (ints e.Line.Text), V.v (.int .i64 e.Line.At), V.v (.int .i64 e.Count), V.v (.int .i64 e.Op), V.v (.int .i64 e.OpCount), V.v (.int .i64 e.Wait), V.v (.int .i64 e.FindR), V.v (.int .i64 e.FindHow), V.v (.int .i64 e.Last), .lst (some 1) (dPieces e.Ring.Pieces), .lst (some 2) (dLines e.Undo.Lines), V.v (.int .i64 e.Nav), .lst (some 3) (ints e.Own.Text), V.v (.int .i64 e.Own.At), .lst (some 4) (ints e.Query), V.v (.int .i64 e.Hit), .lst (some 5) (ints e.Back.Text), V.v (.int .i64 e.Back.At)], .agg [V.v (.int .i64 f), .lst (some 6) (strs l)], V.v (.int .i64 by_)] [] [] = some ⟨.tup [.agg [V.v (.bool false), V.v (.int .i64 0), .own 0, V.v (.int .i64 0), V.v (.int .i64 0), V.v (.int .i64 0), V.v (.int .i64 0), V.v (.int .i64 0), V.v (.int .i64 0), V.v (.int .i64 0), V.v (.int .i64 0), .own 1, .own 2, V.v (.int .i64 0), .own 3, V.v (.int .i64 0), .own 4, V.v (.int .i64 0), .own 5, V.v (.int .i64 0)], V.v (.bool false)], [], [(0, []), (1, []), (2, []), (3, []), (4, []), (5, [])]⟩) :
    M_istep [.agg [V.v (.bool e.Vi), V.v (.int .i64 e.Mode), .lst (some 0) (ints e.Line.Text), V.v (.int .i64 e.Line.At), V.v (.int .i64 e.Count), V.v (.int .i64 e.Op), V.v (.int .i64 e.OpCount), V.v (.int .i64 e.Wait), V.v (.int .i64 e.FindR), V.v (.int .i64 e.FindHow), V.v (.int .i64 e.Last), .lst (some 1) (dPieces e.Ring.Pieces), .lst (some 2) (dLines e.Undo.Lines), V.v (.int .i64 e.Nav), .lst (some 3) (ints e.Own.Text), V.v (.int .i64 e.Own.At), .lst (some 4) (ints e.Query), V.v (.int .i64 e.Hit), .lst (some 5) (ints e.Back.Text), V.v (.int .i64 e.Back.At)], .agg [V.v (.int .i64 f), .lst (some 6) (strs l)], V.v (.int .i64 by_)] [] [] = some ⟨.tup [.agg [V.v (.bool e.Vi), V.v (.int .i64 e.Mode), .own 0, V.v (.int .i64 e.Line.At), V.v (.int .i64 0), V.v (.int .i64 0), V.v (.int .i64 0), V.v (.int .i64 0), V.v (.int .i64 e.FindR), V.v (.int .i64 e.FindHow), V.v (.int .i64 0), .own 1, .own 2, V.v (.int .i64 e.Nav), .own 3, V.v (.int .i64 e.Own.At), .own 4, V.v (.int .i64 e.Hit), .own 5, V.v (.int .i64 e.Back.At)], V.v (.int .i64 1)], [], [(0, ints e.Line.Text), (1, dPieces e.Ring.Pieces), (2, dLines e.Undo.Lines), (3, ints e.Own.Text), (4, ints e.Query), (5, ints e.Back.Text)]⟩ := by
  have e1 := E_ibell e hb
  unfold M_istep
  simp [Tryz.func107, Tryz.f107, h, e1]
theorem E_iplain_up (e e' : TEd) (f act : Int) (l : List ByteArray) (h : M_istep [.agg [V.v (.bool e.Vi), V.v (.int .i64 e.Mode), .lst (some 0) (ints e.Line.Text), V.v (.int .i64 e.Line.At), V.v (.int .i64 e.Count), V.v (.int .i64 e.Op), V.v (.int .i64 e.OpCount), V.v (.int .i64 e.Wait), V.v (.int .i64 e.FindR), V.v (.int .i64 e.FindHow), V.v (.int .i64 e.Last), .lst (some 1) (dPieces e.Ring.Pieces), .lst (some 2) (dLines e.Undo.Lines), V.v (.int .i64 e.Nav), .lst (some 3) (ints e.Own.Text), V.v (.int .i64 e.Own.At), .lst (some 4) (ints e.Query), V.v (.int .i64 e.Hit), .lst (some 5) (ints e.Back.Text), V.v (.int .i64 e.Back.At)], .agg [V.v (.int .i64 f), .lst (some 6) (strs l)], V.v (.int .i64 ((-1)))] [] [] = some ⟨.tup [.agg [V.v (.bool e'.Vi), V.v (.int .i64 e'.Mode), .own 0, V.v (.int .i64 e'.Line.At), V.v (.int .i64 e'.Count), V.v (.int .i64 e'.Op), V.v (.int .i64 e'.OpCount), V.v (.int .i64 e'.Wait), V.v (.int .i64 e'.FindR), V.v (.int .i64 e'.FindHow), V.v (.int .i64 e'.Last), .own 1, .own 2, V.v (.int .i64 e'.Nav), .own 3, V.v (.int .i64 e'.Own.At), .own 4, V.v (.int .i64 e'.Hit), .own 5, V.v (.int .i64 e'.Back.At)], V.v (.int .i64 act)], [], [(0, ints e'.Line.Text), (1, dPieces e'.Ring.Pieces), (2, dLines e'.Undo.Lines), (3, ints e'.Own.Text), (4, ints e'.Query), (5, ints e'.Back.Text)]⟩) :
    M_iplain [.agg [V.v (.bool e.Vi), V.v (.int .i64 e.Mode), .lst (some 0) (ints e.Line.Text), V.v (.int .i64 e.Line.At), V.v (.int .i64 e.Count), V.v (.int .i64 e.Op), V.v (.int .i64 e.OpCount), V.v (.int .i64 e.Wait), V.v (.int .i64 e.FindR), V.v (.int .i64 e.FindHow), V.v (.int .i64 e.Last), .lst (some 1) (dPieces e.Ring.Pieces), .lst (some 2) (dLines e.Undo.Lines), V.v (.int .i64 e.Nav), .lst (some 3) (ints e.Own.Text), V.v (.int .i64 e.Own.At), .lst (some 4) (ints e.Query), V.v (.int .i64 e.Hit), .lst (some 5) (ints e.Back.Text), V.v (.int .i64 e.Back.At)], .agg [V.v (.int .i64 f), .lst (some 6) (strs l)], .agg [V.v (.int .i64 8), V.v (.int .i64 0)]] [] [] = some ⟨.tup [.agg [V.v (.bool e'.Vi), V.v (.int .i64 e'.Mode), .own 0, V.v (.int .i64 e'.Line.At), V.v (.int .i64 e'.Count), V.v (.int .i64 e'.Op), V.v (.int .i64 e'.OpCount), V.v (.int .i64 e'.Wait), V.v (.int .i64 e'.FindR), V.v (.int .i64 e'.FindHow), V.v (.int .i64 e'.Last), .own 1, .own 2, V.v (.int .i64 e'.Nav), .own 3, V.v (.int .i64 e'.Own.At), .own 4, V.v (.int .i64 e'.Hit), .own 5, V.v (.int .i64 e'.Back.At)], V.v (.int .i64 act), V.v (.bool true)], [], [(0, ints e'.Line.Text), (1, dPieces e'.Ring.Pieces), (2, dLines e'.Undo.Lines), (3, ints e'.Own.Text), (4, ints e'.Query), (5, ints e'.Back.Text)]⟩ := by
  unfold M_iplain
  simp [Tryz.func80, Tryz.f80, h]
theorem E_iplain_down (e e' : TEd) (f act : Int) (l : List ByteArray) (h : M_istep [.agg [V.v (.bool e.Vi), V.v (.int .i64 e.Mode), .lst (some 0) (ints e.Line.Text), V.v (.int .i64 e.Line.At), V.v (.int .i64 e.Count), V.v (.int .i64 e.Op), V.v (.int .i64 e.OpCount), V.v (.int .i64 e.Wait), V.v (.int .i64 e.FindR), V.v (.int .i64 e.FindHow), V.v (.int .i64 e.Last), .lst (some 1) (dPieces e.Ring.Pieces), .lst (some 2) (dLines e.Undo.Lines), V.v (.int .i64 e.Nav), .lst (some 3) (ints e.Own.Text), V.v (.int .i64 e.Own.At), .lst (some 4) (ints e.Query), V.v (.int .i64 e.Hit), .lst (some 5) (ints e.Back.Text), V.v (.int .i64 e.Back.At)], .agg [V.v (.int .i64 f), .lst (some 6) (strs l)], V.v (.int .i64 1)] [] [] = some ⟨.tup [.agg [V.v (.bool e'.Vi), V.v (.int .i64 e'.Mode), .own 0, V.v (.int .i64 e'.Line.At), V.v (.int .i64 e'.Count), V.v (.int .i64 e'.Op), V.v (.int .i64 e'.OpCount), V.v (.int .i64 e'.Wait), V.v (.int .i64 e'.FindR), V.v (.int .i64 e'.FindHow), V.v (.int .i64 e'.Last), .own 1, .own 2, V.v (.int .i64 e'.Nav), .own 3, V.v (.int .i64 e'.Own.At), .own 4, V.v (.int .i64 e'.Hit), .own 5, V.v (.int .i64 e'.Back.At)], V.v (.int .i64 act)], [], [(0, ints e'.Line.Text), (1, dPieces e'.Ring.Pieces), (2, dLines e'.Undo.Lines), (3, ints e'.Own.Text), (4, ints e'.Query), (5, ints e'.Back.Text)]⟩) :
    M_iplain [.agg [V.v (.bool e.Vi), V.v (.int .i64 e.Mode), .lst (some 0) (ints e.Line.Text), V.v (.int .i64 e.Line.At), V.v (.int .i64 e.Count), V.v (.int .i64 e.Op), V.v (.int .i64 e.OpCount), V.v (.int .i64 e.Wait), V.v (.int .i64 e.FindR), V.v (.int .i64 e.FindHow), V.v (.int .i64 e.Last), .lst (some 1) (dPieces e.Ring.Pieces), .lst (some 2) (dLines e.Undo.Lines), V.v (.int .i64 e.Nav), .lst (some 3) (ints e.Own.Text), V.v (.int .i64 e.Own.At), .lst (some 4) (ints e.Query), V.v (.int .i64 e.Hit), .lst (some 5) (ints e.Back.Text), V.v (.int .i64 e.Back.At)], .agg [V.v (.int .i64 f), .lst (some 6) (strs l)], .agg [V.v (.int .i64 9), V.v (.int .i64 0)]] [] [] = some ⟨.tup [.agg [V.v (.bool e'.Vi), V.v (.int .i64 e'.Mode), .own 0, V.v (.int .i64 e'.Line.At), V.v (.int .i64 e'.Count), V.v (.int .i64 e'.Op), V.v (.int .i64 e'.OpCount), V.v (.int .i64 e'.Wait), V.v (.int .i64 e'.FindR), V.v (.int .i64 e'.FindHow), V.v (.int .i64 e'.Last), .own 1, .own 2, V.v (.int .i64 e'.Nav), .own 3, V.v (.int .i64 e'.Own.At), .own 4, V.v (.int .i64 e'.Hit), .own 5, V.v (.int .i64 e'.Back.At)], V.v (.int .i64 act), V.v (.bool true)], [], [(0, ints e'.Line.Text), (1, dPieces e'.Ring.Pieces), (2, dLines e'.Undo.Lines), (3, ints e'.Own.Text), (4, ints e'.Query), (5, ints e'.Back.Text)]⟩ := by
  unfold M_iplain
  simp [Tryz.func80, Tryz.f80, h]
theorem E_iEdKey_plain (e e' : TEd) (ok : e.ok = true) (hm : e.Mode = 0) (f act : Int) (l : List ByteArray) (hh : HistI f l) (k : Int) (hk : 4 ≤ k ∧ k ≤ 16) (h : M_iplain [.agg [V.v (.bool e.Vi), V.v (.int .i64 e.Mode), .lst (some 0) (ints e.Line.Text), V.v (.int .i64 e.Line.At), V.v (.int .i64 e.Count), V.v (.int .i64 e.Op), V.v (.int .i64 e.OpCount), V.v (.int .i64 e.Wait), V.v (.int .i64 e.FindR), V.v (.int .i64 e.FindHow), V.v (.int .i64 e.Last), .lst (some 1) (dPieces e.Ring.Pieces), .lst (some 2) (dLines e.Undo.Lines), V.v (.int .i64 e.Nav), .lst (some 3) (ints e.Own.Text), V.v (.int .i64 e.Own.At), .lst (some 4) (ints e.Query), V.v (.int .i64 e.Hit), .lst (some 5) (ints e.Back.Text), V.v (.int .i64 e.Back.At)], .agg [V.v (.int .i64 f), .lst (some 6) (strs l)], .agg [V.v (.int .i64 k), V.v (.int .i64 0)]] [] [] = some ⟨.tup [.agg [V.v (.bool e'.Vi), V.v (.int .i64 e'.Mode), .own 0, V.v (.int .i64 e'.Line.At), V.v (.int .i64 e'.Count), V.v (.int .i64 e'.Op), V.v (.int .i64 e'.OpCount), V.v (.int .i64 e'.Wait), V.v (.int .i64 e'.FindR), V.v (.int .i64 e'.FindHow), V.v (.int .i64 e'.Last), .own 1, .own 2, V.v (.int .i64 e'.Nav), .own 3, V.v (.int .i64 e'.Own.At), .own 4, V.v (.int .i64 e'.Hit), .own 5, V.v (.int .i64 e'.Back.At)], V.v (.int .i64 act), V.v (.bool true)], [], [(0, ints e'.Line.Text), (1, dPieces e'.Ring.Pieces), (2, dLines e'.Undo.Lines), (3, ints e'.Own.Text), (4, ints e'.Query), (5, ints e'.Back.Text)]⟩) :
    M_iEdKey [.agg [V.v (.bool e.Vi), V.v (.int .i64 e.Mode), .lst (some 0) (ints e.Line.Text), V.v (.int .i64 e.Line.At), V.v (.int .i64 e.Count), V.v (.int .i64 e.Op), V.v (.int .i64 e.OpCount), V.v (.int .i64 e.Wait), V.v (.int .i64 e.FindR), V.v (.int .i64 e.FindHow), V.v (.int .i64 e.Last), .lst (some 1) (dPieces e.Ring.Pieces), .lst (some 2) (dLines e.Undo.Lines), V.v (.int .i64 e.Nav), .lst (some 3) (ints e.Own.Text), V.v (.int .i64 e.Own.At), .lst (some 4) (ints e.Query), V.v (.int .i64 e.Hit), .lst (some 5) (ints e.Back.Text), V.v (.int .i64 e.Back.At)], .agg [V.v (.int .i64 f), .lst (some 6) (strs l)], .agg [V.v (.int .i64 k), V.v (.int .i64 0)]] [] [] = some ⟨.tup [.agg [V.v (.bool e'.Vi), V.v (.int .i64 e'.Mode), .own 0, V.v (.int .i64 e'.Line.At), V.v (.int .i64 e'.Count), V.v (.int .i64 e'.Op), V.v (.int .i64 e'.OpCount), V.v (.int .i64 e'.Wait), V.v (.int .i64 e'.FindR), V.v (.int .i64 e'.FindHow), V.v (.int .i64 e'.Last), .own 1, .own 2, V.v (.int .i64 e'.Nav), .own 3, V.v (.int .i64 e'.Own.At), .own 4, V.v (.int .i64 e'.Hit), .own 5, V.v (.int .i64 e'.Back.At)], V.v (.int .i64 act)], [], [(0, ints e'.Line.Text), (1, dPieces e'.Ring.Pieces), (2, dLines e'.Undo.Lines), (3, ints e'.Own.Text), (4, ints e'.Query), (5, ints e'.Back.Text)]⟩ := by
  have e1 := E_icanKey e ok f l hh k hk
  have e2 : M_iEmacsKey [.agg [V.v (.bool e.Vi), V.v (.int .i64 e.Mode), .lst (some 0) (ints e.Line.Text), V.v (.int .i64 e.Line.At), V.v (.int .i64 e.Count), V.v (.int .i64 e.Op), V.v (.int .i64 e.OpCount), V.v (.int .i64 e.Wait), V.v (.int .i64 e.FindR), V.v (.int .i64 e.FindHow), V.v (.int .i64 e.Last), .lst (some 1) (dPieces e.Ring.Pieces), .lst (some 2) (dLines e.Undo.Lines), V.v (.int .i64 e.Nav), .lst (some 3) (ints e.Own.Text), V.v (.int .i64 e.Own.At), .lst (some 4) (ints e.Query), V.v (.int .i64 e.Hit), .lst (some 5) (ints e.Back.Text), V.v (.int .i64 e.Back.At)], .agg [V.v (.int .i64 f), .lst (some 6) (strs l)], .agg [V.v (.int .i64 k), V.v (.int .i64 0)]] [] [] = some ⟨.tup [.agg [V.v (.bool e'.Vi), V.v (.int .i64 e'.Mode), .own 0, V.v (.int .i64 e'.Line.At), V.v (.int .i64 e'.Count), V.v (.int .i64 e'.Op), V.v (.int .i64 e'.OpCount), V.v (.int .i64 e'.Wait), V.v (.int .i64 e'.FindR), V.v (.int .i64 e'.FindHow), V.v (.int .i64 e'.Last), .own 1, .own 2, V.v (.int .i64 e'.Nav), .own 3, V.v (.int .i64 e'.Own.At), .own 4, V.v (.int .i64 e'.Hit), .own 5, V.v (.int .i64 e'.Back.At)], V.v (.int .i64 act)], [], [(0, ints e'.Line.Text), (1, dPieces e'.Ring.Pieces), (2, dLines e'.Undo.Lines), (3, ints e'.Own.Text), (4, ints e'.Query), (5, ints e'.Back.Text)]⟩ := by
    unfold M_iEmacsKey
    simp only [hm] at e1 h ⊢
    simp [Tryz.func70, Tryz.f70, e1, h]
  unfold M_iEdKey
  simp only [hm] at e2 ⊢
  simp [Tryz.func49, Tryz.f49, e2]
end Go.Proofs.YtnmneoekpikpkaaGreatDoor
namespace Go.Proofs.YtnmneoekpikpkaaGreatDoor
open Go.RowKit
set_option linter.unusedSimpArgs false
set_option linter.unusedVariables false
set_option maxHeartbeats 8000000
set_option maxRecDepth 10000
theorem firstDiff : ∀ (a b : List Int), a.length = b.length → a = b ∨ ∃ N, ∃ h : N < a.length, ∃ h' : N < b.length, a[N] ≠ b[N] ∧ ∀ j (hj : j < a.length) (hj' : j < b.length), j < N → a[j] = b[j]
  | [], [], _ => .inl rfl
  | x :: a, y :: b, h => by
    by_cases e : x = y
    · subst e
      rcases firstDiff a b (by simpa using h) with h1 | ⟨N, h1, h2, h3, h4⟩
      · exact .inl (by rw [h1])
      · refine .inr ⟨N + 1, by simp; exact h1, by simp; exact h2, by simpa using h3, fun j hj hj' hjN => ?_⟩
        cases j with
        | zero => rfl
        | succ j => simpa using h4 j (by simpa using hj) (by simpa using hj') (by omega)
    · exact .inr ⟨0, by simp, by simp, by simpa using e, fun j _ _ hj => by omega⟩
theorem E_isameInts (a b : List Int) (ha : a.length ≤ 1000000) (hb : b.length ≤ 1000000) : M_isameInts [.lst (some 0) (ints a), .lst (some 1) (ints b)] [] [] = some ⟨V.v (.bool (decide (a = b))), [], []⟩ := by
  unfold M_isameInts
  by_cases hl : a.length = b.length
  · have hli : (a.length : Int) = b.length := by omega
    simp [Tryz.func145, Tryz.f145, hl, hli]
    rcases firstDiff a b hl with h | ⟨N, h1, h2, h3, h4⟩
    · subst h
      rw [loopV_go (fun j => .on ⟨[(13, V.v (.int .i64 ((j : Int)))), (12, V.v (.int .i64 ((a.length : Int)))), (1, .lst (some 1) (ints a)), (0, .lst (some 0) (ints a))], [], [], []⟩) a.length ?_ ?_]
      · simp
      · simp
      · intro j hj
        have hw := w64 ((j : Int) + 1) (by omega)
        simp [hj, hw, ints_get hj]
    · have hab : ¬ a = b := fun e => by subst e; exact h3 rfl
      rw [loopV_go (fun j => .on ⟨[(13, V.v (.int .i64 ((j : Int)))), (12, V.v (.int .i64 ((b.length : Int)))), (1, .lst (some 1) (ints b)), (0, .lst (some 0) (ints a))], [], [], []⟩) N ?_ ?_]
      · simp [h1, h2, ints_get h1, ints_get h2, h3, hab]
      · simp
      · intro j hj
        have j1 : j < a.length := by omega
        have j2 : j < b.length := by omega
        have hw := w64 ((j : Int) + 1) (by omega)
        simp [j1, j2, hw, ints_get j1, ints_get j2, h4 j j1 j2 hj]
  · have hli : ¬ (a.length : Int) = b.length := by omega
    have hab : ¬ a = b := fun e => hl (by rw [e])
    simp [Tryz.func145, Tryz.f145, hl, hli, hab]
theorem E_igoTo (t : List Int) (i : Option Nat) (a at_ : Int) (h : t.length ≤ 1000000) : M_igoTo [.agg [.lst i (ints t), V.v (.int .i64 a)], V.v (.int .i64 at_)] [] [] = some ⟨.agg [.own 0, V.v (.int .i64 (max 0 (min at_ t.length)))], [], [(0, ints t)]⟩ := by
  have e := E_icopyInts t (some 0) h
  unfold M_igoTo
  simp [Tryz.func106, Tryz.f106, e]
def cutAt (a from_ to_ : Int) : Int := if to_ ≤ a then a - (to_ - from_) else if from_ < a then from_ else a
theorem E_iLineCut (t : List Int) (a : Int) (h : lineOk t a = true) (f to_ : Nat) (h1 : f ≤ to_) (h2 : to_ ≤ t.length) : M_iLineCut [.agg [.lst (some 0) (ints t), V.v (.int .i64 a)], V.v (.int .i64 ((f : Int))), V.v (.int .i64 ((to_ : Int)))] [] [] = some ⟨.tup [.agg [.own 0, V.v (.int .i64 (cutAt a f to_))], .own 1, V.v (.bool true)], [], [(0, ints (t.take f ++ t.drop to_)), (1, ints ((t.drop f).take (to_ - f)))]⟩ := by
  have hl : t.length ≤ 400 := by simp only [lineOk, textOk, Bool.and_eq_true, decide_eq_true_eq] at h; exact h.1.1
  have ha : 0 ≤ a ∧ a ≤ t.length := by simp only [lineOk, Bool.and_eq_true] at h; exact inR_of h.2
  have e1 := E_iLineOk t a (by omega)
  rw [h] at e1
  have e2 : M_iinLine [.agg [.lst (some 0) (ints t), V.v (.int .i64 a)], V.v (.int .i64 ((f : Int))), V.v (.int .i64 ((to_ : Int)))] [] [] = some ⟨V.v (.bool true), [], []⟩ := by
    have q1 : (f : Int) ≤ to_ := by omega
    have q2 : (to_ : Int) ≤ t.length := by omega
    unfold M_iinLine
    simp [Tryz.func147, Tryz.f147, e1, q1, q2]
  have e3 := E_icopyInts (t.take f) (some 0) (by simp; omega)
  have e4 := E_icopyInts ((t.drop f).take (to_ - f)) (some 0) (by simp; omega)
  have q0 : f ≤ t.length := by omega
  have q1 : (f : Int) ≤ to_ := by omega
  have q2 : (to_ : Int) ≤ t.length := by omega
  have q3 : (f : Int) ≤ t.length := by omega
  have q4 : (min f t.length + (t.length - to_)) * 8 ≤ 140737488355328 := by omega
  have q5 : min f t.length + (t.length - to_) ≤ 4611686018427387904 := by omega
  have q6 : min f t.length = f := by omega
  have q7 : (f + (t.length - to_)) * 8 ≤ 140737488355328 := by omega
  have q8 : f + (t.length - to_) ≤ 4611686018427387904 := by omega
  have q9 : (t.drop to_).take (t.length - to_) = t.drop to_ := List.take_of_length_le (by simp)
  have w1 := w64 ((to_ : Int) - f) (by omega)
  have w2 := w64 (a - ((to_ : Int) - f)) (by omega)
  generalize hE : M_iLineCut _ _ _ = R
  unfold M_iLineCut at hE
  unfold cutAt
  by_cases c1 : (to_ : Int) ≤ a
  · simp [-ints_app, ← ints_app, Tryz.func116, Tryz.f116, e2, e3, e4, q0, q1, q2, q3, q4, q5, q6, q7, q8, q9, w1, w2, c1, h1, h2] at hE
    rw [if_pos c1]
    exact hE.symm
  · by_cases c2 : (f : Int) < a
    · simp [-ints_app, ← ints_app, Tryz.func116, Tryz.f116, e2, e3, e4, q0, q1, q2, q3, q4, q5, q6, q7, q8, q9, c1, c2, h1, h2] at hE
      rw [if_neg c1, if_pos c2]
      exact hE.symm
    · simp [-ints_app, ← ints_app, Tryz.func116, Tryz.f116, e2, e3, e4, q0, q1, q2, q3, q4, q5, q6, q7, q8, q9, c1, c2, h1, h2] at hE
      rw [if_neg c1, if_neg c2]
      exact hE.symm
theorem piece_len {l : List TPiece} (h : ringOk l = true) : l.length ≤ 6 ∧ ∀ p ∈ l, 0 < p.Text.length ∧ p.Text.length ≤ 400 ∧ p.Text.all typed = true := by
  simp only [ringOk, Bool.and_eq_true, decide_eq_true_eq] at h
  refine ⟨h.2, fun p hp => ?_⟩
  have := List.all_eq_true.1 h.1 p hp
  simp only [pieceB, textOk, Bool.and_eq_true, decide_eq_true_eq] at this
  exact ⟨this.1, this.2.1, this.2.2⟩
theorem ring_new {l : List TPiece} {t : List Int} (h : ringOk l = true) (ht : textOk t = true) (h0 : t ≠ []) : ringOk ((⟨t⟩ :: l).take 6) = true := by
  simp only [ringOk, Bool.and_eq_true, decide_eq_true_eq] at h ⊢
  refine ⟨List.all_eq_true.2 fun p hp => ?_, by simp; omega⟩
  rcases List.mem_cons.1 (List.mem_of_mem_take hp) with rfl | hp
  · simp [pieceB, ht, List.length_pos_iff.2 h0]
  · exact List.all_eq_true.1 h.1 p hp
theorem E_iRingPut_new (l : List TPiece) (t : List Int) (h : ringOk l = true) (ht : textOk t = true) (h0 : t ≠ []) : M_iRingPut [.agg [.lst (some 0) (dPieces l)], .lst (some 1) (ints t), V.v (.int .i64 0)] [] [] = some ⟨.tup [.agg [.own 0], V.v (.bool true)], [], [(0, dPieces ((⟨t⟩ :: l).take 6))]⟩ := by
  obtain ⟨hl, hp⟩ := piece_len h
  have htl : t.length ≤ 400 := by simp only [textOk, Bool.and_eq_true, decide_eq_true_eq] at ht; exact ht.1
  have e1 := E_iRingOk l (sm_pieces h)
  rw [h] at e1
  have e2 := E_iareAdmissible t (by omega)
  rw [ht] at e2
  have e3 := E_icopyRing l (some 0) (by omega) (fun p hq => by have := (hp p hq).2.1; omega)
  have e4 := E_icopyInts t (some 0) (by omega)
  have q1 : inR 0 0 2 = true := by decide
  generalize hE : M_iRingPut _ _ _ = R
  unfold M_iRingPut at hE
  cases l with
  | nil =>
    simp only [show dPieces [] = [] from rfl] at hE e1 e3
    have e5 : dPieces (List.take 6 [⟨t⟩]) = [[.l (ints t)]] := rfl
    have rf : rowsFlat ([] : List (List D)) = true := rfl
    rw [e5]
    simp [Tryz.func118, Tryz.f118, e1, e2, e3, e4, E_iin, q1, h0, rf] at hE
    exact hE.symm
  | cons p l =>
    have hll : l.length ≤ 5 := by simpa using hl
    have rf : rowsFlat (dPieces (p :: l)) = false := by simp [dPieces_cons, rowsFlat, flatD]
    have g3 : (1 + (l.length + 1)) * 24 ≤ 140737488355328 := by omega
    have g4 : 1 + (l.length + 1) ≤ 4611686018427387904 := by omega
    by_cases h6 : l.length = 5
    · have m76 : min (7 : Int) 6 = 6 := by decide
      simp [Tryz.func118, Tryz.f118, e1, e2, e3, e4, E_iin, q1, h0, h6, m76, rf] at hE
      exact hE.symm
    · have h6i : ¬ (6 : Int) ≤ (l.length : Int) + 1 + 1 ∨ (l.length : Int) + 1 + 1 = 6 := by omega
      have h6m : min ((l.length : Int) + 1 + 1) 6 = (l.length : Int) + 1 + 1 := by omega
      have h6t : l.take 4 = l := List.take_of_length_le (by omega)
      have h6n : ((l.length : Int) + 1 + 1).toNat = l.length + 2 := by omega
      have h6p : 0 ≤ (l.length : Int) + 1 + 1 := by omega
      simp [Tryz.func118, Tryz.f118, e1, e2, e3, e4, E_iin, q1, h0, g3, g4, h6m, h6n, h6p, rf] at hE
      rw [show List.take 6 (⟨t⟩ :: p :: l) = ⟨t⟩ :: p :: l.take 4 from rfl, h6t]
      exact hE.symm
theorem E_iRingTop (l : List TPiece) (h : ringOk l = true) : M_iRingTop [.agg [.lst (some 0) (dPieces l)]] [] [] = some ⟨.own 0, [], [(0, ints ((l.head?.map (·.Text)).getD []))]⟩ := by
  obtain ⟨hl, hp⟩ := piece_len h
  have e1 := E_iRingOk l (sm_pieces h)
  rw [h] at e1
  unfold M_iRingTop
  cases l with
  | nil =>
    simp only [show dPieces [] = [] from rfl] at e1 ⊢
    simp [Tryz.func144, Tryz.f144, e1, ints_nil]
  | cons p l =>
    have e2 := E_icopyInts p.Text (some 0) (by have := (hp p (by simp)).2.1; omega)
    have hn : ¬ (l.length : Int) + 1 = 0 := by omega
    rw [dPieces_cons] at e1 ⊢
    simp [Tryz.func144, Tryz.f144, e1, e2, hn]
theorem undo_len {l : List TLine} (h : undoOk l = true) : ∀ p ∈ l, lineOk p.Text p.At = true := by
  simp only [undoOk, Bool.and_eq_true, decide_eq_true_eq] at h
  intro p hp
  have := List.all_eq_true.1 h.1 p hp
  simpa [lineB] using this
theorem EX_iUndoPut (l : List TLine) (t : List Int) (a : Int) (h : undoOk l = true) (hl : l.length ≤ 19) (ht : lineOk t a = true) : ∃ l', M_iUndoPut [.agg [.lst (some 0) (dLines l)], .agg [.lst (some 1) (ints t), V.v (.int .i64 a)]] [] [] = some ⟨.tup [.agg [.own 0], V.v (.bool true)], [], [(0, dLines l')]⟩ ∧ undoOk l' = true ∧ l'.length ≤ l.length + 1 := by
  have hp := undo_len h
  have len : ∀ {t : List Int} {a : Int}, lineOk t a = true → t.length ≤ 400 := fun h => by
    simp only [lineOk, textOk, Bool.and_eq_true, decide_eq_true_eq] at h; exact h.1.1
  have htl := len ht
  have e1 := E_iUndoOk l (sm_lines h)
  rw [h] at e1
  have e2 := E_iLineOk t a (by omega)
  rw [ht] at e2
  have e3 := E_icopyUndo l (some 0) (by omega) (fun p hq => by have := len (hp p hq); omega)
  have e4 := E_icopyLine t (some 0) a (by omega)
  have hok : undoOk (l ++ [⟨t, a⟩]) = true := by
    simp only [undoOk, Bool.and_eq_true, decide_eq_true_eq] at h ⊢
    refine ⟨List.all_eq_true.2 fun p hq => ?_, by simp; omega⟩
    rcases List.mem_append.1 hq with hq | hq
    · exact List.all_eq_true.1 h.1 p hq
    · rw [List.mem_singleton.1 hq]; simpa [lineB] using ht
  have e6 : dLines (l ++ [⟨t, a⟩]) = dLines l ++ [[.l (ints t), D.a (.int .i64 a)]] := (dLines_snoc l ⟨t, a⟩).symm
  have g1 : (l.length + 1) * 32 ≤ 140737488355328 := by omega
  have g2 : l.length + 1 ≤ 4611686018427387904 := by omega
  have g3 : ¬ (20 : Int) < (l.length : Int) + 1 := by omega
  have g4 : l.length ≤ 4611686018427387903 := by omega
  generalize hE : M_iUndoPut _ _ _ = R
  unfold M_iUndoPut at hE
  by_cases h0 : l = []
  · subst h0
    simp only [show dLines [] = [] from rfl] at hE e1 e3
    simp [Tryz.func151, Tryz.f151, e1, e2, e3, e4] at hE
    exact ⟨[⟨t, a⟩], hE.symm, hok, by simp⟩
  · have hlen : 0 < l.length := List.length_pos_iff.2 h0
    have hj : l.length - 1 < l.length := by omega
    have hq := len (hp l[l.length - 1] (List.getElem_mem hj))
    have e5 := E_isameInts l[l.length - 1].Text t (by omega) (by omega)
    have w := w64 ((l.length : Int) - 1) (by omega)
    have k1 : 0 ≤ (l.length : Int) - 1 := by omega
    have k2 : (l.length : Int) - 1 < l.length := by omega
    have k3 : ((l.length : Int) - 1).toNat = l.length - 1 := by omega
    have k4 : (0 : Int) < l.length := by omega
    have k5 : 1 ≤ (l.length : Int) := by omega
    by_cases hs : l[l.length - 1].Text = t
    · have hs' : decide (l[l.length - 1].Text = t) = true := decide_eq_true hs
      rw [hs'] at e5
      simp [Tryz.func151, Tryz.f151, e1, e2, e3, e4, e5, w, k1, k2, k3, k4, k5, dLines_get hj, hlen] at hE
      exact ⟨l, hE.symm, h, by omega⟩
    · have hs' : decide (l[l.length - 1].Text = t) = false := decide_eq_false hs
      rw [hs'] at e5
      simp [Tryz.func151, Tryz.f151, e1, e2, e3, e4, e5, w, k1, k2, k3, k4, k5, dLines_get hj, hlen, g1, g2, g3, g4] at hE
      exact ⟨l ++ [⟨t, a⟩], by rw [e6]; exact hE.symm, hok, by simp⟩
end Go.Proofs.YtnmneoekpikpkaaGreatDoor
namespace Go.Proofs.YtnmneoekpikpkaaGreatDoor
open Go.RowKit
set_option linter.unusedSimpArgs false
set_option linter.unusedVariables false
set_option maxHeartbeats 8000000
set_option maxRecDepth 10000
def clipAt (t : List Int) (a : Int) : Int := if atEnd t a = true then a - 1 else a
theorem E_iinCommand2 (t : List Int) (a : Int) (ha : 0 ≤ a ∧ a ≤ 1000) : M_iinCommand [.agg [.lst (some 0) (ints t), V.v (.int .i64 a)], V.v (.int .i64 2)] [] [] = some ⟨.agg [.lst (some 0) (ints t), V.v (.int .i64 (clipAt t a))], [], []⟩ := by
  have e1 := E_iisAtEnd t a
  have w := w64 (a - 1) (by omega)
  unfold M_iinCommand clipAt
  cases h : atEnd t a
  · rw [h] at e1
    simp [Tryz.func125, Tryz.f125, e1]
  · rw [h] at e1
    simp [Tryz.func125, Tryz.f125, e1, w]
structure SetI (e : TEd) : Prop where
  b : EdB e
  mode : e.Mode = 2
  line : lineOk e.Line.Text e.Line.At = true
  undo : undoOk e.Undo.Lines = true ∧ e.Undo.Lines.length ≤ 19
theorem EX_iset (e : TEd) (h : SetI e) (t : List Int) (a : Int) (ht : t.length ≤ 400) (ha : 0 ≤ a ∧ a ≤ t.length) : ∃ ul, M_iset [.agg [V.v (.bool e.Vi), V.v (.int .i64 e.Mode), .lst (some 0) (ints e.Line.Text), V.v (.int .i64 e.Line.At), V.v (.int .i64 e.Count), V.v (.int .i64 e.Op), V.v (.int .i64 e.OpCount), V.v (.int .i64 e.Wait), V.v (.int .i64 e.FindR), V.v (.int .i64 e.FindHow), V.v (.int .i64 e.Last), .lst (some 1) (dPieces e.Ring.Pieces), .lst (some 2) (dLines e.Undo.Lines), V.v (.int .i64 e.Nav), .lst (some 3) (ints e.Own.Text), V.v (.int .i64 e.Own.At), .lst (some 4) (ints e.Query), V.v (.int .i64 e.Hit), .lst (some 5) (ints e.Back.Text), V.v (.int .i64 e.Back.At)], .agg [.lst (some 6) (ints t), V.v (.int .i64 a)], V.v (.int .i64 0)] [] [] = some ⟨.agg [V.v (.bool e.Vi), V.v (.int .i64 e.Mode), .own 0, V.v (.int .i64 (clipAt t a)), V.v (.int .i64 0), V.v (.int .i64 0), V.v (.int .i64 0), V.v (.int .i64 0), V.v (.int .i64 e.FindR), V.v (.int .i64 e.FindHow), V.v (.int .i64 0), .own 1, .own 2, V.v (.int .i64 e.Nav), .own 3, V.v (.int .i64 e.Own.At), .own 4, V.v (.int .i64 e.Hit), .own 5, V.v (.int .i64 e.Back.At)], [], [(0, ints t), (1, dPieces e.Ring.Pieces), (2, dLines ul), (3, ints e.Own.Text), (4, ints e.Query), (5, ints e.Back.Text)]⟩ ∧ undoOk ul = true ∧ ul.length ≤ e.Undo.Lines.length + 1 := by
  have hm := h.mode
  have e1 := E_isettled e h.b 0
  have hel : e.Line.Text.length ≤ 2000 := h.b.line
  have e2 := E_isameInts t e.Line.Text (by omega) (by omega)
  obtain ⟨ul, e3, u1, u2⟩ := EX_iUndoPut e.Undo.Lines e.Line.Text e.Line.At h.undo.1 h.undo.2 h.line
  have e4 := E_icopyLine t (some 0) a (by omega)
  have e5 := E_iinCommand2 t a (by omega)
  simp only [hm] at e1 ⊢
  generalize hE : M_iset _ _ _ = R
  unfold M_iset at hE
  by_cases hs : t = e.Line.Text
  · rw [decide_eq_true hs] at e2
    simp [Tryz.func117, Tryz.f117, e1, e2, e4, e5, hm] at hE
    exact ⟨e.Undo.Lines, hE.symm, h.undo.1, by omega⟩
  · rw [decide_eq_false hs] at e2
    simp [Tryz.func117, Tryz.f117, e1, e2, e3, e4, e5, hm] at hE
    exact ⟨ul, hE.symm, u1, u2⟩
theorem EX_iput (e : TEd) (h : SetI e) (t : List Int) (a : Int) (ht : t.length ≤ 400) (ha : 0 ≤ a ∧ a ≤ t.length) : ∃ ul, M_iput [.agg [V.v (.bool e.Vi), V.v (.int .i64 e.Mode), .lst (some 0) (ints e.Line.Text), V.v (.int .i64 e.Line.At), V.v (.int .i64 e.Count), V.v (.int .i64 e.Op), V.v (.int .i64 e.OpCount), V.v (.int .i64 e.Wait), V.v (.int .i64 e.FindR), V.v (.int .i64 e.FindHow), V.v (.int .i64 e.Last), .lst (some 1) (dPieces e.Ring.Pieces), .lst (some 2) (dLines e.Undo.Lines), V.v (.int .i64 e.Nav), .lst (some 3) (ints e.Own.Text), V.v (.int .i64 e.Own.At), .lst (some 4) (ints e.Query), V.v (.int .i64 e.Hit), .lst (some 5) (ints e.Back.Text), V.v (.int .i64 e.Back.At)], .agg [.lst (some 6) (ints t), V.v (.int .i64 a)]] [] [] = some ⟨.tup [.agg [V.v (.bool e.Vi), V.v (.int .i64 e.Mode), .own 0, V.v (.int .i64 (clipAt t a)), V.v (.int .i64 0), V.v (.int .i64 0), V.v (.int .i64 0), V.v (.int .i64 0), V.v (.int .i64 e.FindR), V.v (.int .i64 e.FindHow), V.v (.int .i64 0), .own 1, .own 2, V.v (.int .i64 e.Nav), .own 3, V.v (.int .i64 e.Own.At), .own 4, V.v (.int .i64 e.Hit), .own 5, V.v (.int .i64 e.Back.At)], V.v (.int .i64 0)], [], [(0, ints t), (1, dPieces e.Ring.Pieces), (2, dLines ul), (3, ints e.Own.Text), (4, ints e.Query), (5, ints e.Back.Text)]⟩ ∧ undoOk ul = true ∧ ul.length ≤ e.Undo.Lines.length + 1 := by
  obtain ⟨ul, e1, u⟩ := EX_iset e h t a ht ha
  refine ⟨ul, ?_, u⟩
  unfold M_iput
  simp [Tryz.func105, Tryz.f105, e1]
theorem EX_ichange (e : TEd) (h : SetI e) (hr : ringOk e.Ring.Pieces = true) (f to_ : Nat) (h1 : f < to_) (h2 : to_ ≤ e.Line.Text.length) : ∃ ul, M_ichange [.agg [V.v (.bool e.Vi), V.v (.int .i64 e.Mode), .lst (some 0) (ints e.Line.Text), V.v (.int .i64 e.Line.At), V.v (.int .i64 e.Count), V.v (.int .i64 e.Op), V.v (.int .i64 e.OpCount), V.v (.int .i64 e.Wait), V.v (.int .i64 e.FindR), V.v (.int .i64 e.FindHow), V.v (.int .i64 e.Last), .lst (some 1) (dPieces e.Ring.Pieces), .lst (some 2) (dLines e.Undo.Lines), V.v (.int .i64 e.Nav), .lst (some 3) (ints e.Own.Text), V.v (.int .i64 e.Own.At), .lst (some 4) (ints e.Query), V.v (.int .i64 e.Hit), .lst (some 5) (ints e.Back.Text), V.v (.int .i64 e.Back.At)], V.v (.int .i64 100), V.v (.int .i64 ((f : Int))), V.v (.int .i64 ((to_ : Int)))] [] [] =
      some ⟨.tup [.agg [V.v (.bool e.Vi), V.v (.int .i64 e.Mode), .own 0, V.v (.int .i64 (clipAt (e.Line.Text.take f ++ e.Line.Text.drop to_) f)), V.v (.int .i64 0), V.v (.int .i64 0), V.v (.int .i64 0), V.v (.int .i64 0), V.v (.int .i64 e.FindR), V.v (.int .i64 e.FindHow), V.v (.int .i64 0), .own 1, .own 2, V.v (.int .i64 e.Nav), .own 3, V.v (.int .i64 e.Own.At), .own 4, V.v (.int .i64 e.Hit), .own 5, V.v (.int .i64 e.Back.At)], V.v (.int .i64 0)], [],
        [(0, ints (e.Line.Text.take f ++ e.Line.Text.drop to_)), (1, dPieces ((⟨(e.Line.Text.drop f).take (to_ - f)⟩ :: e.Ring.Pieces).take 6)), (2, dLines ul), (3, ints e.Own.Text), (4, ints e.Query), (5, ints e.Back.Text)]⟩ ∧ undoOk ul = true ∧ ul.length ≤ e.Undo.Lines.length + 1 := by
  have hl : e.Line.Text.length ≤ 400 ∧ e.Line.Text.all typed = true := by have := h.line; simp only [lineOk, textOk, Bool.and_eq_true, decide_eq_true_eq] at this; exact this.1
  have e1 := E_iLineCut e.Line.Text e.Line.At h.line f to_ (by omega) h2
  have e2 := E_icopyEd e h.b
  have hg0 : (e.Line.Text.drop f).take (to_ - f) ≠ [] := fun e => by have := congrArg List.length e; simp at this; omega
  have hgo : textOk ((e.Line.Text.drop f).take (to_ - f)) = true := by
    simp only [textOk, Bool.and_eq_true, decide_eq_true_eq]
    refine ⟨by simp; omega, List.all_eq_true.2 fun x hx => List.all_eq_true.1 hl.2 x (List.mem_of_mem_drop (List.mem_of_mem_take hx))⟩
  have e3 := E_iRingPut_new e.Ring.Pieces _ hr hgo hg0
  have hxl : (e.Line.Text.take f ++ e.Line.Text.drop to_).length = f + (e.Line.Text.length - to_) := by simp; omega
  have hrn := ring_new hr hgo hg0
  generalize (⟨(e.Line.Text.drop f).take (to_ - f)⟩ :: e.Ring.Pieces : List TPiece).take 6 = rg at *
  generalize (e.Line.Text.drop f).take (to_ - f) = gone at *
  generalize e.Line.Text.take f ++ e.Line.Text.drop to_ = X at *
  have e4 := E_igoTo X (some 0) (cutAt e.Line.At f to_) f (by omega)
  have m1 : max 0 (min (f : Int) X.length) = f := by omega
  rw [m1] at e4
  have h' : SetI { e with Ring := ⟨rg⟩ } := ⟨⟨h.b.line, h.b.own, h.b.back, h.b.query, by
    obtain ⟨p1, p2⟩ := piece_len hrn
    exact ⟨by simp only; omega, fun p hp => by have := (p2 p hp).2.1; omega⟩, h.b.undo⟩, h.mode, h.line, h.undo⟩
  obtain ⟨ul, e5, u⟩ := EX_iset _ h' X f (by omega) (by omega)
  refine ⟨ul, ?_, u⟩
  have n1 : ¬ (f : Int) = to_ := by omega
  generalize hE : M_ichange _ _ _ = R
  unfold M_ichange at hE
  simp [-ints_app, Tryz.func130, Tryz.f130, e1, e2, e3, e4, e5, n1] at hE
  exact hE.symm
theorem E_ichange_no (e : TEd) (hb : EdB e) (f : Int) : M_ichange [.agg [V.v (.bool e.Vi), V.v (.int .i64 e.Mode), .lst (some 0) (ints e.Line.Text), V.v (.int .i64 e.Line.At), V.v (.int .i64 e.Count), V.v (.int .i64 e.Op), V.v (.int .i64 e.OpCount), V.v (.int .i64 e.Wait), V.v (.int .i64 e.FindR), V.v (.int .i64 e.FindHow), V.v (.int .i64 e.Last), .lst (some 1) (dPieces e.Ring.Pieces), .lst (some 2) (dLines e.Undo.Lines), V.v (.int .i64 e.Nav), .lst (some 3) (ints e.Own.Text), V.v (.int .i64 e.Own.At), .lst (some 4) (ints e.Query), V.v (.int .i64 e.Hit), .lst (some 5) (ints e.Back.Text), V.v (.int .i64 e.Back.At)], V.v (.int .i64 100), V.v (.int .i64 f), V.v (.int .i64 f)] [] [] = some ⟨.tup [.agg [V.v (.bool e.Vi), V.v (.int .i64 e.Mode), .own 0, V.v (.int .i64 e.Line.At), V.v (.int .i64 0), V.v (.int .i64 0), V.v (.int .i64 0), V.v (.int .i64 0), V.v (.int .i64 e.FindR), V.v (.int .i64 e.FindHow), V.v (.int .i64 0), .own 1, .own 2, V.v (.int .i64 e.Nav), .own 3, V.v (.int .i64 e.Own.At), .own 4, V.v (.int .i64 e.Hit), .own 5, V.v (.int .i64 e.Back.At)], V.v (.int .i64 1)], [], [(0, ints e.Line.Text), (1, dPieces e.Ring.Pieces), (2, dLines e.Undo.Lines), (3, ints e.Own.Text), (4, ints e.Query), (5, ints e.Back.Text)]⟩ := by
  have e1 := E_ibell e hb
  unfold M_ichange
  simp [Tryz.func130, Tryz.f130, e1]
end Go.Proofs.YtnmneoekpikpkaaGreatDoor
