/-
  RuneBegin of the program.
-/
import Derived.Test.YtohjjhoobikioaaDoorVtW1
namespace Go.Proofs.YtohjjhoobikioaaDoor
open Go.RowKit

theorem spans_succ (l : List UInt8) (p : Int × Int) (k m : Nat) : spans l p k (m + 1) = match spans l p k m with | none => none | some q => span1 q l[k + m]? := rfl
theorem spans_stuck {l : List UInt8} {p : Int × Int} {k i : Nat} (h : spans l p k i = none) : ∀ j, i ≤ j → spans l p k j = none := by
  intro j hj
  obtain ⟨d, rfl⟩ : ∃ d, j = i + d := ⟨j - i, by omega⟩
  clear hj
  induction d with
  | zero => exact h
  | succ d ih => rw [← Nat.add_assoc, spans_succ, ih]
theorem runeBegin_no {l : List UInt8} (h : l.length = 0 ∨ 3 < l.length) : runeBegin l = false := by
  cases l with
  | nil => rfl
  | cons x t =>
    simp only [runeBegin]
    have := seqLen_le x.toNat
    rw [if_pos]
    simp only [List.length_cons] at h
    omega
theorem runeBegin_low {l : List UInt8} (h : 0 < l.length) (hx : (l.getD 0 0).toNat < 128 ∨ seqLen (l.getD 0 0).toNat ≤ l.length) : runeBegin l = false := by
  cases l with
  | nil => rfl
  | cons x t => simp only [runeBegin]; rw [if_pos]; simpa using hx
theorem runeBegin_m {l : List UInt8} {m : Nat} (h : 0 < l.length) (hx : 128 ≤ (l.getD 0 0).toNat) (hm : seqLen (l.getD 0 0).toNat = m) (h2 : l.length < m) : runeBegin l = spanOk m (spans l (lead (l.getD 0 0).toNat m, lead (l.getD 0 0).toNat m) 1 (m - 1)) := by
  cases l with
  | nil => simp at h
  | cons x t =>
    have e : (x :: t).getD 0 0 = x := rfl
    rw [e] at hm hx ⊢
    simp only [List.length_cons] at h2
    simp only [runeBegin]; rw [if_neg (by omega), hm]
theorem spanOk_lit (m : Nat) (lo hi M : Int) (hm : leastOf m = M) : spanOk m (some (lo, hi)) = (decide (max lo M ≤ min hi 1114111) && !(decide (55296 ≤ max lo M) && decide (min hi 1114111 ≤ 57343))) := by rw [← hm]; rfl

def bnd (j : Nat) : Int := if j = 0 then 31 else if j = 1 then 2047 else if j = 2 then 131071 else 8388607
theorem bnd_le (j : Nat) : bnd j ≤ 8388607 := by unfold bnd; (repeat' split) <;> omega
theorem bnd_step {j : Nat} {n y : Int} (hj : j ≤ 2) (h0 : 0 ≤ n) (h1 : n ≤ bnd j) : 128 ≤ y → y ≤ 191 → 0 ≤ n * 64 + y - 128 ∧ n * 64 + y - 128 ≤ bnd (j + 1) := by
  intro hy hy2
  unfold bnd at *
  obtain rfl | rfl | rfl : j = 0 ∨ j = 1 ∨ j = 2 := by omega
  all_goals
    simp at h1 ⊢
    omega
set_option maxRecDepth 100000 in
set_option maxHeartbeats 8000000 in
theorem impl_RuneBegin (A : Option Addr) (n c : Nat) (l : List UInt8) (w : World) (h : RB w A n c l) :
    Calls Tryd.prog 119 #[.slice A n c] w fun e w' => e = .returned (.bool (runeBegin l)) ∧ Ext w w' := by
  have hl := h.len
  have hnm := h.nmax
  by_cases hn : n = 0 ∨ 3 < n
  · have E := Lib.hid (runeBegin_no (l := l) (by omega))
    have i0 : inB (n : Int) 1 3 = false := by rw [inB_not]; omega
    clear h hl
    go_enter Tryd.func119, Tryd.ntmps119
    go_wp2_with (go_at_call 97; refine (impl_in _ _ _ _).mono ?_; rintro e w' ⟨rfl, rfl⟩)
    go_ret
    exact ⟨ret_b E.out.symm, Ext.refl _⟩
  have i0 : inB (n : Int) 1 3 = true := by rw [inB_iff]; omega
  obtain ⟨b, o, rfl, hcell⟩ := h.at1 (k := 0) (by omega)
  obtain ⟨x, hx⟩ : ∃ x : UInt8, x = l.getD 0 0 := ⟨_, rfl⟩
  have hx8 := x.toNat_lt
  have R1 := Lib.hid (fun e => runeBegin_low (l := l) (by omega) e)
  have RM := Lib.hid (fun m e f g => runeBegin_m (l := l) (m := m) (by omega) e f g)
  rw [← hx] at hcell R1 RM
  rw [Nat.add_zero] at hcell
  have n0 : (0 : Int) < (n : Int) := by omega
  have HR := Lib.hid h
  have Hl := Lib.hid hl
  clear hx h hl
  rcases seq_cases x.toNat with h1 | ⟨h1, h2, h3⟩ | hcl
  · have E := Lib.hid (R1.out (.inl h1))
    have i1 : inB (x.toNat : Int) 192 223 = false := by rw [inB_not]; omega
    have i2 : inB (x.toNat : Int) 224 239 = false := by rw [inB_not]; omega
    have i3 : inB (x.toNat : Int) 240 247 = false := by rw [inB_not]; omega
    clear R1 RM
    go_enter Tryd.func119, Tryd.ntmps119
    go_wp2_with (go_at_call 97; refine (impl_in _ _ _ _).mono ?_; rintro e w' ⟨rfl, rfl⟩)
    go_quiet (fail)
    go_wp2_with (go_at_call 97; refine (impl_in _ _ _ _).mono ?_; rintro e w' ⟨rfl, rfl⟩)
    go_ret
    exact ⟨ret_b E.out.symm, (Ext.refl _).drewN _⟩
  · have E := Lib.hid (R1.out (.inr (by omega)))
    have i1 : inB (x.toNat : Int) 192 223 = false := by rw [inB_not]; omega
    have i2 : inB (x.toNat : Int) 224 239 = false := by rw [inB_not]; omega
    have i3 : inB (x.toNat : Int) 240 247 = false := by rw [inB_not]; omega
    clear R1 RM h2 h3
    go_enter Tryd.func119, Tryd.ntmps119
    go_wp2_with (go_at_call 97; refine (impl_in _ _ _ _).mono ?_; rintro e w' ⟨rfl, rfl⟩)
    go_quiet (fail)
    go_wp2_with (go_at_call 97; refine (impl_in _ _ _ _).mono ?_; rintro e w' ⟨rfl, rfl⟩)
    go_ret
    exact ⟨ret_b E.out.symm, (Ext.refl _).drewN _⟩
  have key : ∀ m : Nat, (m = 2 ∨ m = 3 ∨ m = 4) → 192 ≤ x.toNat → inB (x.toNat : Int) 192 223 = decide (m = 2) → inB (x.toNat : Int) 224 239 = decide (m = 3) → inB (x.toNat : Int) 240 247 = decide (m = 4) → seqLen x.toNat = m → 0 ≤ lead x.toNat m → lead x.toNat m ≤ 31 →
      Calls Tryd.prog 119 #[.slice (some ⟨b, o, none⟩) n c] w fun e w' => e = .returned (.bool (runeBegin l)) ∧ Ext w w' := by
    intro m hm hx1 i1 i2 i3 hsl hl0 hl1
    have Hi := Lib.hid (And.intro i1 (And.intro i2 i3))
    clear i1 i2 i3
    by_cases hfit : m ≤ n
    · have E := Lib.hid (R1.out (.inr (by rw [hsl, Hl.out]; exact hfit)))
      clear R1 RM hsl
      obtain rfl | rfl : m = 2 ∨ m = 3 := by omega
      all_goals
        obtain ⟨i1, i2, i3⟩ := Hi.out
        simp at i1 i2 i3
        go_enter Tryd.func119, Tryd.ntmps119
        go_wp2_with (go_at_call 97; refine (impl_in _ _ _ _).mono ?_; rintro e w' ⟨rfl, rfl⟩)
        go_quiet (fail)
        go_wp2_with (go_at_call 97; refine (impl_in _ _ _ _).mono ?_; rintro e w' ⟨rfl, rfl⟩)
        go_ret
        exact ⟨ret_b E.out.symm, (Ext.refl _).drewN _⟩
    · have E := Lib.hid (RM.out m (by omega) hsl (by rw [Hl.out]; omega))
      have L0 : Hid (∀ m', m' = m → (x.toNat : Int) - (if m' = 2 then 192 else if m' = 3 then 224 else 240) = lead x.toNat m) := by
        intro m' e
        rw [e]; unfold lead
        (repeat' split) <;> rfl
      obtain ⟨r0, hr0⟩ : ∃ r0, r0 = lead x.toNat m := ⟨_, rfl⟩
      rw [← hr0] at E L0 hl0 hl1
      clear R1 RM hsl hr0
      rcases hm with rfl | rfl | rfl
      · obtain ⟨i1, i2, i3⟩ := Hi.out
        have e0 := L0.out _ rfl
        simp at i1 i2 i3 e0
        go_enter Tryd.func119, Tryd.ntmps119
        go_wp2_with (go_at_call 97; refine (impl_in _ _ _ _).mono ?_; rintro e w' ⟨rfl, rfl⟩)
        go_quiet (fail)
        go_wp2_with (go_at_call 97; refine (impl_in _ _ _ _).mono ?_; rintro e w' ⟨rfl, rfl⟩)
        try rw [e0]
        clear e0 i0 i1 i2 i3
        go_loopw [5, 6, 7] (fun vl vh vk wr => ∃ (j k : Nat) (lo hi : Int), Hid (k = j + 1) ∧ k ≤ 2 ∧ vk = .int .i64 (k : Int) ∧ vl = .int .i64 lo ∧ vh = .int .i64 hi ∧ Hid (spans l (r0, r0) 1 j = some (lo, hi)) ∧ 0 ≤ lo ∧ lo ≤ bnd j ∧ 0 ≤ hi ∧ hi ≤ bnd j ∧ Ext w wr) (fun _ _ vk _ => 2 - (intOf vk).toNat)
        case atStart => exact ⟨0, 1, r0, r0, rfl, by omega, rfl, rfl, rfl, rfl, hl0, hl1, hl0, hl1, (Ext.refl _).drewN _⟩
        case round =>
          obtain ⟨j, k, lo, hi, Hk, hj, rfl, rfl, rfl, HS, b1, b2, b3, b4, x1⟩ := hrel
          have HB := Lib.hid (fun (y : Int) (_ : j ≤ 2) => bnd_step (j := j) (y := y) ‹_› b1 b2)
          have HB2 := Lib.hid (fun (y : Int) (_ : j ≤ 2) => bnd_step (j := j) (y := y) ‹_› b3 b4)
          have b5 := bnd_le j
          have hk1 : 1 ≤ k := by have := Hk.out; omega
          have hjk : j < k := by have := Hk.out; omega
          have hjk2 : k < j + 2 := by have := Hk.out; omega
          clear hcell
          by_cases hlt : k < 2
          · by_cases hln : k < n
            · exact absurd hln (by omega)
            · have E9 : Hid (spans l (r0, r0) 1 (j + 1) = some (lo * 64, hi * 64 + 63)) := by
                show _ = _
                rw [spans_succ, HS.out, List.getElem?_eq_none (by rw [Hl.out]; omega)]; rfl
              have q1 := HB.out 128 (by omega) (by omega) (by omega); have q2 := HB2.out 191 (by omega) (by omega) (by omega)
              go_wp2_with fail
              go_roundw
              case rel => exact ⟨j + 1, k + 1, lo * 64, hi * 64 + 63, (by show _ = _; omega), by omega, by go_num, by go_num, by go_num, E9.out, by omega, by omega, by omega, by omega, x1⟩
              case measure => first | (simp [intOf]; done) | (simp [intOf]; omega)
          · obtain rfl : j = 2 - 1 := by omega
            obtain rfl : k = 2 := by omega
            have E9 := Lib.hid ((E.out.trans (congrArg (spanOk 2) HS.out)).trans (spanOk_lit 2 lo hi 128 rfl))
            clear HS HB HB2 b5
            go_wp2_with fail
            all_goals
              go_ret
              refine ⟨ret_b ?_, x1.alloc _⟩
              rw [E9.out]
              rw [Bool.eq_iff_iff]
              simp only [Bool.and_eq_true, Bool.not_eq_true', Bool.and_eq_false_iff, decide_eq_true_eq, decide_eq_false_iff_not, Bool.false_eq_true, false_iff]
              first | omega | (refine iff_of_true trivial ?_; omega)
      · obtain ⟨i1, i2, i3⟩ := Hi.out
        have e0 := L0.out _ rfl
        simp at i1 i2 i3 e0
        go_enter Tryd.func119, Tryd.ntmps119
        go_wp2_with (go_at_call 97; refine (impl_in _ _ _ _).mono ?_; rintro e w' ⟨rfl, rfl⟩)
        go_quiet (fail)
        go_wp2_with (go_at_call 97; refine (impl_in _ _ _ _).mono ?_; rintro e w' ⟨rfl, rfl⟩)
        try rw [e0]
        clear e0 i0 i1 i2 i3
        go_loopw [5, 6, 7] (fun vl vh vk wr => ∃ (j k : Nat) (lo hi : Int), Hid (k = j + 1) ∧ k ≤ 3 ∧ vk = .int .i64 (k : Int) ∧ vl = .int .i64 lo ∧ vh = .int .i64 hi ∧ Hid (spans l (r0, r0) 1 j = some (lo, hi)) ∧ 0 ≤ lo ∧ lo ≤ bnd j ∧ 0 ≤ hi ∧ hi ≤ bnd j ∧ Ext w wr) (fun _ _ vk _ => 3 - (intOf vk).toNat)
        case atStart => exact ⟨0, 1, r0, r0, rfl, by omega, rfl, rfl, rfl, rfl, hl0, hl1, hl0, hl1, (Ext.refl _).drewN _⟩
        case round =>
          obtain ⟨j, k, lo, hi, Hk, hj, rfl, rfl, rfl, HS, b1, b2, b3, b4, x1⟩ := hrel
          have HB := Lib.hid (fun (y : Int) (_ : j ≤ 2) => bnd_step (j := j) (y := y) ‹_› b1 b2)
          have HB2 := Lib.hid (fun (y : Int) (_ : j ≤ 2) => bnd_step (j := j) (y := y) ‹_› b3 b4)
          have b5 := bnd_le j
          have hk1 : 1 ≤ k := by have := Hk.out; omega
          have hjk : j < k := by have := Hk.out; omega
          have hjk2 : k < j + 2 := by have := Hk.out; omega
          clear hcell
          by_cases hlt : k < 3
          · by_cases hln : k < n
            · obtain ⟨b', o', e', hc'⟩ := (HR.out.ext x1).at1 (k := k) hln
              injection e' with e'; injection e' with e1 e2; subst e1; subst e2
              have hnk : Hid (l[1 + j]? = some (l.getD k 0)) := by
                show _ = _
                rw [show 1 + j = k by omega, List.getElem?_eq_getElem (by rw [Hl.out]; exact hln)]
                simp [List.getD, List.getElem?_eq_getElem (show k < l.length by rw [Hl.out]; exact hln)]
              obtain ⟨y, hy⟩ : ∃ y, y = l.getD k 0 := ⟨_, rfl⟩
              rw [← hy] at hnk hc'
              have hy8 := y.toNat_lt
              have g1 : (k : Int) < (n : Int) := by omega
              have g0 : (0 : Int) ≤ (k : Int) := by omega
              clear hy
              cases hiy : inB (y.toNat : Int) 128 191
              · have E9 : Hid (runeBegin l = false) := by
                  show _ = _
                  rw [E.out, spans_stuck (i := j + 1) (by rw [spans_succ, HS.out, hnk.out]; simp only [span1]; rw [if_neg (by rw [inB_not] at hiy; omega)]) _ (by omega)]
                  rfl
                go_wp2_with (go_at_call 97; refine (impl_in _ _ _ _).mono ?_; rintro e w' ⟨rfl, rfl⟩)
                go_ret
                exact ⟨ret_b E9.out.symm, x1⟩
              · have hin := inB_iff.1 hiy
                have E9 : Hid (spans l (r0, r0) 1 (j + 1) = some (lo * 64 + y.toNat - 128, hi * 64 + y.toNat - 128)) := by
                  show _ = _
                  rw [spans_succ, HS.out, hnk.out]; simp only [span1]; rw [if_pos (by omega)]
                have q1 := HB.out y.toNat (by omega) (by omega) (by omega); have q2 := HB2.out y.toNat (by omega) (by omega) (by omega)
                go_wp2_with (go_at_call 97; refine (impl_in _ _ _ _).mono ?_; rintro e w' ⟨rfl, rfl⟩)
                go_quiet (fail)
                go_wp2_with fail
                go_roundw
                case rel => exact ⟨j + 1, k + 1, lo * 64 + y.toNat - 128, hi * 64 + y.toNat - 128, (by show _ = _; omega), by omega, by go_num, by go_num, by go_num, E9.out, by omega, by omega, by omega, by omega, x1.drewN _⟩
                case measure => first | (simp [intOf]; done) | (simp [intOf]; omega)
            · have E9 : Hid (spans l (r0, r0) 1 (j + 1) = some (lo * 64, hi * 64 + 63)) := by
                show _ = _
                rw [spans_succ, HS.out, List.getElem?_eq_none (by rw [Hl.out]; omega)]; rfl
              have q1 := HB.out 128 (by omega) (by omega) (by omega); have q2 := HB2.out 191 (by omega) (by omega) (by omega)
              go_wp2_with fail
              go_roundw
              case rel => exact ⟨j + 1, k + 1, lo * 64, hi * 64 + 63, (by show _ = _; omega), by omega, by go_num, by go_num, by go_num, E9.out, by omega, by omega, by omega, by omega, x1⟩
              case measure => first | (simp [intOf]; done) | (simp [intOf]; omega)
          · obtain rfl : j = 3 - 1 := by omega
            obtain rfl : k = 3 := by omega
            have E9 := Lib.hid ((E.out.trans (congrArg (spanOk 3) HS.out)).trans (spanOk_lit 3 lo hi 2048 rfl))
            clear HS HB HB2 b5
            go_wp2_with fail
            all_goals
              go_ret
              refine ⟨ret_b ?_, x1.alloc _⟩
              rw [E9.out]
              rw [Bool.eq_iff_iff]
              simp only [Bool.and_eq_true, Bool.not_eq_true', Bool.and_eq_false_iff, decide_eq_true_eq, decide_eq_false_iff_not, Bool.false_eq_true, false_iff]
              first | omega | (refine iff_of_true trivial ?_; omega)
      · obtain ⟨i1, i2, i3⟩ := Hi.out
        have e0 := L0.out _ rfl
        simp at i1 i2 i3 e0
        go_enter Tryd.func119, Tryd.ntmps119
        go_wp2_with (go_at_call 97; refine (impl_in _ _ _ _).mono ?_; rintro e w' ⟨rfl, rfl⟩)
        go_quiet (fail)
        go_wp2_with (go_at_call 97; refine (impl_in _ _ _ _).mono ?_; rintro e w' ⟨rfl, rfl⟩)
        try rw [e0]
        clear e0 i0 i1 i2 i3
        go_loopw [5, 6, 7] (fun vl vh vk wr => ∃ (j k : Nat) (lo hi : Int), Hid (k = j + 1) ∧ k ≤ 4 ∧ vk = .int .i64 (k : Int) ∧ vl = .int .i64 lo ∧ vh = .int .i64 hi ∧ Hid (spans l (r0, r0) 1 j = some (lo, hi)) ∧ 0 ≤ lo ∧ lo ≤ bnd j ∧ 0 ≤ hi ∧ hi ≤ bnd j ∧ Ext w wr) (fun _ _ vk _ => 4 - (intOf vk).toNat)
        case atStart => exact ⟨0, 1, r0, r0, rfl, by omega, rfl, rfl, rfl, rfl, hl0, hl1, hl0, hl1, (Ext.refl _).drewN _⟩
        case round =>
          obtain ⟨j, k, lo, hi, Hk, hj, rfl, rfl, rfl, HS, b1, b2, b3, b4, x1⟩ := hrel
          have HB := Lib.hid (fun (y : Int) (_ : j ≤ 2) => bnd_step (j := j) (y := y) ‹_› b1 b2)
          have HB2 := Lib.hid (fun (y : Int) (_ : j ≤ 2) => bnd_step (j := j) (y := y) ‹_› b3 b4)
          have b5 := bnd_le j
          have hk1 : 1 ≤ k := by have := Hk.out; omega
          have hjk : j < k := by have := Hk.out; omega
          have hjk2 : k < j + 2 := by have := Hk.out; omega
          clear hcell
          by_cases hlt : k < 4
          · by_cases hln : k < n
            · obtain ⟨b', o', e', hc'⟩ := (HR.out.ext x1).at1 (k := k) hln
              injection e' with e'; injection e' with e1 e2; subst e1; subst e2
              have hnk : Hid (l[1 + j]? = some (l.getD k 0)) := by
                show _ = _
                rw [show 1 + j = k by omega, List.getElem?_eq_getElem (by rw [Hl.out]; exact hln)]
                simp [List.getD, List.getElem?_eq_getElem (show k < l.length by rw [Hl.out]; exact hln)]
              obtain ⟨y, hy⟩ : ∃ y, y = l.getD k 0 := ⟨_, rfl⟩
              rw [← hy] at hnk hc'
              have hy8 := y.toNat_lt
              have g1 : (k : Int) < (n : Int) := by omega
              have g0 : (0 : Int) ≤ (k : Int) := by omega
              clear hy
              cases hiy : inB (y.toNat : Int) 128 191
              · have E9 : Hid (runeBegin l = false) := by
                  show _ = _
                  rw [E.out, spans_stuck (i := j + 1) (by rw [spans_succ, HS.out, hnk.out]; simp only [span1]; rw [if_neg (by rw [inB_not] at hiy; omega)]) _ (by omega)]
                  rfl
                go_wp2_with (go_at_call 97; refine (impl_in _ _ _ _).mono ?_; rintro e w' ⟨rfl, rfl⟩)
                go_ret
                exact ⟨ret_b E9.out.symm, x1⟩
              · have hin := inB_iff.1 hiy
                have E9 : Hid (spans l (r0, r0) 1 (j + 1) = some (lo * 64 + y.toNat - 128, hi * 64 + y.toNat - 128)) := by
                  show _ = _
                  rw [spans_succ, HS.out, hnk.out]; simp only [span1]; rw [if_pos (by omega)]
                have q1 := HB.out y.toNat (by omega) (by omega) (by omega); have q2 := HB2.out y.toNat (by omega) (by omega) (by omega)
                go_wp2_with (go_at_call 97; refine (impl_in _ _ _ _).mono ?_; rintro e w' ⟨rfl, rfl⟩)
                go_quiet (fail)
                go_wp2_with fail
                go_roundw
                case rel => exact ⟨j + 1, k + 1, lo * 64 + y.toNat - 128, hi * 64 + y.toNat - 128, (by show _ = _; omega), by omega, by go_num, by go_num, by go_num, E9.out, by omega, by omega, by omega, by omega, x1.drewN _⟩
                case measure => first | (simp [intOf]; done) | (simp [intOf]; omega)
            · have E9 : Hid (spans l (r0, r0) 1 (j + 1) = some (lo * 64, hi * 64 + 63)) := by
                show _ = _
                rw [spans_succ, HS.out, List.getElem?_eq_none (by rw [Hl.out]; omega)]; rfl
              have q1 := HB.out 128 (by omega) (by omega) (by omega); have q2 := HB2.out 191 (by omega) (by omega) (by omega)
              go_wp2_with fail
              go_roundw
              case rel => exact ⟨j + 1, k + 1, lo * 64, hi * 64 + 63, (by show _ = _; omega), by omega, by go_num, by go_num, by go_num, E9.out, by omega, by omega, by omega, by omega, x1⟩
              case measure => first | (simp [intOf]; done) | (simp [intOf]; omega)
          · obtain rfl : j = 4 - 1 := by omega
            obtain rfl : k = 4 := by omega
            have E9 := Lib.hid ((E.out.trans (congrArg (spanOk 4) HS.out)).trans (spanOk_lit 4 lo hi 65536 rfl))
            clear HS HB HB2 b5
            go_wp2_with fail
            all_goals
              go_ret
              refine ⟨ret_b ?_, x1.alloc _⟩
              rw [E9.out]
              rw [Bool.eq_iff_iff]
              simp only [Bool.and_eq_true, Bool.not_eq_true', Bool.and_eq_false_iff, decide_eq_true_eq, decide_eq_false_iff_not, Bool.false_eq_true, false_iff]
              first | omega | (refine iff_of_true trivial ?_; omega)
  rcases hcl with ⟨h1, h2, h3⟩ | ⟨h1, h2, h3⟩ | ⟨h1, h2, h3⟩
  · exact key 2 (by omega) (by omega) (by simp [inB]; omega) (by simp [inB]; omega) (by simp [inB]; omega) h3 (by unfold lead; simp; omega) (by unfold lead; simp; omega)
  · exact key 3 (by omega) (by omega) (by simp [inB]; omega) (by simp [inB]; omega) (by simp [inB]; omega) h3 (by unfold lead; simp; omega) (by unfold lead; simp; omega)
  · exact key 4 (by omega) (by omega) (by simp [inB]; omega) (by simp [inB]; omega) (by simp [inB]; omega) h3 (by unfold lead; simp; omega) (by unfold lead; simp; omega)
end Go.Proofs.YtohjjhoobikioaaDoor
