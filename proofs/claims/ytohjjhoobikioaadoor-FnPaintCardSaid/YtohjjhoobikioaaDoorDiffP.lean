/-
  Of several texts: Tail, DiffP, DiffQ.
-/
import Derived.Test.YtohjjhoobikioaaDoorBase
import Derived.Test.YtohjjhoobikioaaDoorGrid
import Derived.Test.YtohjjhoobikioaaDoorEmit
/-! onlyBlanks, l28Tail: whether only blanks follow in the row. -/
namespace Go.Proofs.YtohjjhoobikioaaDoor
open Go.RowKit

def blanks (l : List Int) : Bool := l.all fun r => r == 32
theorem blanks_no {l : List Int} {k : Nat} (hk : k < l.length) (h : l[k]?.getD 0 ≠ 32) : blanks l = false := by
  unfold blanks
  rw [List.all_eq_false]
  refine ⟨l[k], List.getElem_mem hk, ?_⟩
  rw [List.getElem?_eq_getElem hk] at h; simpa using h
theorem blanks_yes {l : List Int} (h : ∀ k, k < l.length → l[k]?.getD 0 = 32) : blanks l = true := by
  unfold blanks
  rw [List.all_eq_true]
  intro x hx
  obtain ⟨k, hk, rfl⟩ := List.getElem_of_mem hx
  have := h k hk
  rw [List.getElem?_eq_getElem hk] at this
  simpa using this

set_option maxHeartbeats 1000000 in
theorem impl_onlyBlanks (A : Option Addr) (n c : Nat) (l : List Int) (W : World) (h : RI W A n c l) :
    Calls Tryd.prog 103 #[.slice A n c] W fun e w' => e = .returned (.bool (blanks l)) ∧ W = w' := by
  have hn := h.nmax
  go_enter Tryd.func103, Tryd.ntmps103
  go_wp2_with fail
  go_loop [7] (fun vi => ∃ k : Nat, k ≤ n ∧ vi = .int .i64 k ∧ Hid (∀ i, i < k → l[i]?.getD 0 = 32)) (fun vi => n - (intOf vi).toNat)
  case atStart => exact ⟨0, by omega, rfl, (by show ∀ i, _; intro i hi; omega)⟩
  case round =>
    obtain ⟨k, hk, rfl, hp⟩ := hrel
    by_cases hlt : k < n
    · obtain ⟨b, o, rfl, hcell⟩ := h.at1 hlt
      by_cases hq : l[k]?.getD 0 = 32
      · have hqb : (l[k]?.getD 0 != 32) = false := by simp [hq]
        have HQ := Lib.hid hq; clear hq
        go_wp2_with fail
        go_round
        case rel =>
          refine ⟨k + 1, by omega, by go_num, ?_⟩
          show ∀ i, _
          intro i hi
          rcases Nat.lt_or_ge i k with h1 | h1
          · exact hp.out i h1
          · obtain rfl : i = k := by omega
            exact HQ.out
        case measure => simp [intOf]; omega
      · have hqb : (l[k]?.getD 0 != 32) = true := by simp [hq]
        have E := Lib.hid (blanks_no (by rw [h.len]; exact hlt) hq)
        clear hq
        go_wp2_with fail
        go_ret
        exact ⟨by rw [E.out]; rfl, rfl⟩
    · have E := Lib.hid (blanks_yes (l := l) (fun i hi => hp.out i (by rw [h.len] at hi; omega)))
      go_wp2_with fail
      go_ret
      exact ⟨by rw [E.out]; rfl, rfl⟩
end Go.Proofs.YtohjjhoobikioaaDoor
/-! The difference of two grids, plainly: a row after the other. -/
namespace Go.Proofs.YtohjjhoobikioaaDoor
open Go.RowKit

/-- what holds between two cells of a row that starts at s: the grid g so far and the grid a to come to -/
structure DInv (a g : Gr) (s i : Nat) : Prop where
  ok : gridOk g = true
  w : g.W = a.W
  h : g.H = a.H
  same : ∀ j, s ≤ j → j < i → gt g.C j = gt a.C j

theorem DInv.next {a g : Gr} {s i : Nat} (h : DInv a g s i) (e : gt g.C i = gt a.C i) : DInv a g s (i + 1) :=
  ⟨h.ok, h.w, h.h, fun j h1 h2 => by
    by_cases hj : j < i
    · exact h.same j h1 hj
    · obtain rfl : j = i := by omega
      exact e⟩
theorem DInv.start {a g : Gr} (s : Nat) (hg : gridOk g = true) (hw : g.W = a.W) (hh : g.H = a.H) : DInv a g s s := ⟨hg, hw, hh, fun j h1 h2 => absurd h2 (by omega)⟩
theorem DInv.len {a g : Gr} {s i : Nat} (ha : gridOk a = true) (h : DInv a g s i) : g.C.length = a.C.length := by
  obtain ⟨-, -, -, -, -, d⟩ := gridOk_d ha
  obtain ⟨-, -, -, -, -, d'⟩ := gridOk_d h.ok
  rw [h.w, h.h] at d'
  omega
/-- a cell that differs is no second half, neither here nor there -/
theorem DInv.whole {a g : Gr} {s i : Nat} (ha : gridOk a = true) (h : DInv a g s i) (hs : s ≤ i) (hsw : (s : Int) % a.W = 0) (hi : i < a.C.length) (hd : gt g.C i ≠ gt a.C i) : gt a.C i ≠ -1 ∧ gt g.C i ≠ -1 := by
  have hl := h.len ha
  have key : ∀ b c : Gr, gridOk b = true → gridOk c = true → i < b.C.length → c.C.length = b.C.length → b.W = a.W → (∀ j, s ≤ j → j < i → gt c.C j = gt b.C j) → gt b.C i = -1 → gt c.C i = -1 := by
    intro b c hb hc hib hlc hbw hsame e
    obtain ⟨p, q⟩ := vc_half (gridOk_vc hb) hib e
    have hi0 := prev_in p
    have hne : i ≠ s := by rintro rfl; rw [hbw] at p; omega
    have hw := hsame (i - 1) (by omega) (by omega)
    rw [← hw] at q
    have := (vc_wide (gridOk_vc hc) (i := i - 1) (by omega) q).2
    rwa [show i - 1 + 1 = i by omega] at this
  refine ⟨fun e => hd ?_, fun e => hd ?_⟩
  · rw [e]; exact key a g ha h.ok hi hl rfl h.same e
  · rw [e]; exact (key g a h.ok ha (by omega) hl.symm h.w (fun j h1 h2 => (h.same j h1 h2).symm) e).symm

theorem gt_put_before {C : List Int} {i j : Nat} {r : Int} (hv : ∀ k, k < C.length → width (gt C k) = 2 → gt C (k + 1) = -1) (hi : i < C.length) (hij : j < i) (hn : gt C i ≠ -1) : gt (putC C i r) j = gt C j := by
  have hj : j < C.length := by omega
  have hh : hit C i ((i : Int) + width r) j = false := by
    unfold hit other
    have := width_bounds r
    by_cases h2 : width (gt C j) = 2
    · rw [if_pos h2]
      have h3 := hv j hj h2
      have : j + 1 ≠ i := by rintro rfl; exact hn h3
      simp; omega
    · rw [if_neg h2]
      split <;> (simp; omega)
  have h0 : gt (clearC C i ((i : Int) + width r)) j = gt C j := by rw [gt_clear hj, hh]; rfl
  unfold putC
  split
  · rw [gt, List.getElem?_set_ne (by omega), List.getElem?_set_ne (by omega)]; exact h0
  · rw [gt, List.getElem?_set_ne (by omega)]; exact h0
theorem gt_put_at {C : List Int} {i : Nat} {r : Int} (hi : i < C.length) : gt (putC C i r) i = r := by
  unfold putC
  split
  · rw [gt, List.getElem?_set_ne (by omega), List.getElem?_set_self (by rw [clearC_len]; exact hi)]; rfl
  · rw [gt, List.getElem?_set_self (by rw [clearC_len]; exact hi)]; rfl
theorem gt_put_half {C : List Int} {i : Nat} {r : Int} (hi : i + 1 < C.length) (hw : width r = 2) : gt (putC C i r) (i + 1) = -1 := by
  unfold putC
  rw [if_pos hw, gt, List.getElem?_set_self (by rw [List.length_set, clearC_len]; exact hi)]; rfl

theorem DInv.cells {a g : Gr} {s i : Nat} {y : Int} (ha : gridOk a = true) (h : DInv a g s i) (hs : s ≤ i) (hy0 : 0 ≤ y) (hy1 : y < a.H) (hsy : (s : Int) = y * a.W) (hiw : (i : Int) - s < a.W) (hd : gt g.C i ≠ gt a.C i) :
    (putG (goG g ((i : Int) - s) y) (gt a.C i)).C = YtohjjhoobikioaaDoor.putC g.C i (gt a.C i) := by
  obtain ⟨d1, d2, d3, d4, d5, d6⟩ := gridOk_d ha
  have hl := h.len ha
  have hsw : (s : Int) % a.W = 0 := by rw [hsy]; exact Int.mul_emod_left _ _
  have hpos := pos_in (X := (i : Int) - s) d6 d1 (by omega) hiw hy0 hy1
  rw [← hsy, show (s : Int) + ((i : Int) - s) = i by omega] at hpos
  obtain ⟨-, hi, him⟩ := hpos
  rw [Int.toNat_natCast] at hi
  obtain ⟨n1, n2⟩ := h.whole ha hs hsw hi hd
  have hw : width (gt a.C i) = 1 ∨ (width (gt a.C i) = 2 ∧ (i : Int) - s + 1 < a.W ∧ gt a.C (i + 1) = -1) := by
    rcases vc_some (gridOk_vc ha) hi n1 with e | e
    · exact .inl e
    · obtain ⟨p, q⟩ := vc_wide (gridOk_vc ha) hi e
      exact .inr ⟨e, by rw [him] at p; exact p, q⟩
  have hX : (goG g ((i : Int) - s) y).X = (i : Int) - s := clampI_id (by omega) (by rw [h.w]; omega)
  have hY : (goG g ((i : Int) - s) y).Y = y := clampI_id hy0 (by rw [h.h]; omega)
  have hwr : wrapG (goG g ((i : Int) - s) y) (width (gt a.C i)) = goG g ((i : Int) - s) y := by
    unfold wrapG
    rw [if_neg]
    rintro (e | ⟨e1, e2⟩)
    · exact absurd e (by simp [goG])
    · rw [hX] at e2
      have : (goG g ((i : Int) - s) y).W = a.W := h.w
      rcases hw with e | ⟨_, e, _⟩ <;> omega
  unfold putG
  rw [if_neg (by omega), hwr, hX, hY]
  have e : (y * (goG g ((i : Int) - s) y).W + ((i : Int) - s)).toNat = i := by
    show (y * g.W + ((i : Int) - s)).toNat = i
    rw [h.w, ← hsy]; omega
  rw [e]
  unfold stepG
  split <;> rfl

/-- one differing cell put right -/
theorem DInv.put {a g : Gr} {s i : Nat} {y : Int} (ha : gridOk a = true) (h : DInv a g s i) (hs : s ≤ i) (hy0 : 0 ≤ y) (hy1 : y < a.H) (hsy : (s : Int) = y * a.W) (hiw : (i : Int) - s < a.W) (hd : gt g.C i ≠ gt a.C i) :
    (width (gt a.C i) = 1 ∨ (width (gt a.C i) = 2 ∧ (i : Int) - s + 1 < a.W)) ∧ DInv a (putG (goG g ((i : Int) - s) y) (gt a.C i)) s (i + (width (gt a.C i)).toNat) := by
  obtain ⟨d1, d2, d3, d4, d5, d6⟩ := gridOk_d ha
  have hl := h.len ha
  have hsw : (s : Int) % a.W = 0 := by rw [hsy]; exact Int.mul_emod_left _ _
  have hpos := pos_in (X := (i : Int) - s) d6 d1 (by omega) hiw hy0 hy1
  rw [← hsy, show (s : Int) + ((i : Int) - s) = i by omega] at hpos
  obtain ⟨-, hi, him⟩ := hpos
  rw [Int.toNat_natCast] at hi
  obtain ⟨n1, n2⟩ := h.whole ha hs hsw hi hd
  have hw : width (gt a.C i) = 1 ∨ (width (gt a.C i) = 2 ∧ (i : Int) - s + 1 < a.W ∧ gt a.C (i + 1) = -1) := by
    rcases vc_some (gridOk_vc ha) hi n1 with e | e
    · exact .inl e
    · obtain ⟨p, q⟩ := vc_wide (gridOk_vc ha) hi e
      exact .inr ⟨e, by rw [him] at p; exact p, q⟩
  refine ⟨hw.imp id (fun e => ⟨e.1, e.2.1⟩), ?_⟩
  have hX : (goG g ((i : Int) - s) y).X = (i : Int) - s := clampI_id (by omega) (by rw [h.w]; omega)
  have hY : (goG g ((i : Int) - s) y).Y = y := clampI_id hy0 (by rw [h.h]; omega)
  have hwr : wrapG (goG g ((i : Int) - s) y) (width (gt a.C i)) = goG g ((i : Int) - s) y := by
    unfold wrapG
    rw [if_neg]
    rintro (e | ⟨e1, e2⟩)
    · exact absurd e (by simp [goG])
    · rw [hX] at e2
      have : (goG g ((i : Int) - s) y).W = a.W := h.w
      rcases hw with e | ⟨_, e, _⟩ <;> omega
  have hC : (putG (goG g ((i : Int) - s) y) (gt a.C i)).C = putC g.C i (gt a.C i) := by
    unfold putG
    rw [if_neg (by omega), hwr, hX, hY]
    have e : (y * (goG g ((i : Int) - s) y).W + ((i : Int) - s)).toNat = i := by
      show (y * g.W + ((i : Int) - s)).toNat = i
      rw [h.w, ← hsy]; omega
    rw [e]
    unfold stepG
    split <;> rfl
  have hWH : (putG (goG g ((i : Int) - s) y) (gt a.C i)).W = g.W ∧ (putG (goG g ((i : Int) - s) y) (gt a.C i)).H = g.H := by
    unfold putG
    rw [if_neg (by omega), hwr]
    unfold stepG
    split <;> exact ⟨rfl, rfl⟩
  refine ⟨putG_ok (goG_ok h.ok _ _) _, hWH.1.trans h.w, hWH.2.trans h.h, fun j h1 h2 => ?_⟩
  rw [hC]
  by_cases hj : j < i
  · rw [gt_put_before (fun k hk e => (vc_wide (gridOk_vc h.ok) hk e).2) (by omega) hj n2]
    exact h.same j h1 hj
  by_cases hj2 : j = i
  · subst hj2; exact gt_put_at (by omega)
  · rcases hw with e | ⟨e, e1, e2⟩
    · omega
    · obtain rfl : j = i + 1 := by omega
      rw [e2]
      have := (vc_wide (gridOk_vc ha) hi e)
      exact gt_put_half (by have := next_in d1 d6 hi (by rw [him]; exact e1); omega) e

/-- a row's difference from cell i on (s: the row's start, e: its end) -/
def rowDiff (a : Gr) (s e : Nat) (y : Int) (i : Nat) (g : Gr) (o : List UInt8) : Gr × List UInt8 :=
  if i < e then
    if gt g.C i = gt a.C i then rowDiff a s e y (i + 1) g o
    else if blanks ((a.C.drop i).take (e - i)) = true then (clearG (goG g ((i : Int) - s) y) i e, o ++ emitStep g ((i : Int) - s) y ++ [27, 91, 75])
    else rowDiff a s e y (i + max 1 (width (gt a.C i)).toNat) (putG (goG g ((i : Int) - s) y) (gt a.C i)) (o ++ emitStep g ((i : Int) - s) y ++ runeBytes (gt a.C i))
  else (g, o)
termination_by e - i
decreasing_by all_goals omega

theorem rowDiff_end {a : Gr} {s e : Nat} {y : Int} {i : Nat} {g : Gr} {o : List UInt8} (h : ¬ i < e) : rowDiff a s e y i g o = (g, o) := by rw [rowDiff, if_neg h]
theorem rowDiff_same {a : Gr} {s e : Nat} {y : Int} {i : Nat} {g : Gr} {o : List UInt8} (h : i < e) (h2 : gt g.C i = gt a.C i) : rowDiff a s e y i g o = rowDiff a s e y (i + 1) g o := by
  rw [rowDiff, if_pos h, if_pos h2]
theorem rowDiff_tail {a : Gr} {s e : Nat} {y : Int} {i : Nat} {g : Gr} {o : List UInt8} (h : i < e) (h2 : ¬ gt g.C i = gt a.C i) (h3 : blanks ((a.C.drop i).take (e - i)) = true) :
    rowDiff a s e y i g o = (clearG (goG g ((i : Int) - s) y) i e, o ++ emitStep g ((i : Int) - s) y ++ [27, 91, 75]) := by
  rw [rowDiff, if_pos h, if_neg h2, if_pos h3]
theorem rowDiff_put {a : Gr} {s e : Nat} {y : Int} {i : Nat} {g : Gr} {o : List UInt8} (h : i < e) (h2 : ¬ gt g.C i = gt a.C i) (h3 : blanks ((a.C.drop i).take (e - i)) = false) (hw : width (gt a.C i) = 1 ∨ width (gt a.C i) = 2) :
    rowDiff a s e y i g o = rowDiff a s e y (i + (width (gt a.C i)).toNat) (putG (goG g ((i : Int) - s) y) (gt a.C i)) (o ++ emitStep g ((i : Int) - s) y ++ runeBytes (gt a.C i)) := by
  rw [rowDiff, if_pos h, if_neg h2, if_neg (by rw [h3]; exact Bool.false_ne_true), show max 1 (width (gt a.C i)).toNat = (width (gt a.C i)).toNat by omega]
end Go.Proofs.YtohjjhoobikioaaDoor
/-! The difference of two grids, plainly: all rows. -/
namespace Go.Proofs.YtohjjhoobikioaaDoor
open Go.RowKit

/-- the first k rows, and the end -/
def rowsDiff (a g : Gr) : Nat → Gr × List UInt8
  | 0 => (g, [])
  | k + 1 => rowDiff a (k * a.W.toNat) (k * a.W.toNat + a.W.toNat) k (k * a.W.toNat) (rowsDiff a g k).1 (rowsDiff a g k).2
def diffB (g a : Gr) : List UInt8 := (rowsDiff a g a.H.toNat).2 ++ emitStep (rowsDiff a g a.H.toNat).1 a.X a.Y

theorem rowDiff_ok {a : Gr} (ha : gridOk a = true) {s e : Nat} {y : Int} (hy0 : 0 ≤ y) (hy1 : y < a.H) (hsy : (s : Int) = y * a.W) (he : (e : Int) = s + a.W) : ∀ (m i : Nat) (g : Gr) (o : List UInt8), e - i ≤ m → s ≤ i → DInv a g s i →
    gridOk (rowDiff a s e y i g o).1 = true ∧ (rowDiff a s e y i g o).1.W = a.W ∧ (rowDiff a s e y i g o).1.H = a.H ∧ (rowDiff a s e y i g o).2.length ≤ o.length + 40 * (e - i) := by
  intro m
  induction m with
  | zero =>
    intro i g o hm hs h
    rw [rowDiff_end (by omega)]
    exact ⟨h.ok, h.w, h.h, by simp⟩
  | succ m ih =>
    intro i g o hm hs h
    by_cases hie : i < e
    · by_cases hd : gt g.C i = gt a.C i
      · rw [rowDiff_same hie hd]
        obtain ⟨q1, q2, q3, q4⟩ := ih (i + 1) g o (by omega) (by omega) (h.next hd)
        exact ⟨q1, q2, q3, by omega⟩
      · have hl := emitStep_len g ((i : Int) - s) y
        cases hb : blanks ((a.C.drop i).take (e - i))
        · obtain ⟨hw, h'⟩ := h.put ha hs hy0 hy1 hsy (by omega) hd
          rw [rowDiff_put hie hd hb (hw.imp id (fun x => x.1))]
          have hr := runeBytes_len (gt a.C i)
          obtain ⟨q1, q2, q3, q4⟩ := ih _ _ (o ++ emitStep g ((i : Int) - s) y ++ runeBytes (gt a.C i)) (by omega) (by omega) h'
          refine ⟨q1, q2, q3, ?_⟩
          simp only [List.length_append] at q4
          omega
        · rw [rowDiff_tail hie hd hb]
          exact ⟨clearG_ok (goG_ok h.ok _ _) _ _, h.w, h.h, by simp only [List.length_append, List.length_cons, List.length_nil]; omega⟩
    · rw [rowDiff_end hie]
      exact ⟨h.ok, h.w, h.h, by simp⟩

theorem rowsDiff_ok {a g : Gr} (ha : gridOk a = true) (hg : gridOk g = true) (hw : g.W = a.W) (hh : g.H = a.H) : ∀ k : Nat, (k : Int) ≤ a.H →
    gridOk (rowsDiff a g k).1 = true ∧ (rowsDiff a g k).1.W = a.W ∧ (rowsDiff a g k).1.H = a.H ∧ (rowsDiff a g k).2.length ≤ 8000 * k := by
  obtain ⟨d1, d2, d3, d4, d5, d6⟩ := gridOk_d ha
  intro k
  induction k with
  | zero => intro _; exact ⟨hg, hw, hh, by simp [rowsDiff]⟩
  | succ k ih =>
    intro hk
    obtain ⟨q1, q2, q3, q4⟩ := ih (by omega)
    have hs : ((k * a.W.toNat : Nat) : Int) = (k : Int) * a.W := by rw [Int.natCast_mul, Int.toNat_of_nonneg (by omega)]
    obtain ⟨r1, r2, r3, r4⟩ := rowDiff_ok ha (s := k * a.W.toNat) (e := k * a.W.toNat + a.W.toNat) (y := k) (by omega) (by omega) hs (by rw [Int.natCast_add, Int.toNat_of_nonneg (by omega)]) _ _ (rowsDiff a g k).1 (rowsDiff a g k).2 (Nat.le_refl _) (Nat.le_refl _) (DInv.start _ q1 q2 q3)
    refine ⟨r1, r2, r3, Nat.le_trans r4 ?_⟩
    rw [Nat.add_sub_cancel_left]
    omega
end Go.Proofs.YtohjjhoobikioaaDoor
