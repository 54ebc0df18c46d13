/-
  Regions in any order, fourth part: all orders.
-/
import Derived.Test.YtacnbajcignacaaGreatDrw3
import Derived.Orders
namespace Go.Proofs.YtacnbajcignacaaGreat
open Go.RowKit
set_option linter.unusedSimpArgs false
set_option linter.unusedVariables false

/-! what must come before -/
def edgesOf (o : Oper) : List Nat := (o.after.toList.filter (Region.binds .any)).map (·.on)
inductive Reach (l : List Oper) : Nat → Nat → Prop
  | one {i e : Nat} {o : Oper} : l[i]? = some o → e ∈ edgesOf o → Reach l i e
  | tail {i e j : Nat} {o : Oper} : l[i]? = some o → e ∈ edgesOf o → Reach l e j → Reach l i j
def closeM (C : List Nat) : List Nat → Nat
  | [] => 0
  | e :: r => ((1 <<< e) ||| C[e]?.getD 0) ||| closeM C r
def masks : List Oper → List Nat → List Nat
  | [], C => C
  | o :: r, C => masks r (C ++ [closeM C (edgesOf o)])
theorem closeM_spec {C : List Nat} {j : Nat} : ∀ {l : List Nat}, (closeM C l).testBit j = true → ∃ e ∈ l, j = e ∨ (C[e]?.getD 0).testBit j = true
  | [], h => by simp [closeM] at h
  | e :: r, h => by
    unfold closeM at h
    rw [Nat.testBit_or, Nat.testBit_or, Bool.or_eq_true, Bool.or_eq_true] at h
    rcases h with (h | h) | h
    · refine ⟨e, by simp, .inl ?_⟩
      rw [Nat.one_shiftLeft, Nat.testBit_two_pow] at h
      simpa using (of_decide_eq_true h).symm
    · exact ⟨e, by simp, .inr h⟩
    · obtain ⟨e', h1, h2⟩ := closeM_spec h
      exact ⟨e', by simp [h1], h2⟩
theorem masks_spec {l : List Oper} : ∀ {r : List Oper} {C : List Nat}, l.drop C.length = r → C.length ≤ l.length → (∀ i j, (C[i]?.getD 0).testBit j = true → Reach l i j) → ∀ i j, ((masks r C)[i]?.getD 0).testBit j = true → Reach l i j
  | [], C, _, _, hC => hC
  | o :: r, C, hr, hl, hC => by
    have hlt : C.length < l.length := by
      rcases Nat.lt_or_ge C.length l.length with h | h
      · exact h
      · rw [List.drop_eq_nil_of_le h] at hr; cases hr
    have ho : l[C.length]? = some o := by
      have : (l.drop C.length)[0]? = some o := by rw [hr]; rfl
      simpa using this
    unfold masks
    refine masks_spec (l := l) (r := r) (by rw [List.length_append, List.length_singleton, ← List.drop_drop, hr]; rfl) (by simp; omega) fun i j h => ?_
    rcases Nat.lt_trichotomy i C.length with hi | hi | hi
    · rw [List.getElem?_append_left hi] at h; exact hC i j h
    · subst hi
      rw [List.getElem?_append_right (Nat.le_refl _)] at h
      simp only [Nat.sub_self, List.getElem?_cons_zero, Option.getD_some] at h
      obtain ⟨e, h1, h2 | h2⟩ := closeM_spec h
      · subst h2; exact .one ho h1
      · exact .tail ho h1 (hC e j h2)
    · rw [List.getElem?_eq_none (by simp; omega)] at h
      simp at h
def pairsOk (ops : Array Oper) (bar : List Nat) (M : Nat) (i : Nat) (o : Oper) : List Oper → Nat → Bool
  | [], _ => true
  | p :: r, j => (j == i) || ((M.testBit j || (!(bar.contains i) && !(bar.contains j) && o.apart ops p)) && pairsOk ops bar M i o r (j + 1))
def opsOk (ops : Array Oper) (bar : List Nat) (M : List Nat) : List Oper → Nat → Bool
  | [], _ => true
  | o :: r, i => (edgesOf o).all (fun e => decide (e < i)) && pairsOk ops bar (M[i]?.getD 0) i o ops.toList 0 && opsOk ops bar M r (i + 1)
/-- all orders do the same -/
def drawOk (ops : Array Oper) (bar : List Nat) : Bool := opsOk ops bar (masks ops.toList []) ops.toList 0
theorem pairs_spec {ops : Array Oper} {bar : List Nat} {M i : Nat} {o : Oper} : ∀ {l : List Oper} {k : Nat}, pairsOk ops bar M i o l k = true → ∀ j p, l[j]? = some p → k + j < i → k ≤ i → M.testBit (k + j) = true ∨ (bar.contains i = false ∧ bar.contains (k + j) = false ∧ o.apart ops p = true)
  | [], k, _, j, p, e, _, _ => by simp at e
  | q :: l, k, h, j, p, e, hj, hk => by
    unfold pairsOk at h
    have hki : (k == i) = false := by simp; omega
    rw [hki, Bool.false_or, Bool.and_eq_true] at h
    cases j with
    | zero =>
      simp at e; subst e
      have := h.1
      rw [Bool.or_eq_true, Bool.and_eq_true, Bool.and_eq_true, Bool.not_eq_true', Bool.not_eq_true'] at this
      rcases this with h | ⟨⟨h1, h2⟩, h3⟩
      · exact .inl h
      · exact .inr ⟨h1, h2, h3⟩
    | succ j =>
      have := pairs_spec h.2 j p (by simpa using e) (by omega) (by omega)
      rw [show k + (j + 1) = k + 1 + j by omega]; exact this
theorem opsOk_spec {ops : Array Oper} {bar M : List Nat} : ∀ {l : List Oper} {k : Nat}, opsOk ops bar M l k = true → ∀ i o, l[i]? = some o → (∀ e ∈ edgesOf o, e < k + i) ∧ pairsOk ops bar (M[k + i]?.getD 0) (k + i) o ops.toList 0 = true
  | [], _, _, i, o, e => by simp at e
  | q :: l, k, h, i, o, e => by
    unfold opsOk at h
    rw [Bool.and_eq_true, Bool.and_eq_true] at h
    cases i with
    | zero =>
      simp at e; subst e
      exact ⟨fun e he => by simpa using List.all_eq_true.1 h.1.1 e he, h.1.2⟩
    | succ i =>
      have := opsOk_spec h.2 i o (by simpa using e)
      rw [show k + (i + 1) = k + 1 + i by omega]; exact this
/-- what the check says -/
structure DrawOk (ops : Array Oper) (bar : List Nat) : Prop where
  back : ∀ i o, ops[i]? = some o → ∀ e ∈ edgesOf o, e < i
  pair : ∀ i j o p, ops[i]? = some o → ops[j]? = some p → j < i → Reach ops.toList i j ∨ (bar.contains i = false ∧ bar.contains j = false ∧ o.apart ops p = true)
theorem drawOk_spec {ops : Array Oper} {bar : List Nat} (h : drawOk ops bar = true) : DrawOk ops bar := by
  unfold drawOk at h
  have hM : ∀ i j, ((masks ops.toList [])[i]?.getD 0).testBit j = true → Reach ops.toList i j := masks_spec (l := ops.toList) (C := []) (by simp) (by simp) (by simp)
  refine ⟨fun i o hi e he => ?_, fun i j o p hi hj hlt => ?_⟩
  · have := (opsOk_spec h i o (by simpa using hi)).1 e he; omega
  · have h2 := (opsOk_spec h i o (by simpa using hi)).2
    rw [Nat.zero_add] at h2
    rcases pairs_spec h2 j p (by simpa using hj) (by omega) (by omega) with h3 | h3
    · rw [Nat.zero_add] at h3; exact .inl (hM i j h3)
    · rw [Nat.zero_add] at h3; exact .inr h3

section
variable {P : Program} {G : List (FuncId × Bool × Mean)} {ops : Array Oper} {bar : List Nat} {c : Ctx}
theorem app_tup (s : S) (d : Option Nat) : s.put d (.tup []) = s.app d ⟨.tup [], [], []⟩ := by cases d <;> rfl
theorem Fresh.none (v : V) (s : S) : Fresh ⟨v, [], []⟩ s := ⟨List.nodup_nil, (fun p h => by cases h), List.nodup_nil, (fun p h => by cases h)⟩
/-- the next stretch without a bar -/
theorem collect : ∀ {l : List Oper} {k : Nat} {s q : S}, ops.toList.drop k = l → evDrw P G ops bar l k (.on s) = some (.on q) →
    ∃ (b : Nat) (pend : List Pd) (t : S), k ≤ b ∧ (b < ops.size → bar.contains b = true) ∧ Seg P G ops s pend t ∧ evDrw P G ops bar (ops.toList.drop b) b (.on t) = some (.on q) ∧ pend.map (·.i) = List.range' k (b - k) ∧ (b ≤ ops.size ∨ b = k) ∧ ∀ x ∈ pend, ops[x.i]? = some x.o
  | [], k, s, q, hl, h => by
    have : ops.size ≤ k := by
      rcases Nat.lt_or_ge k ops.size with h | h
      · exfalso
        have : (ops.toList.drop k).length = 0 := by rw [hl]; rfl
        simp at this; omega
      · exact h
    exact ⟨k, [], s, Nat.le_refl _, (fun h => by omega), .nil s, by rw [hl]; exact h, by simp, .inr rfl, fun x hx => by cases hx⟩
  | o :: l, k, s, q, hl, h => by
    have hlt : k < ops.size := by
      rcases Nat.lt_or_ge k ops.size with h | h
      · exact h
      · rw [List.drop_eq_nil_of_le (by simpa using h)] at hl; cases hl
    have ho : ops[k]? = some o := by
      have : (ops.toList.drop k)[0]? = some o := by rw [hl]; rfl
      simpa using this
    have hl' : ops.toList.drop (k + 1) = l := by rw [← List.drop_drop, hl]; rfl
    by_cases hb : bar.contains k = true
    · exact ⟨k, [], s, Nat.le_refl _, (fun _ => hb), .nil s, by rw [hl]; exact h, by simp, .inr rfl, fun x hx => by cases hx⟩
    · have hb : bar.contains k = false := by simpa using hb
      rw [evDrw_cons] at h
      obtain ⟨g, h1, h⟩ := bnd_eq_some h
      have key : ∀ (e : Eff), PdOk P G ops s ⟨k, o, g, e⟩ → evDrw P G ops bar l (k + 1) (.on (s.app o.dst e)) = some (.on q) → ∃ (b : Nat) (pend : List Pd) (t : S), k ≤ b ∧ (b < ops.size → bar.contains b = true) ∧ Seg P G ops s pend t ∧ evDrw P G ops bar (ops.toList.drop b) b (.on t) = some (.on q) ∧ pend.map (·.i) = List.range' k (b - k) ∧ (b ≤ ops.size ∨ b = k) ∧ ∀ x ∈ pend, ops[x.i]? = some x.o := fun e he h => by
        obtain ⟨b, pend, t, k1, k2, k3, k4, k5, k6, k7⟩ := collect hl' h
        refine ⟨b, ⟨k, o, g, e⟩ :: pend, t, by omega, k2, .cons he k3, k4, ?_, .inl (by omega), fun x hx => ?_⟩
        · rw [List.map_cons, k5, show b - k = (b - (k + 1)) + 1 by omega, List.range'_succ]
        · rcases List.mem_cons.1 hx with hx | hx
          · subst hx; exact ho
          · exact k7 x hx
      cases g with
      | true =>
        rw [if_pos rfl] at h
        obtain ⟨q1, h2, h⟩ := bnd_eq_some h
        unfold drwOp at h2
        rw [hb, if_neg (by simp)] at h2
        unfold effAt at h2
        cases hd : o.dst with
        | none => rw [hd] at h2; cases h2
        | some d =>
          rw [hd, bnd_some] at h2
          cases he : effOp P G s d o.op with
          | none => rw [he] at h2; cases h2
          | some e =>
            rw [he, bnd_some] at h2
            by_cases hf : (freshAll s e.tree && freshBox s e.box) = true
            · rw [grd_pos _ hf, onQ_some] at h2; injection h2 with h2; subst h2
              exact key e ⟨h1, fun _ => ⟨d, hd, he⟩, (fun h => by cases h), fresh_iff.1 hf⟩ (by rw [hd]; exact h)
            · unfold grd at h2; rw [if_neg hf] at h2; cases h2
      | false =>
        rw [if_neg (by simp)] at h
        obtain ⟨q1, h2, h⟩ := bnd_eq_some h
        rw [onQ_some] at h2; injection h2 with h2; subst h2
        exact key ⟨.tup [], [], []⟩ ⟨h1, (fun h => by cases h), fun _ => rfl, .none _ _⟩ (by rw [← app_tup]; exact h)
/-- one of the operations, on the machine -/
theorem pd_step (hC : CallOk P G) {s : S} {x : Pd} (h : PdOk P G ops s x) (hi : ops[x.i]? = some x.o) (hd : dstOk c.n x.o.dst = true) {a : Act} {w : World} (g : Good c s a w) {Q1 : Exit → Act → World → Prop} {K : Act → World → Prop} (k : ∀ a w, Good c (s.app x.o.dst x.e) a w → K a w) : wpOp P ops Q1 x.i K a w := by
  unfold wpOp
  rw [hi]
  simp only
  obtain ⟨y, A⟩ := g
  rw [wants_sound A h.wants]
  cases hg : x.g with
  | true =>
    rw [if_pos rfl]
    obtain ⟨d, h1, h2⟩ := h.yes hg
    have hf := fresh_iff.2 h.new
    rw [Bool.and_eq_true] at hf
    refine .inl (step_op hC hd (s' := s.app x.o.dst x.e) ?_ a w ⟨y, A⟩ _ _ k)
    rw [h1]; exact effOp_ev h2 hf.1 hf.2
  | false =>
    rw [if_neg (by simp)]
    refine k _ _ ?_
    rw [h.no hg, ← app_tup]
    exact ⟨y, A.value (v := .tup []) ⟨[], rfl, rfl⟩ hd⟩
theorem reach_lt {l : List Oper} (hb : ∀ i o, l[i]? = some o → ∀ e ∈ edgesOf o, e < i) {i j : Nat} (h : Reach l i j) : j < i := by
  induction h with
  | one h1 h2 => exact hb _ _ h1 _ h2
  | tail h1 h2 _ ih => exact Nat.lt_trans ih (hb _ _ h1 _ h2)
/-- what must come before has come -/
theorem reach_listed {l : List Oper} {L : Nat → Prop} (hL : ∀ i o, L i → l[i]? = some o → ∀ e ∈ edgesOf o, L e) {i j : Nat} (h : Reach l i j) : (∀ o, l[i]? = some o → ∀ e ∈ edgesOf o, L e) → L j := by
  induction h with
  | one h1 h2 => intro h; exact h _ h1 _ h2
  | tail h1 h2 _ ih => intro h; exact ih fun o ho => hL _ o (h _ h1 _ h2) ho
end
end Go.Proofs.YtacnbajcignacaaGreat
