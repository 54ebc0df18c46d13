/-
  The laws' helpers on slices of ints: eqIntS, sameInts, toIntS, markIntS, heldIntS.
-/
import Derived.Test.YtohjjhoobikioaaDoorInts
namespace Go.Proofs.YtohjjhoobikioaaDoor
open Go.RowKit

theorem eq_of_getD {l m : List Int} (hl : l.length = m.length) (h : ∀ i, i < l.length → l[i]?.getD 0 = m[i]?.getD 0) : l = m := by
  apply List.ext_getElem hl
  intro i h1 h2
  have := h i h1
  simpa [h1, h2] using this

theorem laws_eqIntS (A : Option Addr) (n c : Nat) (l : List Int) (A' : Option Addr) (n' c' : Nat) (l' : List Int) (W : World) (h : RI W A n c l) (h' : RI W A' n' c' l') :
    Calls Tryd.prog 61 #[.slice A n c, .slice A' n' c'] W fun e w' => e = .returned (.bool (decide (l = l'))) ∧ Ext W w' := by
  have hn := h.nmax
  by_cases hnn : n = n'
  case neg =>
    have hb : ((n : Int) == (n' : Int)) = false := by simp; omega
    go_enter Tryd.func61, Tryd.ntmps61
    go_wp2_with fail
    go_ret
    exact ⟨ret_b (by rw [eq_comm, decide_eq_false_iff_not]; intro e; subst e; exact hnn (h.len.symm.trans h'.len)), Ext.refl _⟩
  subst hnn
  have hll : l.length = l'.length := by rw [h.len, h'.len]
  go_enter Tryd.func61, Tryd.ntmps61
  go_wp2_with fail
  go_loopw [5] (fun vi wr => ∃ k : Nat, k ≤ n ∧ vi = .int .i64 k ∧ (∀ i, i < k → l[i]?.getD 0 = l'[i]?.getD 0) ∧ Ext W wr) (fun vi _ => n - (intOf vi).toNat)
  case atStart => exact ⟨0, by omega, rfl, fun i hi => absurd hi (by omega), Ext.refl _⟩
  case round =>
    obtain ⟨k, hk, rfl, hp, hx⟩ := hrel
    have Hp := Lib.hid hp; clear hp
    by_cases hlt : k < n
    · obtain ⟨b, o, rfl, hcell⟩ := (h.ext hx).at1 hlt
      obtain ⟨b', o', rfl, hcell'⟩ := (h'.ext hx).at1 hlt
      by_cases hq : l[k]?.getD 0 = l'[k]?.getD 0
      · have hqb : (l[k]?.getD 0 == l'[k]?.getD 0) = true := by simp [hq]
        go_wp2_with fail
        go_quiet (fail)
        go_wp2_with fail
        go_roundw
        case rel =>
          refine ⟨k + 1, by omega, by go_num, fun i hi => ?_, hx.drewN _⟩
          rcases Nat.lt_or_ge i k with h1 | h1
          · exact Hp.out i h1
          · obtain rfl : i = k := by omega
            exact hq
        case measure => simp [intOf]; omega
      · go_wp2_with fail
        go_quiet (fail)
        go_wp2_with fail
        go_ret
        exact ⟨ret_b (by rw [eq_comm, decide_eq_false_iff_not]; intro e; subst e; exact hq rfl), hx.drewN _⟩
    · go_wp2_with fail
      go_ret
      exact ⟨ret_b (by rw [eq_comm, decide_eq_true_iff]; exact eq_of_getD hll fun i hi => Hp.out i (by rw [h.len] at hi; omega)), hx⟩

set_option maxHeartbeats 400000 in
theorem laws_toIntS (A : Option Addr) (n c : Nat) (l : List Int) (W : World) (h : RI W A n c l) (hs : n ≤ 4294967296) :
    Calls Tryd.prog 59 #[.slice A n c] W fun e w' => ∃ v, e = .returned v ∧ OwnI w' W.heap.size v l ∧ Ext W w' := by
  have hn := h.nmax
  go_enter Tryd.func59, Tryd.ntmps59
  go_wp2_with (at_make; refine wp_makeI rfl _ _ rfl (n := n) rfl rfl (by omega) (Nat.le_refl _) ?_)
  intro w1 hown1 hg1
  have hx1 : Ext W w1 := (Ext.refl W).grown (v := .slice none 0 0) (OwnI.nil _ _) hg1
  have hW := hx1.size
  have hex := h.ext hx1
  go_wp2_with fail
  go_loopw [4] (fun vi wr => ∃ k : Nat, k ≤ n ∧ vi = .int .i64 k ∧ OwnI wr W.heap.size (.slice (some ⟨W.heap.size, 0, none⟩) n n) (l.take k ++ List.replicate (n - k) 0) ∧ Ext W wr) (fun vi _ => n - (intOf vi).toNat)
  case atStart => exact ⟨0, by omega, rfl, by simpa using hown1, hx1⟩
  case round =>
    obtain ⟨k, hk, rfl, hown, hx⟩ := hrel
    have hll : (l.take k ++ List.replicate (n - k) 0).length = n := by simp [h.len]; omega
    by_cases hlt : k < n
    · obtain ⟨b, o, rfl, hcell⟩ := (h.ext hx).at1 hlt
      have hc2 := hown.cell (k := k) (by omega)
      have hf2 := hown.frozen k
      have hset := hown.set k (l[k]?.getD 0)
      have Hl := Lib.hid hll; clear hll
      go_wp2_with fail
      go_roundw
      case rel =>
        refine ⟨k + 1, by omega, by go_num, ?_, hx.grown hown hset.2⟩
        have e : (l.take k ++ List.replicate (n - k) 0).set k (l[k]?.getD 0) = l.take (k + 1) ++ List.replicate (n - (k + 1)) 0 := by
          have hk' : k < l.length := by rw [h.len]; exact hlt
          have e1 : (l.take k).length = k := by simp; omega
          rw [List.set_append, if_neg (by omega), e1, Nat.sub_self, take_snoc hk', show n - k = (n - (k + 1)) + 1 by omega, List.replicate_succ]
          simp
        rw [← e]
        exact hset.1
      case measure => simp [intOf]; omega
    · go_wp2_with fail
      go_ret
      have e : l.take k ++ List.replicate (n - k) 0 = l := by rw [show n - k = 0 by omega, List.replicate_zero, List.append_nil, List.take_of_length_le (by rw [h.len]; omega)]
      rw [e] at hown
      exact ⟨_, rfl, hown, hx⟩

/-- the marks k, k+1, .. -/
def marks (k : Int) (n : Nat) : List Int := (List.range n).map fun (i : Nat) => k + (i : Int)
theorem marks_get {k : Int} {n i : Nat} (h : i < n) : (marks k n)[i]?.getD 0 = k + i := by simp [marks, h]
theorem marks_len (k : Int) (n : Nat) : (marks k n).length = n := by simp [marks]

set_option maxHeartbeats 400000 in
theorem laws_markIntS (v : Value) (l : List Int) (B : Nat) (q : Int) (W : World) (h : OwnI W B v l) (hq0 : 0 ≤ q) (hq : q ≤ 4611686018427387904) (hs : l.length ≤ 4294967296) :
    Calls Tryd.prog 79 #[v, .int .i64 q] W fun e w' => e = .returned (.int .i64 (q + l.length)) ∧ OwnI w' B v (marks q l.length) ∧ W.grownBy w' v.ownBlock := by
  rcases h.shape with ⟨rfl, rfl⟩ | ⟨g, c, rfl, hBg, hgl, hc, hcm⟩
  · go_enter Tryd.func79, Tryd.ntmps79
    go_wp2_with fail
    go_rounds 1
    go_ret
    exact ⟨ret_i (by simp), h, World.grownBy.refl _ _⟩
  · obtain ⟨n, hn⟩ : ∃ n, n = l.length := ⟨_, rfl⟩
    rw [← hn] at h hs hc ⊢
    have Hn := Lib.hid hn; clear hn
    go_enter Tryd.func79, Tryd.ntmps79
    go_wp2_with fail
    go_loopw [1, 5] (fun vq vi wr => ∃ k : Nat, k ≤ n ∧ vi = .int .i64 k ∧ vq = .int .i64 (q + k) ∧ OwnI wr B (.slice (some ⟨g, 0, none⟩) n c) (marks q k ++ l.drop k) ∧ W.grownBy wr (some g)) (fun _ vi _ => n - (intOf vi).toNat)
    case atStart => exact ⟨0, by omega, rfl, by go_num, by simpa [marks] using h, World.grownBy.refl _ _⟩
    case round =>
      obtain ⟨k, hk, rfl, rfl, hown, hx⟩ := hrel
      by_cases hlt : k < n
      · have hc2 := hown.cell (k := k) (by rw [List.length_append, marks_len, List.length_drop, ← Hn.out]; omega)
        have hf2 := hown.frozen k
        have hset := hown.set k (q + k)
        go_wp2_with fail
        go_roundw
        case rel =>
          refine ⟨k + 1, by omega, by go_num, by go_num, ?_, hx.trans hset.2⟩
          have e : (marks q k ++ l.drop k).set k (q + k) = marks q (k + 1) ++ l.drop (k + 1) := by
            rw [List.set_append, if_neg (by rw [marks_len]; omega), marks_len, Nat.sub_self, List.drop_eq_getElem_cons (by rw [← Hn.out]; exact hlt), List.set_cons_zero]
            unfold marks
            rw [List.range_succ, List.map_append, List.append_assoc]
            rfl
          rw [← e]
          exact hset.1
        case measure => simp [intOf]; omega
      · go_wp2_with fail
        go_ret
        obtain rfl : k = n := by omega
        have e : marks q k ++ l.drop k = marks q k := by rw [List.drop_of_length_le (by rw [← Hn.out]; omega), List.append_nil]
        rw [e] at hown
        exact ⟨rfl, hown, hx⟩

theorem laws_heldIntS (A : Option Addr) (n c : Nat) (q : Int) (W : World) (h : RI W A n c (marks q n)) (hq0 : 0 ≤ q) (hq : q ≤ 4611686018427387904) (hs : n ≤ 4294967296) :
    Calls Tryd.prog 124 #[.slice A n c, .int .i64 q] W fun e w' => e = .returned (.int .i64 (q + n)) ∧ Ext W w' := by
  go_enter Tryd.func124, Tryd.ntmps124
  go_wp2_with fail
  go_loopw [1, 5] (fun vq vi wr => ∃ k : Nat, k ≤ n ∧ vi = .int .i64 k ∧ vq = .int .i64 (q + k) ∧ Ext W wr) (fun _ vi _ => n - (intOf vi).toNat)
  case atStart => exact ⟨0, by omega, rfl, by go_num, Ext.refl _⟩
  case round =>
    obtain ⟨k, hk, rfl, rfl, hx⟩ := hrel
    by_cases hlt : k < n
    · obtain ⟨b, o, rfl, hcell⟩ := (h.ext hx).at1 hlt
      rw [List.getD_eq_getElem?_getD, marks_get hlt] at hcell
      go_wp2_with fail
      go_roundw
      case rel => exact ⟨k + 1, by omega, by go_num, by go_num, hx⟩
      case measure => simp [intOf]; omega
    · go_wp2_with fail
      go_ret
      obtain rfl : k = n := by omega
      exact ⟨rfl, hx⟩
end Go.Proofs.YtohjjhoobikioaaDoor
