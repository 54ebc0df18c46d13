/-
  The laws' helpers on numbers, bytes, strings: by what can be read.
-/
import Derived.Test.YtohjjhoobikioaaDoorDv2
import Derived.Deep.RegionHeld3
namespace Go.Proofs.YtohjjhoobikioaaDoor
open Go.RowKit

theorem h_eq_of_getD {l m : List Int} (hl : l.length = m.length) (h : ∀ i, i < l.length → l[i]?.getD 0 = m[i]?.getD 0) : l = m := by
  apply List.ext_getElem hl
  intro i h1 h2
  have := h i h1
  simpa [h1, h2] using this
theorem h_eqIntS (A : Option Addr) (n c : Nat) (l : List Int) (A' : Option Addr) (n' c' : Nat) (l' : List Int) (W : World) (h : RI W A n c l) (h' : RI W A' n' c' l') :
    Calls Tryd.prog 61 #[.slice A n c, .slice A' n' c'] W fun e w' => e = .returned (.bool (decide (l = l'))) ∧ Ext W w' := by
  have hn := h.nmax
  by_cases hnn : n = n'
  case neg =>
    have hb : ((n : Int) == (n' : Int)) = false := by simp; omega
    go_enter Tryd.func61, Tryd.ntmps61
    go_wp2_with fail
    go_ret
    exact ⟨ret_b (by rw [eq_comm, decide_eq_false_iff_not]; intro e; subst e; exact hnn (h.len.symm.trans h'.len)), Ext.refl _⟩
  subst hnn
  have hll : l.length = l'.length := by rw [h.len, h'.len]
  go_enter Tryd.func61, Tryd.ntmps61
  go_wp2_with fail
  go_loopw [5] (fun vi wr => ∃ k : Nat, k ≤ n ∧ vi = .int .i64 k ∧ (∀ i, i < k → l[i]?.getD 0 = l'[i]?.getD 0) ∧ Ext W wr) (fun vi _ => n - (intOf vi).toNat)
  case atStart => exact ⟨0, by omega, rfl, fun i hi => absurd hi (by omega), Ext.refl _⟩
  case round =>
    obtain ⟨k, hk, rfl, hp, hx⟩ := hrel
    have Hp := Lib.hid hp; clear hp
    by_cases hlt : k < n
    · obtain ⟨b, o, rfl, hcell⟩ := (h.ext hx).at1 hlt
      obtain ⟨b', o', rfl, hcell'⟩ := (h'.ext hx).at1 hlt
      by_cases hq : l[k]?.getD 0 = l'[k]?.getD 0
      · have hqb : (l[k]?.getD 0 == l'[k]?.getD 0) = true := by simp [hq]
        go_wp2_with fail
        go_quiet (fail)
        go_wp2_with fail
        go_roundw
        case rel =>
          refine ⟨k + 1, by omega, by go_num, fun i hi => ?_, hx.drewN _⟩
          rcases Nat.lt_or_ge i k with h1 | h1
          · exact Hp.out i h1
          · obtain rfl : i = k := by omega
            exact hq
        case measure => simp [intOf]; omega
      · go_wp2_with fail
        go_quiet (fail)
        go_wp2_with fail
        go_ret
        exact ⟨ret_b (by rw [eq_comm, decide_eq_false_iff_not]; intro e; subst e; exact hq rfl), hx.drewN _⟩
    · go_wp2_with fail
      go_ret
      exact ⟨ret_b (by rw [eq_comm, decide_eq_true_iff]; exact h_eq_of_getD hll fun i hi => Hp.out i (by rw [h.len] at hi; omega)), hx⟩
theorem cv_eqIntS_d (l : List Int) (v v' : Value) (w : World) (h : Rd w v (Dv.ints l)) (h' : Rd w v' (Dv.ints l)) : Calls Tryd.prog 61 #[v, v'] w fun e w' => e = .returned (.bool true) ∧ Ext w w' := by
  obtain ⟨A, n, c, rfl, r⟩ := h.ints
  obtain ⟨A', n', c', rfl, r'⟩ := h'.ints
  refine Calls.mono (h_eqIntS A n c l A' n' c' l w r r') ?_
  rintro e w1 ⟨rfl, x1⟩
  exact ⟨by simp, x1⟩
set_option maxHeartbeats 400000 in
theorem h_toIntS (A : Option Addr) (n c : Nat) (l : List Int) (W : World) (h : RI W A n c l) (hs : n ≤ 4294967296) :
    Calls Tryd.prog 59 #[.slice A n c] W fun e w' => ∃ v, e = .returned v ∧ OwnI w' W.heap.size v l ∧ Ext W w' := by
  have hn := h.nmax
  go_enter Tryd.func59, Tryd.ntmps59
  go_wp2_with (at_make; refine wp_makeI rfl _ _ rfl (n := n) rfl rfl (by omega) (Nat.le_refl _) ?_)
  intro w1 hown1 hg1
  have hx1 : Ext W w1 := (Ext.refl W).grown (v := .slice none 0 0) (OwnI.nil _ _) hg1
  have hW := hx1.size
  have hex := h.ext hx1
  go_wp2_with fail
  go_loopw [4] (fun vi wr => ∃ k : Nat, k ≤ n ∧ vi = .int .i64 k ∧ OwnI wr W.heap.size (.slice (some ⟨W.heap.size, 0, none⟩) n n) (l.take k ++ List.replicate (n - k) 0) ∧ Ext W wr) (fun vi _ => n - (intOf vi).toNat)
  case atStart => exact ⟨0, by omega, rfl, by simpa using hown1, hx1⟩
  case round =>
    obtain ⟨k, hk, rfl, hown, hx⟩ := hrel
    have hll : (l.take k ++ List.replicate (n - k) 0).length = n := by simp [h.len]; omega
    by_cases hlt : k < n
    · obtain ⟨b, o, rfl, hcell⟩ := (h.ext hx).at1 hlt
      have hc2 := hown.cell (k := k) (by omega)
      have hf2 := hown.frozen k
      have hset := hown.set k (l[k]?.getD 0)
      have Hl := Lib.hid hll; clear hll
      go_wp2_with fail
      go_roundw
      case rel =>
        refine ⟨k + 1, by omega, by go_num, ?_, hx.grown hown hset.2⟩
        have e : (l.take k ++ List.replicate (n - k) 0).set k (l[k]?.getD 0) = l.take (k + 1) ++ List.replicate (n - (k + 1)) 0 := by
          have hk' : k < l.length := by rw [h.len]; exact hlt
          have e1 : (l.take k).length = k := by simp; omega
          rw [List.set_append, if_neg (by omega), e1, Nat.sub_self, take_snoc hk', show n - k = (n - (k + 1)) + 1 by omega, List.replicate_succ]
          simp
        rw [← e]
        exact hset.1
      case measure => simp [intOf]; omega
    · go_wp2_with fail
      go_ret
      have e : l.take k ++ List.replicate (n - k) 0 = l := by rw [show n - k = 0 by omega, List.replicate_zero, List.append_nil, List.take_of_length_le (by rw [h.len]; omega)]
      rw [e] at hown
      exact ⟨_, rfl, hown, hx⟩
theorem cv_toIntS_d (l : List Int) (v : Value) (w : World) (h : Rd w v (Dv.ints l)) (hs : l.length ≤ 4294967296) : Calls Tryd.prog 59 #[v] w fun e w' => ∃ u, e = .returned u ∧ St w w' [own u (Dv.ints l)] := by
  obtain ⟨A, n, c, rfl, r⟩ := h.ints
  refine Calls.mono (h_toIntS A n c l w r (by rw [← r.len]; exact hs)) ?_
  rintro e w1 ⟨u, rfl, ow, x1⟩
  exact ⟨u, rfl, ((St.refl w).newI ow x1).ofI⟩
def hszN (left : Int) (n : Nat) : Int := if left < n then -1 else left - n
theorem hszN_neg {left : Int} {n : Nat} (h : left < n) : hszN left n = -1 := by unfold hszN; rw [if_pos h]
theorem hszN_pos {left : Int} {n : Nat} (h : ¬ left < n) : hszN left n = left - n := by unfold hszN; rw [if_neg h]
theorem hszN_cases (left : Int) (n : Nat) : (left < n ∧ hszN left n = -1) ∨ (¬ left < n ∧ hszN left n = left - n) := by
  by_cases h : left < n
  · exact .inl ⟨h, hszN_neg h⟩
  · exact .inr ⟨h, hszN_pos h⟩
theorem h_szIntS (A : Option Addr) (n c : Nat) (left : Int) (w : World) (h0 : -1 ≤ left) (h1 : left ≤ 1048576) (hn : n ≤ 9223372036854775807) :
    Calls Tryd.prog 56 #[.slice A n c, .int .i64 left] w fun e w' => e = .returned (.int .i64 (hszN left n)) ∧ Ext w w' := by
  by_cases h : left < n
  · rw [hszN_neg h]
    go_enter Tryd.func56, Tryd.ntmps56
    go_wp2_with fail
    go_ret
    exact ⟨rfl, Ext.refl _⟩
  · rw [hszN_pos h]
    go_enter Tryd.func56, Tryd.ntmps56
    go_wp2_with fail
    go_ret
    exact ⟨rfl, Ext.refl _⟩
end Go.Proofs.YtohjjhoobikioaaDoor
