/-
  numberWords, l32Nums.
-/
import Derived.Test.YtohjjhoobikioaaDoorEvPure
import Derived.Test.YtohjjhoobikioaaDoorSep
namespace Go.Proofs.YtohjjhoobikioaaDoor
open Go.RowKit

def allNum (l : List Int) : Bool := l.all isNum
def wordsN (l : List Int) : List UInt8 := if l.all isNum = true then words l else []

set_option maxRecDepth 100000 in
set_option maxHeartbeats 2000000 in
theorem impl_numberWords (A : Option Addr) (n c : Nat) (l : List Int) (W : World) (ht : Tab W) (h : RI W A n c l) (hs : n ≤ 16777216) :
    Calls Tryd.prog 98 #[.slice A n c] W fun e w' => e = .returned (.tuple #[.string ⟨(wordsN l).toArray⟩, .bool (allNum l)]) ∧ Ext W w' := by
  have hln := h.len
  have HLn := Lib.hid hln; clear hln
  go_enter Tryd.func98, Tryd.ntmps98
  go_wp2_with fail
  go_loopw [9, 4] (fun vi vo wr => ∃ k : Nat, k ≤ n ∧ vi = .int .i64 k ∧ ∃ o : List UInt8, vo = .string ⟨o.toArray⟩ ∧ Hid (o = words (l.take k)) ∧ Hid ((l.take k).all isNum = true) ∧ Ext W wr) (fun vi _ _ => n - (intOf vi).toNat)
  case atStart => exact ⟨0, by omega, rfl, [], rfl, rfl, rfl, Ext.refl _⟩
  case round =>
    obtain ⟨k, hk, rfl, o, rfl, ho, ha, hx⟩ := hrel
    have hol : o.length ≤ 184549376 := by
      rw [ho.out]
      have h1 := words_len (l.take k)
      have h2 : (l.take k).length ≤ k := by simp; omega
      omega
    by_cases hlt : k < n
    · obtain ⟨b, of, rfl, hcell⟩ := (h.ext hx).at1 hlt
      have hkl : k < l.length := by rw [HLn.out]; exact hlt
      have Hkl := Lib.hid hkl; clear hkl
      obtain ⟨x, hx0⟩ : ∃ x, x = l[k]?.getD 0 := ⟨_, rfl⟩
      rw [List.getD_eq_getElem?_getD, ← hx0] at hcell
      have HX := Lib.hid hx0; clear hx0
      cases hq : isNum x
      · have E0 : l.all isNum = false := all_take_no Hkl.out (by rw [← HX.out]; exact hq)
        have E : Hid (allNum l = false ∧ wordsN l = []) := ⟨E0, by unfold wordsN; rw [E0]; rfl⟩
        clear E0
        have k1 := fun w => impl_isNumber x w
        rw [show inB x 0 4294967295 = false from hq] at k1
        have K1 := Lib.hid k1
        clear hq k1
        go_wp2_with fail
        refine Calls.mono (K1.out _) ?_; rintro e w1 ⟨rfl, rfl⟩
        go_wp2_with fail
        go_ret2
        exact ⟨by rw [E.out.1, E.out.2]; rfl, hx⟩
      · have hr : 0 ≤ x ∧ x ≤ 4294967295 := inB_iff.1 hq
        have k1 := fun w => impl_isNumber x w
        rw [show inB x 0 4294967295 = true from hq] at k1
        have K1 := Lib.hid k1
        have E2 : Hid ((l.take (k + 1)).all isNum = true) := by
          show _ = _
          rw [all_snoc Hkl.out, ha.out, ← HX.out, hq]; rfl
        have E3 : Hid (words (l.take (k + 1)) = o ++ ([32] ++ numText x)) := by
          show _ = _
          rw [words_snoc Hkl.out, ← HX.out, ← ho.out]; rfl
        clear hq k1
        go_wp2_with fail
        refine Calls.mono (K1.out _) ?_; rintro e w1 ⟨rfl, rfl⟩
        go_wp2_with fail
        refine Calls.mono (impl_NumText x (by omega) (by omega) _ (ht.ext hx)) ?_; rintro e w2 ⟨rfl, x2⟩
        have hl1 := numText_len x
        obtain ⟨s1, hs1⟩ : ∃ s1, s1 = numText x := ⟨_, rfl⟩
        rw [← hs1] at hl1 E3 ⊢
        clear hs1
        go_wp2_with (first
          | ((with_reducible refine wp_addS (y := .tmp 18) (l := [32]) (m := s1) ?_ ?_ ?_ ?_); exact rfl; exact rfl; go_must (simp; omega))
          | ((with_reducible refine wp_addS (x := .tmp 16) (l := o) (m := [32] ++ s1) ?_ ?_ ?_ ?_); exact rfl; exact rfl; go_must (simp; omega)))
        go_roundw
        case rel => exact ⟨k + 1, by omega, by go_num, _, rfl, E3.out.symm, E2, hx.trans x2⟩
        case measure => simp [intOf]; omega
    · obtain rfl : k = n := by omega
      have e : l.take k = l := List.take_of_length_le (by rw [HLn.out]; omega)
      have E : Hid (allNum l = true) := by have := ha.out; rw [e] at this; exact this
      have E2 : Hid (wordsN l = o) := by
        have h1 := ha.out; have h2 := ho.out
        rw [e] at h1 h2
        show _ = _
        unfold wordsN
        rw [h1, h2]; rfl
      clear e
      go_wp2_with fail
      go_ret2
      exact ⟨by rw [E.out, E2.out]; rfl, hx⟩
set_option maxRecDepth 100000 in
set_option maxHeartbeats 2000000 in
theorem spec_l32Nums (wd : List UInt8) (A : Option Addr) (n c : Nat) (l : List Int) (W : World) (h : RI W A n c l) (hs : n ≤ 16777216) (hw : wd.length ≤ 1000) :
    Calls Tryd.prog 58 #[.string ⟨wd.toArray⟩, .slice A n c] W fun e w' => e = .returned (.string ⟨(nums wd l).toArray⟩) ∧ Ext W w' := by
  have hln := h.len
  have HLn := Lib.hid hln; clear hln
  go_enter Tryd.func58, Tryd.ntmps58
  go_wp2_with fail
  go_loopw [9, 0] (fun vi vo wr => ∃ k : Nat, k ≤ n ∧ vi = .int .i64 k ∧ ∃ o : List UInt8, vo = .string ⟨o.toArray⟩ ∧ Hid (o = wd ++ words (l.take k)) ∧ Hid ((l.take k).all isNum = true) ∧ Ext W wr) (fun vi _ _ => n - (intOf vi).toNat)
  case atStart => exact ⟨0, by omega, rfl, wd, rfl, (by show _ = _; simp [words]), rfl, Ext.refl _⟩
  case round =>
    obtain ⟨k, hk, rfl, o, rfl, ho, ha, hx⟩ := hrel
    have hol : o.length ≤ 184550376 := by
      rw [ho.out, List.length_append]
      have h1 := words_len (l.take k)
      have h2 : (l.take k).length ≤ k := by simp; omega
      omega
    by_cases hlt : k < n
    · obtain ⟨b, of, rfl, hcell⟩ := (h.ext hx).at1 hlt
      have hkl : k < l.length := by rw [HLn.out]; exact hlt
      have Hkl := Lib.hid hkl; clear hkl
      obtain ⟨x, hx0⟩ : ∃ x, x = l[k]?.getD 0 := ⟨_, rfl⟩
      rw [List.getD_eq_getElem?_getD, ← hx0] at hcell
      have HX := Lib.hid hx0; clear hx0
      cases hq : isNum x
      · have E : Hid (nums wd l = []) := by
          show _ = _
          unfold nums
          rw [all_take_no Hkl.out (by rw [← HX.out]; exact hq)]; rfl
        have k1 := fun w => spec_l01Num x w
        rw [show inB x 0 4294967295 = false from hq] at k1
        have K1 := Lib.hid k1
        clear hq k1
        go_wp2_with fail
        refine Calls.mono (K1.out _) ?_; rintro e w1 ⟨rfl, rfl⟩
        go_wp2_with fail
        go_ret
        exact ⟨by rw [E.out]; rfl, hx⟩
      · have k1 := fun w => spec_l01Num x w
        rw [show inB x 0 4294967295 = true from hq] at k1
        have K1 := Lib.hid k1
        have E2 : Hid ((l.take (k + 1)).all isNum = true) := by
          show _ = _
          rw [all_snoc Hkl.out, ha.out, ← HX.out, hq]; rfl
        have E3 : Hid (wd ++ words (l.take (k + 1)) = o ++ 32 :: numText x) := by
          show _ = _
          rw [words_snoc Hkl.out, ← HX.out, ho.out]; simp
        clear hq k1
        go_wp2_with (first
          | (go_at_call 94; refine Calls.mono (K1.out _) ?_; rintro e w1 ⟨rfl, rfl⟩)
          | ((with_reducible refine wp_addS (x := .tmp 16) (l := o) (m := [32]) ?_ ?_ ?_ ?_); exact rfl; exact rfl; go_must (simp; omega)))
        refine Calls.mono (spec_NumText x _) ?_; rintro e w2 ⟨rfl, x2⟩
        have hl1 := numText_len x
        obtain ⟨s1, hs1⟩ : ∃ s1, s1 = numText x := ⟨_, rfl⟩
        rw [← hs1] at hl1 E3 ⊢
        clear hs1
        go_wp2_with ((with_reducible refine wp_addS (x := .tmp 17) (l := o ++ [32]) (m := s1) ?_ ?_ ?_ ?_); exact rfl; exact rfl; go_must (simp; omega))
        go_roundw
        case rel => exact ⟨k + 1, by omega, by go_num, _, rfl, E3.out.symm, E2, hx.trans x2⟩
        case measure => simp [intOf]; omega
    · obtain rfl : k = n := by omega
      have e : l.take k = l := List.take_of_length_le (by rw [HLn.out]; omega)
      have E : Hid (nums wd l = o) := by
        have h1 := ha.out; have h2 := ho.out
        rw [e] at h1 h2
        show _ = _
        unfold nums
        rw [h1, h2]; rfl
      clear e
      go_wp2_with fail
      go_ret
      exact ⟨by rw [E.out]; rfl, hx⟩
end Go.Proofs.YtohjjhoobikioaaDoor
