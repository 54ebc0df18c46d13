/-
  spec.EventText: bytes.
-/
import Derived.Test.YtohjjhoobikioaaDoorEv9
namespace Go.Proofs.YtohjjhoobikioaaDoor
open Go.RowKit

set_option maxRecDepth 100000 in
set_option maxHeartbeats 2000000 in
theorem spec_EventText_1 (a b : Int) (A : Option Addr) (n c : Nat) (l : List Int) (w : World) (h : RI w A n c l) :
    Calls Tryd.prog 14 #[.agg #[.int .i64 1, .int .i64 a, .int .i64 b, .slice A n c]] w fun e w' => e = .returned (.string ⟨(eventText 1 a b l).toArray⟩) ∧ Ext w w' := by
  have S := (St.refl w).alloc #[.int .i64 1, .int .i64 a, .int .i64 b, .slice A n c] 27
  have hl := nil_iff h.len
  clear h
  by_cases hq : 0 ≤ a ∧ a ≤ 255 ∧ b = 0 ∧ l = []
  · have E : Hid (eventText 1 a b l = [104, 101, 120, 32] ++ hex2 a) := by show _ = _; unfold eventText; rw [if_pos rfl, if_pos hq]
    obtain ⟨q0, q1, q2, q3⟩ := hq
    obtain ⟨x, rfl⟩ := Int.eq_ofNat_of_zero_le q0
    have hx : x < 256 := by omega
    obtain rfl : n = 0 := hl.1 q3
    subst q2
    clear hl q3 q0
    have hrb : RB ((w.alloc (.cells #[.int .i64 1, .int .i64 (x : Int), .int .i64 0, .slice A 0 c] 27)).alloc (.cells #[.int .u8 (x : Int)] 5)) (some ⟨w.heap.size + 1, 0, none⟩) 1 1 [by8 x] := by
      have e := by8_nat (x := x) (by omega) (by omega)
      have := RB.lit (w.alloc (.cells #[.int .i64 1, .int .i64 (x : Int), .int .i64 0, .slice A 0 c] 27)) [.int .u8 (x : Int)] [by8 x] (by simp only [List.map_cons, List.map_nil, byteC]; rw [e]) (by simp)
      simpa [World.size_alloc] using this
    have K := Lib.hid (spec_HexOf1 x hx _ _ _ hrb)
    obtain ⟨s1, hs1⟩ : ∃ s1, s1 = hex2 (x : Int) := ⟨_, rfl⟩
    have hl1 : s1.length = 2 := by rw [hs1]; rfl
    rw [← hs1] at E K
    clear hrb hs1
    rcases Bool.eq_false_or_eq_true ((x : Int) != 0) with ha | ha
    all_goals
      go_enter Tryd.func14, Tryd.ntmps14
      go_wp2_with fail
      refine Calls.mono K.out ?_; rintro e w1 ⟨rfl, x1⟩
      go_wp2_with ((with_reducible refine wp_addS (l := [104, 101, 120, 32]) (m := s1) ?_ ?_ ?_ ?_); exact rfl; exact rfl; go_must (simp; omega))
      go_ret
      exact ⟨by rw [E.out]; rfl, (S.skip (.cells #[.int .u8 (x : Int)] 5)).ext.trans x1⟩
  · have E : Hid (eventText 1 a b l = []) := by show _ = _; unfold eventText; rw [if_pos rfl, if_neg hq]
    by_cases hn : 0 < n
    · clear hl hq
      go_enter Tryd.func14, Tryd.ntmps14
      go_wp2_with fail
      go_ret
      exact ⟨by rw [E.out]; rfl, S.ext⟩
    obtain rfl : n = 0 := by omega
    have hle : l = [] := hl.2 rfl
    rcases Bool.eq_false_or_eq_true (b != 0) with hb | hb
    · clear hl hq hle
      go_enter Tryd.func14, Tryd.ntmps14
      go_wp2_with fail
      go_ret
      exact ⟨by rw [E.out]; rfl, S.ext⟩
    have hb0 : b = 0 := by simpa using hb
    have hq2 : ¬ (0 ≤ a ∧ a ≤ 255) := fun q => hq ⟨q.1, q.2, hb0, hle⟩
    clear hl hq hle hb0
    rcases Bool.eq_false_or_eq_true (a != 0) with ha | ha
    all_goals
      by_cases h0 : 0 ≤ a
      all_goals
        go_enter Tryd.func14, Tryd.ntmps14
        go_wp2_with fail
        go_ret
        exact ⟨by rw [E.out]; rfl, S.ext⟩
end Go.Proofs.YtohjjhoobikioaaDoor
