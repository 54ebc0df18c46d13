/-
  EventText of both packages.
-/
import Derived.Test.YtohjjhoobikioaaDoorEv6
namespace Go.Proofs.YtohjjhoobikioaaDoor
open Go.RowKit

theorem impl_textOfEvent (kind a b : Int) (A : Option Addr) (n c : Nat) (l : List Int) (w : World) (ht : Tab w) (h : RI w A n c l) (hs : n ≤ 1048576) :
    Calls Tryd.prog 60 #[.agg #[.int .i64 kind, .int .i64 a, .int .i64 b, .slice A n c]] w (EvOut kind a b l n w) := by
  by_cases h1 : kind = 1
  · subst h1; exact impl_textOfEvent_hex a b A n c l w h
  by_cases h2 : kind = 2
  · subst h2; exact impl_textOfEvent_tick a b A n c l w h
  by_cases h3 : kind = 3
  · subst h3; exact impl_textOfEvent_size a b A n c l w ht h
  by_cases h4 : kind = 4
  · subst h4; exact impl_textOfEvent_room a b A n c l w ht h
  by_cases h5 : kind = 5
  · subst h5
    by_cases hm : a = -1
    · subst hm; exact impl_textOfEvent_fuse0 b A n c l w h
    · exact impl_textOfEvent_fuse a b A n c l w ht h hm
  by_cases h6 : kind = 6
  · subst h6; exact impl_textOfEvent_crash a b A n c l w ht h hs
  by_cases h7 : kind = 7
  · subst h7; exact impl_textOfEvent_start a b A n c l w h
  · exact impl_textOfEvent_none kind a b A n c l w h1 h2 h3 h4 h5 h6 h7

set_option maxRecDepth 100000 in
set_option maxHeartbeats 2000000 in
theorem impl_EventText (kind a b : Int) (A : Option Addr) (n c : Nat) (l : List Int) (w : World) (ht : Tab w) (h : RI w A n c l) (hs : n ≤ 1048576) :
    Calls Tryd.prog 16 #[.agg #[.int .i64 kind, .int .i64 a, .int .i64 b, .slice A n c]] w fun e w' => e = .returned (.string ⟨(eventText kind a b l).toArray⟩) ∧ Ext w w' := by
  have S := (St.refl w).alloc #[.int .i64 kind, .int .i64 a, .int .i64 b, .slice A n c] 27
  go_enter Tryd.func16, Tryd.ntmps16
  go_wp2_with fail
  refine (impl_textOfEvent kind a b A n c l _ (ht.ext S.ext) (h.ext S.ext) hs).mono ?_; rintro e w1 ⟨t, k', oa, ob, oA, on, oc, ok, rfl, E, x1⟩
  have S1 := S.call x1
  obtain ⟨lc, lf, ls⟩ := S1.cells 0 rfl
  have S2 := S1.skip (.cells #[.int .i64 k', .int .i64 oa, .int .i64 ob, .slice oA on oc] 27)
  clear S S1 h ht x1
  cases ok
  · have E2 : Hid (eventText kind a b l = []) := by show _ = _; rw [← E.out]; unfold evRes; simp
    clear E
    go_wp2_with fail
    go_ret
    exact ⟨by rw [E2.out]; rfl, S2.ext⟩
  by_cases h1 : a = oa
  · have b1 : (a != oa) = false := by simp [h1]
    by_cases h2 : b = ob
    · have b2 : (b != ob) = false := by simp [h2]
      by_cases h3 : n = on
      · have b3 : ((n : Int) != (on : Int)) = false := by simp [h3]
        have E2 : Hid (eventText kind a b l = t) := by show _ = _; rw [← E.out]; unfold evRes; rw [if_pos ⟨rfl, h1, h2, h3⟩]
        clear E h1 h2 h3
        go_wp2_with fail
        go_ret
        exact ⟨by rw [E2.out]; rfl, S2.ext⟩
      · have b3 : ((n : Int) != (on : Int)) = true := by simp; omega
        have E2 : Hid (eventText kind a b l = []) := by show _ = _; rw [← E.out]; unfold evRes; rw [if_neg (fun q => h3 q.2.2.2)]
        clear E h1 h2 h3
        go_wp2_with fail
        go_ret
        exact ⟨by rw [E2.out]; rfl, S2.ext⟩
    · have b2 : (b != ob) = true := by simpa using h2
      have E2 : Hid (eventText kind a b l = []) := by show _ = _; rw [← E.out]; unfold evRes; rw [if_neg (fun q => h2 q.2.2.1)]
      clear E h1 h2
      go_wp2_with fail
      go_ret
      exact ⟨by rw [E2.out]; rfl, S2.ext⟩
  · have b1 : (a != oa) = true := by simpa using h1
    have E2 : Hid (eventText kind a b l = []) := by show _ = _; rw [← E.out]; unfold evRes; rw [if_neg (fun q => h1 q.2.1)]
    clear E h1
    go_wp2_with fail
    go_ret
    exact ⟨by rw [E2.out]; rfl, S2.ext⟩
end Go.Proofs.YtohjjhoobikioaaDoor
