/-
  spec.EventText: crashes; all kinds.
-/
import Derived.Test.YtohjjhoobikioaaDoorEv10
namespace Go.Proofs.YtohjjhoobikioaaDoor
open Go.RowKit

set_option maxRecDepth 100000 in
set_option maxHeartbeats 2000000 in
theorem spec_EventText_6 (a b : Int) (A : Option Addr) (n c : Nat) (l : List Int) (w : World) (h : RI w A n c l) (hs : n ≤ 1048576) :
    Calls Tryd.prog 14 #[.agg #[.int .i64 6, .int .i64 a, .int .i64 b, .slice A n c]] w fun e w' => e = .returned (.string ⟨(eventText 6 a b l).toArray⟩) ∧ Ext w w' := by
  have S := (St.refl w).alloc #[.int .i64 6, .int .i64 a, .int .i64 b, .slice A n c] 27
  have HR := Lib.hid h; clear h
  by_cases hb : b = 0
  · subst hb
    have E : Hid (eventText 6 a 0 l = nums [99, 114, 97, 115, 104] ([a] ++ l)) := by
      show _ = _
      unfold eventText
      simp
    obtain ⟨w4, hw4⟩ : ∃ w4, w4 = w.alloc (.cells #[.int .i64 6, .int .i64 a, .int .i64 0, .slice A n c] 27) := ⟨_, rfl⟩
    have S3 := S.newI (OwnI.lit (w.alloc (.cells #[.int .i64 6, .int .i64 a, .int .i64 0, .slice A n c] 27)) _ (Nat.le_refl _) [a] (by simp)) ((Ext.refl _).alloc _)
    rw [World.size_alloc] at S3
    clear hw4
    by_cases hn : 0 < n <;> rcases Bool.eq_false_or_eq_true (a != 0) with ha | ha
    all_goals
      go_enter Tryd.func14, Tryd.ntmps14
      go_wp2_with (at_builtin; refine wp_addI rfl _ _ rfl S3 0 rfl rfl rfl (HR.out.ext S3.ext) (by simp; omega) ?_)
      intro v5 w5 S5
      obtain ⟨A5, n5, c5, rfl⟩ : ∃ A n c, v5 = .slice A n c := by
        obtain ⟨A, c, e, -⟩ := (S5.ownI 0 rfl).form
        exact ⟨A, _, c, e⟩
      have hn5 : n5 ≤ 1048577 := by
        have h1 := ((S5.ownI 0 rfl).get rfl).len
        have h2 := HR.out.len
        simp at h1; omega
      go_wp2_with fail
      refine Calls.mono (spec_l32Nums [99, 114, 97, 115, 104] _ _ _ _ _ ((S5.ownI 0 rfl).get rfl) (by omega) (by simp)) ?_; rintro e w6 ⟨rfl, x6⟩
      go_wp2_with fail
      go_ret
      exact ⟨by rw [E.out]; rfl, S5.ext.trans x6⟩
  · have E : Hid (eventText 6 a b l = []) := by show _ = _; unfold eventText; simp [hb]
    have hbb : (b != 0) = true := by simpa using hb
    clear hb
    by_cases hn : 0 < n
    all_goals
      go_enter Tryd.func14, Tryd.ntmps14
      go_wp2_with fail
      go_ret
      exact ⟨by rw [E.out]; rfl, S.ext⟩

theorem spec_EventText (kind a b : Int) (A : Option Addr) (n c : Nat) (l : List Int) (w : World) (h : RI w A n c l) (hs : n ≤ 1048576) :
    Calls Tryd.prog 14 #[.agg #[.int .i64 kind, .int .i64 a, .int .i64 b, .slice A n c]] w fun e w' => e = .returned (.string ⟨(eventText kind a b l).toArray⟩) ∧ Ext w w' := by
  by_cases h1 : kind = 1
  · subst h1; exact spec_EventText_1 a b A n c l w h
  by_cases h2 : kind = 2
  · subst h2; exact spec_EventText_2 a b A n c l w h hs
  by_cases h3 : kind = 3
  · subst h3; exact spec_EventText_3 a b A n c l w h hs
  by_cases h4 : kind = 4
  · subst h4; exact spec_EventText_4 a b A n c l w h hs
  by_cases h5 : kind = 5
  · subst h5; exact spec_EventText_5 a b A n c l w h hs
  by_cases h6 : kind = 6
  · subst h6; exact spec_EventText_6 a b A n c l w h hs
  by_cases h7 : kind = 7
  · subst h7; exact spec_EventText_7 a b A n c l w h hs
  · exact spec_EventText_none kind a b A n c l w h1 h2 h3 h4 h5 h6 h7
end Go.Proofs.YtohjjhoobikioaaDoor
