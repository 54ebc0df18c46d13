/-
  spec.EventText.
-/
import Derived.Test.YtohjjhoobikioaaDoorEv7
namespace Go.Proofs.YtohjjhoobikioaaDoor
open Go.RowKit

set_option maxRecDepth 100000 in
set_option maxHeartbeats 2000000 in
theorem spec_EventText_2 (a b : Int) (A : Option Addr) (n c : Nat) (l : List Int) (w : World) (h : RI w A n c l) (hs : n ≤ 1048576) :
    Calls Tryd.prog 14 #[.agg #[.int .i64 2, .int .i64 a, .int .i64 b, .slice A n c]] w fun e w' => e = .returned (.string ⟨(eventText 2 a b l).toArray⟩) ∧ Ext w w' := by
  have hs' := hs
  have S := (St.refl w).alloc #[.int .i64 2, .int .i64 a, .int .i64 b, .slice A n c] 27
  have hl := nil_iff h.len
  by_cases hn : n = 0
  case neg =>
    have E : Hid (eventText 2 a b l = []) := by
      show _ = _
      unfold eventText
      have : l ≠ [] := fun q => hn (hl.1 q)
      simp [this]
    have hn0 : 0 < n := by omega
    have hnb : decide ((n : Int) > 0) = true := by simp; omega
    clear hn hl
    clear h
    go_enter Tryd.func14, Tryd.ntmps14
    go_wp2_with fail
    go_ret
    exact ⟨by rw [E.out]; rfl, S.ext⟩
  have hle : l = [] := hl.2 hn
  subst hn
  clear hl
  by_cases hb : b = 0
  case neg =>
    have E : Hid (eventText 2 a b l = []) := by
      show _ = _
      unfold eventText
      simp [hb]
    have hbb : (b != 0) = true := by simpa using hb
    clear hb
    clear h
    go_enter Tryd.func14, Tryd.ntmps14
    go_wp2_with fail
    go_ret
    exact ⟨by rw [E.out]; rfl, S.ext⟩
  by_cases ha : a = 0
  case neg =>
    have E : Hid (eventText 2 a b l = []) := by
      show _ = _
      unfold eventText
      simp [ha]
    have hab : (a != 0) = true := by simpa using ha
    clear ha
    subst hb
    clear h
    go_enter Tryd.func14, Tryd.ntmps14
    go_wp2_with fail
    go_ret
    exact ⟨by rw [E.out]; rfl, S.ext⟩
  have E : Hid (eventText 2 a b l = [116, 105, 99, 107]) := by
    show _ = _
    unfold eventText
    simp [hle, hb, ha]
  subst hb
  subst ha
  clear h
  go_enter Tryd.func14, Tryd.ntmps14
  go_wp2_with fail
  go_ret
  exact ⟨by rw [E.out]; rfl, S.ext⟩
set_option maxRecDepth 100000 in
set_option maxHeartbeats 2000000 in
theorem spec_EventText_7 (a b : Int) (A : Option Addr) (n c : Nat) (l : List Int) (w : World) (h : RI w A n c l) (hs : n ≤ 1048576) :
    Calls Tryd.prog 14 #[.agg #[.int .i64 7, .int .i64 a, .int .i64 b, .slice A n c]] w fun e w' => e = .returned (.string ⟨(eventText 7 a b l).toArray⟩) ∧ Ext w w' := by
  have hs' := hs
  have S := (St.refl w).alloc #[.int .i64 7, .int .i64 a, .int .i64 b, .slice A n c] 27
  have hl := nil_iff h.len
  by_cases hn : n = 0
  case neg =>
    have E : Hid (eventText 7 a b l = []) := by
      show _ = _
      unfold eventText
      have : l ≠ [] := fun q => hn (hl.1 q)
      simp [this]
    have hn0 : 0 < n := by omega
    have hnb : decide ((n : Int) > 0) = true := by simp; omega
    clear hn hl
    clear h
    go_enter Tryd.func14, Tryd.ntmps14
    go_wp2_with fail
    go_ret
    exact ⟨by rw [E.out]; rfl, S.ext⟩
  have hle : l = [] := hl.2 hn
  subst hn
  clear hl
  by_cases hb : b = 0
  case neg =>
    have E : Hid (eventText 7 a b l = []) := by
      show _ = _
      unfold eventText
      simp [hb]
    have hbb : (b != 0) = true := by simpa using hb
    clear hb
    clear h
    go_enter Tryd.func14, Tryd.ntmps14
    go_wp2_with fail
    go_ret
    exact ⟨by rw [E.out]; rfl, S.ext⟩
  by_cases ha : a = 0
  case neg =>
    have E : Hid (eventText 7 a b l = []) := by
      show _ = _
      unfold eventText
      simp [ha]
    have hab : (a != 0) = true := by simpa using ha
    clear ha
    subst hb
    clear h
    go_enter Tryd.func14, Tryd.ntmps14
    go_wp2_with fail
    go_ret
    exact ⟨by rw [E.out]; rfl, S.ext⟩
  have E : Hid (eventText 7 a b l = [115, 116, 97, 114, 116]) := by
    show _ = _
    unfold eventText
    simp [hle, hb, ha]
  subst hb
  subst ha
  clear h
  go_enter Tryd.func14, Tryd.ntmps14
  go_wp2_with fail
  go_ret
  exact ⟨by rw [E.out]; rfl, S.ext⟩
set_option maxRecDepth 100000 in
set_option maxHeartbeats 2000000 in
theorem spec_EventText_4 (a b : Int) (A : Option Addr) (n c : Nat) (l : List Int) (w : World) (h : RI w A n c l) (hs : n ≤ 1048576) :
    Calls Tryd.prog 14 #[.agg #[.int .i64 4, .int .i64 a, .int .i64 b, .slice A n c]] w fun e w' => e = .returned (.string ⟨(eventText 4 a b l).toArray⟩) ∧ Ext w w' := by
  have hs' := hs
  have S := (St.refl w).alloc #[.int .i64 4, .int .i64 a, .int .i64 b, .slice A n c] 27
  have hl := nil_iff h.len
  by_cases hn : n = 0
  case neg =>
    have E : Hid (eventText 4 a b l = []) := by
      show _ = _
      unfold eventText
      have : l ≠ [] := fun q => hn (hl.1 q)
      simp [this]
    have hn0 : 0 < n := by omega
    have hnb : decide ((n : Int) > 0) = true := by simp; omega
    clear hn hl
    clear h
    go_enter Tryd.func14, Tryd.ntmps14
    go_wp2_with fail
    go_ret
    exact ⟨by rw [E.out]; rfl, S.ext⟩
  have hle : l = [] := hl.2 hn
  subst hn
  clear hl
  by_cases hb : b = 0
  case neg =>
    have E : Hid (eventText 4 a b l = []) := by
      show _ = _
      unfold eventText
      simp [hb]
    have hbb : (b != 0) = true := by simpa using hb
    clear hb
    clear h
    go_enter Tryd.func14, Tryd.ntmps14
    go_wp2_with fail
    go_ret
    exact ⟨by rw [E.out]; rfl, S.ext⟩
  subst hb
  have E : Hid (eventText 4 a 0 l = nums [114, 111, 111, 109] [a]) := by
    show _ = _
    unfold eventText
    simp [hle]
  clear h
  rcases Bool.eq_false_or_eq_true (a != 0) with hab | hab
  all_goals
    go_enter Tryd.func14, Tryd.ntmps14
    go_wp2_with fail
    have hri := RI.new (w.alloc (.cells #[.int .i64 4, .int .i64 a, .int .i64 0, .slice A 0 c] 27)) [a] (by simp)
    rw [World.size_alloc] at hri
    refine Calls.mono (spec_l32Nums [114, 111, 111, 109] _ _ _ _ _ hri (by simp) (by simp)) ?_; rintro e w1 ⟨rfl, x1⟩
    go_wp2_with fail
    go_ret
    exact ⟨by rw [E.out]; rfl, (S.skip (.cells #[.int .i64 a] 3)).ext.trans x1⟩
set_option maxRecDepth 100000 in
set_option maxHeartbeats 2000000 in
theorem spec_EventText_3 (a b : Int) (A : Option Addr) (n c : Nat) (l : List Int) (w : World) (h : RI w A n c l) (hs : n ≤ 1048576) :
    Calls Tryd.prog 14 #[.agg #[.int .i64 3, .int .i64 a, .int .i64 b, .slice A n c]] w fun e w' => e = .returned (.string ⟨(eventText 3 a b l).toArray⟩) ∧ Ext w w' := by
  have hs' := hs
  have S := (St.refl w).alloc #[.int .i64 3, .int .i64 a, .int .i64 b, .slice A n c] 27
  have hl := nil_iff h.len
  by_cases hn : n = 0
  case neg =>
    have E : Hid (eventText 3 a b l = []) := by
      show _ = _
      unfold eventText
      have : l ≠ [] := fun q => hn (hl.1 q)
      simp [this]
    have hn0 : 0 < n := by omega
    have hnb : decide ((n : Int) > 0) = true := by simp; omega
    clear hn hl
    clear h
    go_enter Tryd.func14, Tryd.ntmps14
    go_wp2_with fail
    go_ret
    exact ⟨by rw [E.out]; rfl, S.ext⟩
  have hle : l = [] := hl.2 hn
  subst hn
  clear hl
  have E : Hid (eventText 3 a b l = nums [115, 105, 122, 101] [a, b]) := by
    show _ = _
    unfold eventText
    simp [hle]
  clear h
  rcases Bool.eq_false_or_eq_true (a != 0) with hab | hab <;> rcases Bool.eq_false_or_eq_true (b != 0) with hbb | hbb
  all_goals
    go_enter Tryd.func14, Tryd.ntmps14
    go_wp2_with fail
    have hri := RI.new (w.alloc (.cells #[.int .i64 3, .int .i64 a, .int .i64 b, .slice A 0 c] 27)) [a, b] (by simp)
    rw [World.size_alloc] at hri
    refine Calls.mono (spec_l32Nums [115, 105, 122, 101] _ _ _ _ _ hri (by simp) (by simp)) ?_; rintro e w1 ⟨rfl, x1⟩
    go_wp2_with fail
    go_ret
    exact ⟨by rw [E.out]; rfl, (S.skip (.cells #[.int .i64 a, .int .i64 b] 3)).ext.trans x1⟩
set_option maxRecDepth 100000 in
set_option maxHeartbeats 2000000 in
theorem spec_EventText_5 (a b : Int) (A : Option Addr) (n c : Nat) (l : List Int) (w : World) (h : RI w A n c l) (hs : n ≤ 1048576) :
    Calls Tryd.prog 14 #[.agg #[.int .i64 5, .int .i64 a, .int .i64 b, .slice A n c]] w fun e w' => e = .returned (.string ⟨(eventText 5 a b l).toArray⟩) ∧ Ext w w' := by
  have hs' := hs
  have S := (St.refl w).alloc #[.int .i64 5, .int .i64 a, .int .i64 b, .slice A n c] 27
  have hl := nil_iff h.len
  by_cases hn : n = 0
  case neg =>
    have E : Hid (eventText 5 a b l = []) := by
      show _ = _
      unfold eventText
      have : l ≠ [] := fun q => hn (hl.1 q)
      simp [this]
    have hn0 : 0 < n := by omega
    have hnb : decide ((n : Int) > 0) = true := by simp; omega
    clear hn hl
    clear h
    go_enter Tryd.func14, Tryd.ntmps14
    go_wp2_with fail
    go_ret
    exact ⟨by rw [E.out]; rfl, S.ext⟩
  have hle : l = [] := hl.2 hn
  subst hn
  clear hl
  by_cases hb : b = 0
  case neg =>
    have E : Hid (eventText 5 a b l = []) := by
      show _ = _
      unfold eventText
      simp [hb]
    have hbb : (b != 0) = true := by simpa using hb
    clear hb
    clear h
    go_enter Tryd.func14, Tryd.ntmps14
    go_wp2_with fail
    go_ret
    exact ⟨by rw [E.out]; rfl, S.ext⟩
  subst hb
  by_cases hm : a = -1
  case pos =>
    subst hm
    have E : Hid (eventText 5 (-1) 0 l = [102, 117, 115, 101, 32, 110, 111, 110, 101]) := by
      show _ = _
      unfold eventText
      simp [hle]
    clear h
    go_enter Tryd.func14, Tryd.ntmps14
    go_wp2_with fail
    go_ret
    exact ⟨by rw [E.out]; rfl, S.ext⟩
  have E : Hid (eventText 5 a 0 l = nums [102, 117, 115, 101] [a]) := by
    show _ = _
    unfold eventText
    simp [hle, hm]
  have hmb : (a == -1) = false := by simpa using hm
  clear h hm
  rcases Bool.eq_false_or_eq_true (a != 0) with hab | hab
  all_goals
    go_enter Tryd.func14, Tryd.ntmps14
    go_wp2_with fail
    have hri := RI.new (w.alloc (.cells #[.int .i64 5, .int .i64 a, .int .i64 0, .slice A 0 c] 27)) [a] (by simp)
    rw [World.size_alloc] at hri
    refine Calls.mono (spec_l32Nums [102, 117, 115, 101] _ _ _ _ _ hri (by simp) (by simp)) ?_; rintro e w1 ⟨rfl, x1⟩
    go_wp2_with fail
    go_ret
    exact ⟨by rw [E.out]; rfl, (S.skip (.cells #[.int .i64 a] 3)).ext.trans x1⟩
end Go.Proofs.YtohjjhoobikioaaDoor
