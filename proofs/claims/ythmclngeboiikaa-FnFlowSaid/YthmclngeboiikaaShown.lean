/-
  Shown of both packages.
-/
import Derived.Test.YthmclngeboiikaaWidth
import Derived.Test.YthmclngeboiikaaInts
namespace Go.Proofs.Ythmclngeboiikaa
open Go.RowKit

def shown1 (r : Int) : List Int := if r = 9 then [94, 73] else if r = 10 then [94, 74] else if printable r then [r] else []
def shown (t : List Int) : List Int := t.flatMap shown1
theorem shown1_len (r : Int) : (shown1 r).length ≤ 2 := by unfold shown1; split <;> (try split) <;> (try split) <;> simp
theorem shown_len (t : List Int) : (shown t).length ≤ 2 * t.length := by
  induction t with
  | nil => simp [shown]
  | cons a t ih => have := shown1_len a; simp [shown, List.flatMap_cons] at *; omega
theorem shown_snoc {t : List Int} {k : Nat} (hk : k < t.length) : shown (t.take (k + 1)) = shown (t.take k) ++ shown1 (t[k]?.getD 0) := by
  unfold shown; rw [take_snoc hk, List.flatMap_append]; simp

set_option maxHeartbeats 400000 in
theorem impl_Shown (A : Option Addr) (n c : Nat) (t : List Int) (W : World) (ht : RI W A n c t) (hsm : n ≤ 4294967296) :
    Calls Try.prog 9 #[.slice A n c] W fun e w' => ∃ v, e = .returned v ∧ OwnI w' W.heap.size v (shown t) ∧ Ext W w' := by
  have hn := ht.nmax
  go_enter Try.func9, Try.ntmps9
  go_wp2_with fail
  go_loopw [3, 8] (fun vo vi wr => ∃ k : Nat, k ≤ n ∧ vi = .int .i64 k ∧ OwnI wr W.heap.size vo (shown (t.take k)) ∧ Ext W wr) (fun _ vi _ => n - (intOf vi).toNat)
  case atStart => exact ⟨0, by omega, rfl, OwnI.nil _ _, Ext.refl _⟩
  case round =>
    obtain ⟨k, hk, rfl, hown, hx⟩ := hrel
    by_cases hlt : k < n
    · obtain ⟨b, o, rfl, hcell⟩ := (ht.ext hx).at1 hlt
      have hs := Lib.hid (shown_snoc (show k < t.length by rw [ht.len]; exact hlt))
      have hl := shown_len (t.take k)
      have hl2 : (t.take k).length ≤ k := List.length_take_le _ _
      have hB := hx.size
      go_wp2_with (first
        | (go_at_call 25; refine (impl_Printable _ _).mono ?_; rintro e w' ⟨rfl, rfl⟩)
        | (at_builtin; refine wp_appI rfl _ _ rfl rfl (hown.alloc _) rfl (RI.new _ [94, 73] (by simp)) (by simp; omega) (by simp; omega) ?_)
        | (at_builtin; refine wp_appI rfl _ _ rfl rfl (hown.alloc _) rfl (RI.new _ [94, 74] (by simp)) (by simp; omega) (by simp; omega) ?_)
        | (at_builtin; refine wp_appI rfl _ _ rfl rfl (hown.alloc _) rfl (RI.new _ [t[k]?.getD 0] (by simp)) (by simp; omega) (by simp; omega) ?_))
      case roundEnd =>
        go_roundw
        case rel => exact ⟨k + 1, by omega, by go_num, by rw [hs.out, shown1, if_neg (by simp_all), if_neg (by simp_all), if_neg (by simp_all), List.append_nil]; exact hown, hx⟩
        case measure => simp [intOf]; omega
      all_goals
        intro v1 w1 hown1 hg1 _
        have hx1 := (hx.alloc _).grown (hown.alloc _) hg1
        go_wp2_with fail
        go_roundw
        case rel => exact ⟨k + 1, by omega, by go_num, by rw [hs.out, shown1]; simp_all, hx1⟩
        case measure => simp [intOf]; omega
    · go_wp2_with fail
      go_ret
      have e : t.take k = t := List.take_of_length_le (by rw [ht.len]; omega)
      rw [e] at hown
      exact ⟨_, rfl, hown, hx⟩
set_option maxHeartbeats 400000 in
theorem spec_Shown (A : Option Addr) (n c : Nat) (t : List Int) (W : World) (ht : RI W A n c t) (hsm : n ≤ 4294967296) :
    Calls Try.prog 7 #[.slice A n c] W fun e w' => ∃ v, e = .returned v ∧ OwnI w' W.heap.size v (shown t) ∧ Ext W w' := by
  have hn := ht.nmax
  go_enter Try.func7, Try.ntmps7
  go_wp2_with fail
  go_loopw [3, 9] (fun vo vi wr => ∃ k : Nat, k ≤ n ∧ vi = .int .i64 k ∧ OwnI wr W.heap.size vo (shown (t.take k)) ∧ Ext W wr) (fun _ vi _ => n - (intOf vi).toNat)
  case atStart => exact ⟨0, by omega, rfl, OwnI.empty (Nat.le_refl _), (Ext.refl _).alloc _⟩
  case round =>
    obtain ⟨k, hk, rfl, hown, hx⟩ := hrel
    by_cases hlt : k < n
    · obtain ⟨b, o, rfl, hcell⟩ := (ht.ext hx).at1 hlt
      have hs := Lib.hid (shown_snoc (show k < t.length by rw [ht.len]; exact hlt))
      have hl := shown_len (t.take k)
      have hl2 : (t.take k).length ≤ k := List.length_take_le _ _
      have hB := hx.size
      go_wp2_with (first
        | (go_at_call 24; refine (spec_Printable _ _).mono ?_; rintro e w' ⟨rfl, rfl⟩)
        | (at_builtin; refine wp_appI rfl _ _ rfl rfl (hown.alloc _) rfl (RI.new _ [94, 73] (by simp)) (by simp; omega) (by simp; omega) ?_)
        | (at_builtin; refine wp_appI rfl _ _ rfl rfl (hown.alloc _) rfl (RI.new _ [94, 74] (by simp)) (by simp; omega) (by simp; omega) ?_)
        | (at_builtin; refine wp_appI rfl _ _ rfl rfl (hown.alloc _) rfl (RI.new _ [t[k]?.getD 0] (by simp)) (by simp; omega) (by simp; omega) ?_))
      case roundEnd =>
        go_roundw
        case rel => exact ⟨k + 1, by omega, by go_num, by rw [hs.out, shown1, if_neg (by simp_all), if_neg (by simp_all), if_neg (by simp_all), List.append_nil]; exact hown, hx⟩
        case measure => simp [intOf]; omega
      all_goals
        intro v1 w1 hown1 hg1 _
        have hx1 := (hx.alloc _).grown (hown.alloc _) hg1
        go_wp2_with fail
        go_roundw
        case rel => exact ⟨k + 1, by omega, by go_num, by rw [hs.out, shown1]; simp_all, hx1⟩
        case measure => simp [intOf]; omega
    · go_wp2_with fail
      go_ret
      have e : t.take k = t := List.take_of_length_le (by rw [ht.len]; omega)
      rw [e] at hown
      exact ⟨_, rfl, hown, hx⟩
end Go.Proofs.Ythmclngeboiikaa
