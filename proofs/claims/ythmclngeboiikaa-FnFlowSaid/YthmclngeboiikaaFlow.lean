/-
  placed, l27Next, Flow of both packages: where runes are laid.
-/
import Derived.Test.YthmclngeboiikaaWidth
namespace Go.Proofs.Ythmclngeboiikaa
open Go.RowKit

def px (r w x : Int) : Int := if w < wrap64 (x + width r) then 0 else x
def py (r w x y : Int) : Int := if w < wrap64 (x + width r) then wrap64 (y + 1) else y
def place1 (w : Int) (p : Int × Int) (r : Int) : Int × Int := if printable r then (wrap64 (px r w p.1 + width r), py r w p.1 p.2) else p
def flowL (w : Int) (t : List Int) (p : Int × Int) : Int × Int := t.foldl (place1 w) p
def flow (t : List Int) (w x y : Int) : Int × Int := if w < 2 ∨ inB x 0 w = false ∨ inB y 0 8000 = false then (0, 0) else flowL w t (x, y)

theorem impl_placed (r w x y : Int) (W : World) : Calls Try.prog 29 #[.int .i64 r, .int .i64 w, .int .i64 x, .int .i64 y] W fun e w' => e = .returned (.tuple #[.int .i64 (px r w x), .int .i64 (py r w x y)]) ∧ Ext W w' := by
  by_cases h : w < wrap64 (x + width r)
  all_goals
    go_enter Try.func29, Try.ntmps29
    go_wp2_with (go_at_call 30; refine (impl_Width _ _).mono ?_; rintro e w' ⟨rfl, hx⟩)
    go_ret2
    exact ⟨ret_ii (by unfold px; first | rw [if_pos h] | rw [if_neg (by omega)]) (by unfold py; first | rw [if_pos h] | rw [if_neg (by omega)]), hx⟩
theorem spec_l27Next (r w x y : Int) (W : World) : Calls Try.prog 26 #[.int .i64 r, .int .i64 w, .int .i64 x, .int .i64 y] W fun e w' => e = .returned (.tuple #[.int .i64 (px r w x), .int .i64 (py r w x y)]) ∧ Ext W w' := by
  by_cases h : w < wrap64 (x + width r)
  all_goals
    go_enter Try.func26, Try.ntmps26
    go_wp2_with (go_at_call 27; refine (spec_Width _ _).mono ?_; rintro e w' ⟨rfl, hx⟩)
    go_ret2
    exact ⟨ret_ii (by unfold px; first | rw [if_pos h] | rw [if_neg (by omega)]) (by unfold py; first | rw [if_pos h] | rw [if_neg (by omega)]), hx⟩
theorem flowL_snoc {w : Int} {t : List Int} {p : Int × Int} {k : Nat} (hk : k < t.length) : flowL w (t.take (k + 1)) p = place1 w (flowL w (t.take k) p) (t[k]?.getD 0) := by
  unfold flowL; rw [take_snoc hk, List.foldl_append]; simp
theorem flow_yes {t : List Int} {w x y : Int} (h0 : ¬ w < 2) (h1 : inB x 0 w = true) (h2 : inB y 0 8000 = true) : flow t w x y = flowL w t (x, y) := by
  unfold flow; rw [if_neg (by simp [h0, h1, h2])]

set_option maxHeartbeats 400000 in
theorem impl_Flow (A : Option Addr) (n c : Nat) (t : List Int) (w x y : Int) (W : World) (ht : RI W A n c t) :
    Calls Try.prog 14 #[.slice A n c, .int .i64 w, .int .i64 x, .int .i64 y] W fun e w' => e = .returned (.tuple #[.int .i64 (flow t w x y).1, .int .i64 (flow t w x y).2]) ∧ Ext W w' := by
  have hn := ht.nmax
  by_cases h0 : w < 2
  · go_enter Try.func14, Try.ntmps14
    go_wp2_with fail
    go_ret2
    exact ⟨ret_ii (by simp [flow, h0]) (by simp [flow, h0]), Ext.refl _⟩
  cases h1 : inB x 0 w
  · go_enter Try.func14, Try.ntmps14
    go_wp2_with (go_at_call 28; refine (impl_in _ _ _ _).mono ?_; rintro e w' ⟨rfl, rfl⟩)
    go_ret2
    exact ⟨ret_ii (by simp [flow, h1]) (by simp [flow, h1]), Ext.refl _⟩
  cases h2 : inB y 0 8000
  · go_enter Try.func14, Try.ntmps14
    go_wp2_with (go_at_call 28; refine (impl_in _ _ _ _).mono ?_; rintro e w' ⟨rfl, rfl⟩)
    go_ret2
    exact ⟨ret_ii (by simp [flow, h2]) (by simp [flow, h2]), Ext.refl _⟩
  go_enter Try.func14, Try.ntmps14
  go_wp2_with (go_at_call 28; refine (impl_in _ _ _ _).mono ?_; rintro e w' ⟨rfl, rfl⟩)
  go_loopw [2, 3, 27] (fun vx vy vi wr => ∃ k : Nat, k ≤ n ∧ vi = .int .i64 k ∧ vx = .int .i64 (flowL w (t.take k) (x, y)).1 ∧ vy = .int .i64 (flowL w (t.take k) (x, y)).2 ∧ Ext W wr) (fun _ _ vi _ => n - (intOf vi).toNat)
  case atStart => exact ⟨0, by omega, rfl, rfl, rfl, Ext.refl _⟩
  case round =>
    obtain ⟨k, hk, rfl, rfl, rfl, hx⟩ := hrel
    by_cases hlt : k < n
    · obtain ⟨b, o, rfl, hcell⟩ := (ht.ext hx).at1 hlt
      have hs := Lib.hid (flowL_snoc (w := w) (p := (x, y)) (show k < t.length by rw [ht.len]; exact hlt))
      go_wp2_with (first
        | (go_at_call 25; refine (impl_Printable _ _).mono ?_; rintro e w' ⟨rfl, rfl⟩)
        | (go_at_call 29; refine (impl_placed _ _ _ _ _).mono ?_; rintro e w1 ⟨rfl, hx1⟩)
        | (go_at_call 30; refine (impl_Width _ _).mono ?_; rintro e w2 ⟨rfl, hx2⟩))
      all_goals go_roundw
      case rel => exact ⟨k + 1, by omega, by go_num, by rw [hs.out]; simp [place1, *], by rw [hs.out]; simp [place1, *], by first | exact hx | exact (hx.trans hx1).trans hx2⟩
      case measure => simp [intOf]; omega
      case rel => exact ⟨k + 1, by omega, by go_num, by rw [hs.out]; simp [place1, *], by rw [hs.out]; simp [place1, *], by first | exact hx | exact (hx.trans hx1).trans hx2⟩
      case measure => simp [intOf]; omega
    · go_wp2_with fail
      go_ret2
      have e : t.take k = t := List.take_of_length_le (by rw [ht.len]; omega)
      exact ⟨ret_ii (by rw [flow_yes (by omega) h1 h2, e]) (by rw [flow_yes (by omega) h1 h2, e]), hx⟩
set_option maxHeartbeats 400000 in
theorem spec_Flow (A : Option Addr) (n c : Nat) (t : List Int) (w x y : Int) (W : World) (ht : RI W A n c t) :
    Calls Try.prog 13 #[.slice A n c, .int .i64 w, .int .i64 x, .int .i64 y] W fun e w' => e = .returned (.tuple #[.int .i64 (flow t w x y).1, .int .i64 (flow t w x y).2]) ∧ Ext W w' := by
  have hn := ht.nmax
  by_cases h0 : w < 2
  · go_enter Try.func13, Try.ntmps13
    go_wp2_with fail
    go_ret2
    exact ⟨ret_ii (by simp [flow, h0]) (by simp [flow, h0]), Ext.refl _⟩
  by_cases h1 : 0 ≤ x
  case neg =>
    go_enter Try.func13, Try.ntmps13
    go_wp2_with fail
    go_ret2
    exact ⟨ret_ii (by unfold flow; rw [if_pos (by simp [inB]; omega)]) (by unfold flow; rw [if_pos (by simp [inB]; omega)]), Ext.refl _⟩
  by_cases h2 : x ≤ w
  case neg =>
    go_enter Try.func13, Try.ntmps13
    go_wp2_with fail
    go_ret2
    exact ⟨ret_ii (by unfold flow; rw [if_pos (by simp [inB]; omega)]) (by unfold flow; rw [if_pos (by simp [inB]; omega)]), Ext.refl _⟩
  by_cases h3 : 0 ≤ y
  case neg =>
    go_enter Try.func13, Try.ntmps13
    go_wp2_with fail
    go_ret2
    exact ⟨ret_ii (by unfold flow; rw [if_pos (by simp [inB]; omega)]) (by unfold flow; rw [if_pos (by simp [inB]; omega)]), Ext.refl _⟩
  by_cases h4 : y ≤ 8000
  case neg =>
    go_enter Try.func13, Try.ntmps13
    go_wp2_with fail
    go_ret2
    exact ⟨ret_ii (by unfold flow; rw [if_pos (by simp [inB]; omega)]) (by unfold flow; rw [if_pos (by simp [inB]; omega)]), Ext.refl _⟩
  have h1' : inB x 0 w = true := by simp [inB, h1, h2]
  have h2' : inB y 0 8000 = true := by simp [inB, h3, h4]
  go_enter Try.func13, Try.ntmps13
  go_wp2_with fail
  go_loopw [2, 3, 33] (fun vx vy vi wr => ∃ k : Nat, k ≤ n ∧ vi = .int .i64 k ∧ vx = .int .i64 (flowL w (t.take k) (x, y)).1 ∧ vy = .int .i64 (flowL w (t.take k) (x, y)).2 ∧ Ext W wr) (fun _ _ vi _ => n - (intOf vi).toNat)
  case atStart => exact ⟨0, by omega, rfl, rfl, rfl, Ext.refl _⟩
  case round =>
    obtain ⟨k, hk, rfl, rfl, rfl, hx⟩ := hrel
    by_cases hlt : k < n
    · obtain ⟨b, o, rfl, hcell⟩ := (ht.ext hx).at1 hlt
      have hs := Lib.hid (flowL_snoc (w := w) (p := (x, y)) (show k < t.length by rw [ht.len]; exact hlt))
      go_wp2_with (first
        | (go_at_call 24; refine (spec_Printable _ _).mono ?_; rintro e w' ⟨rfl, rfl⟩)
        | (go_at_call 26; refine (spec_l27Next _ _ _ _ _).mono ?_; rintro e w1 ⟨rfl, hx1⟩)
        | (go_at_call 27; refine (spec_Width _ _).mono ?_; rintro e w2 ⟨rfl, hx2⟩))
      all_goals go_roundw
      case rel => exact ⟨k + 1, by omega, by go_num, by rw [hs.out]; simp [place1, *], by rw [hs.out]; simp [place1, *], by first | exact hx | exact (hx.trans hx1).trans hx2⟩
      case measure => simp [intOf]; omega
      case rel => exact ⟨k + 1, by omega, by go_num, by rw [hs.out]; simp [place1, *], by rw [hs.out]; simp [place1, *], by first | exact hx | exact (hx.trans hx1).trans hx2⟩
      case measure => simp [intOf]; omega
    · go_wp2_with fail
      go_ret2
      have e : t.take k = t := List.take_of_length_le (by rw [ht.len]; omega)
      exact ⟨ret_ii (by rw [flow_yes (by omega) h1' h2', e]) (by rw [flow_yes (by omega) h1' h2', e]), hx⟩
end Go.Proofs.Ythmclngeboiikaa
