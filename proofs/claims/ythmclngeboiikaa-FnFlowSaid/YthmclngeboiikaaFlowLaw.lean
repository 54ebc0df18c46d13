/-
  WidthOf; the plain law on the layout.
-/
import Derived.Test.YthmclngeboiikaaFlow
import Derived.Test.YthmclngeboiikaaShown
import Derived.Test.YthmclngeboiikaaHelp
namespace Go.Proofs.Ythmclngeboiikaa
open Go.RowKit

def widthOf (t : List Int) : Int := (t.map width).sum
theorem widthOf_bounds (t : List Int) : 0 ≤ widthOf t ∧ widthOf t ≤ 2 * t.length := by
  induction t with
  | nil => simp [widthOf]
  | cons a t ih => have := width_bounds a; simp [widthOf] at *; omega
theorem widthOf_snoc {t : List Int} {k : Nat} (hk : k < t.length) : widthOf (t.take (k + 1)) = widthOf (t.take k) + width (t[k]?.getD 0) := by
  unfold widthOf; rw [take_snoc hk, List.map_append, List.sum_append]; simp

theorem impl_WidthOf (A : Option Addr) (n c : Nat) (t : List Int) (W : World) (ht : RI W A n c t) (hs : n ≤ 4294967296) :
    Calls Try.prog 18 #[.slice A n c] W fun e w' => e = .returned (.int .i64 (widthOf t)) ∧ Ext W w' := by
  go_enter Try.func18, Try.ntmps18
  go_wp2_with fail
  go_loopw [3, 8] (fun vs vi wr => ∃ k : Nat, k ≤ n ∧ vi = .int .i64 k ∧ vs = .int .i64 (widthOf (t.take k)) ∧ Ext W wr) (fun _ vi _ => n - (intOf vi).toNat)
  case atStart => exact ⟨0, by omega, rfl, rfl, Ext.refl _⟩
  case round =>
    obtain ⟨k, hk, rfl, rfl, hx⟩ := hrel
    have hb := widthOf_bounds (t.take k)
    have hl : (t.take k).length ≤ k := List.length_take_le _ _
    by_cases hlt : k < n
    · obtain ⟨b, o, rfl, hcell⟩ := (ht.ext hx).at1 hlt
      have hs := Lib.hid (widthOf_snoc (show k < t.length by rw [ht.len]; exact hlt))
      have hw := width_bounds (t[k]?.getD 0)
      go_wp2_with fail
      refine (impl_Width _ _).mono ?_; rintro e w1 ⟨rfl, x1⟩
      go_wp2_with fail
      go_roundw
      case rel => exact ⟨k + 1, by omega, by go_num, by rw [hs.out], hx.trans x1⟩
      case measure => simp [intOf]; omega
    · go_wp2_with fail
      go_ret
      have e : t.take k = t := List.take_of_length_le (by rw [ht.len]; omega)
      rw [e]
      exact ⟨rfl, hx⟩

/-! ### the plain law -/
theorem small64 {x : Int} (h0 : -1000000 ≤ x) (h1 : x ≤ 1000000) : wrap64 x = x := IntWalk.wrap64_in x ⟨by omega, by omega⟩
theorem place_ok {w r : Int} {p : Int × Int} {m : Int} (hw : 2 ≤ w) (hw' : w ≤ 1000) (h0 : 0 ≤ p.1) (h1 : p.1 ≤ w) (h2 : 0 ≤ p.2) (h3 : p.2 ≤ m) (hm : m ≤ 1000) :
    0 ≤ (place1 w p r).1 ∧ (place1 w p r).1 ≤ w ∧ 0 ≤ (place1 w p r).2 ∧ (place1 w p r).2 ≤ m + 1 ∧ p.2 * w + p.1 + width r ≤ (place1 w p r).2 * w + (place1 w p r).1 := by
  have hb := width_bounds r
  unfold place1
  split
  · rename_i hp
    have e1 : wrap64 (p.1 + width r) = p.1 + width r := small64 (by omega) (by omega)
    have e2 : wrap64 (p.2 + 1) = p.2 + 1 := small64 (by omega) (by omega)
    unfold px py
    rw [e1, e2]
    by_cases h : w < p.1 + width r
    · simp only [if_pos h]
      have e3 : wrap64 (0 + width r) = width r := by rw [small64] <;> omega
      rw [e3]
      refine ⟨by omega, by omega, by omega, by omega, ?_⟩
      rw [Int.add_mul]; omega
    · simp only [if_neg h]
      rw [e1]
      exact ⟨by omega, by omega, by omega, by omega, by omega⟩
  · rename_i hp
    have : width r = 0 := by unfold width; rw [if_neg hp]
    exact ⟨by omega, by omega, by omega, by omega, by omega⟩
theorem flowL_ok {w : Int} (hw : 2 ≤ w) (hw' : w ≤ 1000) (t : List Int) : ∀ (p : Int × Int) (m : Int), 0 ≤ p.1 → p.1 ≤ w → 0 ≤ p.2 → p.2 ≤ m → m + t.length ≤ 1000 →
    0 ≤ (flowL w t p).1 ∧ (flowL w t p).1 ≤ w ∧ 0 ≤ (flowL w t p).2 ∧ (flowL w t p).2 ≤ m + t.length ∧ p.2 * w + p.1 + widthOf t ≤ (flowL w t p).2 * w + (flowL w t p).1 := by
  induction t with
  | nil => intro p m h0 h1 h2 h3 _; simp [flowL, widthOf]; omega
  | cons r t ih =>
    intro p m h0 h1 h2 h3 h4
    simp only [List.length_cons] at h4
    obtain ⟨a0, a1, a2, a3, a4⟩ := place_ok (r := r) hw hw' h0 h1 h2 h3 (by omega)
    obtain ⟨b0, b1, b2, b3, b4⟩ := ih (place1 w p r) (m + 1) a0 a1 a2 a3 (by omega)
    have e : flowL w (r :: t) p = flowL w t (place1 w p r) := rfl
    have e2 : widthOf (r :: t) = width r + widthOf t := by simp [widthOf]
    rw [e, e2]
    simp only [List.length_cons]
    exact ⟨b0, b1, b2, by omega, by omega⟩
theorem shown_self {t : List Int} (h : ∀ r ∈ t, printable r = true) : shown t = t := by
  induction t with
  | nil => rfl
  | cons a t ih =>
    have h1 := h a (by simp)
    have hb := printable_bounds h1
    have : shown (a :: t) = shown1 a ++ shown t := rfl
    rw [this, ih (fun r hr => h r (by simp [hr]))]
    unfold shown1
    rw [if_neg (by omega), if_neg (by omega), if_pos h1]; rfl
theorem inB_iff {n l h : Int} : inB n l h = true ↔ l ≤ n ∧ n ≤ h := by simp [inB]
theorem flow_parts {w : Int} (hw : 2 ≤ w) (hw' : w ≤ 1000) (t : List Int) (ht : t.length ≤ 900) (k : Nat) :
    flow (t.drop k) w (flow (t.take k) w 0 0).1 (flow (t.take k) w 0 0).2 = flow t w 0 0 ∧ (flow t w 0 0).1 ≤ w ∧ 0 ≤ (flow t w 0 0).1 ∧ 0 ≤ (flow t w 0 0).2 ∧ (flow t w 0 0).2 ≤ 900 ∧ widthOf t ≤ (flow t w 0 0).2 * w + (flow t w 0 0).1 := by
  have hl : (t.take k).length ≤ t.length := List.length_take_le' _ _
  obtain ⟨a0, a1, a2, a3, a4⟩ := flowL_ok hw hw' (t.take k) (0, 0) 0 (by simp) (by simp; omega) (by simp) (by simp) (by omega)
  obtain ⟨b0, b1, b2, b3, b4⟩ := flowL_ok hw hw' t (0, 0) 0 (by simp) (by simp; omega) (by simp) (by simp) (by omega)
  have e0 : ∀ s : List Int, flow s w 0 0 = flowL w s (0, 0) := fun s => flow_yes (by omega) (inB_iff.2 (by omega)) (inB_iff.2 (by omega))
  rw [e0, e0, flow_yes (by omega) (inB_iff.2 ⟨a0, a1⟩) (inB_iff.2 ⟨a2, by omega⟩)]
  refine ⟨?_, b1, b0, b2, by omega, by simpa using b4⟩
  show flowL w (t.drop k) (flowL w (t.take k) (0, 0)) = _
  unfold flowL
  rw [← List.foldl_append, List.take_append_drop]
theorem flow_abc : flow [97, 98, 99] 2 0 0 = (1, 1) := by decide +kernel

end Go.Proofs.Ythmclngeboiikaa
