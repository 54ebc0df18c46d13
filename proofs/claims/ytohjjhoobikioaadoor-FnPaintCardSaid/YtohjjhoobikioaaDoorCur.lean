/-
  The cursor of the draws (spec.l01Cur): what the laws' makers draw lies within its bounds.
-/
import Derived.Test.YtohjjhoobikioaaDoorBase
namespace Go.Proofs.YtohjjhoobikioaaDoor
open Go.RowKit

/-- block g is a cursor over the bytes of A, which lie elsewhere, below g -/
def CurAt (w : World) (g : Nat) (A : Option Addr) (n c : Nat) (l : List UInt8) : Prop :=
  RB w A n c l ∧ (0 < n → ∀ b o, A = some ⟨b, o, none⟩ → b < g) ∧ ∃ (i : Nat) (h : Int), i ≤ n ∧ w.heap[g]? = some (.cells #[.slice A n c, .int .i64 i, .int .i64 h] 124 (0, 0))

theorem RB.off {w w' : World} {A : Option Addr} {n c : Nat} {l : List UInt8} (h : RB w A n c l) {g : Nat} (hg : w.grownBy w' (some g)) (hne : 0 < n → ∀ b o, A = some ⟨b, o, none⟩ → b < g) : RB w' A n c l :=
  ⟨h.len, h.cap, h.cmax, h.none_, fun hn => by
    obtain ⟨b, o, rfl, hc⟩ := h.at_ hn
    exact ⟨b, o, rfl, fun j hj => hg.cell (hc j hj) (by have := hne hn b o rfl; simp; omega)⟩⟩

theorem CurAt.next {w w' : World} {g : Nat} {A : Option Addr} {n c : Nat} {l : List UInt8} (hr : RB w A n c l) (hlt : 0 < n → ∀ b o, A = some ⟨b, o, none⟩ → b < g) (hG : w.grownBy w' (some g)) (i : Nat) (h : Int) (hi : i ≤ n)
    (hH : w'.heap[g]? = some (.cells #[.slice A n c, .int .i64 i, .int .i64 h] 124 (0, 0))) : CurAt w' g A n c l ∧ w.grownBy w' (some g) := ⟨⟨hr.off hG hlt, hlt, i, h, hi, hH⟩, hG⟩

set_option maxHeartbeats 1000000 in
theorem spec_l01Byte (g : Nat) (A : Option Addr) (n c : Nat) (l : List UInt8) (w : World) (hc : CurAt w g A n c l) :
    Calls Tryd.prog 100 #[.pointer (some ⟨g, 0, none⟩)] w fun e w' => (∃ x : Int, 0 ≤ x ∧ x ≤ 255 ∧ e = .returned (.int .i64 x)) ∧ CurAt w' g A n c l ∧ w.grownBy w' (some g) := by
  obtain ⟨hr, hlt, i, h, hi, hb⟩ := hc
  have hn := hr.nmax
  have c0 : w.cell? ⟨g, 0, none⟩ = some (.slice A n c) := by rw [cell_of_row _ g 0 _ _ _ hb]; rfl
  have c1 : w.cell? ⟨g, 1, none⟩ = some (.int .i64 i) := by rw [cell_of_row _ g 1 _ _ _ hb]; rfl
  have c2 : w.cell? ⟨g, 2, none⟩ = some (.int .i64 h) := by rw [cell_of_row _ g 2 _ _ _ hb]; rfl
  have f1 : w.frozen? ⟨g, 1, none⟩ = false := frozen_of_row w g 1 _ _ hb
  have f2 : w.frozen? ⟨g, 2, none⟩ = false := frozen_of_row w g 2 _ _ hb
  by_cases hin : i < n
  · obtain ⟨b, o, rfl, hcell⟩ := hr.at1 hin
    have hbg := hlt (by omega) b o rfl
    have hb1 := (List.getD l i 0).toNat_lt
    go_enter Tryd.func100, Tryd.ntmps100
    go_wp2_with fail
    go_quiet (fail)
    go_wp2_with fail
    go_quiet (fail)
    go_wp2_with fail
    go_quiet (fail)
    go_wp2_with fail
    go_ret
    refine ⟨⟨_, (and_bound _ 255 (by omega)).1, (and_bound _ 255 (by omega)).2, rfl⟩, CurAt.next hr hlt ?_ (i + 1) (wrap64 (wrap64 (h * 6364136223846793005) + 1442695040888963407)) (by omega) ?_⟩
    · exact ((grown_setCell w ⟨g, 2, none⟩ _).trans (grown_drewN _ _ _)).trans (grown_setCell _ ⟨g, 1, none⟩ _)
    · have e1 := heap_setCell_same w g 2 _ _ (.int .i64 (wrap64 (wrap64 (h * 6364136223846793005) + 1442695040888963407))) hb
      have e2 := heap_setCell_same (((w.setCell ⟨g, 2, none⟩ (.int .i64 (wrap64 (wrap64 (h * 6364136223846793005) + 1442695040888963407)))).drewN 0)) g 1 _ _ (.int .i64 ((i : Int) + 1)) e1
      exact e2
  · go_enter Tryd.func100, Tryd.ntmps100
    go_wp2_with fail
    go_quiet (fail)
    go_wp2_with fail
    go_quiet (fail)
    go_wp2_with fail
    go_ret
    refine ⟨⟨_, (and_bound _ 255 (by omega)).1, (and_bound _ 255 (by omega)).2, rfl⟩, CurAt.next hr hlt ?_ i (wrap64 (wrap64 (h * 6364136223846793005) + 1442695040888963407)) (by omega) ?_⟩
    · exact ((grown_setCell w ⟨g, 2, none⟩ _).trans (grown_drewN _ _ _)).trans (grown_drewN _ _ _)
    · exact heap_setCell_same w g 2 _ _ (.int .i64 (wrap64 (wrap64 (h * 6364136223846793005) + 1442695040888963407))) hb

theorem CurAt.below {w w' : World} {g : Nat} {A : Option Addr} {n c : Nat} {l : List UInt8} (h : CurAt w g A n c l) (hx : Below (g + 1) w w') : CurAt w' g A n c l := by
  obtain ⟨hr, hlt, i, k, hi, hb⟩ := h
  refine ⟨⟨hr.len, hr.cap, hr.cmax, hr.none_, fun hn => ?_⟩, hlt, i, k, hi, (hx.block g (by omega)).trans hb⟩
  obtain ⟨b, o, rfl, hc⟩ := hr.at_ hn
  exact ⟨b, o, rfl, fun j hj => (hx.cell (by have := hlt hn b o rfl; show b < g + 1; omega)).trans (hc j hj)⟩
theorem CurAt.ext {w w' : World} {g : Nat} {A : Option Addr} {n c : Nat} {l : List UInt8} (h : CurAt w g A n c l) (hx : Ext w w') : CurAt w' g A n c l := by
  obtain ⟨hr, hlt, i, k, hi, hb⟩ := h
  exact ⟨hr.ext hx, hlt, i, k, hi, (Below.block hx g (Array.getElem?_eq_some_iff.1 hb).1).trans hb⟩
theorem CurAt.lt {w : World} {g : Nat} {A : Option Addr} {n c : Nat} {l : List UInt8} (h : CurAt w g A n c l) : g < w.heap.size := by
  obtain ⟨_, _, i, k, hi, hb⟩ := h
  exact (Array.getElem?_eq_some_iff.1 hb).1
/-- a step of the cursor, seen from what was there before the cursor was made -/
theorem Ext.cur {W w w' : World} {g : Nat} (h : Ext W w) (hg : w.grownBy w' (some g)) (hW : W.heap.size ≤ g) : Ext W w' := Below.grown h hg h.size (fun k hk => by injection hk; omega)

set_option maxHeartbeats 1000000 in
theorem spec_l01Below (g : Nat) (A : Option Addr) (n c : Nat) (l : List UInt8) (m : Int) (w : World) (hc : CurAt w g A n c l) (hm : m ≤ 4611686018427387904) :
    Calls Tryd.prog 65 #[.pointer (some ⟨g, 0, none⟩), .int .i64 m] w fun e w' => (∃ x : Int, 0 ≤ x ∧ x < max m 1 ∧ e = .returned (.int .i64 x)) ∧ CurAt w' g A n c l ∧ w.grownBy w' (some g) := by
  by_cases h0 : m ≤ 0
  · go_enter Tryd.func65, Tryd.ntmps65
    go_wp2_with fail
    go_ret
    exact ⟨⟨0, by omega, by omega, rfl⟩, hc, World.grownBy.refl _ _⟩
  by_cases h1 : m ≤ 256
  · go_enter Tryd.func65, Tryd.ntmps65
    go_wp2_with fail
    refine (spec_l01Byte g A n c l _ hc).mono ?_; rintro e w1 ⟨⟨x, hx0, hx1, rfl⟩, hc1, hg1⟩
    go_wp2_with fail
    go_ret
    exact ⟨⟨x % m, Int.emod_nonneg _ (by omega), by have := Int.emod_lt_of_pos x (show 0 < m by omega); omega, rfl⟩, hc1, hg1⟩
  · go_enter Tryd.func65, Tryd.ntmps65
    go_wp2_with fail
    refine (spec_l01Byte g A n c l _ hc).mono ?_; rintro e w1 ⟨⟨x, hx0, hx1, rfl⟩, hc1, hg1⟩
    go_wp2_with fail
    refine (spec_l01Byte g A n c l _ hc1).mono ?_; rintro e w2 ⟨⟨y, hy0, hy1, rfl⟩, hc2, hg2⟩
    go_wp2_with fail
    refine (spec_l01Byte g A n c l _ hc2).mono ?_; rintro e w3 ⟨⟨z, hz0, hz1, rfl⟩, hc3, hg3⟩
    go_wp2_with fail
    refine (spec_l01Byte g A n c l _ hc3).mono ?_; rintro e w4 ⟨⟨u, hu0, hu1, rfl⟩, hc4, hg4⟩
    go_wp2_with fail
    go_ret
    exact ⟨⟨_, Int.emod_nonneg _ (by omega), by have := Int.emod_lt_of_pos (x * 16777216 + y * 65536 + z * 256 + u) (show 0 < m by omega); omega, rfl⟩, hc4, ((hg1.trans hg2).trans hg3).trans hg4⟩

theorem CurAt.made {w : World} {A : Option Addr} {n c : Nat} {l : List UInt8} (hr : RB w A n c l) (h : Int) :
    CurAt (w.alloc (.cells #[.slice A n c, .int .i64 0, .int .i64 h] 124)) w.heap.size A n c l := by
  refine ⟨hr.ext ((Ext.refl w).alloc _), fun hn b o e => ?_, 0, h, by omega, heap_alloc_new w _⟩
  obtain ⟨b', o', e', hc⟩ := hr.at_ hn
  rw [e] at e'
  injection e' with e'
  injection e' with e1 e2
  subst e1
  exact World.block_lt_of_cell? w ⟨b, o' + 0, none⟩ (hc 0 hn)

set_option maxRecDepth 100000 in
set_option maxHeartbeats 1000000 in
theorem spec_l01New (A : Option Addr) (n c : Nat) (l : List UInt8) (W : World) (hr : RB W A n c l) (hlen : n ≤ 4294967296) :
    Calls Tryd.prog 62 #[.slice A n c] W fun e w' => ∃ g, e = .returned (.pointer (some ⟨g, 0, none⟩)) ∧ W.heap.size ≤ g ∧ CurAt w' g A n c l ∧ Ext W w' := by
  have hn := hr.nmax
  go_enter Tryd.func62, Tryd.ntmps62
  go_wp2_with fail
  go_loopw [3, 4] (fun vh vi wr => ∃ (k : Nat) (h : Int), k ≤ n ∧ vi = .int .i64 k ∧ vh = .int .i64 h ∧ Ext W wr) (fun _ vi _ => n - (intOf vi).toNat)
  case atStart => exact ⟨0, _, by omega, rfl, rfl, Ext.refl _⟩
  case round =>
    obtain ⟨k, h, hk, rfl, rfl, hx⟩ := hrel
    by_cases hlt : k < n
    · obtain ⟨b, o, rfl, hcell⟩ := (hr.ext hx).at1 hlt
      have hb1 := (List.getD l k 0).toNat_lt
      by_cases h4 : k < 4000
      · go_wp2_with fail
        go_roundw
        case rel => exact ⟨k + 1, _, by omega, by go_num, rfl, hx⟩
        case measure => simp [intOf]; omega
      · go_wp2_with fail
        go_ret
        exact ⟨_, rfl, hx.size, CurAt.made (hr.ext hx) _, hx.alloc _⟩
    · go_wp2_with fail
      go_ret
      exact ⟨_, rfl, hx.size, CurAt.made (hr.ext hx) _, hx.alloc _⟩

set_option maxRecDepth 100000 in
set_option maxHeartbeats 1000000 in
theorem spec_l02Rune (g : Nat) (A : Option Addr) (n c : Nat) (l : List UInt8) (W : World) (hc : CurAt W g A n c l) :
    Calls Tryd.prog 101 #[.pointer (some ⟨g, 0, none⟩)] W fun e w' => (∃ x : Int, printable x = true ∧ e = .returned (.int .i64 x)) ∧ CurAt w' g A n c l ∧ W.grownBy w' (some g) := by
  go_enter Tryd.func101, Tryd.ntmps101
  go_wp2_with fail
  refine (spec_l01Below g A n c l 12 _ hc (by omega)).mono ?_; rintro e w1 ⟨⟨k, hk0, hk1, rfl⟩, hc1, hg1⟩
  by_cases h9 : k < 9
  · go_wp2_with fail
    refine (spec_l01Below g A n c l 16 _ (hc1.ext ((Ext.refl _).alloc _)) (by omega)).mono ?_; rintro e w2 ⟨⟨x, hx0, hx1, rfl⟩, hc2, hg2⟩
    obtain ⟨x, rfl⟩ := Int.eq_ofNat_of_zero_le hx0
    have hx : x < 16 := by omega
    have hlt1 := hc1.lt
    have hcell : ∃ r, printable r = true ∧ w2.cell? ⟨w1.heap.size, x, none⟩ = some (.int .i64 r) := by
      refine ⟨[97, 98, 99, 120, 49, 50, 32, 32, 46, 45, 95, 233, 4352, 20013, 128512, 47].getD x 0, ?_, ?_⟩
      · exact (show ∀ y : Fin 16, printable ([97, 98, 99, 120, 49, 50, 32, 32, 46, 45, 95, 233, 4352, 20013, 128512, 47].getD y.1 0) = true by decide) ⟨x, hx⟩
      · refine hg2.cell ?_ (by simp; omega)
        exact lit_cell w1 [97, 98, 99, 120, 49, 50, 32, 32, 46, 45, 95, 233, 4352, 20013, 128512, 47] (by simpa using hx)
    obtain ⟨r, hr1, hr2⟩ := hcell
    go_wp2_with fail
    go_ret
    exact ⟨⟨r, hr1, rfl⟩, hc2, (hg1.trans (World.grownBy_alloc _ _ _)).trans hg2⟩
  by_cases h10 : k = 9
  · subst h10
    go_wp2_with fail
    refine (spec_l01Below g A n c l 94 _ hc1 (by omega)).mono ?_; rintro e w2 ⟨⟨x, hx0, hx1, rfl⟩, hc2, hg2⟩
    go_wp2_with fail
    go_ret
    exact ⟨⟨_, by simp [printable, runeOk, inB]; omega, rfl⟩, hc2, hg1.trans hg2⟩
  by_cases h11 : k = 10
  · subst h11
    go_wp2_with fail
    refine (spec_l01Below g A n c l 300 _ hc1 (by omega)).mono ?_; rintro e w2 ⟨⟨x, hx0, hx1, rfl⟩, hc2, hg2⟩
    go_wp2_with fail
    go_ret
    exact ⟨⟨_, by simp [printable, runeOk, inB]; omega, rfl⟩, hc2, hg1.trans hg2⟩
  · go_wp2_with fail
    refine (spec_l01Below g A n c l 2000 _ hc1 (by omega)).mono ?_; rintro e w2 ⟨⟨x, hx0, hx1, rfl⟩, hc2, hg2⟩
    go_wp2_with fail
    go_ret
    exact ⟨⟨_, by simp [printable, runeOk, inB]; omega, rfl⟩, hc2, hg1.trans hg2⟩


end Go.Proofs.YtohjjhoobikioaaDoor
