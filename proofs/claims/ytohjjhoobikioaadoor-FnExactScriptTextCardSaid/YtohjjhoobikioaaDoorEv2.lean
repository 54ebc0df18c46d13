/-
  HexOf at one byte.
-/
import Derived.Test.YtohjjhoobikioaaDoorEvPure
import Derived.Test.YtohjjhoobikioaaDoorSep
import Derived.Deep.RegionWith
namespace Go.Proofs.YtohjjhoobikioaaDoor
open Go.RowKit

theorem hexAt : ∀ i : Fin 16, ((ByteArray.mk #[48, 49, 50, 51, 52, 53, 54, 55, 56, 57, 97, 98, 99, 100, 101, 102])[i.1]'(i.2)).toNat = (hexD (i.1 : Int)).toNat := by decide +kernel
theorem RB.two {w : World} {g cap : Nat} {a b : UInt8} {rest : Array Value} {x y : Value} (h : w.heap[g]? = some (.cells (#[x, y] ++ rest) 5 (0, 0))) (h1 : 2 ≤ cap) (h2 : cap ≤ 9223372036854775807) (hx : x = byteC a) (hy : y = byteC b) : RB w (some ⟨g, 0, none⟩) 2 cap [a, b] := by
  subst hx; subst hy
  refine ⟨rfl, h1, h2, (fun e => nomatch e), fun _ => ⟨g, 0, rfl, fun j hj => ?_⟩⟩
  rw [cell_of_row _ g (0 + j) _ _ (0, 0) h, Nat.zero_add]
  have hj2 : j = 0 ∨ j = 1 := by omega
  rcases hj2 with rfl | rfl <;> (rw [Array.getElem?_append_left (by simp)]; rfl)
theorem two_new (w : World) (o : Obj) (cs : Array Value) (T : TypeId) : (((w.alloc o).alloc (.cells cs T)).drew.drew).heap[w.heap.size + 1]? = some (.cells cs T (0, 0)) := by
  have := heap_alloc_new (w.alloc o) (.cells cs T)
  rw [World.size_alloc] at this
  exact this

set_option maxRecDepth 100000 in
set_option maxHeartbeats 1000000 in
theorem impl_HexOf1 (x : Nat) (hx0 : x < 256) (b c : Nat) (W : World) (h : RB W (some ⟨b, 0, none⟩) 1 c [by8 x]) :
    Calls Tryd.prog 96 #[.slice (some ⟨b, 0, none⟩) 1 c] W fun e w' => e = .returned (.string ⟨(hex2 x).toArray⟩) ∧ Ext W w' := by
  have hc : ∀ w', Ext W w' → w'.cell? ⟨b, 0, none⟩ = some (.int .u8 (x : Int)) := fun w' e => by
    obtain ⟨b', o', eA, hc⟩ := (h.ext e).at1 (k := 0) (by omega)
    injection eA with eA; injection eA with e1 e2; subst e1; subst e2
    have := by8_nat (x := x) (by omega) (by omega)
    rw [hc]; simp [this]
  have HC := Lib.hid hc; clear hc
  go_enter Tryd.func96, Tryd.ntmps96
  go_wp2_with fail
  go_loopw [8, 3] (fun vi vo wr => (vi = .int .i64 0 ∧ vo = .slice none 0 0 ∧ Ext W wr) ∨ (vi = .int .i64 1 ∧ (∃ g cap, vo = .slice (some ⟨g, 0, none⟩) 2 cap ∧ RB wr (some ⟨g, 0, none⟩) 2 cap (hex2 x)) ∧ Ext W wr)) (fun vi _ _ => 1 - (intOf vi).toNat)
  case atStart => exact .inl ⟨rfl, rfl, Ext.refl _⟩
  case round =>
    rcases hrel with ⟨rfl, rfl, hx⟩ | ⟨rfl, own, hx⟩
    · have hc := HC.out _ hx
      have hb : bits .and .u8 (x : Int) 15 = (x : Int) % 16 := (show ∀ y : Fin 256, bits .and .u8 (y.1 : Int) 15 = (y.1 : Int) % 16 by decide) ⟨x, hx0⟩
      go_wp2_with fail
      go_region_with (fail)
      all_goals
        go_wp2_with fail
        go_roundw
        case rel =>
          refine .inr ⟨by go_num, ⟨_, _, rfl, ?_⟩, (((hx.alloc _).alloc _).drew).drew⟩
          refine RB.two (two_new wr _ _ _) (grownCap_ge wr.drew 2 0 5) ?_ ?_ ?_
          · have := grownCap_le_maxLen wr.drew 2 0 5 (by unfold maxLen; omega)
            unfold maxLen at this; exact Nat.le_trans this (by omega)
          · exact congrArg (fun k : Nat => Value.int .u8 (k : Int)) (hexAt ⟨x / 16, by omega⟩)
          · exact congrArg (fun k : Nat => Value.int .u8 (k : Int)) (hexAt ⟨x % 16, by omega⟩)
        case measure => simp [intOf]
    · obtain ⟨g, cap, rfl, r1⟩ := own
      go_wp2_with ((with_reducible refine wp_toStr (A := some ⟨g, 0, none⟩) (n := 2) (c := cap) (l := hex2 x) ?_ r1 ?_); go_must (exact rfl))
      go_ret
      exact ⟨rfl, hx⟩
theorem spec_l01Digit (k : Int) (h0 : 0 ≤ k) (hk : k < 16) (w : World) : Calls Tryd.prog 93 #[.int .i64 k] w fun e w' => e = .returned (.int .u8 (hexD k).toNat) ∧ w = w' := by
  by_cases h : k < 10
  · have E : Hid ((((hexD k).toNat : Nat) : Int) = 48 + k) := by
      show _ = _
      unfold hexD
      rw [if_pos h]
      exact by8_nat (by omega) (by omega)
    go_enter Tryd.func93, Tryd.ntmps93
    go_wp2_with fail
    go_ret
    exact ⟨by rw [E.out]; rfl, rfl⟩
  · have E : Hid ((((hexD k).toNat : Nat) : Int) = 87 + k) := by
      show _ = _
      unfold hexD
      rw [if_neg h]
      exact by8_nat (by omega) (by omega)
    go_enter Tryd.func93, Tryd.ntmps93
    go_wp2_with fail
    go_ret
    exact ⟨by rw [E.out]; exact ret_i (by omega), rfl⟩
set_option maxRecDepth 100000 in
set_option maxHeartbeats 2000000 in
theorem spec_HexOf1 (x : Nat) (hx0 : x < 256) (b c : Nat) (W : World) (h : RB W (some ⟨b, 0, none⟩) 1 c [by8 x]) :
    Calls Tryd.prog 57 #[.slice (some ⟨b, 0, none⟩) 1 c] W fun e w' => e = .returned (.string ⟨(hex2 x).toArray⟩) ∧ Ext W w' := by
  have hc : ∀ w', Ext W w' → w'.cell? ⟨b, 0, none⟩ = some (.int .u8 (x : Int)) := fun w' e => by
    obtain ⟨b', o', eA, hc⟩ := (h.ext e).at1 (k := 0) (by omega)
    injection eA with eA; injection eA with e1 e2; subst e1; subst e2
    have := by8_nat (x := x) (by omega) (by omega)
    rw [hc]; simp [this]
  have HC := Lib.hid hc; clear hc
  go_enter Tryd.func57, Tryd.ntmps57
  go_wp2_with fail
  go_loopw [4, 3] (fun vi vo wr => (vi = .int .i64 0 ∧ vo = .slice (some ⟨W.heap.size, 0, none⟩) 0 0 ∧ Ext W wr) ∨ (vi = .int .i64 1 ∧ (∃ g cap, vo = .slice (some ⟨g, 0, none⟩) 2 cap ∧ RB wr (some ⟨g, 0, none⟩) 2 cap (hex2 x)) ∧ Ext W wr)) (fun vi _ _ => 1 - (intOf vi).toNat)
  case atStart => exact .inl ⟨rfl, rfl, (Ext.refl _).alloc _⟩
  case round =>
    rcases hrel with ⟨rfl, rfl, hx⟩ | ⟨rfl, own, hx⟩
    · have hc := HC.out _ hx
      have hlb := World.block_lt_of_cell? wr _ hc
      have e1 : IntKind.i64.wrap (x : Int) = x := IntWalk.i64_in _ (by omega)
      have hA : IntKind.i64.wrap ((IntKind.i64.wrap (x : Int)).tdiv 16) = (x : Int) / 16 := by
        rw [e1, Int.tdiv_eq_ediv_of_nonneg (by omega)]; exact IntWalk.i64_in _ (by omega)
      have hB : (IntKind.i64.wrap (x : Int)).tmod 16 = (x : Int) % 16 := by
        rw [e1, Int.tmod_eq_emod_of_nonneg (by omega)]
      have HA := Lib.hid hA; have HB := Lib.hid hB; clear hA hB e1
      go_wp2_with fail
      go_region_with (go_at_call 93; first | (rw [HA.out]; refine Calls.mono (spec_l01Digit _ (by omega) (by omega) _) ?_; rintro e w' ⟨rfl, rfl⟩) | (rw [HB.out]; refine Calls.mono (spec_l01Digit _ (by omega) (by omega) _) ?_; rintro e w' ⟨rfl, rfl⟩))
      all_goals
        go_wp2_with fail
        go_roundw
        case rel =>
          refine .inr ⟨by go_num, ⟨_, _, rfl, ?_⟩, (((hx.alloc _).alloc _).drew).drew⟩
          refine RB.two (two_new wr _ _ _) (grownCap_ge wr.drew 2 0 5) ?_ rfl rfl
          have := grownCap_le_maxLen wr.drew 2 0 5 (by unfold maxLen; omega)
          unfold maxLen at this; exact Nat.le_trans this (by omega)
        case measure => simp [intOf]
    · obtain ⟨g, cap, rfl, r1⟩ := own
      go_wp2_with ((with_reducible refine wp_toStr (A := some ⟨g, 0, none⟩) (n := 2) (c := cap) (l := hex2 x) ?_ r1 ?_); go_must (exact rfl))
      go_ret
      exact ⟨rfl, hx⟩
end Go.Proofs.YtohjjhoobikioaaDoor
