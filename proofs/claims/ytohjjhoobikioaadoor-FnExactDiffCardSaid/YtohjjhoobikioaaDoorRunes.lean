/-
  RuneBytes and TextOf of both packages.
-/
import Derived.Test.YtohjjhoobikioaaDoorBytes
namespace Go.Proofs.YtohjjhoobikioaaDoor
open Go.RowKit

def by8 (x : Int) : UInt8 := UInt8.ofNat x.toNat
def runeBytes (r : Int) : List UInt8 :=
  if runeOk r = false then [] else if r < 128 then [by8 r] else if r < 2048 then [by8 (192 + r / 64), by8 (128 + r % 64)]
  else if r < 65536 then [by8 (224 + r / 4096), by8 (128 + r / 64 % 64), by8 (128 + r % 64)]
  else [by8 (240 + r / 262144), by8 (128 + r / 4096 % 64), by8 (128 + r / 64 % 64), by8 (128 + r % 64)]
def textOf (l : List Int) : List UInt8 := l.flatMap runeBytes
theorem by8_nat {x : Int} (h0 : 0 ≤ x) (h1 : x < 256) : ((by8 x).toNat : Int) = x := by
  unfold by8; rw [UInt8.toNat_ofNat']; omega
theorem runeOk_range {r : Int} (h : runeOk r = true) : 0 ≤ r ∧ r ≤ 1114111 := by
  simp [runeOk, inB] at h; omega
theorem runeBytes_len (r : Int) : (runeBytes r).length ≤ 4 := by
  unfold runeBytes; repeat' split
  all_goals simp
theorem textOf_len (l : List Int) : (textOf l).length ≤ 4 * l.length := by
  induction l with
  | nil => simp [textOf]
  | cons a t ih =>
    have := runeBytes_len a
    simp only [textOf, List.flatMap_cons, List.length_append, List.length_cons] at *
    omega
theorem RB.lit (w : World) (vs : List Value) (l : List UInt8) (h : vs = l.map byteC) (hl : l.length ≤ 16) : RB (w.alloc (.cells vs.toArray 5)) (some ⟨w.heap.size, 0, none⟩) l.length l.length l :=
  ⟨rfl, Nat.le_refl _, by omega, (fun h => nomatch h), fun _ => ⟨_, _, rfl, fun j hj => by
    subst h
    rw [cell_of_row _ w.heap.size (0 + j) _ _ (0, 0) (heap_alloc_new w _)]; simp [hj, byteC]⟩⟩

set_option maxHeartbeats 1000000 in
theorem impl_RuneBytes (r : Int) (w : World) : Calls Tryd.prog 105 #[.int .i64 r] w fun e w' => ∃ A n c, e = .returned (.slice A n c) ∧ RB w' A n c (runeBytes r) ∧ Ext w w' := by
  cases h0 : runeOk r
  · have E : Hid (runeBytes r = []) := by show _ = _; simp [runeBytes, h0]
    go_enter Tryd.func105, Tryd.ntmps105
    go_wp2_with fail
    have k1 := impl_RuneOk r w
    rw [h0] at k1
    refine k1.mono ?_; rintro e w1 ⟨rfl, rfl⟩
    clear k1
    go_wp2_with fail
    go_ret
    exact ⟨none, 0, 0, rfl, by rw [E.out]; exact RB.nil _, Ext.refl _⟩
  obtain ⟨r0, r1⟩ := runeOk_range h0
  by_cases h1 : r < 128
  · have E : Hid (runeBytes r = [by8 r]) := by show _ = _; simp [runeBytes, h0, h1]
    have B1 := by8_nat (x := r) (by omega) (by omega)
    have HB1 := Lib.hid B1; clear B1
    go_enter Tryd.func105, Tryd.ntmps105
    go_wp2_with fail
    have k1 := impl_RuneOk r w
    rw [h0] at k1
    refine k1.mono ?_; rintro e w1 ⟨rfl, rfl⟩
    clear k1
    go_wp2_with fail
    go_ret
    refine ⟨_, 1, 1, rfl, ?_, (Ext.refl _).alloc _⟩
    rw [E.out]
    exact RB.lit w [_] [by8 r] (by simp [byteC, HB1.out]) (by simp)
  by_cases h2 : r < 2048
  · have E : Hid (runeBytes r = [by8 (192 + r / 64), by8 (128 + r % 64)]) := by show _ = _; simp [runeBytes, h0, h1, h2]
    have HB1 := Lib.hid (by8_nat (x := 192 + r / 64) (by omega) (by omega))
    have HB2 := Lib.hid (by8_nat (x := 128 + r % 64) (by omega) (by omega))
    go_enter Tryd.func105, Tryd.ntmps105
    go_wp2_with fail
    have k1 := impl_RuneOk r w
    rw [h0] at k1
    refine k1.mono ?_; rintro e w1 ⟨rfl, rfl⟩
    clear k1
    go_wp2_with fail
    go_ret
    refine ⟨_, 2, 2, rfl, ?_, (Ext.refl _).alloc _⟩
    rw [E.out]
    exact RB.lit w [_, _] [by8 (192 + r / 64), by8 (128 + r % 64)] (by simp [byteC, HB1.out, HB2.out]) (by simp)
  by_cases h3 : r < 65536
  · have E : Hid (runeBytes r = [by8 (224 + r / 4096), by8 (128 + r / 64 % 64), by8 (128 + r % 64)]) := by show _ = _; simp [runeBytes, h0, h1, h2, h3]
    have HB1 := Lib.hid (by8_nat (x := 224 + r / 4096) (by omega) (by omega))
    have HB2 := Lib.hid (by8_nat (x := 128 + r / 64 % 64) (by omega) (by omega))
    have HB3 := Lib.hid (by8_nat (x := 128 + r % 64) (by omega) (by omega))
    go_enter Tryd.func105, Tryd.ntmps105
    go_wp2_with fail
    have k1 := impl_RuneOk r w
    rw [h0] at k1
    refine k1.mono ?_; rintro e w1 ⟨rfl, rfl⟩
    clear k1
    go_wp2_with fail
    go_ret
    refine ⟨_, 3, 3, rfl, ?_, (Ext.refl _).alloc _⟩
    rw [E.out]
    exact RB.lit w [_, _, _] [by8 (224 + r / 4096), by8 (128 + r / 64 % 64), by8 (128 + r % 64)] (by simp [byteC, HB1.out, HB2.out, HB3.out]) (by simp)
  have E : Hid (runeBytes r = [by8 (240 + r / 262144), by8 (128 + r / 4096 % 64), by8 (128 + r / 64 % 64), by8 (128 + r % 64)]) := by show _ = _; simp [runeBytes, h0, h1, h2, h3]
  have HB1 := Lib.hid (by8_nat (x := 240 + r / 262144) (by omega) (by omega))
  have HB2 := Lib.hid (by8_nat (x := 128 + r / 4096 % 64) (by omega) (by omega))
  have HB3 := Lib.hid (by8_nat (x := 128 + r / 64 % 64) (by omega) (by omega))
  have HB4 := Lib.hid (by8_nat (x := 128 + r % 64) (by omega) (by omega))
  go_enter Tryd.func105, Tryd.ntmps105
  go_wp2_with fail
  have k1 := impl_RuneOk r w
  rw [h0] at k1
  refine k1.mono ?_; rintro e w1 ⟨rfl, rfl⟩
  clear k1
  go_wp2_with fail
  go_ret
  refine ⟨_, 4, 4, rfl, ?_, (Ext.refl _).alloc _⟩
  rw [E.out]
  exact RB.lit w [_, _, _, _] [by8 (240 + r / 262144), by8 (128 + r / 4096 % 64), by8 (128 + r / 64 % 64), by8 (128 + r % 64)] (by simp [byteC, HB1.out, HB2.out, HB3.out, HB4.out]) (by simp)

set_option maxHeartbeats 1000000 in
theorem spec_RuneBytes (r : Int) (w : World) : Calls Tryd.prog 76 #[.int .i64 r] w fun e w' => ∃ A n c, e = .returned (.slice A n c) ∧ RB w' A n c (runeBytes r) ∧ Ext w w' := by
  cases h0 : runeOk r
  · have E : Hid (runeBytes r = []) := by show _ = _; simp [runeBytes, h0]
    go_enter Tryd.func76, Tryd.ntmps76
    go_wp2_with fail
    have k1 := spec_RuneOk r w
    rw [h0] at k1
    refine k1.mono ?_; rintro e w1 ⟨rfl, rfl⟩
    clear k1
    go_wp2_with fail
    go_ret
    exact ⟨none, 0, 0, rfl, by rw [E.out]; exact RB.nil _, Ext.refl _⟩
  obtain ⟨r0, r1⟩ := runeOk_range h0
  by_cases h1 : r < 128
  · have E : Hid (runeBytes r = [by8 r]) := by show _ = _; simp [runeBytes, h0, h1]
    have B1 := by8_nat (x := r) (by omega) (by omega)
    have HB1 := Lib.hid B1; clear B1
    go_enter Tryd.func76, Tryd.ntmps76
    go_wp2_with fail
    have k1 := spec_RuneOk r w
    rw [h0] at k1
    refine k1.mono ?_; rintro e w1 ⟨rfl, rfl⟩
    clear k1
    go_wp2_with fail
    go_ret
    refine ⟨_, 1, 1, rfl, ?_, (Ext.refl _).alloc _⟩
    rw [E.out]
    exact RB.lit w [_] [by8 r] (by simp [byteC, HB1.out]) (by simp)
  by_cases h2 : r < 2048
  · have E : Hid (runeBytes r = [by8 (192 + r / 64), by8 (128 + r % 64)]) := by show _ = _; simp [runeBytes, h0, h1, h2]
    have HB1 := Lib.hid (by8_nat (x := 192 + r / 64) (by omega) (by omega))
    have HB2 := Lib.hid (by8_nat (x := 128 + r % 64) (by omega) (by omega))
    go_enter Tryd.func76, Tryd.ntmps76
    go_wp2_with fail
    have k1 := spec_RuneOk r w
    rw [h0] at k1
    refine k1.mono ?_; rintro e w1 ⟨rfl, rfl⟩
    clear k1
    go_wp2_with fail
    go_ret
    refine ⟨_, 2, 2, rfl, ?_, (Ext.refl _).alloc _⟩
    rw [E.out]
    exact RB.lit w [_, _] [by8 (192 + r / 64), by8 (128 + r % 64)] (by simp [byteC, HB1.out, HB2.out]) (by simp)
  by_cases h3 : r < 65536
  · have E : Hid (runeBytes r = [by8 (224 + r / 4096), by8 (128 + r / 64 % 64), by8 (128 + r % 64)]) := by show _ = _; simp [runeBytes, h0, h1, h2, h3]
    have HB1 := Lib.hid (by8_nat (x := 224 + r / 4096) (by omega) (by omega))
    have HB2 := Lib.hid (by8_nat (x := 128 + r / 64 % 64) (by omega) (by omega))
    have HB3 := Lib.hid (by8_nat (x := 128 + r % 64) (by omega) (by omega))
    go_enter Tryd.func76, Tryd.ntmps76
    go_wp2_with fail
    have k1 := spec_RuneOk r w
    rw [h0] at k1
    refine k1.mono ?_; rintro e w1 ⟨rfl, rfl⟩
    clear k1
    go_wp2_with fail
    go_ret
    refine ⟨_, 3, 3, rfl, ?_, (Ext.refl _).alloc _⟩
    rw [E.out]
    exact RB.lit w [_, _, _] [by8 (224 + r / 4096), by8 (128 + r / 64 % 64), by8 (128 + r % 64)] (by simp [byteC, HB1.out, HB2.out, HB3.out]) (by simp)
  have E : Hid (runeBytes r = [by8 (240 + r / 262144), by8 (128 + r / 4096 % 64), by8 (128 + r / 64 % 64), by8 (128 + r % 64)]) := by show _ = _; simp [runeBytes, h0, h1, h2, h3]
  have HB1 := Lib.hid (by8_nat (x := 240 + r / 262144) (by omega) (by omega))
  have HB2 := Lib.hid (by8_nat (x := 128 + r / 4096 % 64) (by omega) (by omega))
  have HB3 := Lib.hid (by8_nat (x := 128 + r / 64 % 64) (by omega) (by omega))
  have HB4 := Lib.hid (by8_nat (x := 128 + r % 64) (by omega) (by omega))
  go_enter Tryd.func76, Tryd.ntmps76
  go_wp2_with fail
  have k1 := spec_RuneOk r w
  rw [h0] at k1
  refine k1.mono ?_; rintro e w1 ⟨rfl, rfl⟩
  clear k1
  go_wp2_with fail
  go_ret
  refine ⟨_, 4, 4, rfl, ?_, (Ext.refl _).alloc _⟩
  rw [E.out]
  exact RB.lit w [_, _, _, _] [by8 (240 + r / 262144), by8 (128 + r / 4096 % 64), by8 (128 + r / 64 % 64), by8 (128 + r % 64)] (by simp [byteC, HB1.out, HB2.out, HB3.out, HB4.out]) (by simp)
end Go.Proofs.YtohjjhoobikioaaDoor
