/-
  impl.GridText.
-/
import Derived.Test.YthphmhbcpjmkoaaGridText
import Derived.Test.YthphmhbcpjmkoaaStrs
import Derived.Test.YthphmhbcpjmkoaaShelf
import Derived.Lib.Join
namespace Go.Proofs.Ythphmhbcpjmkoaa
open Go.RowKit

def rowsL (g : Gr) : Nat → List (List UInt8)
  | 0 => []
  | k + 1 => rowsL g k ++ [gridRow g k ++ [10]]
def lastN (g : Gr) : Nat → Nat
  | 0 => 0
  | k + 1 => if gridRow g k = [] then lastN g k else k + 1
theorem rowsL_len (g : Gr) (k : Nat) : (rowsL g k).length = k := by
  induction k with
  | zero => rfl
  | succ k ih => simp [rowsL, ih]
theorem lastN_le (g : Gr) (k : Nat) : lastN g k ≤ k := by
  induction k with
  | zero => simp [lastN]
  | succ k ih => unfold lastN; split <;> omega
theorem gtS_rows (g : Gr) (k : Nat) : (gtS g k).1 = ((rowsL g k).take (lastN g k)).flatten ∧ (gtS g k).2 = ((rowsL g k).drop (lastN g k)).flatten := by
  induction k with
  | zero => simp [gtS, rowsL]
  | succ k ih =>
    have h1 := lastN_le g k
    have h2 := rowsL_len g k
    by_cases hs : gridRow g k = []
    · rw [gtS_none g k hs]
      have e : lastN g (k + 1) = lastN g k := by show (if _ then _ else _) = _; rw [if_pos hs]
      rw [e, show rowsL g (k + 1) = rowsL g k ++ [gridRow g k ++ [10]] from rfl, List.take_append_of_le_length (by omega), List.drop_append_of_le_length (by omega)]
      simp [ih.1, ih.2]
    · rw [gtS_some g k hs]
      have e : lastN g (k + 1) = k + 1 := by show (if _ then _ else _) = _; rw [if_neg hs]
      rw [e, List.take_of_length_le (by rw [rowsL_len]; omega), List.drop_of_length_le (by rw [rowsL_len]; omega), show rowsL g (k + 1) = rowsL g k ++ [gridRow g k ++ [10]] from rfl]
      refine ⟨?_, rfl⟩
      rw [ih.1, ih.2, ← List.append_assoc, ← List.append_assoc, ← List.flatten_append, List.take_append_drop]
      simp
theorem join_none (l : List (List UInt8)) : Lib.join l [] = l.flatten := by
  cases l with
  | nil => rfl
  | cons a t => rw [Lib.join_cons]; simp [Lib.joinTail]
theorem map_back (l : List (List UInt8)) : ((l.map fun s => (⟨s.toArray⟩ : ByteArray)).map (·.data.toList)) = l := by
  rw [List.map_map]
  conv => rhs; rw [← List.map_id l]
  apply List.map_congr_left; intro a _; simp

set_option maxRecDepth 100000 in
set_option maxHeartbeats 2000000 in
theorem impl_GridText (W H X Y : Int) (R : Bool) (C : List Int) (A : Option Addr) (n c : Nat) (w : World) (hC : RI w A n c C) :
    Calls Try.prog 22 #[.agg #[.int .i64 W, .int .i64 H, .slice A n c, .int .i64 X, .int .i64 Y, .bool R]] w fun e w' => e = .returned (.string ⟨(gridText ⟨W, H, C, X, Y, R⟩).toArray⟩) ∧ Ext w w' := by
  have X0 := (Ext.refl w).alloc (.cells #[.int .i64 W, .int .i64 H, .slice A n c, .int .i64 X, .int .i64 Y, .bool R] 27)
  have Hb := Lib.hid (row_new w (.cells #[.int .i64 W, .int .i64 H, .slice A n c, .int .i64 X, .int .i64 Y, .bool R] 27))
  cases hg : gridOk ⟨W, H, C, X, Y, R⟩
  · have E : Hid (gridText ⟨W, H, C, X, Y, R⟩ = []) := by show _ = _; simp [gridText, hg]
    by_cases hH : 0 < H
    all_goals
      go_enter Try.func22, Try.ntmps22
      go_wp2_with fail
      go_loopw [3, 4, 9] (fun vr vl vy wr => vr = .slice none 0 0 ∧ vl = .int .i64 0 ∧ vy = .int .i64 0 ∧ wr = w.alloc (.cells #[.int .i64 W, .int .i64 H, .slice A n c, .int .i64 X, .int .i64 Y, .bool R] 27)) (fun _ _ _ _ => 0)
      case atStart => exact ⟨rfl, rfl, rfl, rfl⟩
    case round =>
      obtain ⟨rfl, rfl, rfl, rfl⟩ := hrel
      go_wp2_with fail
      have k1 := impl_GridOk W H X Y R C A n c _ (hC.ext X0)
      rw [hg] at k1
      refine k1.mono ?_; rintro e w1 ⟨rfl, x1⟩
      clear k1
      go_wp2_with fail
      go_ret
      exact ⟨by rw [E.out]; rfl, X0.trans x1⟩
    case round =>
      obtain ⟨rfl, rfl, rfl, rfl⟩ := hrel
      go_wp2_with fail
      refine (Try.strings_Join_none _ _ _ _).mono ?_; rintro e w1 ⟨rfl, rfl⟩
      go_wp2_with fail
      go_ret
      exact ⟨by rw [E.out]; rfl, X0⟩
  obtain ⟨⟨-, -, a3, a4, -, -⟩, -, -⟩ := gridOk_iff.1 hg
  simp only at a3 a4
  obtain ⟨Hn, hHn⟩ : ∃ Hn : Nat, (Hn : Int) = H := ⟨H.toNat, by omega⟩
  have E : Hid (gridText ⟨W, H, C, X, Y, R⟩ = (gtS ⟨W, H, C, X, Y, R⟩ Hn).1) := by
    show _ = _
    unfold gridText; rw [if_pos hg]; simp only; rw [← hHn]; rfl
  have HH := Lib.hid hHn
  go_enter Try.func22, Try.ntmps22
  go_wp2_with fail
  go_loopw [3, 4, 9] (fun vr vl vy wr => ∃ k : Nat, k ≤ Hn ∧ OwnS wr (w.heap.size + 1) vr (rowsL ⟨W, H, C, X, Y, R⟩ k) ∧ vl = .int .i64 (lastN ⟨W, H, C, X, Y, R⟩ k : Nat) ∧ vy = .int .i64 k ∧ Ext (w.alloc (.cells #[.int .i64 W, .int .i64 H, .slice A n c, .int .i64 X, .int .i64 Y, .bool R] 27)) wr) (fun _ _ vy _ => Hn - (intOf vy).toNat)
  case atStart => exact ⟨0, by omega, OwnS.nil _ _, rfl, rfl, Ext.refl _⟩
  case round =>
    obtain ⟨k, hk, own, rfl, rfl, hx⟩ := hrel
    have X1 := X0.trans hx
    by_cases hlt : k < Hn
    · have hlt' : (k : Int) < H := by omega
      obtain ⟨lc, -, ls⟩ := rowAll (row_ext Hb.out hx)
      go_wp2_with fail
      have k1 := impl_GridOk W H X Y R C A n c _ (hC.ext X1)
      rw [hg] at k1
      refine k1.mono ?_; rintro e w1 ⟨rfl, x1⟩
      clear k1 lc ls
      obtain ⟨lc, -, ls⟩ := rowAll (row_ext Hb.out (hx.trans x1))
      go_wp2_with fail
      refine (impl_GridRow W H X Y R C A n c k _ (hC.ext (X1.trans x1))).mono ?_; rintro e w2 ⟨rfl, x2⟩
      have x12 := (hx.trans x1).trans x2
      have X2 := X0.trans x12
      have own2 := (own.ext x1).ext x2
      have h2 := gridRow_len ⟨W, H, C, X, Y, R⟩ k
      have h3 := rowsL_len ⟨W, H, C, X, Y, R⟩ k
      have HR : Hid (rowsL ⟨W, H, C, X, Y, R⟩ (k + 1) = rowsL ⟨W, H, C, X, Y, R⟩ k ++ [gridRow ⟨W, H, C, X, Y, R⟩ k ++ [10]]) := rfl
      have HL : Hid (lastN ⟨W, H, C, X, Y, R⟩ (k + 1) = if gridRow ⟨W, H, C, X, Y, R⟩ k = [] then lastN ⟨W, H, C, X, Y, R⟩ k else k + 1) := rfl
      have hB2 := X2.size
      have ownH := Lib.hid ((own2.alloc (.cells #[.string ⟨(gridRow ⟨W, H, C, X, Y, R⟩ k ++ [10]).toArray⟩] 9)))
      generalize gridRow ⟨W, H, C, X, Y, R⟩ k = s at *
      clear lc ls
      go_wp2_with (first
        | ((with_reducible refine wp_addS (l := s) (m := [10]) ?_ ?_ ?_ ?_); go_must (exact rfl); go_must (exact rfl); go_must (simp; omega))
        | (at_builtin; refine wp_appS rfl _ _ rfl rfl (own2.alloc _) rfl (RS.new _ [s ++ [10]] (by simp)) (by simp; omega) (by simp; omega) ?_))
      intro v' w3 own3 hg3 _
      have x3 : Ext (w.alloc (.cells #[.int .i64 W, .int .i64 H, .slice A n c, .int .i64 X, .int .i64 Y, .bool R] 27)) w3 :=
        Below.grown (x12.alloc (.cells #[.string ⟨(s ++ [10]).toArray⟩] 9)) hg3 (by simpa using (x12.alloc (.cells #[.string ⟨(s ++ [10]).toArray⟩] 9)).size) (fun b hb => by have := (ownH.out.lt b hb).1; simpa using this)
      clear hg3
      cases s with
      | nil =>
        have E1 := Lib.hid (HL.out.trans (if_pos rfl))
        clear HL
        go_wp2_with fail
        go_roundw
        case rel => exact ⟨k + 1, by omega, by rw [HR.out]; exact own3, by rw [E1.out], by go_num, x3⟩
        case measure => simp [intOf]; omega
      | cons c0 s0 =>
        have E1 := Lib.hid (HL.out.trans (if_neg (List.cons_ne_nil _ _)))
        clear HL
        go_wp2_with fail
        go_roundw
        case rel => exact ⟨k + 1, by omega, by rw [HR.out]; exact own3, by rw [E1.out]; go_num, by go_num, x3⟩
        case measure => simp [intOf]; omega
    · have hlt' : ¬ (k : Int) < H := by omega
      obtain ⟨lc, -, ls⟩ := rowAll (row_ext Hb.out hx)
      have h3 := rowsL_len ⟨W, H, C, X, Y, R⟩ k
      have h4 := lastN_le ⟨W, H, C, X, Y, R⟩ k
      obtain ⟨A1, c1, rfl, r1⟩ := own.form
      have hcp := r1.cap
      rw [h3] at r1 hcp
      obtain rfl : k = Hn := by omega
      have hcm := r1.cmax
      obtain ⟨b, o, rfl, hcells⟩ := r1.at_ (by omega)
      have hbs := World.block_lt_of_cell? _ _ (hcells 0 (by omega))
      have hg5 := (gtS_rows ⟨W, H, C, X, Y, R⟩ k).1
      have hg6 := gtS_len ⟨W, H, C, X, Y, R⟩ k
      have EJ : Hid (Lib.join (((rowsL ⟨W, H, C, X, Y, R⟩ k).take (lastN ⟨W, H, C, X, Y, R⟩ k)).map (fun s => (⟨s.toArray⟩ : ByteArray)) |>.map (·.data.toList)) ((⟨#[]⟩ : ByteArray).data.toList) = gridText ⟨W, H, C, X, Y, R⟩) := by
        show _ = _
        rw [map_back, E.out, hg5]; exact join_none _
      have hl5 : (((rowsL ⟨W, H, C, X, Y, R⟩ k).take (lastN ⟨W, H, C, X, Y, R⟩ k)).map (fun s => (⟨s.toArray⟩ : ByteArray))).length = lastN ⟨W, H, C, X, Y, R⟩ k := by simp; omega
      have J := Try.strings_Join b o c1 (((rowsL ⟨W, H, C, X, Y, R⟩ k).take (lastN ⟨W, H, C, X, Y, R⟩ k)).map (fun s => (⟨s.toArray⟩ : ByteArray))) ⟨#[]⟩ wr (fun j x hx => by
          simp only [List.getElem?_map, Option.map_eq_some_iff] at hx
          obtain ⟨y, hy, rfl⟩ := hx
          rw [List.getElem?_take] at hy
          split at hy
          · rw [hcells j (by omega)]; simp [strC, hy]
          · cases hy) hbs (by omega) (by omega) (by rw [EJ.out, E.out]; omega)
      rw [EJ.out, hl5] at J
      have HJ := Lib.hid J
      clear J hl5 EJ hcells own r1 hg5
      have hln : lastN ⟨W, H, C, X, Y, R⟩ k ≤ c1 := by omega
      clear h3
      generalize lastN ⟨W, H, C, X, Y, R⟩ k = m at *
      go_wp2_with fail
      refine HJ.out.mono ?_; rintro e w2 ⟨rfl, x2⟩
      go_wp2_with fail
      go_ret
      exact ⟨rfl, X1.trans x2⟩
end Go.Proofs.Ythphmhbcpjmkoaa
