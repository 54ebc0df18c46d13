/-
  GridText, plainly; spec.GridText.
-/
import Derived.Test.YthphmhbcpjmkoaaGridRow
import Derived.ShutString
import Derived.Laws.Concat
namespace Go.Proofs.Ythphmhbcpjmkoaa
open Go.RowKit

/-- s + t on strings: an arm of the walk -/
theorem wp_addS {ops : Array Oper} {rest : List Oper} {d : Option Tmp} {t1 t2 ty : TypeId} {pos : String} {af : Array Edge} {a : Act} {Q : Exit → Act → World → Prop} {w : World} {x y : Operand}
    {l m : List UInt8} (hx : a.eval x = .string ⟨l.toArray⟩) (hy : a.eval y = .string ⟨m.toArray⟩) (hlen : l.length + m.length ≤ 9223372036854775807)
    (h : wpList Try.prog ops Q rest (a.put d (.string ⟨(l ++ m).toArray⟩)) w) :
    wpList Try.prog ops Q (⟨d, Op.binOp .add t1 x y t2, ty, pos, af, none⟩ :: rest) a w := by
  refine wpList_plain rfl fun K hK => ?_
  have e := run_string_add_sum (P := Try.prog) (w := w) ⟨l.toArray⟩ ⟨m.toArray⟩ (by rw [size_of_list, size_of_list]; exact hlen)
  have e2 : (⟨l.toArray⟩ ++ ⟨m.toArray⟩ : ByteArray) = ⟨(l ++ m).toArray⟩ := by
    apply ByteArray.ext; simp
  rw [e2] at e
  unfold Oper.wp execOp
  simp only [hx, hy]
  simp [go_sem, e]
  exact hK _ _ h

theorem cat_bytes (a b : Array UInt8) : (⟨a⟩ ++ ⟨b⟩ : ByteArray) = ⟨a ++ b⟩ := by apply ByteArray.ext; simp

/-- what is out and what waits after k rows -/
def gtS (g : Gr) : Nat → List UInt8 × List UInt8
  | 0 => ([], [])
  | k + 1 => if gridRow g k = [] then ((gtS g k).1, (gtS g k).2 ++ gridRow g k ++ [10]) else ((gtS g k).1 ++ ((gtS g k).2 ++ gridRow g k ++ [10]), [])
def gridText (g : Gr) : List UInt8 := if gridOk g = true then (gtS g g.H.toNat).1 else []
theorem gtS_none (g : Gr) (k : Nat) (h : gridRow g k = []) : gtS g (k + 1) = ((gtS g k).1, (gtS g k).2 ++ gridRow g k ++ [10]) := by
  show (if _ then _ else _) = _; rw [if_pos h]
theorem gtS_some (g : Gr) (k : Nat) (h : gridRow g k ≠ []) : gtS g (k + 1) = ((gtS g k).1 ++ ((gtS g k).2 ++ gridRow g k ++ [10]), []) := by
  show (if _ then _ else _) = _; rw [if_neg h]

theorem gridRow_len (g : Gr) (y : Int) : (gridRow g y).length ≤ 800 := by
  unfold gridRow
  split
  · rename_i h
    have h1 := textOf_len (trimR (rowOf g y))
    have h2 : (trimR (rowOf g y)).length ≤ (rowOf g y).length := by unfold trimR; rw [List.length_take]; omega
    have h3 : (rowOf g y).length ≤ g.W.toNat := by unfold rowOf; rw [List.length_take]; omega
    obtain ⟨⟨-, a2, -⟩, -, -⟩ := gridOk_iff.1 h.1
    omega
  · simp
theorem gtS_len (g : Gr) (k : Nat) : (gtS g k).1.length + (gtS g k).2.length ≤ 801 * k := by
  induction k with
  | zero => simp [gtS]
  | succ k ih =>
    have h := gridRow_len g k
    by_cases hs : gridRow g k = []
    · rw [gtS_none g k hs]; simp; omega
    · rw [gtS_some g k hs]; simp; omega

set_option maxRecDepth 100000 in
set_option maxHeartbeats 2000000 in
theorem spec_GridText (W H X Y : Int) (R : Bool) (C : List Int) (A : Option Addr) (n c : Nat) (w : World) (hC : RI w A n c C) :
    Calls Try.prog 21 #[.agg #[.int .i64 W, .int .i64 H, .slice A n c, .int .i64 X, .int .i64 Y, .bool R]] w fun e w' => e = .returned (.string ⟨(gridText ⟨W, H, C, X, Y, R⟩).toArray⟩) ∧ Ext w w' := by
  have X0 := (Ext.refl w).alloc (.cells #[.int .i64 W, .int .i64 H, .slice A n c, .int .i64 X, .int .i64 Y, .bool R] 27)
  cases hg : gridOk ⟨W, H, C, X, Y, R⟩
  · have E : Hid (gridText ⟨W, H, C, X, Y, R⟩ = []) := by show _ = _; simp [gridText, hg]
    by_cases hH : 0 < H
    · go_enter Try.func21, Try.ntmps21
      go_wp2_with fail
      go_loopw [3, 4, 5] (fun vo vg vy wr => vo = .string ⟨#[]⟩ ∧ vg = .string ⟨#[]⟩ ∧ vy = .int .i64 0 ∧ wr = w.alloc (.cells #[.int .i64 W, .int .i64 H, .slice A n c, .int .i64 X, .int .i64 Y, .bool R] 27)) (fun _ _ _ _ => 0)
      case atStart => exact ⟨rfl, rfl, rfl, rfl⟩
      case round =>
        obtain ⟨rfl, rfl, rfl, rfl⟩ := hrel
        go_wp2_with fail
        have k1 := spec_GridOk W H X Y R C A n c _ (hC.ext X0)
        rw [hg] at k1
        refine k1.mono ?_; rintro e w1 ⟨rfl, x1⟩
        clear k1
        go_wp2_with fail
        go_ret
        exact ⟨by rw [E.out]; rfl, X0.trans x1⟩
    · go_enter Try.func21, Try.ntmps21
      go_wp2_with fail
      go_loopw [3, 4, 5] (fun vo vg vy wr => vo = .string ⟨#[]⟩ ∧ vg = .string ⟨#[]⟩ ∧ vy = .int .i64 0 ∧ wr = w.alloc (.cells #[.int .i64 W, .int .i64 H, .slice A n c, .int .i64 X, .int .i64 Y, .bool R] 27)) (fun _ _ _ _ => 0)
      case atStart => exact ⟨rfl, rfl, rfl, rfl⟩
      case round =>
        obtain ⟨rfl, rfl, rfl, rfl⟩ := hrel
        go_wp2_with fail
        go_ret
        exact ⟨by rw [E.out]; rfl, X0⟩
  obtain ⟨⟨-, -, a3, a4, -, -⟩, -, -⟩ := gridOk_iff.1 hg
  simp only at a3 a4
  obtain ⟨Hn, hHn⟩ : ∃ Hn : Nat, (Hn : Int) = H := ⟨H.toNat, by omega⟩
  have E : Hid (gridText ⟨W, H, C, X, Y, R⟩ = (gtS ⟨W, H, C, X, Y, R⟩ Hn).1) := by
    show _ = _
    unfold gridText; rw [if_pos hg]; simp only; rw [← hHn]; rfl
  have HH := Lib.hid hHn
  have Hb := Lib.hid (row_new w (.cells #[.int .i64 W, .int .i64 H, .slice A n c, .int .i64 X, .int .i64 Y, .bool R] 27))
  go_enter Try.func21, Try.ntmps21
  go_wp2_with fail
  go_loopw [3, 4, 5] (fun vo vg vy wr => ∃ k : Nat, k ≤ Hn ∧ vo = .string ⟨(gtS ⟨W, H, C, X, Y, R⟩ k).1.toArray⟩ ∧ vg = .string ⟨(gtS ⟨W, H, C, X, Y, R⟩ k).2.toArray⟩ ∧ vy = .int .i64 k ∧ Ext (w.alloc (.cells #[.int .i64 W, .int .i64 H, .slice A n c, .int .i64 X, .int .i64 Y, .bool R] 27)) wr) (fun _ _ vy _ => Hn - (intOf vy).toNat)
  case atStart => exact ⟨0, by omega, rfl, rfl, rfl, Ext.refl _⟩
  case round =>
    obtain ⟨k, hk, rfl, rfl, rfl, hx⟩ := hrel
    obtain ⟨lc, -, ls⟩ := rowAll (row_ext Hb.out hx)
    have X1 := X0.trans hx
    by_cases hlt : k < Hn
    · have hlt' : (k : Int) < H := by omega
      go_wp2_with fail
      have k1 := spec_GridOk W H X Y R C A n c _ (hC.ext X1)
      rw [hg] at k1
      refine k1.mono ?_; rintro e w1 ⟨rfl, x1⟩
      clear k1 lc ls
      obtain ⟨lc, -, ls⟩ := rowAll (row_ext Hb.out (hx.trans x1))
      go_wp2_with fail
      refine (spec_GridRow W H X Y R C A n c k _ (hC.ext (X1.trans x1))).mono ?_; rintro e w2 ⟨rfl, x2⟩
      have x12 := (hx.trans x1).trans x2
      have h1 := gtS_len ⟨W, H, C, X, Y, R⟩ k
      have h2 := gridRow_len ⟨W, H, C, X, Y, R⟩ k
      have HN := Lib.hid (gtS_none ⟨W, H, C, X, Y, R⟩ k)
      have HS := Lib.hid (gtS_some ⟨W, H, C, X, Y, R⟩ k)
      generalize gridRow ⟨W, H, C, X, Y, R⟩ k = s at *
      clear lc ls
      cases s with
      | nil =>
        have E1 := Lib.hid (HN.out rfl)
        clear HN HS
        go_wp2_with fail
        go_roundw
        case rel => exact ⟨k + 1, by omega, by rw [E1.out]; try simp [cat_bytes], by rw [E1.out]; try simp [cat_bytes], by go_num, x12⟩
        case measure => simp [intOf]; omega
      | cons c0 s0 =>
        have E1 := Lib.hid (HS.out (List.cons_ne_nil _ _))
        have h2b : s0.length + 1 ≤ 800 := h2
        clear HN HS h2
        go_wp2_with fail
        go_roundw
        case rel => exact ⟨k + 1, by omega, by rw [E1.out]; try simp [cat_bytes], by rw [E1.out]; try simp [cat_bytes], by go_num, x12⟩
        case measure => simp [intOf]; omega
    · have hlt' : ¬ (k : Int) < H := by omega
      go_wp2_with fail
      go_ret
      obtain rfl : k = Hn := by omega
      exact ⟨by rw [E.out]; rfl, X1⟩
end Go.Proofs.Ythphmhbcpjmkoaa
