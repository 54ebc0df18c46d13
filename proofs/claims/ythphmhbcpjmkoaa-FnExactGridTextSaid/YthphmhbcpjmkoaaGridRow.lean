/-
  GridRow of both packages.
-/
import Derived.Test.YthphmhbcpjmkoaaRowText
import Derived.Test.YthphmhbcpjmkoaaGOkS
import Derived.Test.YthphmhbcpjmkoaaRow
namespace Go.Proofs.Ythphmhbcpjmkoaa
open Go.RowKit

/-- x[lo:hi]: an arm of the walk -/
theorem wp_cutLH {ops : Array Oper} {rest : List Oper} {d : Option Tmp} {ty : TypeId} {pos : String} {af : Array Edge} {a : Act} {Q : Exit → Act → World → Prop} {w : World} {x lo hi : Operand}
    {A : Option Addr} {n c k m : Nat} (hx : a.eval x = .slice A n c) (hl : a.eval lo = .int .i64 k) (hh : a.eval hi = .int .i64 m) (hkm : k ≤ m) (hm : m ≤ c)
    (h : wpList Try.prog ops Q rest (a.put d (.slice (subA A c k) (m - k) (c - k))) w) :
    wpList Try.prog ops Q (⟨d, Op.slice 22 x (some lo) (some hi) none, ty, pos, af, none⟩ :: rest) a w := by
  refine wpList_plain rfl fun K hK => ?_
  have e := run_slice_lh (P := Try.prog) w 22 A n c elem_ints .i64 .i64 (k : Int) (m : Int) (by omega) (by omega) (by omega)
  have e1 : Try.prog.elem 22 = 3 := by kernel_rfl
  rw [e1, size_int] at e
  unfold Oper.wp execOp
  simp [hx, hl, hh, run_sliceAt_slice w _ _ _ _ _ elem_ints, e, sliced, Oper.upon, Result.andThen]
  exact hK _ _ (by simpa [subA] using h)

set_option maxRecDepth 100000 in
set_option maxHeartbeats 2000000 in
theorem impl_GridRow (W H X Y : Int) (R : Bool) (C : List Int) (A : Option Addr) (n c : Nat) (y : Int) (w : World) (hC : RI w A n c C) :
    Calls Try.prog 35 #[.agg #[.int .i64 W, .int .i64 H, .slice A n c, .int .i64 X, .int .i64 Y, .bool R], .int .i64 y] w fun e w' => e = .returned (.string ⟨(gridRow ⟨W, H, C, X, Y, R⟩ y).toArray⟩) ∧ Ext w w' := by
  have X0 := (Ext.refl w).alloc (.cells #[.int .i64 W, .int .i64 H, .slice A n c, .int .i64 X, .int .i64 Y, .bool R] 27)
  cases hg : gridOk ⟨W, H, C, X, Y, R⟩
  · have E : Hid (gridRow ⟨W, H, C, X, Y, R⟩ y = []) := by show _ = _; simp [gridRow, hg]
    go_enter Try.func35, Try.ntmps35
    go_wp2_with fail
    have k1 := impl_GridOk W H X Y R C A n c _ (hC.ext X0)
    rw [hg] at k1
    refine k1.mono ?_; rintro e w1 ⟨rfl, x1⟩
    clear k1
    go_wp2_with fail
    go_ret
    exact ⟨by rw [E.out]; rfl, X0.trans x1⟩
  obtain ⟨⟨a1, a2, a3, a4, a5, a6⟩, -, -⟩ := gridOk_iff.1 hg
  simp only at a1 a2 a3 a4 a5 a6
  cases hin : inB y 0 (H - 1)
  · have E : Hid (gridRow ⟨W, H, C, X, Y, R⟩ y = []) := by
      show _ = _
      have := inB_not.1 hin
      unfold gridRow; rw [if_neg (by simp only; omega)]
    clear a5 a6
    go_enter Try.func35, Try.ntmps35
    go_wp2_with fail
    have k1 := impl_GridOk W H X Y R C A n c _ (hC.ext X0)
    rw [hg] at k1
    refine k1.mono ?_; rintro e w1 ⟨rfl, x1⟩
    clear k1
    obtain ⟨lc, -, ls⟩ := rowAll (row_ext (row_new w _) x1)
    go_wp2_with fail
    have k1 := impl_in y 0 (H - 1) w1
    rw [hin] at k1
    refine k1.mono ?_; rintro e w2 ⟨rfl, rfl⟩
    clear k1
    go_wp2_with fail
    go_ret
    exact ⟨by rw [E.out]; rfl, X0.trans x1⟩
  obtain ⟨y0, y1⟩ := inB_iff.1 hin
  have E : Hid (gridRow ⟨W, H, C, X, Y, R⟩ y = textOf (trimR (rowOf ⟨W, H, C, X, Y, R⟩ y))) := by
    show _ = _
    unfold gridRow; rw [if_pos ⟨hg, y0, by simp only; omega⟩]
  have hlen := rowOf_len hg y0 (by simp only; omega)
  have hr := row_in a1 (hC.len ▸ a6) y0 (show y < H by omega)
  obtain ⟨k0, hk0⟩ : ∃ k0 : Nat, (k0 : Int) = y * W := ⟨(y * W).toNat, by omega⟩
  obtain ⟨Wn, hWn⟩ : ∃ Wn : Nat, (Wn : Int) = W := ⟨W.toNat, by omega⟩
  have hrow : Hid (rowOf ⟨W, H, C, X, Y, R⟩ y = (C.drop k0).take Wn) := by
    show _ = _
    unfold rowOf; simp only; rw [← hk0, ← hWn]; simp
  have hk1 : (y + 1) * W = ((k0 + Wn : Nat) : Int) := by rw [Int.add_mul]; omega
  have hcap := hC.cap
  have hnm := hC.nmax
  have r2 := RI.subA hC (lo := k0) (hi := k0 + Wn) (by omega) (by omega)
  rw [show k0 + Wn - k0 = Wn by omega] at r2
  obtain ⟨b, o, eb, hcells⟩ := r2.at_ (by omega)
  have hkc : k0 + Wn ≤ 9223372036854775807 := by omega
  have hw0 : wrap64 (y * W) = (k0 : Int) := by rw [← hk0]; exact IntWalk.wrap64_in _ ⟨by omega, by omega⟩
  have hw1 : wrap64 ((y + 1) * W) = ((k0 + Wn : Nat) : Int) := by
    rw [hk1]; exact IntWalk.wrap64_in _ ⟨by omega, by omega⟩
  have Hr2 := Lib.hid r2
  have Hcells := Lib.hid hcells
  have Hlen := Lib.hid hlen
  have Hgd := Lib.hid hr
  have hkn : k0 + Wn ≤ c := by omega
  clear hlen hr r2 hcells a5 a6
  have hcl := fun (w' : World) (x : Ext w w') (i : Nat) (hi : i < Wn) => x.cell (Hcells.out i hi)
  have Hcl := Lib.hid hcl; clear hcl
  have hWp : 0 < Wn := by omega
  have Hk0 := Lib.hid hk0; have HW := Lib.hid hWn
  clear hk0 hWn hk1
  go_enter Try.func35, Try.ntmps35
  go_wp2_with fail
  have k1 := impl_GridOk W H X Y R C A n c _ (hC.ext X0)
  rw [hg] at k1
  refine k1.mono ?_; rintro e w1 ⟨rfl, x1⟩
  clear k1
  obtain ⟨lc, -, ls⟩ := rowAll (row_ext (row_new w _) x1)
  go_wp2_with fail
  have k1 := impl_in y 0 (H - 1) w1
  rw [hin] at k1
  refine k1.mono ?_; rintro e w2 ⟨rfl, rfl⟩
  clear k1
  have X1 := X0.trans x1
  go_wp2_with ((with_reducible refine wp_cutLH (A := A) (n := n) (c := c) (k := k0) (m := k0 + Wn) ?_ ?_ ?_ ?_ hkn ?_); go_must (exact rfl); go_must (exact congrArg (Value.int .i64) hw0); go_must (exact congrArg (Value.int .i64) hw1); go_must (omega))
  clear hw0 hw1 lc
  go_loopw [6] (fun vn wr => ∃ k : Nat, k ≤ Wn ∧ vn = .int .i64 k ∧ Hid (trimLen ((C.drop k0).take Wn) k = trimLen ((C.drop k0).take Wn) Wn) ∧ Ext w wr) (fun vn _ => (intOf vn).toNat)
  case atStart => exact ⟨Wn, by omega, rfl, rfl, X1⟩
  case round =>
    obtain ⟨k, hk, rfl, ht, hx⟩ := hrel
    have hr2 := (Hr2.out.ext hx)
    rw [eb] at hr2
    have Hr := Lib.hid hr2; clear hr2
    have DONE : (∀ (_ : k = 0 ∨ ((C.drop k0).take Wn)[k - 1]?.getD 0 ≠ 32), Hid (textOf (((C.drop k0).take Wn).take k) = gridRow ⟨W, H, C, X, Y, R⟩ y)) := by
      intro hk0
      show _ = _
      rw [E.out, hrow.out]
      unfold trimR
      rw [← hrow.out, Hlen.out, hrow.out]
      have e1 : W.toNat = Wn := by have := HW.out; omega
      have e2 : trimLen ((C.drop k0).take Wn) k = k := by
        cases k with
        | zero => rfl
        | succ k => rw [trimLen_succ, if_neg (by rcases hk0 with h | h; (exact absurd h (by omega)); simpa using h)]
      simp only [e1]
      rw [← ht.out, e2]
    cases k with
    | zero =>
      have D := DONE (.inl rfl)
      clear DONE
      go_wp2_with fail
      refine (impl_TextOf _ 0 _ _ _ (Hr.out.pre (k := 0) (by omega)) (by omega)).mono ?_; rintro e w2 ⟨rfl, x2⟩
      go_wp2_with fail
      go_ret
      exact ⟨by rw [← D.out]; rfl, hx.trans x2⟩
    | succ k =>
      have hcell := Hcl.out _ hx k (by omega)
      have hb := World.block_lt_of_cell? _ _ hcell
      by_cases h32 : ((C.drop k0).take Wn)[k]?.getD 0 = 32
      · have h32b : (((C.drop k0).take Wn)[k]?.getD 0 == 32) = true := by simp [h32]
        clear DONE
        go_wp2_with fail
        go_roundw
        case rel => exact ⟨k, by omega, rfl, by show _ = _; rw [← ht.out, trimLen_succ, if_pos h32], hx⟩
        case measure => simp [intOf]
      · have h32b : (((C.drop k0).take Wn)[k]?.getD 0 == 32) = false := by simp [h32]
        have D := DONE (.inr h32)
        clear DONE
        go_wp2_with fail
        refine (impl_TextOf _ (k + 1) _ _ _ (Hr.out.pre (k := k + 1) hk) (by have := HW.out; omega)).mono ?_; rintro e w2 ⟨rfl, x2⟩
        go_wp2_with fail
        go_ret
        exact ⟨by rw [← D.out]; rfl, hx.trans x2⟩

set_option maxRecDepth 100000 in
set_option maxHeartbeats 2000000 in
theorem spec_GridRow (W H X Y : Int) (R : Bool) (C : List Int) (A : Option Addr) (n c : Nat) (y : Int) (w : World) (hC : RI w A n c C) :
    Calls Try.prog 34 #[.agg #[.int .i64 W, .int .i64 H, .slice A n c, .int .i64 X, .int .i64 Y, .bool R], .int .i64 y] w fun e w' => e = .returned (.string ⟨(gridRow ⟨W, H, C, X, Y, R⟩ y).toArray⟩) ∧ Ext w w' := by
  have X0 := (Ext.refl w).alloc (.cells #[.int .i64 W, .int .i64 H, .slice A n c, .int .i64 X, .int .i64 Y, .bool R] 27)
  cases hg : gridOk ⟨W, H, C, X, Y, R⟩
  · have E : Hid (gridRow ⟨W, H, C, X, Y, R⟩ y = []) := by show _ = _; simp [gridRow, hg]
    go_enter Try.func34, Try.ntmps34
    go_wp2_with fail
    have k1 := spec_GridOk W H X Y R C A n c _ (hC.ext X0)
    rw [hg] at k1
    refine k1.mono ?_; rintro e w1 ⟨rfl, x1⟩
    clear k1
    go_wp2_with fail
    go_ret
    exact ⟨by rw [E.out]; rfl, X0.trans x1⟩
  obtain ⟨⟨a1, a2, a3, a4, a5, a6⟩, -, -⟩ := gridOk_iff.1 hg
  simp only at a1 a2 a3 a4 a5 a6
  by_cases hin : y < 0
  · have E : Hid (gridRow ⟨W, H, C, X, Y, R⟩ y = []) := by
      show _ = _
      unfold gridRow; rw [if_neg (by simp only; omega)]
    clear a5 a6
    go_enter Try.func34, Try.ntmps34
    go_wp2_with fail
    have k1 := spec_GridOk W H X Y R C A n c _ (hC.ext X0)
    rw [hg] at k1
    refine k1.mono ?_; rintro e w1 ⟨rfl, x1⟩
    clear k1
    obtain ⟨lc, -, ls⟩ := rowAll (row_ext (row_new w _) x1)
    go_wp2_with fail
    go_ret
    exact ⟨by rw [E.out]; rfl, X0.trans x1⟩
  by_cases hin2 : y < H
  case neg =>
    have E : Hid (gridRow ⟨W, H, C, X, Y, R⟩ y = []) := by
      show _ = _
      unfold gridRow; rw [if_neg (by simp only; omega)]
    clear a5 a6
    go_enter Try.func34, Try.ntmps34
    go_wp2_with fail
    have k1 := spec_GridOk W H X Y R C A n c _ (hC.ext X0)
    rw [hg] at k1
    refine k1.mono ?_; rintro e w1 ⟨rfl, x1⟩
    clear k1
    obtain ⟨lc, -, ls⟩ := rowAll (row_ext (row_new w _) x1)
    go_wp2_with fail
    go_ret
    exact ⟨by rw [E.out]; rfl, X0.trans x1⟩
  have y0 : 0 ≤ y := by omega
  have E := Lib.hid (rowText_grid hg y0 hin2)
  have hlen := rowOf_len hg y0 hin2
  have hr := row_in a1 (hC.len ▸ a6) y0 hin2
  obtain ⟨k0, hk0⟩ : ∃ k0 : Nat, (k0 : Int) = y * W := ⟨(y * W).toNat, by omega⟩
  obtain ⟨Wn, hWn⟩ : ∃ Wn : Nat, (Wn : Int) = W := ⟨W.toNat, by omega⟩
  have hrow : Hid (rowOf ⟨W, H, C, X, Y, R⟩ y = (C.drop k0).take Wn) := by
    show _ = _
    unfold rowOf; simp only; rw [← hk0, ← hWn]; simp
  have hcap := hC.cap
  have hnm := hC.nmax
  have hkc : k0 + Wn ≤ n := by omega
  have hw0 : wrap64 (y * W) = (k0 : Int) := by rw [← hk0]; exact IntWalk.wrap64_in _ ⟨by omega, by omega⟩
  have hWs : Wn ≤ 200 := by omega
  have hlr : Hid (((C.drop k0).take Wn).length = Wn) := by
    show _ = _
    rw [← hrow.out, hlen]; simp only; omega
  have Hk0 := Lib.hid hk0; have HW := Lib.hid hWn
  clear hlen hr a5 a6 hk0
  go_enter Try.func34, Try.ntmps34
  go_wp2_with fail
  have k1 := spec_GridOk W H X Y R C A n c _ (hC.ext X0)
  rw [hg] at k1
  refine k1.mono ?_; rintro e w1 ⟨rfl, x1⟩
  clear k1
  have hb1 := row_ext (row_new w _) x1
  have Hb1 := Lib.hid hb1; clear hb1
  obtain ⟨lc, -, ls⟩ := rowAll Hb1.out
  have X1 := X0.trans x1
  go_wp2_with fail
  clear lc ls
  go_loopw [5, 6] (fun vl vx wr => ∃ k : Nat, k ≤ Wn ∧ vx = .int .i64 k ∧ OwnI wr w1.heap.size vl (noHalf (((C.drop k0).take Wn).take k)) ∧ Ext w1 wr) (fun _ vx _ => Wn - (intOf vx).toNat)
  case atStart => exact ⟨0, by omega, rfl, OwnI.empty (Nat.le_refl _), (Ext.refl _).alloc _⟩
  case round =>
    obtain ⟨k, hk, rfl, hown, hx⟩ := hrel
    obtain ⟨lc, -, ls⟩ := rowAll (row_ext Hb1.out hx)
    by_cases hlt : k < Wn
    · have hlt' : (k : Int) < W := by omega
      obtain ⟨b, o, rfl, hcell⟩ := (hC.ext (X1.trans hx)).at1 (k := k0 + k) (by omega)
      have hget : Hid (((C.drop k0).take Wn)[k]?.getD 0 = C[k0 + k]?.getD 0) := by
        show _ = _
        rw [List.getElem?_take, if_pos hlt, List.getElem?_drop]
      have hsn := take_snoc (l := (C.drop k0).take Wn) (k := k) (by rw [hlr.out]; exact hlt)
      have Hsn := Lib.hid hsn; clear hsn
      have hl2 : (noHalf (((C.drop k0).take Wn).take k)).length ≤ k := Nat.le_trans (List.length_filter_le _ _) (List.length_take_le _ _)
      have hB := hx.size
      by_cases hh : C[k0 + k]?.getD 0 = -1
      · have hhb : (C[k0 + k]?.getD 0 != -1) = false := by simp [hh]
        have E1 : Hid (noHalf (((C.drop k0).take Wn).take (k + 1)) = noHalf (((C.drop k0).take Wn).take k)) := by
          show _ = _
          rw [Hsn.out, List.getD_eq_getElem?_getD, hget.out, hh]; simp [noHalf, List.filter_append]
        go_wp2_with fail
        go_roundw
        case rel => exact ⟨k + 1, by omega, by go_num, by rw [E1.out]; exact hown, hx⟩
        case measure => simp [intOf]; omega
      · have hhb : (C[k0 + k]?.getD 0 != -1) = true := by simp [hh]
        have E1 : Hid (noHalf (((C.drop k0).take Wn).take (k + 1)) = noHalf (((C.drop k0).take Wn).take k) ++ [C[k0 + k]?.getD 0]) := by
          show _ = _
          rw [Hsn.out, List.getD_eq_getElem?_getD, hget.out]; simp [noHalf, List.filter_append, hh]
        go_wp2_with (at_builtin; refine wp_appI rfl _ _ rfl rfl (hown.alloc _) rfl (RI.new _ [C[k0 + k]?.getD 0] (by simp)) (by simp; omega) (by simp; omega) ?_)
        intro v1 w2 hown1 hg1 _
        have hx1 := (hx.alloc _).grown (hown.alloc _) hg1
        go_wp2_with fail
        go_roundw
        case rel => exact ⟨k + 1, by omega, by go_num, by rw [E1.out]; exact hown1, hx1⟩
        case measure => simp [intOf]; omega
    · have hlt' : ¬ (k : Int) < W := by omega
      have ek : ((C.drop k0).take Wn).take k = (C.drop k0).take Wn := List.take_of_length_le (by rw [hlr.out]; omega)
      rw [ek] at hown
      obtain ⟨A2, c2, rfl, r2⟩ := hown.form
      have hL : (noHalf ((C.drop k0).take Wn)).length ≤ 200 := by
        have := List.length_filter_le (fun x => x != -1) ((C.drop k0).take Wn)
        rw [hlr.out] at this
        unfold noHalf; omega
      have EE : Hid (textOf (trimR (noHalf ((C.drop k0).take Wn))) = gridRow ⟨W, H, C, X, Y, R⟩ y) := by
        show _ = _
        rw [← hrow.out]; exact E.out
      have Hr2 := Lib.hid r2
      have X2 := X1.trans hx
      clear r2 hown ek
      generalize noHalf ((C.drop k0).take Wn) = m at *
      go_wp2_with fail
      go_loopw [5] (fun vl wr' => ∃ k : Nat, k ≤ m.length ∧ vl = .slice A2 k c2 ∧ Hid (trimLen m k = trimLen m m.length) ∧ Ext wr wr') (fun vl _ => match vl with | .slice _ k _ => k | _ => 0)
      case atStart => exact ⟨m.length, by omega, rfl, rfl, Ext.refl _⟩
      case round =>
        obtain ⟨k, hk, rfl, ht, hx2⟩ := hrel
        have Hr := Lib.hid (Hr2.out.ext hx2)
        have hcm := Hr.out.cmax
        have hcp := Hr.out.cap
        cases k with
        | zero =>
          have D : Hid (textOf (m.take 0) = gridRow ⟨W, H, C, X, Y, R⟩ y) := by
            show _ = _
            rw [← EE.out]; unfold trimR; rw [← ht.out]; rfl
          go_wp2_with fail
          refine (spec_TextOf _ 0 _ _ _ (Hr.out.pre (k := 0) (by omega)) (by omega)).mono ?_; rintro e w2 ⟨rfl, x2⟩
          go_wp2_with fail
          go_ret
          exact ⟨by rw [← D.out]; rfl, (X2.trans hx2).trans x2⟩
        | succ k =>
          obtain ⟨b', o', rfl, hcell⟩ := Hr.out.at1 (k := k) (by omega)
          by_cases h32 : m[k]?.getD 0 = 32
          · have h32b : (m[k]?.getD 0 == 32) = true := by simp [h32]
            go_wp2_with fail
            go_roundw
            case rel => exact ⟨k, by omega, rfl, by show _ = _; rw [← ht.out, trimLen_succ, if_pos h32], hx2⟩
            case measure => exact Nat.lt_succ_self k
          · have h32b : (m[k]?.getD 0 == 32) = false := by simp [h32]
            have D : Hid (textOf (m.take (k + 1)) = gridRow ⟨W, H, C, X, Y, R⟩ y) := by
              show _ = _
              rw [← EE.out]; unfold trimR; rw [← ht.out, trimLen_succ, if_neg h32]
            go_wp2_with fail
            refine (spec_TextOf _ (k + 1) _ _ _ (Hr.out.pre (k := k + 1) hk) (by omega)).mono ?_; rintro e w2 ⟨rfl, x2⟩
            go_wp2_with fail
            go_ret
            exact ⟨by rw [← D.out]; rfl, (X2.trans hx2).trans x2⟩
end Go.Proofs.Ythphmhbcpjmkoaa
