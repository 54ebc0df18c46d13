/-
  The laws' helpers on painters; sameInts, SameGrid.
-/
import Derived.Test.YtohjjhoobikioaaDoorGNew
import Derived.Test.YtohjjhoobikioaaDoorRow
namespace Go.Proofs.YtohjjhoobikioaaDoor
open Go.RowKit

set_option maxRecDepth 100000 in
set_option maxHeartbeats 1000000 in
theorem laws_szPaint (PW PH W H X Y : Int) (K R : Bool) (A : Option Addr) (n c : Nat) (left : Int) (w : World) (h0 : -1 ≤ left) (h1 : left ≤ 1048576) (hn : n ≤ 9223372036854775807) :
    Calls Tryd.prog 38 #[.agg #[.int .i64 PW, .int .i64 PH, .bool K, .int .i64 W, .int .i64 H, .slice A n c, .int .i64 X, .int .i64 Y, .bool R], .int .i64 left] w fun e w' => e = .returned (.int .i64 (szN left n)) ∧ Ext w w' := by
  go_enter Tryd.func38, Tryd.ntmps38
  go_wp2_with fail
  refine (laws_szGrid W H X Y R A n c left _ h0 h1 hn).mono ?_; rintro e w1 ⟨rfl, x1⟩
  rcases szN_cases left n with ⟨h, e⟩ | ⟨h, e⟩ <;> rw [e] <;> clear e
  · go_wp2_with fail
    go_ret
    exact ⟨ret_i (szN_neg h).symm, ((Ext.refl w).alloc _).trans x1⟩
  · go_wp2_with fail
    go_ret
    exact ⟨ret_i (szN_pos (by omega)).symm, ((Ext.refl w).alloc _).trans x1⟩

set_option maxRecDepth 100000 in
set_option maxHeartbeats 4000000 in
theorem laws_toPaint (PW PH W H X Y : Int) (K R : Bool) (C : List Int) (A : Option Addr) (n c : Nat) (w : World) (hC : RI w A n c C) (hs : n ≤ 4294967296) :
    Calls Tryd.prog 40 #[.agg #[.int .i64 PW, .int .i64 PH, .bool K, .int .i64 W, .int .i64 H, .slice A n c, .int .i64 X, .int .i64 Y, .bool R]] w fun e w' =>
      ∃ v, e = .returned (.agg #[.int .i64 PW, .int .i64 PH, .bool K, .int .i64 W, .int .i64 H, v, .int .i64 X, .int .i64 Y, .bool R]) ∧ OwnI w' w.heap.size v C ∧ Ext w w' := by
  go_enter Tryd.func40, Tryd.ntmps40
  go_wp2_with fail
  refine (laws_toGrid W H X Y R C A n c _ (hC.ext ((((Ext.refl w).alloc _).alloc _).alloc _)) hs).mono ?_; rintro e w1 ⟨v, rfl, own1, x1⟩
  have X1 := ((((Ext.refl w).alloc _).alloc _).alloc _).trans x1
  simp only [World.size_alloc] at own1
  obtain ⟨A1, c1, rfl, r1⟩ := own1.form
  have hb2 := row_ext (row_alloc (row_new (w.alloc _) _) _) x1
  have hb3 := row_ext (row_new ((w.alloc _).alloc _) _) x1
  simp only [World.size_alloc] at hb2 hb3
  obtain ⟨q3, f3, l3⟩ := rowAll hb3
  have Hb2 := Lib.hid hb2; have Hb3 := Lib.hid hb3; clear hb2 hb3
  go_wp2_with ((with_reducible refine wp_storeAt (off := 3) (v := .agg #[.int .i64 W, .int .i64 H, .slice A1 C.length c1, .int .i64 X, .int .i64 Y, .bool R]) #[.int .i64 PW, .int .i64 PH, .bool K, .int .i64 W, .int .i64 H, .slice A1 C.length c1, .int .i64 X, .int .i64 Y, .bool R] Hb3.out ?_ ?_ ?_ ?_ ?_ ?_ ?_); exact rfl; exact rfl; kernel_rfl; kernel_rfl; (exact Nat.le_of_ble_eq_true (by kernel_rfl)); kernel_rfl)
  intro w2 hb3 g2
  clear q3 f3 l3
  obtain ⟨q3, f3, l3⟩ := rowAll hb3
  have hb2 := row_grown Hb2.out g2 (by simp)
  have X2 := X1.row g2 (by omega)
  have own2 := own1.kept g2 (by
    rcases hv : Value.ownBlock _ with _ | b
    · exact .inl rfl
    · exact .inr (by have := (own1.lt b hv).1; simp; omega))
  have Hb2 := Lib.hid hb2; clear hb2 hb3
  go_wp2_with ((with_reducible refine wp_storeAt (off := 0) (v := .agg #[.int .i64 PW, .int .i64 PH, .bool K, .int .i64 W, .int .i64 H, .slice A1 C.length c1, .int .i64 X, .int .i64 Y, .bool R]) #[.int .i64 PW, .int .i64 PH, .bool K, .int .i64 W, .int .i64 H, .slice A1 C.length c1, .int .i64 X, .int .i64 Y, .bool R] Hb2.out ?_ ?_ ?_ ?_ ?_ ?_ ?_); exact rfl; exact rfl; kernel_rfl; kernel_rfl; (exact Nat.le_of_ble_eq_true (by kernel_rfl)); kernel_rfl)
  intro w3 hb2 g3
  have X3 := X2.row g3 (by omega)
  have own3 := own2.kept g3 (by
    rcases hv : Value.ownBlock _ with _ | b
    · exact .inl rfl
    · exact .inr (by have := (own2.lt b hv).1; simp; omega))
  obtain ⟨q2, -, -⟩ := rowAll hb2
  go_wp2_with fail
  refine bodyPost_ret (v := .agg #[.int .i64 PW, .int .i64 PH, .bool K, .int .i64 W, .int .i64 H, .slice A1 C.length c1, .int .i64 X, .int .i64 Y, .bool R]) (by simp [results, Tryd.results40, go_sem, q2]) rfl ⟨_, rfl, own3.mono (by omega), X3⟩

set_option maxRecDepth 100000 in
set_option maxHeartbeats 1000000 in
theorem laws_eqPaint (PW PH W H X Y : Int) (K R : Bool) (C : List Int) (A A' : Option Addr) (n c n' c' : Nat) (w : World) (hC : RI w A n c C) (hC' : RI w A' n' c' C) :
    Calls Tryd.prog 42 #[.agg #[.int .i64 PW, .int .i64 PH, .bool K, .int .i64 W, .int .i64 H, .slice A n c, .int .i64 X, .int .i64 Y, .bool R], .agg #[.int .i64 PW, .int .i64 PH, .bool K, .int .i64 W, .int .i64 H, .slice A' n' c', .int .i64 X, .int .i64 Y, .bool R]] w fun e w' =>
      e = .returned (.bool true) ∧ Ext w w' := by
  cases K
  all_goals
    go_enter Tryd.func42, Tryd.ntmps42
    go_wp2_with fail
    refine (laws_eqGrid W H X Y R C A A' n c n' c' _ (hC.ext (((Ext.refl w).alloc _).alloc _)) (hC'.ext (((Ext.refl w).alloc _).alloc _))).mono ?_; rintro e w1 ⟨rfl, x1⟩
    go_wp2_with fail
    go_ret
    exact ⟨rfl, (((Ext.refl w).alloc _).alloc _).trans x1⟩

set_option maxRecDepth 100000 in
set_option maxHeartbeats 1000000 in
theorem laws_markGrid (W H X Y : Int) (R : Bool) (C : List Int) (v : Value) (B : Nat) (q : Int) (w : World) (h : OwnI w B v C) (hq0 : 0 ≤ q) (hq : q ≤ 4611686018427387904) (hs : C.length ≤ 4294967296) :
    Calls Tryd.prog 31 #[.agg #[.int .i64 W, .int .i64 H, v, .int .i64 X, .int .i64 Y, .bool R], .int .i64 q] w fun e w' => e = .returned (.int .i64 (q + C.length)) ∧ OwnI w' B v (marks q C.length) ∧ w.grownBy w' v.ownBlock := by
  obtain ⟨A, c, rfl, r⟩ := h.form
  go_enter Tryd.func31, Tryd.ntmps31
  go_wp2_with fail
  refine (laws_markIntS _ C B q _ (h.alloc _) hq0 hq hs).mono ?_; rintro e w1 ⟨rfl, own1, g1⟩
  go_wp2_with fail
  go_ret
  exact ⟨rfl, own1, (World.grownBy_alloc _ _ _).trans g1⟩
set_option maxRecDepth 100000 in
set_option maxHeartbeats 1000000 in
theorem laws_heldGrid (W H X Y : Int) (R : Bool) (A : Option Addr) (n c : Nat) (q : Int) (w : World) (h : RI w A n c (marks q n)) (hq0 : 0 ≤ q) (hq : q ≤ 4611686018427387904) (hs : n ≤ 4294967296) :
    Calls Tryd.prog 87 #[.agg #[.int .i64 W, .int .i64 H, .slice A n c, .int .i64 X, .int .i64 Y, .bool R], .int .i64 q] w fun e w' => e = .returned (.int .i64 (q + n)) ∧ Ext w w' := by
  go_enter Tryd.func87, Tryd.ntmps87
  go_wp2_with fail
  refine (laws_heldIntS A n c q _ (h.ext ((Ext.refl w).alloc _)) hq0 hq hs).mono ?_; rintro e w1 ⟨rfl, x1⟩
  go_wp2_with fail
  go_ret
  exact ⟨rfl, ((Ext.refl w).alloc _).trans x1⟩
set_option maxRecDepth 100000 in
set_option maxHeartbeats 1000000 in
theorem laws_markPaint (PW PH W H X Y : Int) (K R : Bool) (C : List Int) (v : Value) (B : Nat) (q : Int) (w : World) (h : OwnI w B v C) (hq0 : 0 ≤ q) (hq : q ≤ 4611686018427387904) (hs : C.length ≤ 4294967296) :
    Calls Tryd.prog 43 #[.agg #[.int .i64 PW, .int .i64 PH, .bool K, .int .i64 W, .int .i64 H, v, .int .i64 X, .int .i64 Y, .bool R], .int .i64 q] w fun e w' => e = .returned (.int .i64 (q + C.length)) ∧ OwnI w' B v (marks q C.length) ∧ w.grownBy w' v.ownBlock := by
  obtain ⟨A, c, rfl, r⟩ := h.form
  go_enter Tryd.func43, Tryd.ntmps43
  go_wp2_with fail
  refine (laws_markGrid W H X Y R C _ B q _ (h.alloc _) hq0 hq hs).mono ?_; rintro e w1 ⟨rfl, own1, g1⟩
  go_wp2_with fail
  go_ret
  exact ⟨rfl, own1, (World.grownBy_alloc _ _ _).trans g1⟩
set_option maxRecDepth 100000 in
set_option maxHeartbeats 1000000 in
theorem laws_heldPaint (PW PH W H X Y : Int) (K R : Bool) (A : Option Addr) (n c : Nat) (q : Int) (w : World) (h : RI w A n c (marks q n)) (hq0 : 0 ≤ q) (hq : q ≤ 4611686018427387904) (hs : n ≤ 4294967296) :
    Calls Tryd.prog 44 #[.agg #[.int .i64 PW, .int .i64 PH, .bool K, .int .i64 W, .int .i64 H, .slice A n c, .int .i64 X, .int .i64 Y, .bool R], .int .i64 q] w fun e w' => e = .returned (.int .i64 (q + n)) ∧ Ext w w' := by
  go_enter Tryd.func44, Tryd.ntmps44
  go_wp2_with fail
  refine (laws_heldGrid W H X Y R A n c q _ (h.ext ((Ext.refl w).alloc _)) hq0 hq hs).mono ?_; rintro e w1 ⟨rfl, x1⟩
  go_wp2_with fail
  go_ret
  exact ⟨rfl, ((Ext.refl w).alloc _).trans x1⟩

theorem impl_sameInts (A : Option Addr) (n c : Nat) (l : List Int) (A' : Option Addr) (n' c' : Nat) (l' : List Int) (W : World) (h : RI W A n c l) (h' : RI W A' n' c' l') :
    Calls Tryd.prog 84 #[.slice A n c, .slice A' n' c'] W fun e w' => e = .returned (.bool (decide (l = l'))) ∧ Ext W w' := by
  have hn := h.nmax
  by_cases hnn : n = n'
  case neg =>
    have hb : ((n : Int) == (n' : Int)) = false := by simp; omega
    go_enter Tryd.func84, Tryd.ntmps84
    go_wp2_with fail
    go_ret
    exact ⟨ret_b (by rw [eq_comm, decide_eq_false_iff_not]; intro e; subst e; exact hnn (h.len.symm.trans h'.len)), Ext.refl _⟩
  subst hnn
  have hll : l.length = l'.length := by rw [h.len, h'.len]
  go_enter Tryd.func84, Tryd.ntmps84
  go_wp2_with fail
  go_loopw [13] (fun vi wr => ∃ k : Nat, k ≤ n ∧ vi = .int .i64 k ∧ (∀ i, i < k → l[i]?.getD 0 = l'[i]?.getD 0) ∧ Ext W wr) (fun vi _ => n - (intOf vi).toNat)
  case atStart => exact ⟨0, by omega, rfl, fun i hi => absurd hi (by omega), Ext.refl _⟩
  case round =>
    obtain ⟨k, hk, rfl, hp, hx⟩ := hrel
    have Hp := Lib.hid hp; clear hp
    by_cases hlt : k < n
    · obtain ⟨b, o, rfl, hcell⟩ := (h.ext hx).at1 hlt
      obtain ⟨b', o', rfl, hcell'⟩ := (h'.ext hx).at1 hlt
      by_cases hq : l[k]?.getD 0 = l'[k]?.getD 0
      · have hqb : (l[k]?.getD 0 == l'[k]?.getD 0) = true := by simp [hq]
        go_wp2_with fail
        go_quiet (fail)
        go_wp2_with fail
        go_roundw
        case rel =>
          refine ⟨k + 1, by omega, by go_num, fun i hi => ?_, hx.drewN _⟩
          rcases Nat.lt_or_ge i k with h1 | h1
          · exact Hp.out i h1
          · obtain rfl : i = k := by omega
            exact hq
        case measure => simp [intOf]; omega
      · go_wp2_with fail
        go_quiet (fail)
        go_wp2_with fail
        go_ret
        exact ⟨ret_b (by rw [eq_comm, decide_eq_false_iff_not]; intro e; subst e; exact hq rfl), hx.drewN _⟩
    · go_wp2_with fail
      go_ret
      exact ⟨ret_b (by rw [eq_comm, decide_eq_true_iff]; exact eq_of_getD hll fun i hi => Hp.out i (by rw [h.len] at hi; omega)), hx⟩
end Go.Proofs.YtohjjhoobikioaaDoor
