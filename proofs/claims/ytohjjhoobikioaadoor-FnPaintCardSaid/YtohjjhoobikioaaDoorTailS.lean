/-
  spec.l28Tail: whether only blanks follow in the row.
-/
import Derived.Test.YtohjjhoobikioaaDoorDiffP
import Derived.Test.YtohjjhoobikioaaDoorSep
import Derived.Test.YtohjjhoobikioaaDoorGrid
import Derived.Test.YtohjjhoobikioaaDoorGM
import Derived.Test.YtohjjhoobikioaaDoorGS
namespace Go.Proofs.YtohjjhoobikioaaDoor
open Go.RowKit

set_option maxRecDepth 100000 in
set_option maxHeartbeats 2000000 in
theorem spec_l28Tail_at (g : Gr) (A : Option Addr) (n c : Nat) (i0 e0 : Nat) (t : List Int) (w : World) (hC : RI w A n c g.C) (hi : i0 < e0) (he : e0 ≤ n) (hW : 2 ≤ g.W) (hn : n ≤ 8000)
    (hm : ∀ k : Nat, i0 < k → k < e0 → (k : Int) % g.W ≠ 0) (hme : (e0 : Int) % g.W = 0) (ht : t.length = e0 - i0) (hgt : ∀ j, i0 ≤ j → j < e0 → gt g.C j = t[j - i0]?.getD 0) :
    Calls Tryd.prog 74 #[.agg #[.int .i64 g.W, .int .i64 g.H, .slice A n c, .int .i64 g.X, .int .i64 g.Y, .bool g.R], .int .i64 i0] w fun e w' => e = .returned (.bool (blanks t)) ∧ Ext w w' := by
  have S := (St.refl w).alloc #[.int .i64 g.W, .int .i64 g.H, .slice A n c, .int .i64 g.X, .int .i64 g.Y, .bool g.R] 40
  have Hm := Lib.hid hm; have Hme := Lib.hid hme; have Ht := Lib.hid ht; have Hgt := Lib.hid hgt
  have hWne : Hid (g.W ≠ 0) := by show _ ≠ _; omega
  clear hm hme ht hgt
  go_enter Tryd.func74, Tryd.ntmps74
  go_wp2_with fail
  go_loopw [5] (fun vi wr => ∃ k : Nat, i0 ≤ k ∧ k ≤ e0 ∧ vi = .int .i64 k ∧ Hid (∀ j, j < k - i0 → t[j]?.getD 0 = 32) ∧ St w wr [row w.heap.size 40 #[.int .i64 g.W, .int .i64 g.H, .slice A n c, .int .i64 g.X, .int .i64 g.Y, .bool g.R]]) (fun vi _ => e0 - (intOf vi).toNat)
  case atStart => exact ⟨i0, by omega, by omega, rfl, (by show ∀ j, _; intro j hj; omega), S⟩
  case round =>
    obtain ⟨k, hk1, hk2, rfl, hp, S⟩ := hrel
    obtain ⟨lc, lf, ls⟩ := S.cells 0 rfl
    by_cases hlt : k < e0
    · obtain ⟨b, o, rfl, hcells⟩ := (hC.ext S.ext).at_ (by omega)
      have hck := hcells k (by omega)
      have hb := World.block_lt_of_cell? wr _ hck
      clear hcells
      by_cases h1 : g.C[k]?.getD 0 = 32
      · have h1b : (g.C[k]?.getD 0 != 32) = false := by simp [h1]
        have HN : Hid (∀ j, j < k + 1 - i0 → t[j]?.getD 0 = 32) := by
          show ∀ j, _
          intro j hj
          by_cases e : j < k - i0
          · exact hp.out j e
          · obtain rfl : j = k - i0 := by omega
            rw [← Hgt.out k hk1 hlt]; exact h1
        clear h1
        by_cases hm : (k : Int) % g.W = 0
        · have hmb : ((k : Int) % g.W != 0) = false := by simp [hm]
          have hki : ((k : Int) == (i0 : Int)) = true := by
            by_cases e : i0 < k
            · exact absurd hm (Hm.out k e hlt)
            · simp; omega
          clear hm
          go_wp2_with fail
          go_roundw
          case rel => exact ⟨k + 1, by omega, by omega, by go_num, HN, by first | exact S | exact S.drewN _⟩
          case measure => simp [intOf]; omega
        · have hmb : ((k : Int) % g.W != 0) = true := by simp [hm]
          clear hm
          go_wp2_with fail
          go_roundw
          case rel => exact ⟨k + 1, by omega, by omega, by go_num, HN, by first | exact S | exact S.drewN _⟩
          case measure => simp [intOf]; omega
      · have h1b : (g.C[k]?.getD 0 != 32) = true := by simp [h1]
        have HN : Hid (blanks t = false) := by
          show _ = _
          refine blanks_no (k := k - i0) (by rw [Ht.out]; omega) ?_
          rw [← Hgt.out k hk1 hlt]; exact h1
        clear h1
        by_cases hm : (k : Int) % g.W = 0
        · have hmb : ((k : Int) % g.W != 0) = false := by simp [hm]
          have hki : ((k : Int) == (i0 : Int)) = true := by
            by_cases e : i0 < k
            · exact absurd hm (Hm.out k e hlt)
            · simp; omega
          clear hm
          go_wp2_with fail
          go_ret
          exact ⟨by rw [HN.out]; rfl, by first | exact S.ext | exact (S.drewN _).ext⟩
        · have hmb : ((k : Int) % g.W != 0) = true := by simp [hm]
          clear hm
          go_wp2_with fail
          go_ret
          exact ⟨by rw [HN.out]; rfl, by first | exact S.ext | exact (S.drewN _).ext⟩
    · obtain rfl : k = e0 := by omega
      have hmb : ((k : Int) % g.W != 0) = false := by simp [Hme.out]
      have hki : ((k : Int) == (i0 : Int)) = false := by simp; omega
      have HN : Hid (blanks t = true) := blanks_yes (fun j hj => hp.out j (by rw [Ht.out] at hj; omega))
      go_wp2_with fail
      go_ret
      exact ⟨by rw [HN.out]; rfl, by first | exact S.ext | exact (S.drewN _).ext⟩
set_option maxRecDepth 100000 in
set_option maxHeartbeats 1000000 in
theorem impl_copyGrid (g : Gr) (A : Option Addr) (n c : Nat) (w : World) (hC : RI w A n c g.C) (hn : n ≤ 8000) :
    Calls Tryd.prog 68 #[.agg #[.int .i64 g.W, .int .i64 g.H, .slice A n c, .int .i64 g.X, .int .i64 g.Y, .bool g.R]] w fun e w' => ∃ v, e = .returned (.agg #[.int .i64 g.W, .int .i64 g.H, v, .int .i64 g.X, .int .i64 g.Y, .bool g.R]) ∧ OwnI w' w.heap.size v g.C ∧ Ext w w' := by
  have S := ((St.refl w).alloc #[.int .i64 g.W, .int .i64 g.H, .slice A n c, .int .i64 g.X, .int .i64 g.Y, .bool g.R] 40).alloc zeroG 40
  simp only [World.size_alloc] at S
  go_enter Tryd.func68, Tryd.ntmps68
  go_wp2_with fail
  refine (impl_copyInts A n c g.C _ (hC.ext S.ext) (by omega)).mono ?_; rintro e w1 ⟨v, rfl, own, x1⟩
  have S1 := S.newI own x1
  obtain ⟨A1, c1, rfl, -⟩ := own.form
  obtain ⟨m, hm⟩ : ∃ m, m = g.C.length := ⟨_, rfl⟩
  rw [← hm] at S1 ⊢
  clear own hm
  obtain ⟨lc, lf, ls⟩ := S1.cells 2 rfl
  obtain ⟨lc2, lf2, ls2⟩ := S1.cells 1 rfl
  go_wp2_with ((with_reducible refine wp_setA (k := 2) (u := .slice A1 m c1) #[.int .i64 g.W, .int .i64 g.H, .slice A1 m c1, .int .i64 g.X, .int .i64 g.Y, .bool g.R] S1 2 rfl ?_ ?_ ?_ ?_ ?_ ?_ ?_); go_must (exact rfl); go_must (exact rfl); go_must (kernel_rfl); go_must (kernel_rfl); go_must (exact Nat.le_of_ble_eq_true (by kernel_rfl)); go_must (kernel_rfl))
  intro w2 S2
  clear lc lf ls lc2 lf2 ls2 S1
  obtain ⟨lc, lf, ls⟩ := S2.cells 2 rfl
  go_wp2_with ((with_reducible refine wp_setA (k := 0) (u := .agg #[.int .i64 g.W, .int .i64 g.H, .slice A1 m c1, .int .i64 g.X, .int .i64 g.Y, .bool g.R]) #[.int .i64 g.W, .int .i64 g.H, .slice A1 m c1, .int .i64 g.X, .int .i64 g.Y, .bool g.R] S2 1 rfl ?_ ?_ ?_ ?_ ?_ ?_ ?_); go_must (exact rfl); go_must (exact rfl); go_must (kernel_rfl); go_must (kernel_rfl); go_must (exact Nat.le_of_ble_eq_true (by kernel_rfl)); go_must (kernel_rfl))
  intro w3 S3
  go_wp2_with fail
  obtain ⟨lc5, -, -⟩ := S3.cells 1 rfl
  exact bodyPost_ret (v := .agg #[.int .i64 g.W, .int .i64 g.H, .slice A1 m c1, .int .i64 g.X, .int .i64 g.Y, .bool g.R]) (by simp [results, Tryd.results68, go_sem, lc5]) rfl ⟨_, rfl, S3.outI 0 rfl, S3.ext⟩
end Go.Proofs.YtohjjhoobikioaaDoor
