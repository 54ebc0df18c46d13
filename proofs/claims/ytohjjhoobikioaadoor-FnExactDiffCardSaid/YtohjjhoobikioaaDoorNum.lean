/-
  NumText of both packages; escape; EmitGoto of both packages.
-/
import Derived.Test.YtohjjhoobikioaaDoorBytes2
import Derived.Test.YtohjjhoobikioaaDoorTextOf
import Derived.Test.YtohjjhoobikioaaDoorShelf
import Derived.Test.YtohjjhoobikioaaDoorGridText
namespace Go.Proofs.YtohjjhoobikioaaDoor
open Go.RowKit

def numText (n : Int) : List UInt8 := if 0 ≤ n ∧ n ≤ 4294967295 then Lib.decDigits n.toNat else []
theorem numText_yes {n : Int} (h0 : 0 ≤ n) (h1 : n ≤ 4294967295) : numText n = Lib.decDigits n.toNat := by unfold numText; rw [if_pos ⟨h0, h1⟩]
theorem numText_no {n : Int} (h : ¬ (0 ≤ n ∧ n ≤ 4294967295)) : numText n = [] := by unfold numText; rw [if_neg h]
theorem decDigits_len (k : Nat) : ∀ u : Nat, u < 10 ^ (k + 1) → (Lib.decDigits u).length ≤ k + 1 := by
  induction k with
  | zero => intro u hu; rw [Lib.decDigits_one (by simpa using hu)]; simp
  | succ k ih =>
    intro u hu
    rw [Lib.decDigits]
    split
    · simp
    · have := ih (u / 10) (by rw [Nat.pow_succ] at hu; omega)
      simp; omega
theorem numText_len (n : Int) : (numText n).length ≤ 10 := by
  unfold numText
  split
  · exact decDigits_len 9 _ (by omega)
  · simp
theorem numText_small {n : Int} (h0 : 0 ≤ n) (h : n < 10) : numText n = [by8 (48 + n)] := by
  rw [numText_yes h0 (by omega), Lib.decDigits_one (by omega)]
  unfold by8; congr 2; omega
theorem numText_step {n : Int} (h0 : 10 ≤ n) (h : n ≤ 4294967295) : numText n = numText (n / 10) ++ [by8 (48 + n % 10)] := by
  rw [numText_yes (by omega) h, numText_yes (by omega) (by omega), Lib.decDigits, dif_neg (by omega)]
  unfold by8
  congr 2
  · congr 1; omega
  · congr 2; omega

theorem toArr_append (a b : List UInt8) : (a ++ b).toArray = a.toArray ++ b.toArray := by simp
theorem conv1 {x : Int} (h0 : 0 ≤ x) (h1 : x < 256) (W : World) (b : Nat) (hc : W.cell? ⟨b, 0, none⟩ = some (.int .u8 x)) :
    (convert 38 9 (.slice (some ⟨b, 0, none⟩) 1 1)).run Tryd.prog W = .ok (.string ⟨#[by8 x]⟩) W := by
  refine run_convert_bytes_back W 38 9 5 ⟨b, 0, none⟩ 1 [by8 x] Tryd.underlying38 Tryd.underlying5 Tryd.underlying9 (fun j hj => ?_)
  obtain rfl : j = 0 := by simp at hj; omega
  rw [Addr.add_lit]
  simpa [by8_nat h0 h1] using hc

theorem impl_isNumber (n : Int) (w : World) : Calls Tryd.prog 127 #[.int .i64 n] w fun e w' => e = .returned (.bool (inB n 0 4294967295)) ∧ w = w' := by
  go_enter Tryd.func127, Tryd.ntmps127
  go_wp2_with fail
  refine (impl_in _ _ _ _).mono ?_; rintro e w' ⟨rfl, rfl⟩
  go_wp2_with fail
  go_ret
  exact ⟨rfl, rfl⟩
theorem impl_NumText (n : Int) (h0 : -9223372036854775808 ≤ n) (h1 : n ≤ 9223372036854775807) (w : World) (ht : Tab w) :
    Calls Tryd.prog 111 #[.int .i64 n] w fun e w' => e = .returned (.string ⟨(numText n).toArray⟩) ∧ Ext w w' := by
  cases hb : inB n 0 4294967295
  · have E := Lib.hid (numText_no (inB_not.1 hb))
    go_enter Tryd.func111, Tryd.ntmps111
    go_wp2_with fail
    have k1 := impl_isNumber n w
    rw [hb] at k1
    refine (k1).mono ?_; rintro e w1 ⟨rfl, rfl⟩
    clear k1
    go_wp2_with fail
    go_ret
    exact ⟨by rw [E.out]; rfl, Ext.refl _⟩
  · obtain ⟨h2, h3⟩ := inB_iff.1 hb
    have E : Hid (Lib.itoa n = numText n) := by show _ = _; rw [numText_yes h2 h3]; unfold Lib.itoa; rw [if_neg (by omega)]
    go_enter Tryd.func111, Tryd.ntmps111
    go_wp2_with fail
    have k1 := impl_isNumber n w
    rw [hb] at k1
    refine (k1).mono ?_; rintro e w1 ⟨rfl, rfl⟩
    clear k1
    go_wp2_with fail
    refine (Tryd.strconv_Itoa n h0 h1 _ ht).mono ?_; rintro e w1 ⟨rfl, k, os, rfl⟩
    rw [E.out]
    go_wp2_with fail
    go_ret
    exact ⟨rfl, (Ext.refl w).grow k os⟩

theorem spec_l01Num (n : Int) (w : World) : Calls Tryd.prog 94 #[.int .i64 n] w fun e w' => e = .returned (.bool (inB n 0 4294967295)) ∧ w = w' := by
  by_cases h1 : 0 ≤ n <;> by_cases h2 : n ≤ 4294967295
  all_goals (try (exfalso; omega))
  all_goals
    have e1 : inB n 0 4294967295 = true ∨ inB n 0 4294967295 = false := by cases inB n 0 4294967295 <;> simp
    rcases e1 with e1 | e1 <;> rw [e1] <;> simp [inB] at e1 <;> (try (exfalso; omega)) <;> clear e1
    go_enter Tryd.func94, Tryd.ntmps94
    go_wp2
    all_goals go_ret
    all_goals simp_all
set_option maxRecDepth 100000 in
set_option maxHeartbeats 2000000 in
theorem spec_NumText_at (k : Nat) : ∀ (n : Int) (w : World), n < k → Calls Tryd.prog 95 #[.int .i64 n] w fun e w' => e = .returned (.string ⟨(numText n).toArray⟩) ∧ Ext w w' := by
  induction k with
  | zero =>
    intro n w hk
    have hb : inB n 0 4294967295 = false := inB_not.2 (by omega)
    have E := Lib.hid (numText_no (inB_not.1 hb))
    go_enter Tryd.func95, Tryd.ntmps95
    go_wp2_with fail
    have k1 := spec_l01Num n w
    rw [hb] at k1
    refine (k1).mono ?_; rintro e w1 ⟨rfl, rfl⟩
    clear k1
    go_wp2_with fail
    go_ret
    exact ⟨by rw [E.out]; rfl, Ext.refl _⟩
  | succ k ih =>
    intro n w hk
    cases hb : inB n 0 4294967295
    · have E := Lib.hid (numText_no (inB_not.1 hb))
      have Ih := Lib.hid ih; clear ih
      go_enter Tryd.func95, Tryd.ntmps95
      go_wp2_with fail
      have k1 := spec_l01Num n w
      rw [hb] at k1
      refine (k1).mono ?_; rintro e w1 ⟨rfl, rfl⟩
      clear k1
      go_wp2_with fail
      go_ret
      exact ⟨by rw [E.out]; rfl, Ext.refl _⟩
    obtain ⟨h2, h3⟩ := inB_iff.1 hb
    by_cases h4 : n < 10
    · have E := Lib.hid (numText_small h2 h4)
      have Ih := Lib.hid ih; clear ih
      have HB := Lib.hid (by8_nat (x := 48 + n) (by omega) (by omega))
      go_enter Tryd.func95, Tryd.ntmps95
      go_wp2_with fail
      have k1 := spec_l01Num n w
      rw [hb] at k1
      refine (k1).mono ?_; rintro e w1 ⟨rfl, rfl⟩
      clear k1
      have r1 := RB.lit w [.int .u8 (48 + n)] [by8 (48 + n)] (by simp [byteC, HB.out]) (by simp)
      go_wp2_with ((with_reducible refine wp_toStr (l := [by8 (48 + n)]) ?_ r1 ?_); go_must (exact rfl))
      go_wp2_with fail
      go_ret
      exact ⟨by rw [E.out]; rfl, (Ext.refl w).alloc _⟩
    · have E := Lib.hid (numText_step (by omega) h3)
      have Ih := Lib.hid ih; clear ih
      have HB := Lib.hid (by8_nat (x := 48 + n % 10) (by omega) (by omega))
      go_enter Tryd.func95, Tryd.ntmps95
      go_wp2_with fail
      have k1 := spec_l01Num n w
      rw [hb] at k1
      refine (k1).mono ?_; rintro e w1 ⟨rfl, rfl⟩
      clear k1
      go_wp2_with fail
      have e1 : n.tdiv 10 = n / 10 := Int.tdiv_eq_ediv_of_nonneg (by omega)
      have e2 : IntKind.i64.wrap (n / 10) = n / 10 := IntWalk.i64_in _ (by omega)
      have e3 : n.tmod 10 = n % 10 := Int.tmod_eq_emod_of_nonneg (by omega)
      have e4 : IntKind.i64.wrap (48 + n % 10) = 48 + n % 10 := IntWalk.i64_in _ (by omega)
      have e5 : IntKind.u8.wrap (48 + n % 10) = 48 + n % 10 := by rw [IntKind.wrap_u8]; omega
      have hk' : n / 10 < k := by omega
      have hl := numText_len (n / 10)
      have e6 := conv1 (x := 48 + n % 10) (by omega) (by omega)
      go_region_with (first
        | (go_at_call 95; refine (Ih.out _ _ hk').mono ?_; rintro e w1 ⟨rfl, x1⟩; obtain ⟨lc, lf, ls⟩ := x1.look))
      all_goals
        clear e1 e2 e3 e4 e5 e6 hl
        go_wp2_with fail
        go_ret
        exact ⟨by rw [E.out, toArr_append, ← cat_bytes]; rfl, by first | exact (((Ext.refl w).alloc _).drew).trans x1 | exact (((Ext.refl w).drew).trans x1).alloc _ | exact ((Ext.refl w).drew).trans x1⟩
theorem spec_NumText (n : Int) (w : World) : Calls Tryd.prog 95 #[.int .i64 n] w fun e w' => e = .returned (.string ⟨(numText n).toArray⟩) ∧ Ext w w' := spec_NumText_at (n + 1).toNat n w (by omega)
end Go.Proofs.YtohjjhoobikioaaDoor
