/-
  FnExactShown: the law's walk.
-/
import Derived.Test.YthmclngeboiikaaShown
import Derived.Test.YthmclngeboiikaaHelp
namespace Go.Proofs.Ythmclngeboiikaa
open Go.RowKit

set_option maxHeartbeats 1000000 in
theorem law_FnExactShown (A : Option Addr) (n c : Nat) (t : List Int) (W : World) (ht : RI W A n c t) :
    Calls Try.prog 3 #[.slice A n c] W fun e w' => e = .returned (.bool true) ∧ Ext W w' := by
  have hn := ht.nmax
  by_cases hbig : 1048576 < n
  · go_enter Try.func3, Try.ntmps3
    go_wp2_with fail
    go_ret
    exact ⟨rfl, Ext.refl _⟩
  have hsl := shown_len t
  have hlen := Lib.hid ht.len
  rw [ht.len] at hsl
  go_enter Try.func3, Try.ntmps3
  go_wp2_with fail
  refine (laws_toIntS A n c t _ ht (by omega)).mono ?_; rintro e w1 ⟨v1, rfl, own1, x1⟩
  obtain ⟨A1, c1, rfl, r1⟩ := own1.form
  go_wp2_with fail
  refine (spec_Shown A1 _ c1 t _ r1 (by rw [hlen.out]; omega)).mono ?_; rintro e w2 ⟨vW, rfl, ownW, x2⟩
  go_wp2_with fail
  refine (laws_toIntS A n c t _ (ht.ext (x1.trans x2)) (by omega)).mono ?_; rintro e w3 ⟨vx, rfl, ownx, x3⟩
  obtain ⟨Ax, cx, rfl, rx⟩ := ownx.form
  go_wp2_with fail
  refine (impl_Shown Ax _ cx t _ rx (by rw [hlen.out]; omega)).mono ?_; rintro e w4 ⟨vg, rfl, owng, x4⟩
  obtain ⟨Ag, cg, rfl, rg⟩ := owng.form
  have ownW4 := ownW.ext (x3.trans x4)
  obtain ⟨AW, cW, rfl, rW⟩ := ownW4.form
  go_wp2_with fail
  refine (laws_eqIntS Ag _ cg _ AW _ cW _ _ rg rW).mono ?_; rintro e w5 ⟨rfl, x5⟩
  have X5 := (x1.trans (x2.trans (x3.trans (x4.trans x5))))
  go_wp2_with fail
  refine (laws_toIntS A n c t _ (ht.ext X5) (by omega)).mono ?_; rintro e w6 ⟨v6, rfl, own6, x6⟩
  obtain ⟨A6, c6, rfl, r6⟩ := own6.form
  go_wp2_with fail
  refine (laws_eqIntS Ax _ cx _ A6 _ c6 _ _ (rx.ext (x4.trans (x5.trans x6))) r6).mono ?_; rintro e w7 ⟨rfl, x7⟩
  have X7 := X5.trans (x6.trans x7)
  have s1 := x1.size; have s2 := x2.size; have s3 := x3.size; have s4 := x4.size; have s5 := x5.size; have s6 := x6.size; have s7 := x7.size
  have ownx7 := ownx.ext (x4.trans (x5.trans (x6.trans x7)))
  have owng7 := owng.ext (x5.trans (x6.trans x7))
  have ownW7 := ownW4.ext (x5.trans (x6.trans x7))
  go_wp2_with fail
  refine (laws_markIntS _ t _ 1 _ ownx7 (by omega) (by omega) (by rw [hlen.out]; omega)).mono ?_; rintro e w8 ⟨rfl, ownx8, g8⟩
  have X8 := X7.grown (ownx7.mono (by omega)) g8
  have owng8 := owng7.kept g8 (ownx.ne' owng (Nat.le_refl _))
  have ownW8 := ownW7.kept g8 (ownW.ne ownx (Nat.le_refl _))
  obtain ⟨Ag8, cg8, eg8, rg8⟩ := owng8.form
  obtain ⟨AW8, cW8, eW8, rW8⟩ := ownW8.form
  injection eg8 with e1 _ e2; subst e1; subst e2
  injection eW8 with e1 _ e2; subst e1; subst e2
  go_wp2_with fail
  refine (laws_eqIntS _ _ _ _ _ _ _ _ _ rg8 rW8).mono ?_; rintro e w9 ⟨rfl, x9⟩
  have owng9 := owng8.ext x9
  have ownW9 := ownW8.ext x9
  go_wp2_with fail
  refine (laws_markIntS _ _ _ 1 _ owng9 (by omega) (by omega) (by omega)).mono ?_; rintro e w10 ⟨rfl, owng10, g10⟩
  have X10 := (X8.trans x9).grown (owng9.mono (by omega)) g10
  have ownW10 := ownW9.kept g10 (ownW.ne owng (by omega))
  obtain ⟨Ag10, cg10, eg10, rg10⟩ := owng10.form
  rw [marks_len] at eg10 rg10
  injection eg10 with e1 _ e2; subst e1; subst e2
  go_wp2_with fail
  refine (laws_heldIntS _ _ _ 1 _ rg10 (by omega) (by omega) (by omega)).mono ?_; rintro e w11 ⟨rfl, x11⟩
  go_wp2_with fail
  refine (laws_toIntS A n c t _ (ht.ext (X10.trans x11)) (by omega)).mono ?_; rintro e w12 ⟨v12, rfl, own12, x12⟩
  obtain ⟨A12, c12, rfl, r12⟩ := own12.form
  go_wp2_with fail
  refine (impl_Shown A12 _ c12 t _ r12 (by rw [hlen.out]; omega)).mono ?_; rintro e w13 ⟨vh, rfl, ownh, x13⟩
  obtain ⟨Ah, ch, rfl, rh⟩ := ownh.form
  have ownW13 := ownW10.ext (x11.trans (x12.trans x13))
  obtain ⟨AW13, cW13, eW13, rW13⟩ := ownW13.form
  injection eW13 with e1 _ e2; subst e1; subst e2
  go_wp2_with fail
  refine (laws_eqIntS _ _ _ _ _ _ _ _ _ rh rW13).mono ?_; rintro e w14 ⟨rfl, x14⟩
  go_wp2_with fail
  refine (laws_heldIntS _ _ _ 1 _ (rg10.ext (x11.trans (x12.trans (x13.trans x14)))) (by omega) (by omega) (by omega)).mono ?_; rintro e w15 ⟨rfl, x15⟩
  go_wp2_with fail
  go_ret
  exact ⟨rfl, X10.trans (x11.trans (x12.trans (x13.trans (x14.trans x15))))⟩
end Go.Proofs.Ythmclngeboiikaa
