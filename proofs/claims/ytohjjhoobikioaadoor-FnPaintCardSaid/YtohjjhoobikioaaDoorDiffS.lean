/-
  Of several texts: DiffS, DiffT.
-/
import Derived.Test.YtohjjhoobikioaaDoorDiffI
import Derived.Test.YtohjjhoobikioaaDoorEmitS
import Derived.Test.YtohjjhoobikioaaDoorGS3
/-! spec.Diff. -/
namespace Go.Proofs.YtohjjhoobikioaaDoor
open Go.RowKit

/-- a grid stored whole -/
theorem wp_setG {ops : Array Oper} {rest : List Oper} {d : Option Tmp} {tp : TypeId} {pos : String} {af : Array Edge} {a : Act} {W w : World} {Q : Exit → Act → World → Prop} {x y : Operand} {b : Nat} {g0 : Gr} {v0 : Value} {L : List Pc} (G : Gr) {A : Option Addr} {n c : Nat}
    (S : St W w L) (i : Nat) (e : L[i]? = some (row b 40 (gridCs g0 v0))) (hx : a.eval x = .pointer (some ⟨b, 0, none⟩)) (hy : a.eval y = .agg (gridCs G (.slice A n c)))
    (h : ∀ w', St W w' (L.set i (row b 40 (gridCs G (.slice A n c)))) → wpList Tryd.prog ops Q rest (a.put d undef) w') : wpList Tryd.prog ops Q (⟨d, Op.store 40 x y, tp, pos, af, none⟩ :: rest) a w :=
  wp_setA (k := 0) (gridCs G (.slice A n c)) S i e hx hy (by kernel_rfl) (by kernel_rfl) (Nat.le_of_ble_eq_true (by kernel_rfl)) (by kernel_rfl) h
theorem regrid {W w : World} {b : Nat} {T : TypeId} {cs : Array Value} {v v' : Value} {C C' : List Int} {L : List Pc} (S : St W w (ownI v' C' :: row b T cs :: ownI v C :: L)) : St W w (row b T cs :: ownI v' C' :: L) := ((S.bring 1 rfl).bring 2 rfl).drop
theorem OwnI.form' {w : World} {B : Nat} {v : Value} {l : List Int} (h : OwnI w B v l) : ∃ A n c, v = .slice A n c := by
  obtain ⟨A, c, e, -⟩ := h.form
  exact ⟨A, _, c, e⟩

/-! the reference's grid functions, with whole grids -/
theorem sGo (g : Gr) (A : Option Addr) (n c : Nat) (x y : Int) (w : World) (hC : RI w A n c g.C) (hg : gridOk g = true) :
    Calls Tryd.prog 54 #[.agg (gridCs g (.slice A n c)), .int .i64 x, .int .i64 y] w fun e w' => ∃ A' n' c', e = .returned (.agg (gridCs (goG g x y) (.slice A' n' c'))) ∧ OwnI w' w.heap.size (.slice A' n' c') (goG g x y).C ∧ Ext w w' :=
  (spec_GridGo g A n c x y w hC hg).mono fun _ _ ⟨_, h1, h2, h3⟩ => by
    obtain ⟨A', n', c', rfl⟩ := h2.form'
    exact ⟨A', n', c', h1, h2, h3⟩
theorem sClear (g : Gr) (A : Option Addr) (n c : Nat) (f t : Int) (w : World) (hC : RI w A n c g.C) (hg : gridOk g = true) :
    Calls Tryd.prog 75 #[.agg (gridCs g (.slice A n c)), .int .i64 f, .int .i64 t] w fun e w' => ∃ A' n' c', e = .returned (.agg (gridCs (clearG g f t) (.slice A' n' c'))) ∧ OwnI w' w.heap.size (.slice A' n' c') (clearG g f t).C ∧ Ext w w' :=
  (spec_GridClear g A n c f t w hC hg).mono fun _ _ ⟨_, h1, h2, h3⟩ => by
    obtain ⟨A', n', c', rfl⟩ := h2.form'
    exact ⟨A', n', c', h1, h2, h3⟩
theorem sPut (g : Gr) (A : Option Addr) (n c : Nat) (r : Int) (w : World) (hC : RI w A n c g.C) (hg : gridOk g = true) :
    Calls Tryd.prog 77 #[.agg (gridCs g (.slice A n c)), .int .i64 r] w fun e w' => ∃ A' n' c', e = .returned (.agg (gridCs (putG g r) (.slice A' n' c'))) ∧ OwnI w' w.heap.size (.slice A' n' c') (putG g r).C ∧ Ext w w' :=
  (spec_GridPut g A n c r w hC hg).mono fun _ _ ⟨_, h1, h2, h3⟩ => by
    obtain ⟨A', n', c', rfl⟩ := h2.form'
    exact ⟨A', n', c', h1, h2, h3⟩

set_option maxRecDepth 100000 in
set_option maxHeartbeats 2000000 in
theorem spec_Diff_no (g a : Gr) (A : Option Addr) (n c : Nat) (A' : Option Addr) (n' c' : Nat) (w : World) (hC : RI w A n c g.C) (hC' : RI w A' n' c' a.C) (h : ¬ (gridOk g = true ∧ gridOk a = true ∧ g.W = a.W ∧ g.H = a.H ∧ a.R = false)) :
    Calls Tryd.prog 27 #[.agg #[.int .i64 g.W, .int .i64 g.H, .slice A n c, .int .i64 g.X, .int .i64 g.Y, .bool g.R], .agg #[.int .i64 a.W, .int .i64 a.H, .slice A' n' c', .int .i64 a.X, .int .i64 a.Y, .bool a.R]] w fun e w' =>
      e = .returned (.tuple #[.slice none 0 0, .bool false]) ∧ Ext w w' := by
  have S := ((St.refl w).alloc #[.int .i64 g.W, .int .i64 g.H, .slice A n c, .int .i64 g.X, .int .i64 g.Y, .bool g.R] 40).alloc #[.int .i64 a.W, .int .i64 a.H, .slice A' n' c', .int .i64 a.X, .int .i64 a.Y, .bool a.R] 40
  rw [World.size_alloc] at S
  have k1 := fun w h1 h2 => spec_Differ g.W g.H g.X g.Y g.R g.C A n c a.W a.H a.X a.Y a.R a.C A' n' c' w h1 h2
  by_cases h1 : gridOk g = true ∧ gridOk a = true ∧ g.W = a.W ∧ g.H = a.H
  · have hR : a.R = true := by
      cases hr : a.R
      · exact absurd ⟨h1.1, h1.2.1, h1.2.2.1, h1.2.2.2, hr⟩ h
      · rfl
    have e : differ ⟨g.W, g.H, g.C, g.X, g.Y, g.R⟩ ⟨a.W, a.H, a.C, a.X, a.Y, a.R⟩ = _ := differ_yes h1.1 h1.2.1 h1.2.2.1 h1.2.2.2
    rw [e] at k1
    have K1 := Lib.hid k1
    rw [hR] at S K1
    obtain ⟨m, hm⟩ : ∃ m, m = cnt g.C a.C g.C.length := ⟨_, rfl⟩
    rw [← hm] at K1
    clear k1 h1 h e hm
    rw [hR]
    clear hR
    go_enter Tryd.func27, Tryd.ntmps27
    go_wp2_with fail
    refine Calls.mono (K1.out _ (hC.ext S.ext) (hC'.ext S.ext)) ?_; rintro e w1 ⟨rfl, x1⟩
    have S1 := S.call x1
    obtain ⟨lc, lf, ls⟩ := S1.cells 0 rfl
    go_wp2_with fail
    go_ret2
    exact ⟨rfl, S1.ext⟩
  · have e : differ ⟨g.W, g.H, g.C, g.X, g.Y, g.R⟩ ⟨a.W, a.H, a.C, a.X, a.Y, a.R⟩ = -1 := differ_no h1
    rw [e] at k1
    have K1 := Lib.hid k1
    clear k1 h1 h e
    go_enter Tryd.func27, Tryd.ntmps27
    go_wp2_with fail
    refine Calls.mono (K1.out _ (hC.ext S.ext) (hC'.ext S.ext)) ?_; rintro e w1 ⟨rfl, x1⟩
    have S1 := S.call x1
    obtain ⟨lc, lf, ls⟩ := S1.cells 0 rfl
    go_wp2_with fail
    go_ret2
    exact ⟨rfl, S1.ext⟩

theorem row_mod {W y : Int} {s e k : Nat} (hs : (s : Int) = y * W) (he : (e : Int) = s + W) (h1 : s < k) (h2 : k < e) : (k : Int) % W ≠ 0 := by
  have e1 : (k : Int) = (k - s : Int) + y * W := by omega
  rw [e1, Int.add_mul_emod_self_right, Int.emod_eq_of_lt (by omega) (by omega)]
  omega
theorem row_end {W y : Int} {s e : Nat} (hs : (s : Int) = y * W) (he : (e : Int) = s + W) : (e : Int) % W = 0 := by
  rw [he, hs, show y * W + W = (y + 1) * W by rw [Int.add_mul, Int.one_mul]]
  exact Int.mul_emod_left _ _
theorem cut_get {C : List Int} {i e j : Nat} (h1 : i ≤ j) (h2 : j < e) : gt C j = ((C.drop i).take (e - i))[j - i]?.getD 0 := by
  rw [List.getElem?_take, if_pos (by omega), List.getElem?_drop, show i + (j - i) = j by omega]
/-- what the reference keeps: its grid, the bytes so far -/
abbrev DL (b : Nat) (v : Value) (g : Gr) (vo : Value) (o : List UInt8) (L : List Pc) : List Pc := row b 40 (gridCs g v) :: ownI v g.C :: ownB vo o :: L

set_option maxRecDepth 100000 in
set_option maxHeartbeats 8000000 in
theorem spec_Diff_yes (g : Gr) (A : Option Addr) (n c : Nat) (W' H' X' Y' : Int) (C' : List Int) (A' : Option Addr) (n' c' : Nat) (w : World) (hC : RI w A n c g.C) (hC' : RI w A' n' c' C')
    (hg : gridOk g = true) (ha : gridOk ⟨W', H', C', X', Y', false⟩ = true) (hw : g.W = W') (hh : g.H = H') :
    Calls Tryd.prog 27 #[.agg #[.int .i64 g.W, .int .i64 g.H, .slice A n c, .int .i64 g.X, .int .i64 g.Y, .bool g.R], .agg #[.int .i64 W', .int .i64 H', .slice A' n' c', .int .i64 X', .int .i64 Y', .bool false]] w fun e w' =>
      ∃ v, e = .returned (.tuple #[v, .bool true]) ∧ OwnB w' w.heap.size v (diffB g ⟨W', H', C', X', Y', false⟩) ∧ Ext w w' := by
  obtain ⟨a, hA⟩ : ∃ a : Gr, a = ⟨W', H', C', X', Y', false⟩ := ⟨_, rfl⟩
  obtain ⟨d1, d2, d3, d4, d5, d6⟩ := gridOk_d ha
  obtain ⟨c1, c2, c3, c4, -⟩ := gridOk_c ha
  simp only at d1 d2 d3 d4 d5 d6 c1 c2 c3 c4
  have hn : n ≤ 8000 := by
    obtain ⟨-, -, -, -, q5, q6⟩ := gridOk_d hg
    have := hC.len; omega
  have hn' : C'.length = n' := hC'.len
  have S := ((St.refl w).alloc #[.int .i64 g.W, .int .i64 g.H, .slice A n c, .int .i64 g.X, .int .i64 g.Y, .bool g.R] 40).alloc #[.int .i64 W', .int .i64 H', .slice A' n' c', .int .i64 X', .int .i64 Y', .bool false] 40
  rw [World.size_alloc] at S
  have k1 := fun w h1 h2 => spec_Differ g.W g.H g.X g.Y g.R g.C A n c W' H' X' Y' false C' A' n' c' w h1 h2
  have e : differ ⟨g.W, g.H, g.C, g.X, g.Y, g.R⟩ ⟨W', H', C', X', Y', false⟩ = _ := differ_yes hg ha hw hh
  rw [e] at k1
  obtain ⟨m, hm⟩ : ∃ m, m = cnt g.C C' g.C.length := ⟨_, rfl⟩
  have em : (cnt g.C C' g.C.length : Int) = m := by rw [hm]
  have K1 : Hid (∀ w h1 h2, Calls _ _ _ w _) := Lib.hid k1
  simp only [em] at K1
  have Hg := Lib.hid hg; have Ha := Lib.hid ha; have Hw := Lib.hid hw; have Hh := Lib.hid hh; have HA := Lib.hid hA; have Hn' := Lib.hid hn'
  have hn8 : n' ≤ 8000 := by omega
  have HD := Lib.hid (And.intro d5 d6)
  clear k1 e hm hg ha hw hh d5 d6 em hA hn'
  go_enter Tryd.func27, Tryd.ntmps27
  go_wp2_with fail
  refine Calls.mono (K1.out _ (hC.ext S.ext) (hC'.ext S.ext)) ?_; rintro e w1 ⟨rfl, x1⟩
  have S1 := S.call x1
  clear S x1
  obtain ⟨lc, lf, ls⟩ := S1.cells 0 rfl
  obtain ⟨lc2, lf2, ls2⟩ := S1.cells 1 rfl
  have S2 := S1.newB (OwnB.empty (Nat.le_refl _)) ((Ext.refl _).alloc _)
  clear S1
  go_wp2_with fail
  refine Calls.mono (spec_l08Copy g A n c _ (hC.ext S2.ext) (by omega)) ?_; rintro e w2 ⟨v, rfl, own, x2⟩
  have S3 := (S2.newI own x2).alloc zeroG 40
  obtain ⟨A1, cc1, rfl, -⟩ := own.form
  obtain ⟨m1, hm1⟩ : ∃ m, m = g.C.length := ⟨_, rfl⟩
  rw [← hm1] at S3 ⊢
  clear own x2 S2 lc lf ls lc2 lf2 ls2 hm1
  generalize w1.heap.size = b1 at S3 ⊢
  go_wp2_with ((with_reducible refine wp_setA (k := 0) (u := .agg #[.int .i64 g.W, .int .i64 g.H, .slice A1 m1 cc1, .int .i64 g.X, .int .i64 g.Y, .bool g.R]) #[.int .i64 g.W, .int .i64 g.H, .slice A1 m1 cc1, .int .i64 g.X, .int .i64 g.Y, .bool g.R] S3 0 rfl ?_ ?_ ?_ ?_ ?_ ?_ ?_); go_must (exact rfl); go_must (exact rfl); go_must (kernel_rfl); go_must (kernel_rfl); go_must (exact Nat.le_of_ble_eq_true (by kernel_rfl)); go_must (kernel_rfl))
  intro w3 S4
  generalize w2.heap.size = b7 at S4 ⊢
  have S5 : St w w3 (DL b7 (.slice A1 m1 cc1) g (.slice (some ⟨b1, 0, none⟩) 0 0) [] [row (w.heap.size + 1) 40 #[.int .i64 W', .int .i64 H', .slice A' n' c', .int .i64 X', .int .i64 Y', .bool false], row w.heap.size 40 #[.int .i64 g.W, .int .i64 g.H, .slice A n c, .int .i64 g.X, .int .i64 g.Y, .bool g.R]]) := S4
  clear S3 S4
  go_wp2_with fail
  go_loopw [8, 6] (fun vi vt wr => ∃ (k : Nat) (v' : Value), (k : Int) ≤ H' ∧ vi = .int .i64 k ∧ St w wr (DL b7 v' (rowsDiff a g k).1 vt (rowsDiff a g k).2 [row (w.heap.size + 1) 40 #[.int .i64 W', .int .i64 H', .slice A' n' c', .int .i64 X', .int .i64 Y', .bool false], row w.heap.size 40 #[.int .i64 g.W, .int .i64 g.H, .slice A n c, .int .i64 g.X, .int .i64 g.Y, .bool g.R]])) (fun vi _ _ => H'.toNat - (intOf vi).toNat)
  case atStart => exact ⟨0, _, by omega, rfl, S5⟩
  case round =>
    clear S5
    obtain ⟨k, v', hk, rfl, S⟩ := hrel
    obtain ⟨q1, q2, q3, q4⟩ := rowsDiff_ok (a := a) (by rw [HA.out]; exact Ha.out) Hg.out (by rw [HA.out]; exact Hw.out) (by rw [HA.out]; exact Hh.out) k (by rw [HA.out]; exact hk)
    have hHH : H' ≤ 200 := d4
    generalize hR : rowsDiff a g k = R at S q1 q2 q3 q4
    have HR := Lib.hid hR; clear hR
    have Q1 := Lib.hid q1; have Q2 := Lib.hid q2; have Q3 := Lib.hid q3; clear q1 q2 q3
    obtain ⟨lc2, lf2, ls2⟩ := S.cells 3 rfl
    by_cases hlt : (k : Int) < H'
    · obtain ⟨s, hs⟩ : ∃ s, s = k * W'.toNat := ⟨_, rfl⟩
      obtain ⟨e, he⟩ : ∃ e, e = s + W'.toNat := ⟨_, rfl⟩
      have KS : (k : Int) * W' = s := by rw [hs, Int.natCast_mul, Int.toNat_of_nonneg (by omega)]
      have KE : (s : Int) + W' = e := by rw [he, Int.natCast_add, Int.toNat_of_nonneg (by omega)]
      have hse : s ≤ e := by omega
      have hen : e ≤ n' := by
        have h1 : ((k : Int) + 1) * W' ≤ H' * W' := Int.mul_le_mul_of_nonneg_right (by omega) (by omega)
        rw [Int.add_mul, Int.one_mul, Int.mul_comm H'] at h1
        have := HD.out.2; have := Hn'.out
        omega
      have HN : Hid (rowsDiff a g (k + 1) = rowDiff a s e k s R.1 R.2) := by
        show _ = _
        rw [← HR.out, he, hs]
        have : a.W = W' := by rw [HA.out]
        rw [← this]; rfl
      have Hs := Lib.hid hs; have He := Lib.hid he
      clear hs he
      have SL := Lib.hid S
      clear S
      go_wp2_with fail
      go_loopw [9, 6] (fun vi vt wr => ∃ (i : Nat) (g' : Gr) (v' : Value) (o' : List UInt8), s ≤ i ∧ i ≤ e ∧ vi = .int .i64 ((i : Int) - s) ∧ Hid (rowsDiff a g (k + 1) = rowDiff a s e k i g' o') ∧ Hid (DInv a g' s i) ∧ Hid (o'.length + 40 * s ≤ R.2.length + 40 * i) ∧
        St w wr (DL b7 v' g' vt o' [row (w.heap.size + 1) 40 #[.int .i64 W', .int .i64 H', .slice A' n' c', .int .i64 X', .int .i64 Y', .bool false], row w.heap.size 40 #[.int .i64 g.W, .int .i64 g.H, .slice A n c, .int .i64 g.X, .int .i64 g.Y, .bool g.R]])) (fun vi _ _ => e - s - (intOf vi).toNat)
      case atStart => exact ⟨s, R.1, _, R.2, Nat.le_refl _, hse, by go_num, HN, DInv.start _ Q1.out Q2.out Q3.out, Nat.le_refl _, SL.out⟩
      case round =>
        clear lc2 lf2 ls2 SL HN
        obtain ⟨i, g', v', o', hi1, hi2, rfl, HR', HD', Ho', S⟩ := hrel
        obtain ⟨lc2, lf2, ls2⟩ := S.cells 3 rfl
        by_cases hlt2 : i < e
        · have hlg : g'.C.length = n' := by
            rw [HD'.out.len (by rw [HA.out]; exact Ha.out), HA.out]; exact Hn'.out
          obtain ⟨A2, n2, c2, rfl⟩ := (S.ownI 1 rfl).form'
          have hri := (S.ownI 1 rfl).ri
          have hn2 : n' = n2 := by rw [← hri.len]; exact hlg.symm
          subst hn2
          obtain ⟨q, oq, rfl, hcell⟩ := hri.at1 (k := i) (by omega)
          obtain ⟨qa, oa, rfl, hcella⟩ := (hC'.ext S.ext).at1 (k := i) (by omega)
          obtain ⟨lc, lf, ls⟩ := S.cells 0 rfl
          simp only [gridCs] at lc
          have KX : (s : Int) + ((i : Int) - s) = i := by omega
          have Hlg := Lib.hid hlg; clear hlg
          by_cases hd : gt g'.C i = gt C' i
          · have hdb : (g'.C[i]?.getD 0 == C'[i]?.getD 0) = true := by simpa using hd
            have HR2 : Hid (rowsDiff a g (k + 1) = rowDiff a s e k (i + 1) g' o') := by
              show _ = _
              rw [HR'.out]; exact rowDiff_same hlt2 (by rw [HA.out]; exact hd)
            have HD2 : Hid (DInv a g' s (i + 1)) := HD'.out.next (by rw [HA.out]; exact hd)
            clear hd hri
            go_wp2_with fail
            go_quiet (fail)
            go_wp2_with fail
            go_roundw
            case rel => exact ⟨i + 1, g', _, o', by omega, by omega, by go_num, HR2, HD2, (by have := Ho'.out; show _ ≤ _; omega), by first | exact S | exact S.drewN _⟩
            case measure => simp [intOf]; omega
          · have hdb : (g'.C[i]?.getD 0 == C'[i]?.getD 0) = false := by simpa using hd
            have hda : gt g'.C i ≠ gt a.C i := by rw [HA.out]; exact hd
            obtain ⟨hw, hDp⟩ := HD'.out.put (y := k) (by rw [HA.out]; exact Ha.out) hi1 (by omega) (by rw [HA.out]; exact hlt) (by rw [HA.out]; exact KS.symm) (by rw [HA.out]; show (i : Int) - s < W'; omega) hda
            have HHg : Hid (g'.W = W' ∧ g'.H = H') := ⟨by rw [HD'.out.w, HA.out], by rw [HD'.out.h, HA.out]⟩
            have Hw2 := Lib.hid hw; have HDp := Lib.hid hDp
            have HDD := Lib.hid hda
            clear hd hri hw hDp hda
            go_wp2_with fail
            go_quiet (fail)
            go_wp2_with fail
            refine Calls.mono (spec_EmitStep g' _ _ _ _ _ _ ((S.drewN _).ownI 1 rfl).ri HD'.out.ok (by omega) (by have := HHg.out.1; omega) (by omega) (by have := HHg.out.2; omega)) ?_; rintro e w4 ⟨A4, n4, c4', rfl, r4, x4⟩
            have S1 := (S.drewN _).call x4
            have hl4 := emitStep_len g' ((i : Int) - s) k
            rw [r4.len] at hl4
            have hob : o'.length ≤ 2400000 := by have := Ho'.out; omega
            clear x4 lc lf ls lc2 lf2 ls2 S
            go_wp2_with (at_builtin; refine wp_addB rfl _ _ rfl S1 2 rfl rfl rfl r4 (by omega) ?_)
            intro v5 w5 S2
            have S3 : St w w5 (DL b7 (.slice (some ⟨q, oq, none⟩) n' c2) g' v5 (o' ++ emitStep g' ((i : Int) - s) k) [row (w.heap.size + 1) 40 #[.int .i64 W', .int .i64 H', .slice (some ⟨qa, oa, none⟩) n' c', .int .i64 X', .int .i64 Y', .bool false], row w.heap.size 40 #[.int .i64 g.W, .int .i64 g.H, .slice A n c, .int .i64 g.X, .int .i64 g.Y, .bool g.R]]) := S2
            clear S1 S2 r4
            have hl5 : (o' ++ emitStep g' ((i : Int) - s) k).length ≤ 2400024 := by
              have := emitStep_len g' ((i : Int) - s) k
              rw [List.length_append]; omega
            obtain ⟨lc, lf, ls⟩ := S3.cells 0 rfl
            simp only [gridCs] at lc
            go_wp2_with fail
            refine Calls.mono (sGo g' _ _ _ _ _ _ ((S3.ownI 1 rfl).ri) HD'.out.ok) ?_; rintro e w6 ⟨A6, n6, c6, rfl, own6, x6⟩
            have S4 := S3.newI own6 x6
            clear own6 x6 S3 lc lf ls
            generalize hG : goG g' ((i : Int) - s) k = G at S4 ⊢
            generalize hO : o' ++ emitStep g' ((i : Int) - s) k = O at S4 hl5
            have HG := Lib.hid hG; have HO := Lib.hid hO; clear hG hO
            go_wp2_with ((with_reducible refine wp_setG (A := A6) (n := n6) (c := c6) G S4 1 rfl ?_ ?_ ?_); go_must (exact rfl); go_must (exact rfl))
            intro w7 S5
            have S6 := regrid S5
            clear S4 S5
            have HGk : Hid (gridOk G = true) := by show _ = _; rw [← HG.out]; exact goG_ok HD'.out.ok _ _
            obtain ⟨lc2, lf2, ls2⟩ := S6.cells 3 rfl
            have k1 := spec_l28Tail_at ⟨W', H', C', X', Y', false⟩ (some ⟨qa, oa, none⟩) n' c' i e ((C'.drop i).take (e - i)) w7 (hC'.ext S6.ext) hlt2 hen d1 hn8
              (fun j h1 h2 => row_mod (W := W') (y := k) KS.symm KE.symm (by omega) h2) (row_end (W := W') (y := k) KS.symm KE.symm) (by rw [List.length_take, List.length_drop, Hn'.out]; omega) (fun j h1 h2 => cut_get h1 h2)
            cases hb : blanks ((C'.drop i).take (e - i))
            · rw [hb] at k1
              have K2 := Lib.hid k1
              obtain ⟨r, hr⟩ : ∃ r, r = gt C' i := ⟨_, rfl⟩
              have hra : gt a.C i = r := by rw [HA.out]; exact hr.symm
              have HR2 : Hid (rowsDiff a g (k + 1) = rowDiff a s e k (i + (width r).toNat) (putG G r) (O ++ runeBytes r)) := by
                show _ = _
                rw [HR'.out, rowDiff_put hlt2 HDD.out (by rw [HA.out]; exact hb) (Hw2.out.imp id (fun x => x.1)), HG.out, HO.out, hra]
              have HD2 : Hid (DInv a (putG G r) s (i + (width r).toNat)) := by
                have := HDp.out
                rw [HG.out, hra] at this; exact this
              have HW2 : Hid (width r = 1 ∨ (width r = 2 ∧ (i : Int) - s + 1 < W')) := by
                have := Hw2.out
                rw [hra, HA.out] at this; exact this
              obtain ⟨m2, hm, hm1, hm2⟩ : ∃ m : Nat, width r = m ∧ 1 ≤ m ∧ i + m ≤ e := ⟨(width r).toNat, by have := HW2.out; omega, by have := HW2.out; omega, by have := HW2.out; omega⟩
              have HM := Lib.hid hm
              have hrc0 : ∀ w1, Ext w7 w1 → w1.cell? ⟨qa, oa + i, none⟩ = some (.int .i64 r) := fun w1 x1 => by
                rw [hr]; exact (hC'.ext (S6.ext.trans x1)).cellAt (k := i) (by omega)
              have HRC := Lib.hid hrc0
              clear hb k1 hr hra hm hrc0
              go_wp2_with fail
              refine Calls.mono (K2.out) ?_; rintro e w8 ⟨rfl, x8⟩
              have S7 := S6.call x8
              have hrc := HRC.out _ x8
              clear S6 x8 lc2 lf2 ls2 K2 HRC
              obtain ⟨lc2, lf2, ls2⟩ := S7.cells 3 rfl
              go_wp2_with fail
              refine Calls.mono (spec_RuneBytes _ _) ?_; rintro e w9 ⟨A9, n9, c9, rfl, r9, x9⟩
              have S8 := S7.call x9
              have hl9 := runeBytes_len r
              rw [r9.len] at hl9
              clear x9 lc2 lf2 ls2 S7 hrc
              go_wp2_with (at_builtin; refine wp_addB rfl _ _ rfl S8 2 rfl rfl rfl r9 (by omega) ?_)
              intro v10 w10 S9
              have S9 : St w w10 (DL b7 (.slice A6 n6 c6) G v10 (O ++ runeBytes r) [row (w.heap.size + 1) 40 #[.int .i64 W', .int .i64 H', .slice (some ⟨qa, oa, none⟩) n' c', .int .i64 X', .int .i64 Y', .bool false], row w.heap.size 40 #[.int .i64 g.W, .int .i64 g.H, .slice A n c, .int .i64 g.X, .int .i64 g.Y, .bool g.R]]) := S9
              clear S8 r9
              obtain ⟨lc, lf, ls⟩ := S9.cells 0 rfl
              simp only [gridCs] at lc
              go_wp2_with fail
              refine Calls.mono (sPut G _ _ _ _ _ ((S9.ownI 1 rfl).ri) HGk.out) ?_; rintro e w11 ⟨A11, n11, c11, rfl, own11, x11⟩
              have S10 := S9.newI own11 x11
              clear own11 x11 S9 lc lf ls
              go_wp2_with ((with_reducible refine wp_setG (A := A11) (n := n11) (c := c11) (putG G r) S10 1 rfl ?_ ?_ ?_); go_must (exact rfl); go_must (exact rfl))
              intro w12 S11
              have S12 := regrid S11
              clear S10 S11
              go_wp2_with fail
              have k1 := spec_Width r w12
              rw [HM.out] at k1
              refine Calls.mono (k1) ?_; rintro e w13 ⟨rfl, x13⟩
              clear k1
              have S13 := S12.call x13
              clear S12 x13
              have HO2 : Hid ((O ++ runeBytes r).length + 40 * s ≤ R.2.length + 40 * (i + m2)) := by
                have h1 := Ho'.out
                have h2 := emitStep_len g' ((i : Int) - s) k
                have h3 := runeBytes_len r
                show _ ≤ _
                rw [← HO.out, List.length_append, List.length_append]
                omega
              have HD3 := HD2.out; have HR3 := HR2.out
              rw [HM.out, Int.toNat_natCast] at HD3 HR3
              have HD4 := Lib.hid HD3; have HR4 := Lib.hid HR3
              clear HD3 HR3 HD2 HR2 HW2 HDp Hw2
              go_wp2_with fail
              go_roundw
              case rel => exact ⟨i + m2, putG G r, .slice A11 n11 c11, _, by omega, hm2, by go_num, HR4, HD4, HO2, S13⟩
              case measure => simp [intOf]; omega
            · rw [hb] at k1
              have HR2 : Hid (rowsDiff a g (k + 1) = (clearG G i e, O ++ [27, 91, 75])) := by
                show _ = _
                rw [HR'.out, rowDiff_tail hlt2 HDD.out (by rw [HA.out]; exact hb), HG.out, HO.out]
              have K2 := Lib.hid k1
              clear hb k1
              go_wp2_with fail
              refine Calls.mono (K2.out) ?_; rintro e w8 ⟨rfl, x8⟩
              have S7 := S6.call x8
              clear S6 x8 lc2 lf2 ls2 K2
              go_wp2_with (at_builtin; refine wp_addStr (news := [27, 91, 75]) rfl _ _ rfl S7 2 rfl rfl rfl (by simp; omega) ?_)
              intro v9 w9 S8
              have S8 : St w w9 (DL b7 (.slice A6 n6 c6) G v9 (O ++ [27, 91, 75]) [row (w.heap.size + 1) 40 #[.int .i64 W', .int .i64 H', .slice (some ⟨qa, oa, none⟩) n' c', .int .i64 X', .int .i64 Y', .bool false], row w.heap.size 40 #[.int .i64 g.W, .int .i64 g.H, .slice A n c, .int .i64 g.X, .int .i64 g.Y, .bool g.R]]) := S8
              clear S7
              obtain ⟨lc2, lf2, ls2⟩ := S8.cells 3 rfl
              obtain ⟨lc, lf, ls⟩ := S8.cells 0 rfl
              simp only [gridCs] at lc
              go_wp2_with fail
              refine Calls.mono (sClear G _ _ _ _ _ _ ((S8.ownI 1 rfl).ri) HGk.out) ?_; rintro e w10 ⟨A10, n10, c10, rfl, own10, x10⟩
              have S9 := S8.newI own10 x10
              clear own10 x10 S8 lc2 lf2 ls2 lc lf ls
              go_wp2_with ((with_reducible refine wp_setG (A := A10) (n := n10) (c := c10) (clearG G i e) S9 1 rfl ?_ ?_ ?_); go_must (exact rfl); go_must (exact rfl))
              intro w11 S10
              have S11 := regrid S10
              clear S9 S10
              go_wp2_with fail
              go_roundw
              case rel => exact ⟨k + 1, .slice A10 n10 c10, by omega, by go_num, by rw [HR2.out]; exact S11⟩
              case measure => simp [intOf]; omega
        · obtain rfl : i = e := by omega
          have HR2 : Hid (rowsDiff a g (k + 1) = (g', o')) := by
            show _ = _
            rw [HR'.out]; exact rowDiff_end (by omega)
          go_wp2_with fail
          go_roundw
          case rel => exact ⟨k + 1, v', by omega, by go_num, by rw [HR2.out]; exact S⟩
          case measure => simp [intOf]; omega
    · have hkk : k = H'.toNat := by omega
      have E : Hid (diffB g ⟨W', H', C', X', Y', false⟩ = R.2 ++ emitStep R.1 X' Y') := by
        show _ = _
        rw [← HR.out, HA.out, hkk]; rfl
      clear hkk
      obtain ⟨A2, n2, cq2, rfl⟩ := (S.ownI 1 rfl).form'
      obtain ⟨lc, lf, ls⟩ := S.cells 0 rfl
      simp only [gridCs] at lc
      go_wp2_with fail
      refine Calls.mono (spec_EmitStep R.1 _ _ _ X' Y' _ ((S.ownI 1 rfl).ri) Q1.out c1 (by have := Q2.out; rw [this, HA.out]; exact c2) c3 (by have := Q3.out; rw [this, HA.out]; exact c4)) ?_; rintro e w6 ⟨A6, n6, c6, rfl, r6, x6⟩
      have S6 := S.call x6
      have hl6 := emitStep_len R.1 X' Y'
      rw [r6.len] at hl6
      clear x6 lc lf ls lc2 lf2 ls2 S
      go_wp2_with (at_builtin; refine wp_addB rfl _ _ rfl S6 2 rfl rfl rfl r6 (by omega) ?_)
      intro v7 w7 S7
      go_wp2_with fail
      go_ret2
      refine ⟨_, rfl, ?_, S7.ext⟩
      rw [E.out]
      exact S7.outB 2 rfl
end Go.Proofs.YtohjjhoobikioaaDoor
/-! Diff of both packages, for all arguments. -/
namespace Go.Proofs.YtohjjhoobikioaaDoor
open Go.RowKit

def diffOk (g a : Gr) : Bool := gridOk g && gridOk a && decide (g.W = a.W) && decide (g.H = a.H) && !a.R
def diffD (g a : Gr) : List UInt8 := if diffOk g a = true then diffB g a else []
theorem diffOk_iff {g a : Gr} : diffOk g a = true ↔ gridOk g = true ∧ gridOk a = true ∧ g.W = a.W ∧ g.H = a.H ∧ a.R = false := by
  simp only [diffOk, Bool.and_eq_true, decide_eq_true_eq, Bool.not_eq_true', and_assoc]
theorem diffB_len {g a : Gr} (hg : gridOk g = true) (ha : gridOk a = true) (hw : g.W = a.W) (hh : g.H = a.H) : (diffB g a).length ≤ 1600024 := by
  obtain ⟨d1, d2, d3, d4, d5, d6⟩ := gridOk_d ha
  obtain ⟨-, -, -, q⟩ := rowsDiff_ok ha hg hw hh a.H.toNat (by omega)
  have := emitStep_len (rowsDiff a g a.H.toNat).1 a.X a.Y
  simp only [diffB, List.length_append]
  omega
theorem diffD_len (g a : Gr) : (diffD g a).length ≤ 1600024 := by
  unfold diffD; split
  · rename_i h
    obtain ⟨h1, h2, h3, h4, -⟩ := diffOk_iff.1 h
    exact diffB_len h1 h2 h3 h4
  · simp

theorem impl_Diff (g a : Gr) (A : Option Addr) (n c : Nat) (A' : Option Addr) (n' c' : Nat) (w : World) (ht : Tab w) (hC : RI w A n c g.C) (hC' : RI w A' n' c' a.C) :
    Calls Tryd.prog 24 #[.agg #[.int .i64 g.W, .int .i64 g.H, .slice A n c, .int .i64 g.X, .int .i64 g.Y, .bool g.R], .agg #[.int .i64 a.W, .int .i64 a.H, .slice A' n' c', .int .i64 a.X, .int .i64 a.Y, .bool a.R]] w fun e w' =>
      ∃ v, e = .returned (.tuple #[v, .bool (diffOk g a)]) ∧ OwnB w' w.heap.size v (diffD g a) ∧ Ext w w' := by
  by_cases h : diffOk g a = true
  · obtain ⟨h1, h2, h3, h4, h5⟩ := diffOk_iff.1 h
    unfold diffD
    rw [if_pos h, h]
    obtain ⟨W', H', C', X', Y', R'⟩ := a
    simp only at h5
    subst h5
    exact impl_Diff_yes g A n c W' H' X' Y' C' A' n' c' w ht hC hC' h1 h2 h3 h4
  · have e : diffOk g a = false := by simpa using h
    unfold diffD
    rw [if_neg h, e]
    refine (impl_Diff_no g a A n c A' n' c' w hC hC' (fun q => h (diffOk_iff.2 q))).mono ?_
    rintro r w1 ⟨rfl, x1⟩
    exact ⟨_, rfl, OwnB.nil _ _, x1⟩
theorem spec_Diff (g a : Gr) (A : Option Addr) (n c : Nat) (A' : Option Addr) (n' c' : Nat) (w : World) (hC : RI w A n c g.C) (hC' : RI w A' n' c' a.C) :
    Calls Tryd.prog 27 #[.agg #[.int .i64 g.W, .int .i64 g.H, .slice A n c, .int .i64 g.X, .int .i64 g.Y, .bool g.R], .agg #[.int .i64 a.W, .int .i64 a.H, .slice A' n' c', .int .i64 a.X, .int .i64 a.Y, .bool a.R]] w fun e w' =>
      ∃ v, e = .returned (.tuple #[v, .bool (diffOk g a)]) ∧ OwnB w' w.heap.size v (diffD g a) ∧ Ext w w' := by
  by_cases h : diffOk g a = true
  · obtain ⟨h1, h2, h3, h4, h5⟩ := diffOk_iff.1 h
    unfold diffD
    rw [if_pos h, h]
    obtain ⟨W', H', C', X', Y', R'⟩ := a
    simp only at h5
    subst h5
    exact spec_Diff_yes g A n c W' H' X' Y' C' A' n' c' w hC hC' h1 h2 h3 h4
  · have e : diffOk g a = false := by simpa using h
    unfold diffD
    rw [if_neg h, e]
    refine (spec_Diff_no g a A n c A' n' c' w hC hC' (fun q => h (diffOk_iff.2 q))).mono ?_
    rintro r w1 ⟨rfl, x1⟩
    exact ⟨_, rfl, OwnB.nil _ _, x1⟩
end Go.Proofs.YtohjjhoobikioaaDoor
