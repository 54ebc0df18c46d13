/-
  Of several texts: DiffI, DiffJ.
-/
import Derived.Test.YtohjjhoobikioaaDoorDiffP
import Derived.Test.YtohjjhoobikioaaDoorEmit2
import Derived.Test.YtohjjhoobikioaaDoorTailS
import Derived.Test.YtohjjhoobikioaaDoorGM3
import Derived.Test.YtohjjhoobikioaaDoorGDiffer
/-! impl.diffRow. -/
namespace Go.Proofs.YtohjjhoobikioaaDoor
open Go.RowKit

theorem RI.cellAt {w : World} {q o n c : Nat} {l : List Int} (h : RI w (some ⟨q, o, none⟩) n c l) {k : Nat} (hk : k < n) : w.cell? ⟨q, o + k, none⟩ = some (.int .i64 (l[k]?.getD 0)) := by
  obtain ⟨q', o', e, hc⟩ := h.at1 hk
  injection e with e
  injection e with e1 e2
  subst e1 e2
  exact hc

set_option maxRecDepth 100000 in
set_option maxHeartbeats 4000000 in
theorem impl_diffRow (a g : Gr) (Aa : Option Addr) (na ca : Nat) (y s e b : Nat) (v vo : Value) (o : List UInt8) (W w : World) (L : List Pc) (ht : Tab W) (S : St W w (gbox b v g ++ ownB vo o :: L)) (hA : RI W Aa na ca a.C) (ha : gridOk a = true)
    (hs : (s : Int) = y * a.W) (he : (e : Int) = s + a.W) (hy1 : (y : Int) < a.H) (hD : DInv a g s s) (ho : o.length ≤ 2000000) :
    Calls Tryd.prog 69 #[.pointer (some ⟨b, 0, none⟩), .agg #[.int .i64 a.W, .int .i64 a.H, .slice Aa na ca, .int .i64 a.X, .int .i64 a.Y, .bool a.R], .int .i64 y, vo] w fun r w' => ∃ v' vo', r = .returned vo' ∧ St W w' (gbox b v' (rowDiff a s e y s g o).1 ++ ownB vo' (rowDiff a s e y s g o).2 :: L) := by
  obtain ⟨d1, d2, d3, d4, d5, d6⟩ := gridOk_d ha
  obtain ⟨c1, c2, c3, c4, -⟩ := gridOk_c ha
  have hna : na = a.C.length := hA.len.symm
  have hen : e ≤ na := by
    have h1 : ((y : Int) + 1) * a.W ≤ a.H * a.W := Int.mul_le_mul_of_nonneg_right (by omega) (by omega)
    rw [Int.add_mul, Int.one_mul, Int.mul_comm a.H] at h1
    omega
  have hn8 : na ≤ 8000 := by omega
  obtain ⟨R, hR⟩ : ∃ R, R = rowDiff a s e y s g o := ⟨_, rfl⟩
  rw [← hR]
  have HR := Lib.hid hR.symm
  have hgW : g.W = a.W := hD.w
  have KS : (y : Int) * a.W = s := hs.symm
  have KE : ((y : Int) + 1) * a.W = e := by rw [Int.add_mul, Int.one_mul]; omega
  have S0 : St W (w.alloc (.cells #[.int .i64 a.W, .int .i64 a.H, .slice Aa na ca, .int .i64 a.X, .int .i64 a.Y, .bool a.R] 40)) (gbox b v g ++ ownB vo o :: row w.heap.size 40 #[.int .i64 a.W, .int .i64 a.H, .slice Aa na ca, .int .i64 a.X, .int .i64 a.Y, .bool a.R] :: L) :=
    (((S.alloc #[.int .i64 a.W, .int .i64 a.H, .slice Aa na ca, .int .i64 a.X, .int .i64 a.Y, .bool a.R] 40).bring 3 rfl).bring 3 rfl).bring 3 rfl
  have HD := Lib.hid hD; have Ha := Lib.hid ha
  have hse : s ≤ e := by omega
  obtain ⟨lc, lf, ls⟩ := S0.cells 0 rfl
  simp only [gridCs, hgW] at lc
  have Hs := Lib.hid hs; have He := Lib.hid he; have Hna := Lib.hid hna; have HgW := Lib.hid hgW
  clear hR hD hs he hna d5 d6 S hgW ha
  go_enter Tryd.func69, Tryd.ntmps69
  go_wp2_with fail
  go_loopw [10, 3] (fun vi vt wr => ∃ (i : Nat) (g' : Gr) (v' : Value) (o' : List UInt8), s ≤ i ∧ i ≤ e ∧ vi = .int .i64 i ∧ Hid (R = rowDiff a s e y i g' o') ∧ Hid (DInv a g' s i) ∧ Hid (o'.length + 40 * s ≤ o.length + 40 * i) ∧ Hid (g'.W = a.W) ∧ Hid (g'.C.length = a.C.length) ∧
      St W wr (gbox b v' g' ++ ownB vt o' :: row w.heap.size 40 #[.int .i64 a.W, .int .i64 a.H, .slice Aa na ca, .int .i64 a.X, .int .i64 a.Y, .bool a.R] :: L)) (fun vi _ _ => e - (intOf vi).toNat)
  case atStart => exact ⟨s, g, v, o, Nat.le_refl _, hse, rfl, HR.out.symm, HD.out, Nat.le_refl _, HgW.out, HD.out.len Ha.out, by first | exact S0 | exact S0.drewN _⟩
  case round =>
    obtain ⟨i, g', v', o', hi1, hi2, rfl, HR', HD', Ho', HW', HL', S⟩ := hrel
    clear lc lf ls HgW HD S0
    by_cases hlt : i < e
    · have own := S.ownI 1 rfl
      obtain ⟨A1, c1, rfl, hri⟩ := own.form
      have hlg : g'.C.length = na := by rw [HL'.out, ← Hna.out]
      obtain ⟨q, oq, rfl, hcell⟩ := hri.at1 (k := i) (by omega)
      obtain ⟨qa, oa, rfl, hcella⟩ := (hA.ext S.ext).at1 (k := i) (by omega)
      obtain ⟨lc, lf, ls⟩ := S.cells 0 rfl
      obtain ⟨lc2, lf2, ls2⟩ := S.cells 3 rfl
      simp only [gridCs] at lc
      have hla : i < a.C.length := by have := Hna.out; omega
      have KS' : (y : Int) * g'.W = s := by rw [HW'.out]; exact KS
      have hob : o'.length ≤ 2400000 := by have := Ho'.out; omega
      by_cases hd : gt g'.C i = gt a.C i
      · have hdb : (g'.C[i]?.getD 0 == a.C[i]?.getD 0) = true := by simpa using hd
        have HR2 : Hid (R = rowDiff a s e y (i + 1) g' o') := by
          show _ = _
          rw [HR'.out]; exact rowDiff_same hlt hd
        have HD2 : Hid (DInv a g' s (i + 1)) := HD'.out.next hd
        clear hd hri own hla
        go_wp2_with fail
        go_quiet (fail)
        go_wp2_with fail
        go_roundw
        case rel => exact ⟨i + 1, g', _, o', by omega, by omega, by go_num, HR2, HD2, (by have := Ho'.out; show _ ≤ _; omega), HW', HL', by first | exact S | exact S.drewN _⟩
        case measure => simp [intOf]; omega
      · have hdb : (g'.C[i]?.getD 0 == a.C[i]?.getD 0) = false := by simpa using hd
        obtain ⟨hw, hDp⟩ := HD'.out.put Ha.out hi1 (by omega) hy1 Hs.out (by have := He.out; omega) hd
        have hHg : g'.H = a.H := HD'.out.h
        have Hw := Lib.hid hw; have HDp := Lib.hid hDp; have HHg := Lib.hid hHg
        have HDD := Lib.hid hd; have Hla := Lib.hid hla
        clear hd hri own hla hw hDp hHg
        go_wp2_with fail
        go_quiet (fail)
        go_wp2_with fail
        refine Calls.mono (impl_emitStep g' _ _ _ _ (ht.ext (S.drewN _).ext) HD'.out.ok (by omega) (by have := HW'.out; have := He.out; omega) (by omega) (by have := HHg.out; omega)) ?_; rintro e w1 ⟨A2, n2, c2, rfl, r2, x2⟩
        have S1 := (S.drewN _).call x2
        have hl2 := emitStep_len g' ((i : Int) - s) y
        rw [r2.len] at hl2
        clear x2 lc lf ls lc2 lf2 ls2 S
        go_wp2_with (at_builtin; refine wp_addB rfl _ _ rfl S1 2 rfl rfl rfl r2 (by omega) ?_)
        intro v3 w3 S2
        have S3 : St W w3 (gbox b (.slice (some ⟨q, oq, none⟩) na c1) g' ++ ownB v3 (o' ++ emitStep g' ((i : Int) - s) y) :: row w.heap.size 40 #[.int .i64 a.W, .int .i64 a.H, .slice (some ⟨qa, oa, none⟩) na ca, .int .i64 a.X, .int .i64 a.Y, .bool a.R] :: L) := S2
        clear S1 S2 r2
        have hl3 : (o' ++ emitStep g' ((i : Int) - s) y).length ≤ 2400024 := by
          have := emitStep_len g' ((i : Int) - s) y
          rw [List.length_append]; omega
        go_wp2_with fail
        refine Calls.mono (impl_moveTo g' _ _ _ _ W _ _ S3 HD'.out.ok (by omega) (by omega)) ?_; rintro e w4 ⟨rfl, S4⟩
        clear S3
        generalize hG : goG g' ((i : Int) - s) y = G at S4
        generalize hO : o' ++ emitStep g' ((i : Int) - s) y = O at S4 hl3
        have HG := Lib.hid hG; have HO := Lib.hid hO; clear hG hO
        obtain ⟨lc2, lf2, ls2⟩ := S4.cells 3 rfl
        go_wp2_with ((with_reducible refine wp_cutLH (A := some ⟨qa, oa, none⟩) (n := na) (c := ca) (k := i) (m := e) ?_ ?_ ?_ (by omega) ?_ ?_); go_must (exact rfl); go_must (exact rfl); go_must (exact rfl); go_must (have := hA.cap; omega))
        have hr5 := (hA.ext S4.ext).sub (lo := i) (hi := e) (by omega) hen
        have hcs : (if ca = i then (some ⟨qa, oa, none⟩) else (some ⟨qa, oa, none⟩ : Option Addr).map (·.add i)) = subA (some ⟨qa, oa, none⟩) ca i := rfl
        rw [hcs] at hr5
        go_wp2_with fail
        cases hb : blanks ((a.C.drop i).take (e - i))
        · have k1 := impl_onlyBlanks _ _ _ _ w4 hr5
          rw [hb] at k1
          obtain ⟨r, hr⟩ : ∃ r, r = gt a.C i := ⟨_, rfl⟩
          have HR2 : Hid (R = rowDiff a s e y (i + (width r).toNat) (putG G r) (O ++ runeBytes r)) := by
            show _ = _
            rw [HR'.out, rowDiff_put hlt HDD.out hb (Hw.out.imp id (fun x => x.1)), HG.out, HO.out, hr]
          have hrc0 := (hA.ext S4.ext).cellAt (k := i) (by omega)
          have hrc : w4.cell? ⟨qa, oa + i, none⟩ = some (.int .i64 r) := by rw [hr]; exact hrc0
          have HD2 : Hid (DInv a (putG G r) s (i + (width r).toNat)) := by
            have := HDp.out
            rw [HG.out, ← hr] at this; exact this
          have HW2 : Hid (width r = 1 ∨ (width r = 2 ∧ (i : Int) - s + 1 < a.W)) := by
            have := Hw.out
            rw [← hr] at this; exact this
          have HGk : Hid (gridOk G = true) := by show _ = _; rw [← HG.out]; exact goG_ok HD'.out.ok _ _
          obtain ⟨m, hm, hm1, hm2⟩ : ∃ m : Nat, width r = m ∧ 1 ≤ m ∧ i + m ≤ e := ⟨(width r).toNat, by have := HW2.out; omega, by have := HW2.out; omega, by have := HW2.out; have := He.out; omega⟩
          have HM := Lib.hid hm
          clear hb hr hm hrc0
          refine Calls.mono (k1) ?_; rintro e w5 ⟨rfl, rfl⟩
          clear k1 hr5
          go_wp2_with fail
          refine Calls.mono (impl_RuneBytes _ _) ?_; rintro e w6 ⟨A6, n6, c6, rfl, r6, x6⟩
          have S5 := S4.call x6
          have hl6 := runeBytes_len r
          rw [r6.len] at hl6
          clear x6 lc2 lf2 ls2 S4 hrc
          go_wp2_with (at_builtin; refine wp_addB rfl _ _ rfl S5 2 rfl rfl rfl r6 (by omega) ?_)
          intro v7 w7 S6
          have S6 : St W w7 (gbox b (.slice (some ⟨q, oq, none⟩) na c1) G ++ ownB v7 (O ++ runeBytes r) :: row w.heap.size 40 #[.int .i64 a.W, .int .i64 a.H, .slice (some ⟨qa, oa, none⟩) na ca, .int .i64 a.X, .int .i64 a.Y, .bool a.R] :: L) := S6
          clear S5 r6
          go_wp2_with fail
          refine Calls.mono (impl_put G r _ _ W _ _ S6 HGk.out) ?_; rintro e w8 ⟨rfl, v8, S7⟩
          clear S6
          go_wp2_with fail
          have k1 := impl_Width r w8
          rw [HM.out] at k1
          refine Calls.mono (k1) ?_; rintro e w9 ⟨rfl, x9⟩
          clear k1
          have S8 := S7.call x9
          clear S7 x9
          have HO2 : Hid ((O ++ runeBytes r).length + 40 * s ≤ o.length + 40 * (i + m)) := by
            have h1 := Ho'.out
            have h2 := emitStep_len g' ((i : Int) - s) y
            have h3 := runeBytes_len r
            show _ ≤ _
            rw [← HO.out, List.length_append, List.length_append]
            omega
          have HD3 := HD2.out; have HR3 := HR2.out
          rw [HM.out, Int.toNat_natCast] at HD3 HR3
          have HD4 := Lib.hid HD3; have HR4 := Lib.hid HR3
          clear HD3 HR3 HD2 HR2 HW2 HDp Hw
          go_wp2_with fail
          go_roundw
          case rel => exact ⟨i + m, putG G r, v8, _, by omega, hm2, by go_num, HR4, HD4, HO2, HD4.out.w, HD4.out.len Ha.out, S8⟩
          case measure => simp [intOf]; omega
        · have k1 := impl_onlyBlanks _ _ _ _ w4 hr5
          rw [hb] at k1
          have HR2 : Hid (R = (clearG G i e, O ++ [27, 91, 75])) := by
            show _ = _
            rw [HR'.out, rowDiff_tail hlt HDD.out hb, HG.out, HO.out]
          clear hb
          refine Calls.mono (k1) ?_; rintro e w5 ⟨rfl, rfl⟩
          clear k1 hr5
          go_wp2_with (at_builtin; refine wp_addStr (news := [27, 91, 75]) rfl _ _ rfl S4 2 rfl rfl rfl (by simp; omega) ?_)
          intro v6 w6 S6
          have S6 : St W w6 (gbox b (.slice (some ⟨q, oq, none⟩) na c1) G ++ ownB v6 (O ++ [27, 91, 75]) :: row w.heap.size 40 #[.int .i64 a.W, .int .i64 a.H, .slice (some ⟨qa, oa, none⟩) na ca, .int .i64 a.X, .int .i64 a.Y, .bool a.R] :: L) := S6
          have hGl : G.C.length = na := by rw [← HG.out]; exact hlg
          go_wp2_with fail
          refine Calls.mono (impl_erase' G i e _ _ rfl rfl _ _ _ _ _ S6 hlt (by omega) (by omega) (by rw [← HG.out]; exact goG_ok HD'.out.ok _ _)) ?_; rintro e w7 ⟨rfl, S7⟩
          clear S4 S6
          have S8 := ((S7.bring 3 rfl).drop)
          go_wp2_with fail
          go_ret
          refine ⟨.slice (some ⟨q, oq, none⟩) na c1, _, rfl, ?_⟩
          rw [HR2.out]
          exact S8
    · obtain rfl : i = e := by omega
      have HR2 : Hid (R = (g', o')) := by
        show _ = _
        rw [HR'.out]; exact rowDiff_end (by omega)
      obtain ⟨lc, lf, ls⟩ := S.cells 0 rfl
      simp only [gridCs, HW'.out] at lc
      go_wp2_with fail
      go_ret
      refine ⟨v', _, rfl, ?_⟩
      rw [HR2.out]
      exact (((S.bring 3 rfl).drop).call (Ext.refl _))
end Go.Proofs.YtohjjhoobikioaaDoor
/-! impl.Diff. -/
namespace Go.Proofs.YtohjjhoobikioaaDoor
open Go.RowKit

theorem differ_yes {g a : Gr} (hg : gridOk g = true) (ha : gridOk a = true) (hw : g.W = a.W) (hh : g.H = a.H) : differ g a = (cnt g.C a.C g.C.length : Int) := by
  unfold differ; rw [hg, ha, decide_eq_true hw, decide_eq_true hh]; rfl
theorem differ_no {g a : Gr} (h : ¬ (gridOk g = true ∧ gridOk a = true ∧ g.W = a.W ∧ g.H = a.H)) : differ g a = -1 := by
  unfold differ
  rw [if_neg]
  intro q
  simp only [Bool.and_eq_true, decide_eq_true_eq] at q
  exact h ⟨q.1.1.1, q.1.1.2, q.1.2, q.2⟩

set_option maxRecDepth 100000 in
set_option maxHeartbeats 2000000 in
theorem impl_Diff_no (g a : Gr) (A : Option Addr) (n c : Nat) (A' : Option Addr) (n' c' : Nat) (w : World) (hC : RI w A n c g.C) (hC' : RI w A' n' c' a.C) (h : ¬ (gridOk g = true ∧ gridOk a = true ∧ g.W = a.W ∧ g.H = a.H ∧ a.R = false)) :
    Calls Tryd.prog 24 #[.agg #[.int .i64 g.W, .int .i64 g.H, .slice A n c, .int .i64 g.X, .int .i64 g.Y, .bool g.R], .agg #[.int .i64 a.W, .int .i64 a.H, .slice A' n' c', .int .i64 a.X, .int .i64 a.Y, .bool a.R]] w fun e w' =>
      e = .returned (.tuple #[.slice none 0 0, .bool false]) ∧ Ext w w' := by
  have S := ((St.refl w).alloc #[.int .i64 g.W, .int .i64 g.H, .slice A n c, .int .i64 g.X, .int .i64 g.Y, .bool g.R] 40).alloc #[.int .i64 a.W, .int .i64 a.H, .slice A' n' c', .int .i64 a.X, .int .i64 a.Y, .bool a.R] 40
  rw [World.size_alloc] at S
  have k1 := fun w h1 h2 => impl_Differ g.W g.H g.X g.Y g.R g.C A n c a.W a.H a.X a.Y a.R a.C A' n' c' w h1 h2
  by_cases h1 : gridOk g = true ∧ gridOk a = true ∧ g.W = a.W ∧ g.H = a.H
  · have hR : a.R = true := by
      cases hr : a.R
      · exact absurd ⟨h1.1, h1.2.1, h1.2.2.1, h1.2.2.2, hr⟩ h
      · rfl
    have e : differ ⟨g.W, g.H, g.C, g.X, g.Y, g.R⟩ ⟨a.W, a.H, a.C, a.X, a.Y, a.R⟩ = _ := differ_yes h1.1 h1.2.1 h1.2.2.1 h1.2.2.2
    rw [e] at k1
    have K1 := Lib.hid k1
    rw [hR] at S K1
    obtain ⟨m, hm⟩ : ∃ m, m = cnt g.C a.C g.C.length := ⟨_, rfl⟩
    rw [← hm] at K1
    clear k1 h1 h e hm
    rw [hR]
    clear hR
    go_enter Tryd.func24, Tryd.ntmps24
    go_wp2_with fail
    refine Calls.mono (K1.out _ (hC.ext S.ext) (hC'.ext S.ext)) ?_; rintro e w1 ⟨rfl, x1⟩
    have S1 := S.call x1
    obtain ⟨lc, lf, ls⟩ := S1.cells 0 rfl
    go_wp2_with fail
    go_ret2
    exact ⟨rfl, S1.ext⟩
  · have e : differ ⟨g.W, g.H, g.C, g.X, g.Y, g.R⟩ ⟨a.W, a.H, a.C, a.X, a.Y, a.R⟩ = -1 := differ_no h1
    rw [e] at k1
    have K1 := Lib.hid k1
    clear k1 h1 h e
    go_enter Tryd.func24, Tryd.ntmps24
    go_wp2_with fail
    refine Calls.mono (K1.out _ (hC.ext S.ext) (hC'.ext S.ext)) ?_; rintro e w1 ⟨rfl, x1⟩
    have S1 := S.call x1
    obtain ⟨lc, lf, ls⟩ := S1.cells 0 rfl
    go_wp2_with fail
    go_ret2
    exact ⟨rfl, S1.ext⟩

set_option maxRecDepth 100000 in
set_option maxHeartbeats 4000000 in
theorem impl_Diff_yes (g : Gr) (A : Option Addr) (n c : Nat) (W' H' X' Y' : Int) (C' : List Int) (A' : Option Addr) (n' c' : Nat) (w : World) (ht : Tab w) (hC : RI w A n c g.C) (hC' : RI w A' n' c' C')
    (hg : gridOk g = true) (ha : gridOk ⟨W', H', C', X', Y', false⟩ = true) (hw : g.W = W') (hh : g.H = H') :
    Calls Tryd.prog 24 #[.agg #[.int .i64 g.W, .int .i64 g.H, .slice A n c, .int .i64 g.X, .int .i64 g.Y, .bool g.R], .agg #[.int .i64 W', .int .i64 H', .slice A' n' c', .int .i64 X', .int .i64 Y', .bool false]] w fun e w' =>
      ∃ v, e = .returned (.tuple #[v, .bool true]) ∧ OwnB w' w.heap.size v (diffB g ⟨W', H', C', X', Y', false⟩) ∧ Ext w w' := by
  obtain ⟨d1, d2, d3, d4, d5, d6⟩ := gridOk_d ha
  obtain ⟨c1, c2, c3, c4, -⟩ := gridOk_c ha
  have hn : n ≤ 8000 := by
    obtain ⟨-, -, -, -, q5, q6⟩ := gridOk_d hg
    have := hC.len; omega
  have S := ((St.refl w).alloc #[.int .i64 g.W, .int .i64 g.H, .slice A n c, .int .i64 g.X, .int .i64 g.Y, .bool g.R] 40).alloc #[.int .i64 W', .int .i64 H', .slice A' n' c', .int .i64 X', .int .i64 Y', .bool false] 40
  rw [World.size_alloc] at S
  have k1 := fun w h1 h2 => impl_Differ g.W g.H g.X g.Y g.R g.C A n c W' H' X' Y' false C' A' n' c' w h1 h2
  have e : differ ⟨g.W, g.H, g.C, g.X, g.Y, g.R⟩ ⟨W', H', C', X', Y', false⟩ = _ := differ_yes hg ha hw hh
  rw [e] at k1
  obtain ⟨m, hm⟩ : ∃ m, m = cnt g.C C' g.C.length := ⟨_, rfl⟩
  have em : (cnt g.C C' g.C.length : Int) = m := by rw [hm]
  have K1 : Hid (∀ w h1 h2, Calls _ _ _ w _) := Lib.hid k1
  simp only [em] at K1
  have Hg := Lib.hid hg; have Ha := Lib.hid ha; have Hw := Lib.hid hw; have Hh := Lib.hid hh
  simp only at d1 d2 d3 d4 d5 d6 c1 c2 c3 c4
  clear k1 e hm hg ha hw hh d5 d6 em
  go_enter Tryd.func24, Tryd.ntmps24
  go_wp2_with fail
  refine Calls.mono (K1.out _ (hC.ext S.ext) (hC'.ext S.ext)) ?_; rintro e w1 ⟨rfl, x1⟩
  have S1 := S.call x1
  clear S x1
  obtain ⟨lc, lf, ls⟩ := S1.cells 0 rfl
  obtain ⟨lc2, lf2, ls2⟩ := S1.cells 1 rfl
  go_wp2_with fail
  refine Calls.mono (impl_copyGrid g A n c _ (hC.ext S1.ext) hn) ?_; rintro e w2 ⟨v, rfl, own, x2⟩
  have S2 := (S1.newI own x2).alloc zeroG 40
  obtain ⟨A1, cc1, rfl, -⟩ := own.form
  obtain ⟨m1, hm1⟩ : ∃ m, m = g.C.length := ⟨_, rfl⟩
  rw [← hm1] at S2 ⊢
  clear own x2 S1 lc lf ls lc2 lf2 ls2 hm1
  go_wp2_with ((with_reducible refine wp_setA (k := 0) (u := .agg #[.int .i64 g.W, .int .i64 g.H, .slice A1 m1 cc1, .int .i64 g.X, .int .i64 g.Y, .bool g.R]) #[.int .i64 g.W, .int .i64 g.H, .slice A1 m1 cc1, .int .i64 g.X, .int .i64 g.Y, .bool g.R] S2 0 rfl ?_ ?_ ?_ ?_ ?_ ?_ ?_); go_must (exact rfl); go_must (exact rfl); go_must (kernel_rfl); go_must (kernel_rfl); go_must (exact Nat.le_of_ble_eq_true (by kernel_rfl)); go_must (kernel_rfl))
  intro w3 S3
  have S4 : St w w3 (gbox w2.heap.size (.slice A1 m1 cc1) g ++ ownB (.slice none 0 0) [] :: [row (w.heap.size + 1) 40 #[.int .i64 W', .int .i64 H', .slice A' n' c', .int .i64 X', .int .i64 Y', .bool false], row w.heap.size 40 #[.int .i64 g.W, .int .i64 g.H, .slice A n c, .int .i64 g.X, .int .i64 g.Y, .bool g.R]]) := (S3.nilB.bring 2 rfl).bring 2 rfl
  clear S3 S2
  generalize w2.heap.size = b2 at S4 ⊢
  obtain ⟨lc, lf, ls⟩ := S4.cells 0 rfl
  simp only [gridCs] at lc
  obtain ⟨lc2, lf2, ls2⟩ := S4.cells 3 rfl
  go_wp2_with fail
  go_loopw [21, 7] (fun vi vt wr => ∃ (k : Nat) (v' : Value), (k : Int) ≤ g.H ∧ vi = .int .i64 k ∧ St w wr (gbox b2 v' (rowsDiff ⟨W', H', C', X', Y', false⟩ g k).1 ++ ownB vt (rowsDiff ⟨W', H', C', X', Y', false⟩ g k).2 :: [row (w.heap.size + 1) 40 #[.int .i64 W', .int .i64 H', .slice A' n' c', .int .i64 X', .int .i64 Y', .bool false], row w.heap.size 40 #[.int .i64 g.W, .int .i64 g.H, .slice A n c, .int .i64 g.X, .int .i64 g.Y, .bool g.R]])) (fun vi _ _ => g.H.toNat - (intOf vi).toNat)
  case atStart => exact ⟨0, _, by have := Hh.out; omega, rfl, S4⟩
  case round =>
    obtain ⟨k, v', hk, rfl, S5⟩ := hrel
    clear lc lf ls lc2 lf2 ls2 S4
    have hkH : (k : Int) ≤ H' := by have := Hh.out; omega
    obtain ⟨q1, q2, q3, q4⟩ := rowsDiff_ok Ha.out Hg.out Hw.out Hh.out k hkH
    have hHH : H' ≤ 200 := d4
    generalize hR : rowsDiff ⟨W', H', C', X', Y', false⟩ g k = R at S5 q1 q2 q3 q4
    have HR := Lib.hid hR; clear hR
    have Q1 := Lib.hid q1; have Q2 := Lib.hid q2; have Q3 := Lib.hid q3; clear q1 q2 q3
    obtain ⟨lc, lf, ls⟩ := S5.cells 0 rfl
    simp only [gridCs] at lc
    obtain ⟨lc2, lf2, ls2⟩ := S5.cells 3 rfl
    by_cases hlt : (k : Int) < g.H
    · have hs : ((k * W'.toNat : Nat) : Int) = (k : Int) * W' := by rw [Int.natCast_mul, Int.toNat_of_nonneg (by omega)]
      have he : ((k * W'.toNat + W'.toNat : Nat) : Int) = (k * W'.toNat : Nat) + W' := by rw [Int.natCast_add, Int.toNat_of_nonneg (by omega)]
      have HS := Lib.hid hs; have HE := Lib.hid he; clear hs he
      go_wp2_with fail
      refine Calls.mono (impl_diffRow ⟨W', H', C', X', Y', false⟩ R.1 _ _ _ k _ _ _ _ _ R.2 w _ _ ht S5 hC' Ha.out HS.out HE.out (by have := Hh.out; show (k : Int) < H'; omega) (DInv.start _ Q1.out Q2.out Q3.out) (by omega)) ?_; rintro e w6 ⟨v6, vo6, rfl, S6⟩
      clear S5 lc lf ls lc2 lf2 ls2
      go_wp2_with fail
      go_roundw
      case rel =>
        refine ⟨k + 1, v6, by omega, by go_num, ?_⟩
        have e : rowsDiff ⟨W', H', C', X', Y', false⟩ g (k + 1) = rowDiff ⟨W', H', C', X', Y', false⟩ (k * W'.toNat) (k * W'.toNat + W'.toNat) k (k * W'.toNat) R.1 R.2 := by rw [← HR.out]; rfl
        rw [e]; exact S6
      case measure => simp [intOf]; omega
    · have hkk : k = H'.toNat := by have := Hh.out; omega
      have E : Hid (diffB g ⟨W', H', C', X', Y', false⟩ = R.2 ++ emitStep R.1 X' Y') := by
        show _ = _
        rw [← HR.out, hkk]; rfl
      clear hkk
      go_wp2_with fail
      refine Calls.mono (impl_emitStep R.1 _ X' Y' _ (ht.ext S5.ext) Q1.out c1 (by have := Q2.out; show X' < R.1.W; rw [this]; exact c2) c3 (by have := Q3.out; show Y' < R.1.H; rw [this]; exact c4)) ?_; rintro e w6 ⟨A6, n6, c6, rfl, r6, x6⟩
      have S6 := S5.call x6
      have hl6 := emitStep_len R.1 X' Y'
      rw [r6.len] at hl6
      clear x6 lc lf ls lc2 lf2 ls2 S5
      go_wp2_with (at_builtin; refine wp_addB rfl _ _ rfl S6 2 rfl rfl rfl r6 (by omega) ?_)
      intro v7 w7 S7
      go_wp2_with fail
      go_ret2
      refine ⟨_, rfl, ?_, S7.ext⟩
      rw [E.out]
      exact S7.outB 2 rfl
end Go.Proofs.YtohjjhoobikioaaDoor
