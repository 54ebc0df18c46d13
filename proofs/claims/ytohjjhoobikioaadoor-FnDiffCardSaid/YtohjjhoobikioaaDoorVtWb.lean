/-
  VtFeed of the program.
-/
import Derived.Test.YtohjjhoobikioaaDoorVtWa
import Derived.Test.YtohjjhoobikioaaDoorVtW9
import Derived.Test.YtohjjhoobikioaaDoorGrp
namespace Go.Proofs.YtohjjhoobikioaaDoor
open Go.RowKit

theorem feed_snoc {V : VtS} {l : List UInt8} {k : Nat} (hk : k < l.length) : feed V (l.take (k + 1)) = vtStep (feed V (l.take k)) (l.getD k 0).toNat := by
  have e : l.take (k + 1) = l.take k ++ [l.getD k 0] := by
    rw [List.take_add_one, List.getElem?_eq_getElem hk]; simp [List.getD, List.getElem?_eq_getElem hk]
  rw [e, feed_append]; rfl

set_option maxRecDepth 100000 in
set_option maxHeartbeats 8000000 in
theorem impl_VtFeed (V : VtS) (Ac Aa Ap : Option Addr) (nc cc na ca np cp : Nat) (A : Option Addr) (n c : Nat) (l : List UInt8) (w : World) (hC : RI w Ac nc cc V.G.C) (hA : RI w Aa na ca V.P) (hP : RB w Ap np cp V.B) (hr : RB w A n c l) (hok : vtOk V = true) (hn : n ≤ 1099511627776) :
    Calls Tryd.prog 36 #[.agg (vtA V (.slice Ac nc cc) (.slice Aa na ca) (.slice Ap np cp)), .slice A n c] w fun e w' => ∃ vc va vp, e = .returned (.agg (vtA (feed V l) vc va vp)) ∧ St w w' [ownI vc (feed V l).G.C, ownI va (feed V l).P, ownB vp (feed V l).B] := by
  have S := ((St.refl w).alloc (vtA V (.slice Ac nc cc) (.slice Aa na ca) (.slice Ap np cp)) 58).alloc zeroV 58
  simp only [World.size_alloc] at S
  have hI := vtOk_I hok
  have nc8 : nc ≤ 8000 := by
    obtain ⟨-, -, -, -, q5, q6⟩ := gridOk_d hI.g
    rw [hC.len] at q6; omega
  have na8 : na ≤ 8000 := by have := hI.p; rw [hA.len] at this; omega
  have np8 : np ≤ 8000 := by have := hI.b; rw [hP.len] at this; omega
  have K1 := Lib.hid (fun w h1 h2 h3 => impl_VtOk V Ac Aa Ap nc cc na ca np cp w h1 h2 h3 hok)
  have K2 := Lib.hid (fun w h1 h2 h3 => impl_copyVt V Ac Aa Ap nc cc na ca np cp w h1 h2 h3 nc8 na8 np8)
  have HI := Lib.hid hI; have HR := Lib.hid hr
  have Hl := Lib.hid hr.len
  clear hok hI nc8 na8 np8 hr
  have SS := Lib.hid S; clear S
  go_enter Tryd.func36, Tryd.ntmps36
  go_wp2_with fail
  refine Calls.mono (K1.out _ (hC.ext SS.out.ext) (hA.ext SS.out.ext) (hP.ext SS.out.ext)) ?_; rintro e w1 ⟨rfl, x1⟩
  have S1 := Lib.hid (SS.out.call x1)
  clear SS x1
  obtain ⟨lc, lf, ls⟩ := S1.out.cells 1 rfl
  go_wp2_with fail
  clear lc lf ls
  refine Calls.mono (K2.out _ (hC.ext S1.out.ext) (hA.ext S1.out.ext) (hP.ext S1.out.ext)) ?_; rintro e w2 ⟨vc, va, vp, rfl, S2⟩
  obtain ⟨A1, n1, c1, rfl⟩ := (S2.ownI 0 rfl).form'
  obtain ⟨A2, n2, c2, rfl⟩ := (S2.ownI 1 rfl).form'
  obtain ⟨A3, n3, c3, rfl⟩ := (S2.ownB 2 rfl).form'
  have S3 := Lib.hid ((S1.out.joined S2).alloc (vtA V (.slice A1 n1 c1) (.slice A2 n2 c2) (.slice A3 n3 c3)) 58)
  have hb : w2.heap.size = w2.heap.size := rfl
  clear S1 S2 hb
  go_wp2_with fail
  generalize w2.heap.size = b at *
  go_loopw [7, 16] (fun _ vi wr => ∃ (k : Nat) (V' : VtS) (vc va vp : Value), k ≤ n ∧ vi = .int .i64 k ∧ Hid (V' = feed V (l.take k)) ∧ St w wr (vtb b vc va vp V' ++ [row (w.heap.size + 1) 58 zeroV, row w.heap.size 58 (vtA V (.slice Ac nc cc) (.slice Aa na ca) (.slice Ap np cp))])) (fun _ vi _ => n - (intOf vi).toNat)
  case atStart => exact ⟨0, V, _, _, _, by omega, rfl, rfl, S3.out⟩
  case round =>
    obtain ⟨k, V', vc, va, vp, hk, rfl, HV, S⟩ := hrel
    clear S3
    by_cases hlt : k < n
    · obtain ⟨q, o, hA2, hcell⟩ := (HR.out.ext S.ext).at1 (k := k) hlt
      subst hA2
      have E : Hid (vtStep V' (l.getD k 0).toNat = feed V (l.take (k + 1))) := by
        show _ = _; rw [HV.out, feed_snoc (by rw [Hl.out]; exact hlt)]
      obtain ⟨y, hy⟩ : ∃ y, y = l.getD k 0 := ⟨_, rfl⟩
      rw [← hy] at hcell E
      have hy8 := y.toNat_lt
      have HI2 : Hid (VtI V') := by show VtI V'; rw [HV.out]; exact feed_ok HI.out _
      clear hy
      have SS := Lib.hid S; clear S
      go_wp2_with fail
      refine Calls.mono (vt_step V' y.toNat b vc va vp w _ _ SS.out HI2.out (by omega)) ?_; rintro e w5 ⟨rfl, vc5, va5, vp5, S5⟩
      go_wp2_with fail
      go_roundw
      case rel => exact ⟨k + 1, _, vc5, va5, vp5, by omega, by go_num, E.out, S5⟩
      case measure => simp [intOf]; omega
    · have e : V' = feed V l := by
        rw [HV.out, List.take_of_length_le (by rw [Hl.out]; omega)]
      have HE := Lib.hid e
      clear HV e
      obtain ⟨A1, n1, c1, rfl⟩ := (S.ownI 1 rfl).form'
      obtain ⟨A2, n2, c2, rfl⟩ := (S.ownI 2 rfl).form'
      obtain ⟨A3, n3, c3, rfl⟩ := (S.ownB 3 rfl).form'
      obtain ⟨lc, lf, ls⟩ := S.cells 0 rfl
      simp only [vtCs] at lc
      go_wp2_with ((with_reducible refine wp_setA (k := 0) (u := .agg (vtA V' (.slice A1 n1 c1) (.slice A2 n2 c2) (.slice A3 n3 c3))) (vtA V' (.slice A1 n1 c1) (.slice A2 n2 c2) (.slice A3 n3 c3)) S 4 rfl ?_ ?_ ?_ ?_ ?_ ?_ ?_); go_must (exact rfl); go_must (exact rfl); go_must (kernel_rfl); go_must (kernel_rfl); go_must (exact Nat.le_of_ble_eq_true (by kernel_rfl)); go_must (kernel_rfl))
      intro w6 S6
      clear lc lf ls
      obtain ⟨lc, -, -⟩ := S6.cells 4 rfl
      go_wp2_with fail
      refine bodyPost_ret (v := .agg (vtA V' (.slice A1 n1 c1) (.slice A2 n2 c2) (.slice A3 n3 c3))) (by simp [results, Tryd.results36, go_sem, lc]) rfl ⟨_, _, _, by rw [← HE.out], ?_⟩
      rw [← HE.out]
      exact St.keep (M := [ownI (.slice A1 n1 c1) V'.G.C, ownI (.slice A2 n2 c2) V'.P, ownB (.slice A3 n3 c3) V'.B]) (L := _) S6.drop
end Go.Proofs.YtohjjhoobikioaaDoor
