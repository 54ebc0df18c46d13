/-
  The terminal's own methods: sequence.
-/
import Derived.Test.YtohjjhoobikioaaDoorVtW3k
namespace Go.Proofs.YtohjjhoobikioaaDoor
open Go.RowKit

theorem vtb_setS {W w : World} {L : List Pc} {b : Nat} {vc va vp : Value} {V : VtS} (s : Int) (S : St W w (vtb b vc va vp V ++ L)) : St W (w.setCell ⟨b, 6, none⟩ (.int .i64 s)) (vtb b vc va vp { V with S := s } ++ L) := S.setc 0 rfl 6 _
theorem vtb_setN {W w : World} {L : List Pc} {b : Nat} {vc va vp : Value} {V : VtS} (s : Int) (S : St W w (vtb b vc va vp V ++ L)) : St W (w.setCell ⟨b, 9, none⟩ (.int .i64 s)) (vtb b vc va vp { V with N := s } ++ L) := S.setc 0 rfl 9 _
theorem vtb_end {W w : World} {L : List Pc} {b : Nat} {vc va vp : Value} {V : VtS} (S : St W w (vtb b vc va vp V ++ L)) : St W ((w.setCell ⟨b, 6, none⟩ (.int .i64 0)).setCell ⟨b, 7, none⟩ (.slice none 0 0)) (vtb b vc (.slice none 0 0) vp { V with S := 0, P := [] } ++ L) :=
  vtb_setP ((vtb_setS 0 S).nilI)
theorem P1_ne {P : List Int} (h : P ≠ []) : P1 P = P := if_neg h

theorem seq_other {V : VtS} {k : Nat} (h1 : inB (k : Int) 48 57 = false) (h2 : ¬ k = 59) (h3 : inB (k : Int) 64 126 = false) : vtSeq V k = { V with S := 0, P := [] } := by
  rw [inB_not] at h1 h3
  unfold vtSeq; rw [if_neg (by omega), if_neg h2, if_neg (by omega)]
theorem seq_ctl {V : VtS} {k : Nat} (h2 : ¬ k = 59) (h3 : inB (k : Int) 64 126 = true) : vtSeq V k = { { V with G := ctlG V.G V.P k } with S := 0, P := [] } := by
  rw [inB_iff] at h3
  unfold vtSeq; rw [if_neg (by omega), if_neg h2, if_pos (by omega)]
theorem seq_semi {V : VtS} : vtSeq V 59 = { V with P := semP V.P } := rfl
theorem seq_dig {V : VtS} {k : Nat} (h1 : inB (k : Int) 48 57 = true) : vtSeq V k = { V with P := digP V.P k } := by
  rw [inB_iff] at h1
  unfold vtSeq; rw [if_pos (by omega)]

set_option maxRecDepth 100000 in
set_option maxHeartbeats 8000000 in
theorem vt_sequence (V : VtS) (k : Nat) (b : Nat) (vc va vp : Value) (W w : World) (L : List Pc) (S : St W w (vtb b vc va vp V ++ L)) (hI : VtI V) (hk : k ≤ 255) :
    Calls Tryd.prog 122 #[.pointer (some ⟨b, 0, none⟩), .int .i64 k] w fun e w' => e = .returned (.tuple #[]) ∧ ∃ va', St W w' (vtb b vc va' vp (vtSeq V k) ++ L) := by
  have hp := hI.p
  have HI := Lib.hid hI
  have Hp2 := Lib.hid (P1_mem hI.p2)
  have hP1 := P1_len hI.p
  clear hI
  cases h1 : inB (k : Int) 48 57
  case true =>
    have E := Lib.hid (seq_dig (V := V) h1)
    have hk2 := inB_iff.1 h1
    obtain ⟨n, hn⟩ : ∃ n, n = V.P.length := ⟨_, rfl⟩
    have Hn := Lib.hid hn
    obtain ⟨A, c, rfl, -⟩ := (S.ownI 2 rfl).form
    rw [← hn] at S hp
    have Kd := fun w => impl_isDigit (k : Int) w
    rw [h1] at Kd
    have KD := Lib.hid Kd; clear Kd h1
    obtain ⟨lc, lf, ls⟩ := S.cells 0 rfl
    simp only [vtCs] at lc
    have HS := Lib.hid S; clear S hn
    go_enter Tryd.func122, Tryd.ntmps122
    go_wp2_with fail
    refine Calls.mono (KD.out _) ?_; rintro e w1 ⟨rfl, hw⟩
    have hw := hw.symm
    subst hw
    go_upto_if 13 with fail
    go_cut [] (fun wx => ∃ va' : Value, St W wx (vtb b vc va' vp { V with P := P1 V.P } ++ L))
    case first =>
      by_cases hn0 : n = 0
      · have hP : V.P = [] := List.length_eq_zero_iff.1 (by rw [← Hn.out]; exact hn0)
        have hPP : P1 V.P = [0] := by rw [hP]; rfl
        subst hn0
        have T0 := HS.out.newI (OwnI.lit0 w1 w1.heap.size (Nat.le_refl _) [0] (by simp)) ((Ext.refl w1).alloc _)
        have T1 := vtb_setP T0
        rw [World.setCell_alloc_past _ _ _ _ (HS.out.cells 0 rfl).2.2] at T1
        have HT := Lib.hid T1; clear T0 T1
        go_wp2_with fail
        go_meet
        exact ⟨_, by rw [hPP]; exact HT.out⟩
      · have hPP : P1 V.P = V.P := P1_ne (fun e => hn0 (by rw [Hn.out, e]; rfl))
        have HPP := Lib.hid hPP; clear hPP
        go_wp2_with fail
        go_meet
        exact ⟨_, by rw [HPP.out]; exact HS.out⟩
    case rest =>
      obtain ⟨va', S⟩ := hcut
      clear lc lf ls HS Hn hp
      obtain ⟨P, hP⟩ : ∃ P, P = P1 V.P := ⟨_, rfl⟩
      rw [← hP] at S Hp2 hP1
      obtain ⟨m, hm⟩ : ∃ m, m = P.length := ⟨_, rfl⟩
      rw [← hm] at hP1
      rcases (S.ownI 2 rfl).shape with ⟨rfl, h0⟩ | ⟨q, c', rfl, -, hq, hc, hcm⟩
      · have h0' : P = [] := h0
        rw [hm, h0'] at hP1; simp at hP1
      have own := S.ownI 2 rfl
      have hcell := own.cell (k := m - 1) (by show m - 1 < P.length; omega)
      have hfro := own.frozen (m - 1)
      have hx := getD_mem Hp2.out (m - 1)
      have ED : Hid (digP V.P k = P.set (m - 1) (min (10 * P[m - 1]?.getD 0 + k - 48) 9999)) := by show _ = _; unfold digP; rw [← hP, ← hm]
      obtain ⟨x, hx2⟩ : ∃ x, x = P[m - 1]?.getD 0 := ⟨_, rfl⟩
      have hxe : (show List Int from ({ V with P := P } : VtS).P)[m - 1]?.getD 0 = x := hx2.symm
      rw [← hx2] at hx ED
      have hcell : wc.cell? ⟨q, m - 1, none⟩ = some (.int .i64 x) := by rw [hx2]; exact hcell
      have S' : St W wc (vtb b vc (.slice (some ⟨q, 0, none⟩) m c') vp { V with P := P } ++ L) := by rw [hm]; exact S
      obtain ⟨lc, lf, ls⟩ := S'.cells 0 rfl
      simp only [vtCs] at lc
      have HS := Lib.hid S'
      have hm1 : (m : Int) - 1 = ((m - 1 : Nat) : Int) := by omega
      have Hml : Hid (m - 1 < P.length) := by show _ < _; omega
      clear S S' own hP hm hx2 hxe hq hc hcm Hp2
      obtain ⟨m1, hm1'⟩ : ∃ m1, m1 = m - 1 := ⟨_, rfl⟩
      obtain rfl : m = m1 + 1 := by omega
      clear hm1'
      simp only [Nat.add_sub_cancel] at hcell hfro ED Hml hm1
      go_wp2_with fail
      go_region
      go_wp2_with fail
      ((try simp only [Exit.inBlock, Exit.then]); first | refine bodyPost_ret (results_none rfl _ _ _) rfl ?_ | refine bodyPost_end (results_none rfl _ _ _) rfl ?_)
      exact ⟨rfl, .slice (some ⟨q, 0, none⟩) (m1 + 1) c', by rw [E.out, ED.out]; exact (HS.out.setI 2 rfl m1 _).drew⟩
  case false =>
  obtain ⟨A, c, rfl, -⟩ := (S.ownI 2 rfl).form
  have Kd := fun w => impl_isDigit (k : Int) w
  rw [h1] at Kd
  have KD := Lib.hid Kd; clear Kd
  by_cases h2 : k = 59
  · subst h2
    have E := Lib.hid (seq_semi (V := V))
    clear h1
    obtain ⟨n, hn⟩ : ∃ n, n = V.P.length := ⟨_, rfl⟩
    have Hn := Lib.hid hn
    rw [← hn] at S hp
    obtain ⟨lc, lf, ls⟩ := S.cells 0 rfl
    simp only [vtCs] at lc
    have HS := Lib.hid S; clear S hn
    go_enter Tryd.func122, Tryd.ntmps122
    go_wp2_with fail
    refine Calls.mono (KD.out _) ?_; rintro e w1 ⟨rfl, hw⟩
    have hw := hw.symm
    subst hw
    go_upto_if 50 with fail
    go_cut [] (fun wx => ∃ va' : Value, St W wx (vtb b vc va' vp { V with P := P1 V.P } ++ L))
    case first =>
      by_cases hn0 : n = 0
      · have hP : V.P = [] := List.length_eq_zero_iff.1 (by rw [← Hn.out]; exact hn0)
        have hPP : P1 V.P = [0] := by rw [hP]; rfl
        subst hn0
        have T0 := HS.out.newI (OwnI.lit0 w1 w1.heap.size (Nat.le_refl _) [0] (by simp)) ((Ext.refl w1).alloc _)
        have T1 := vtb_setP T0
        rw [World.setCell_alloc_past _ _ _ _ (HS.out.cells 0 rfl).2.2] at T1
        have HT := Lib.hid T1; clear T0 T1
        go_wp2_with fail
        go_meet
        exact ⟨_, by rw [hPP]; exact HT.out⟩
      · have hPP : P1 V.P = V.P := P1_ne (fun e => hn0 (by rw [Hn.out, e]; rfl))
        have HPP := Lib.hid hPP; clear hPP
        go_wp2_with fail
        go_meet
        exact ⟨_, by rw [HPP.out]; exact HS.out⟩
    case rest =>
      obtain ⟨va', S⟩ := hcut
      clear lc lf ls HS Hn hp Hp2
      have ES : Hid (semP V.P = if (P1 V.P).length < 4 then P1 V.P ++ [0] else P1 V.P) := rfl
      obtain ⟨P, hP⟩ : ∃ P, P = P1 V.P := ⟨_, rfl⟩
      rw [← hP] at S hP1 ES
      obtain ⟨A2, c2, rfl, -⟩ := (S.ownI 2 rfl).form
      obtain ⟨m, hm⟩ : ∃ m, m = P.length := ⟨_, rfl⟩
      have S' : St W wc (vtb b vc (.slice A2 m c2) vp { V with P := P } ++ L) := by rw [hm]; exact S
      rw [← hm] at hP1 ES
      obtain ⟨lc, lf, ls⟩ := S'.cells 0 rfl
      simp only [vtCs] at lc
      have HS := Lib.hid S'; have Hm := Lib.hid hm
      clear S S' hP hm
      by_cases hm4 : m < 4
      · have E4 : Hid (semP V.P = P ++ [0]) := by show _ = _; rw [ES.out, if_pos hm4]
        go_wp2_with (at_builtin; refine wp_addI rfl _ _ rfl (HS.out.skip _) 2 rfl rfl rfl (RI.new _ [0] (by simp)) (by show P.length + _ ≤ _; rw [← Hm.out]; simp; omega) ?_)
        intro v2 w2 S3
        obtain ⟨A3, c3, rfl, -⟩ := (S3.ownI 2 rfl).form
        clear lc lf ls
        obtain ⟨lc, lf, ls⟩ := S3.cells 0 rfl
        simp only [vtCs] at lc
        have S4 : St W w2 (ownI (.slice A3 (P ++ [0]).length c3) (P ++ [0]) :: row b 58 (vtCs ⟨.int .i64 V.S, .slice A2 m c2, vp, .int .i64 V.N⟩ V.G vc) :: ownI vc V.G.C :: ownB vp V.B :: L) := S3.bring 2 rfl
        have S5 : St W (w2.setCell ⟨b, 7, none⟩ (.slice A3 (P ++ [0]).length c3)) (ownI (.slice A3 (P ++ [0]).length c3) (P ++ [0]) :: row b 58 (vtCs ⟨.int .i64 V.S, (.slice A3 (P ++ [0]).length c3), vp, .int .i64 V.N⟩ V.G vc) :: ownI vc V.G.C :: ownB vp V.B :: L) := S4.setc 1 rfl 7 (.slice A3 (P ++ [0]).length c3)
        have S6 : St W (w2.setCell ⟨b, 7, none⟩ (.slice A3 (P ++ [0]).length c3)) (ownI vc V.G.C :: row b 58 (vtCs ⟨.int .i64 V.S, (.slice A3 (P ++ [0]).length c3), vp, .int .i64 V.N⟩ V.G vc) :: ownI (.slice A3 (P ++ [0]).length c3) (P ++ [0]) :: ownB vp V.B :: L) := (S5.swap).bring 2 rfl
        have S7 : St W (w2.setCell ⟨b, 7, none⟩ (.slice A3 (P ++ [0]).length c3)) (vtb b vc (.slice A3 (P ++ [0]).length c3) vp { V with P := P ++ [0] } ++ L) := S6.swap
        have H7 := Lib.hid S7
        clear S3 S4 S5 S6 S7
        go_wp2_with fail
        ((try simp only [Exit.inBlock, Exit.then]); first | refine bodyPost_ret (results_none rfl _ _ _) rfl ?_ | refine bodyPost_end (results_none rfl _ _ _) rfl ?_)
        exact ⟨rfl, .slice A3 (P.length + 1) c3, by rw [E.out, E4.out]; have h7 := H7.out; simp only [List.length_append, List.length_cons, List.length_nil, Nat.zero_add] at h7; exact h7⟩
      · have E4 : Hid (semP V.P = P) := by show _ = _; rw [ES.out, if_neg hm4]
        go_wp2_with fail
        ((try simp only [Exit.inBlock, Exit.then]); first | refine bodyPost_ret (results_none rfl _ _ _) rfl ?_ | refine bodyPost_end (results_none rfl _ _ _) rfl ?_)
        exact ⟨rfl, _, by rw [E.out, E4.out]; exact HS.out⟩
  have HA : Hid (∀ w, Calls Tryd.prog 97 #[.int .i64 k, .int .i64 64, .int .i64 126] w fun e w' => e = .returned (.bool (inB k 64 126)) ∧ w = w') := fun w => impl_in _ _ _ w
  cases h3 : inB (k : Int) 64 126
  case false =>
    have E := Lib.hid (seq_other (V := V) h1 h2 h3)
    rw [h3] at HA
    obtain ⟨lc, lf, ls⟩ := S.cells 0 rfl
    simp only [vtCs] at lc
    have HS := Lib.hid S
    have HT := Lib.hid (vtb_end S); clear S h1 h3 Hp2 hP1
    go_enter Tryd.func122, Tryd.ntmps122
    go_wp2_with fail
    refine Calls.mono (KD.out _) ?_; rintro e w1 ⟨rfl, hw⟩
    have hw := hw.symm
    subst hw
    go_wp2_with fail
    refine Calls.mono (HA.out _) ?_; rintro e w1 ⟨rfl, hw⟩
    have hw := hw.symm
    subst hw
    go_wp2_with fail
    ((try simp only [Exit.inBlock, Exit.then]); first | refine bodyPost_ret (results_none rfl _ _ _) rfl ?_ | refine bodyPost_end (results_none rfl _ _ _) rfl ?_)
    exact ⟨rfl, _, by rw [E.out]; exact HT.out⟩
  case true =>
    have E := Lib.hid (seq_ctl (V := V) h2 h3)
    rw [h3] at HA
    obtain ⟨lc, lf, ls⟩ := S.cells 0 rfl
    simp only [vtCs] at lc
    have HS := Lib.hid S; clear S h1 h3 Hp2 hP1
    go_enter Tryd.func122, Tryd.ntmps122
    go_wp2_with fail
    refine Calls.mono (KD.out _) ?_; rintro e w1 ⟨rfl, hw⟩
    have hw := hw.symm
    subst hw
    go_wp2_with fail
    refine Calls.mono (HA.out _) ?_; rintro e w1 ⟨rfl, hw⟩
    have hw := hw.symm
    subst hw
    go_wp2_with fail
    clear lc lf ls
    refine Calls.mono (vt_control V k b vc _ vp W _ L HS.out HI.out hk) ?_; rintro e w2 ⟨rfl, S2⟩
    obtain ⟨lc, lf, ls⟩ := S2.cells 0 rfl
    simp only [vtCs] at lc
    have HT := Lib.hid (vtb_end S2); clear S2
    go_wp2_with fail
    ((try simp only [Exit.inBlock, Exit.then]); first | refine bodyPost_ret (results_none rfl _ _ _) rfl ?_ | refine bodyPost_end (results_none rfl _ _ _) rfl ?_)
    exact ⟨rfl, _, by rw [E.out]; exact HT.out⟩
end Go.Proofs.YtohjjhoobikioaaDoor
