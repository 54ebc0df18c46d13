/-
  The terminal's own methods: plain at bytes of runes; step.
-/
import Derived.Test.YtohjjhoobikioaaDoorVtW7
namespace Go.Proofs.YtohjjhoobikioaaDoor
open Go.RowKit

theorem plain_hi {V : VtS} {k : Nat} (h : 128 ≤ k) {D : List UInt8} (hD : D = V.B ++ [UInt8.ofNat k]) : vtPlain V k = (if (runeRead D).2 = (V.B.length : Int) + 1 then { V with G := putG V.G (runeRead D).1, B := [] } else if runeBegin D = true then { V with B := D } else { V with B := [] }) := by
  subst hD; unfold vtPlain; rw [if_pos h]
set_option maxRecDepth 100000 in
set_option maxHeartbeats 8000000 in
theorem vt_plain_hi (V : VtS) (k : Nat) (b : Nat) (vc va vp : Value) (W w : World) (L : List Pc) (S : St W w (vtb b vc va vp V ++ L)) (hI : VtI V) (h0 : 128 ≤ k) (h1 : k ≤ 255) :
    Calls Tryd.prog 121 #[.pointer (some ⟨b, 0, none⟩), .int .i64 k] w fun e w' => e = .returned (.tuple #[]) ∧ ∃ vc' vp', St W w' (vtb b vc' va vp' (vtPlain V k) ++ L) := by
  have hg := Lib.hid hI.g
  have hb3 := hI.b
  obtain ⟨Ap, cp, rfl, rp⟩ := (S.ownB 3 rfl).form
  have rp := Lib.hid rp
  obtain ⟨m, hm⟩ : ∃ m, m = V.B.length := ⟨_, rfl⟩
  rw [← hm] at hb3 rp S
  have Hm := Lib.hid hm
  obtain ⟨lc, lf, ls⟩ := S.cells 0 rfl
  simp only [vtCs] at lc
  have SS := Lib.hid S
  have B8 := Lib.hid (byteC_of (k := k) h1)
  have e8 : IntKind.u8.wrap (k : Int) = (k : Int) := by unfold IntKind.wrap; simp [IntKind.signed, IntKind.bits]; omega
  obtain ⟨D, hD⟩ : ∃ D, D = V.B ++ [UInt8.ofNat k] := ⟨_, rfl⟩
  have hDl : D.length = m + 1 := by rw [hD, hm]; simp
  have E := Lib.hid (plain_hi h0 hD)
  have K1 := Lib.hid (fun A n c w h hn => read0 A n c D w h hn)
  have K2 := Lib.hid (fun A n c w h => impl_RuneBegin A n c D w h)
  obtain ⟨r, hr⟩ : ∃ r, r = (runeRead D).1 := ⟨_, rfl⟩
  obtain ⟨q, hq⟩ : ∃ q, q = (runeRead D).2 := ⟨_, rfl⟩
  obtain ⟨z, hz⟩ : ∃ z, z = runeBegin D := ⟨_, rfl⟩
  rw [← hr, ← hq] at K1
  rw [← hr, ← hq, ← hz, ← hm] at E
  rw [← hz] at K2
  have HD := Lib.hid hD; have HDl := Lib.hid hDl
  clear S hm hI hD hDl hr hq hz
  by_cases hqm : q = ((m + 1 : Nat) : Int)
  · have E2 : Hid (vtPlain V k = { V with G := putG V.G r, B := [] }) := by show _ = _; rw [E.out, if_pos (by rw [hqm]; rfl)]
    subst hqm
    go_enter Tryd.func121, Tryd.ntmps121
    go_wp2_with fail
    refine Calls.mono (impl_copyBytes _ _ _ _ _ rp.out (by omega)) ?_; rintro e w1 ⟨v1, rfl, own1, x1⟩
    have S1 := SS.out.newB own1 x1
    clear own1 x1 lc lf ls SS rp
    obtain ⟨lc, lf, ls⟩ := S1.cells 1 rfl
    simp only [vtCs] at lc
    have S1 := Lib.hid S1
    go_wp2_with (at_builtin; refine wp_addB rfl _ _ rfl (S1.out.skip _) 0 rfl rfl rfl (RB.lit _ _ [UInt8.ofNat k] (B8.out) (by simp)) (by rw [← Hm.out]; simp; omega) ?_)
    intro v2 w2 S2
    clear S1 lc lf ls
    rw [← HD.out] at S2
    obtain ⟨A2, c2, rfl, -⟩ := (S2.ownB 0 rfl).form
    rw [HDl.out] at S2 ⊢
    obtain ⟨lc, lf, ls⟩ := S2.cells 1 rfl
    simp only [vtCs] at lc
    have S3 := Lib.hid (vtb_nilB S2)
    clear S2
    go_wp2_with fail
    clear lc lf ls
    refine Calls.mono (K1.out _ _ _ _ (((S3.out).ownB 4 rfl).rb) (by omega)) ?_; rintro e w3 ⟨rfl, x3⟩
    have S4 := Lib.hid (S3.out.call x3)
    clear S3 x3
    go_wp2_with fail
    refine Calls.mono (vt_put _ V.G _ b vc W _ _ (vtb_front S4.out).drop hg.out) ?_; rintro e w5 ⟨rfl, v5, S5⟩
    go_wp2_with fail
    ((try simp only [Exit.inBlock, Exit.then]); first | refine bodyPost_ret (results_none rfl _ _ _) rfl ?_ | refine bodyPost_end (results_none rfl _ _ _) rfl ?_)
    exact ⟨rfl, v5, _, by rw [E2.out]; exact S5⟩
  have hqb : (q == ((m + 1 : Nat) : Int)) = false := by simpa using hqm
  have hqb2 : (q == (m : Int) + 1) = false := by rw [← hqb]; rfl
  have Hqm := Lib.hid hqm; clear hqm
  cases z
  · have E2 : Hid (vtPlain V k = { V with B := [] }) := by show _ = _; rw [E.out, if_neg (fun e => Hqm.out (by rw [e]; rfl)), if_neg (by decide)]
    go_enter Tryd.func121, Tryd.ntmps121
    go_wp2_with fail
    refine Calls.mono (impl_copyBytes _ _ _ _ _ rp.out (by omega)) ?_; rintro e w1 ⟨v1, rfl, own1, x1⟩
    have S1 := SS.out.newB own1 x1
    clear own1 x1 lc lf ls SS rp
    obtain ⟨lc, lf, ls⟩ := S1.cells 1 rfl
    simp only [vtCs] at lc
    have S1 := Lib.hid S1
    go_wp2_with (at_builtin; refine wp_addB rfl _ _ rfl (S1.out.skip _) 0 rfl rfl rfl (RB.lit _ _ [UInt8.ofNat k] (B8.out) (by simp)) (by rw [← Hm.out]; simp; omega) ?_)
    intro v2 w2 S2
    clear S1 lc lf ls
    rw [← HD.out] at S2
    obtain ⟨A2, c2, rfl, -⟩ := (S2.ownB 0 rfl).form
    rw [HDl.out] at S2 ⊢
    obtain ⟨lc, lf, ls⟩ := S2.cells 1 rfl
    simp only [vtCs] at lc
    have S3 := Lib.hid (vtb_nilB S2)
    clear S2
    go_wp2_with fail
    clear lc lf ls
    refine Calls.mono (K1.out _ _ _ _ (((S3.out).ownB 4 rfl).rb) (by omega)) ?_; rintro e w3 ⟨rfl, x3⟩
    have S4 := Lib.hid (S3.out.call x3)
    clear S3 x3
    go_wp2_with fail
    refine Calls.mono (K2.out _ _ _ _ (((S4.out).ownB 4 rfl).rb)) ?_; rintro e w5 ⟨rfl, x5⟩
    go_wp2_with fail
    ((try simp only [Exit.inBlock, Exit.then]); first | refine bodyPost_ret (results_none rfl _ _ _) rfl ?_ | refine bodyPost_end (results_none rfl _ _ _) rfl ?_)
    exact ⟨rfl, _, _, by rw [E2.out]; exact (vtb_front (S4.out.call x5)).drop⟩
  · have E2 : Hid (vtPlain V k = { V with B := D }) := by show _ = _; rw [E.out, if_neg (fun e => Hqm.out (by rw [e]; rfl)), if_pos rfl]
    go_enter Tryd.func121, Tryd.ntmps121
    go_wp2_with fail
    refine Calls.mono (impl_copyBytes _ _ _ _ _ rp.out (by omega)) ?_; rintro e w1 ⟨v1, rfl, own1, x1⟩
    have S1 := SS.out.newB own1 x1
    clear own1 x1 lc lf ls SS rp
    obtain ⟨lc, lf, ls⟩ := S1.cells 1 rfl
    simp only [vtCs] at lc
    have S1 := Lib.hid S1
    go_wp2_with (at_builtin; refine wp_addB rfl _ _ rfl (S1.out.skip _) 0 rfl rfl rfl (RB.lit _ _ [UInt8.ofNat k] (B8.out) (by simp)) (by rw [← Hm.out]; simp; omega) ?_)
    intro v2 w2 S2
    clear S1 lc lf ls
    rw [← HD.out] at S2
    obtain ⟨A2, c2, rfl, -⟩ := (S2.ownB 0 rfl).form
    rw [HDl.out] at S2 ⊢
    obtain ⟨lc, lf, ls⟩ := S2.cells 1 rfl
    simp only [vtCs] at lc
    have S3 := Lib.hid (vtb_nilB S2)
    clear S2
    go_wp2_with fail
    clear lc lf ls
    refine Calls.mono (K1.out _ _ _ _ (((S3.out).ownB 4 rfl).rb) (by omega)) ?_; rintro e w3 ⟨rfl, x3⟩
    have S4 := Lib.hid (S3.out.call x3)
    clear S3 x3
    go_wp2_with fail
    refine Calls.mono (K2.out _ _ _ _ (((S4.out).ownB 4 rfl).rb)) ?_; rintro e w5 ⟨rfl, x5⟩
    have S5 := vtb_front (S4.out.call x5)
    obtain ⟨lc, lf, ls⟩ := S5.cells 1 rfl
    simp only [vtCs] at lc
    have S6 := Lib.hid (vtb_setB S5)
    clear S4 S5 x5
    go_wp2_with fail
    ((try simp only [Exit.inBlock, Exit.then]); first | refine bodyPost_ret (results_none rfl _ _ _) rfl ?_ | refine bodyPost_end (results_none rfl _ _ _) rfl ?_)
    exact ⟨rfl, _, _, by rw [E2.out]; exact S6.out⟩
theorem vt_plain (V : VtS) (k : Nat) (b : Nat) (vc va vp : Value) (W w : World) (L : List Pc) (S : St W w (vtb b vc va vp V ++ L)) (hI : VtI V) (h1 : k ≤ 255) :
    Calls Tryd.prog 121 #[.pointer (some ⟨b, 0, none⟩), .int .i64 k] w fun e w' => e = .returned (.tuple #[]) ∧ ∃ vc' vp', St W w' (vtb b vc' va vp' (vtPlain V k) ++ L) := by
  by_cases h0 : 128 ≤ k
  · exact vt_plain_hi V k b vc va vp W w L S hI h0 h1
  by_cases h7 : k = 7
  · subst h7; exact vt_plain_7 V b vc va vp W w L S hI
  by_cases h8 : k = 8
  · subst h8; exact vt_plain_8 V b vc va vp W w L S hI
  by_cases h13 : k = 13
  · subst h13; exact vt_plain_13 V b vc va vp W w L S hI
  by_cases h10 : k = 10
  · subst h10
    by_cases hy : V.G.Y = V.G.H - 1
    · exact vt_plain_10y V b vc va vp W w L S hI hy
    · exact vt_plain_10n V b vc va vp W w L S hI hy
  by_cases h27 : k = 27
  · subst h27; exact vt_plain_27 V b vc va vp W w L S hI
  by_cases hp : 32 ≤ k ∧ k ≤ 126
  · exact vt_plain_put V k b vc va vp W w L S hI hp.1 hp.2
  · exact vt_plain_no V k b vc va vp W w L S hI (by omega) h7 h8 h13 h10 h27 hp
theorem step_0 {V : VtS} {k : Nat} (h : V.S = 0) : vtStep V k = vtPlain V k := by unfold vtStep; rw [if_pos h]
theorem step_1 {V : VtS} {k : Nat} (h : V.S = 1) : vtStep V k = (if k = 91 then { V with S := 2 } else { V with S := 0 }) := by unfold vtStep; rw [if_neg (by omega), if_pos h]
theorem step_2 {V : VtS} {k : Nat} (h0 : V.S ≠ 0) (h1 : V.S ≠ 1) : vtStep V k = vtSeq V k := by unfold vtStep; rw [if_neg h0, if_neg h1]
set_option maxRecDepth 100000 in
set_option maxHeartbeats 2000000 in
theorem vt_step (V : VtS) (k : Nat) (b : Nat) (vc va vp : Value) (W w : World) (L : List Pc) (S : St W w (vtb b vc va vp V ++ L)) (hI : VtI V) (h1 : k ≤ 255) :
    Calls Tryd.prog 83 #[.pointer (some ⟨b, 0, none⟩), .int .i64 k] w fun e w' => e = .returned (.tuple #[]) ∧ ∃ vc' va' vp', St W w' (vtb b vc' va' vp' (vtStep V k) ++ L) := by
  have HI := Lib.hid hI
  have hS := hI.s
  clear hI
  obtain ⟨lc, lf, ls⟩ := S.cells 0 rfl
  simp only [vtCs] at lc
  have c6 := lc 6
  simp at c6
  have SS := Lib.hid S
  have S2 := vtb_setS 2 (vtb_setS 0 S)
  have S1 := vtb_setS 0 S
  have HS1 := Lib.hid S1; have HS2 := Lib.hid S2
  obtain ⟨lc1, lf1, ls1⟩ := S1.cells 0 rfl
  clear S S1 S2
  by_cases h0 : V.S = 0
  · have E := Lib.hid (step_0 (k := k) h0)
    rw [h0] at c6
    clear h0 hS lc lf ls lc1 lf1 ls1
    go_enter Tryd.func83, Tryd.ntmps83
    go_wp2_with fail
    refine Calls.mono (vt_plain V k b vc va vp W _ L SS.out HI.out h1) ?_; rintro e w1 ⟨rfl, vc2, vp2, T⟩
    go_wp2_with fail
    ((try simp only [Exit.inBlock, Exit.then]); first | refine bodyPost_ret (results_none rfl _ _ _) rfl ?_ | refine bodyPost_end (results_none rfl _ _ _) rfl ?_)
    exact ⟨rfl, vc2, va, vp2, by rw [E.out]; exact T⟩
  by_cases h2 : V.S = 1
  · have E := Lib.hid (step_1 (k := k) h2)
    rw [h2] at c6
    clear h0 h2 hS lc lc1
    by_cases hk : k = 91
    · subst hk
      go_enter Tryd.func83, Tryd.ntmps83
      go_wp2_with fail
      ((try simp only [Exit.inBlock, Exit.then]); first | refine bodyPost_ret (results_none rfl _ _ _) rfl ?_ | refine bodyPost_end (results_none rfl _ _ _) rfl ?_)
      exact ⟨rfl, vc, va, vp, by rw [E.out]; exact HS2.out⟩
    · have hkb : ((k : Int) == 91) = false := by simp; omega
      have Hk := Lib.hid hk; clear hk
      go_enter Tryd.func83, Tryd.ntmps83
      go_wp2_with fail
      ((try simp only [Exit.inBlock, Exit.then]); first | refine bodyPost_ret (results_none rfl _ _ _) rfl ?_ | refine bodyPost_end (results_none rfl _ _ _) rfl ?_)
      exact ⟨rfl, vc, va, vp, by rw [E.out, if_neg Hk.out]; exact HS1.out⟩
  · have E := Lib.hid (step_2 (k := k) h0 h2)
    obtain ⟨s, hs⟩ : ∃ s, s = V.S := ⟨_, rfl⟩
    rw [← hs] at c6 h0 h2
    have b0 : (s == 0) = false := by simpa using h0
    have b1 : (s == 1) = false := by simpa using h2
    clear h0 h2 hS lc lf ls lc1 lf1 ls1 hs
    go_enter Tryd.func83, Tryd.ntmps83
    go_wp2_with fail
    refine Calls.mono (vt_sequence V k b vc va vp W _ L SS.out HI.out h1) ?_; rintro e w1 ⟨rfl, va2, T⟩
    go_wp2_with fail
    ((try simp only [Exit.inBlock, Exit.then]); first | refine bodyPost_ret (results_none rfl _ _ _) rfl ?_ | refine bodyPost_end (results_none rfl _ _ _) rfl ?_)
    exact ⟨rfl, vc, va2, vp, by rw [E.out]; exact T⟩
end Go.Proofs.YtohjjhoobikioaaDoor
