/-
  The terminal's own methods: arg, clear, control.
-/
import Derived.Test.YtohjjhoobikioaaDoorVM3
import Derived.Test.YtohjjhoobikioaaDoorVtW1
namespace Go.Proofs.YtohjjhoobikioaaDoor
open Go.RowKit

/-- a terminal in a variable at b, its slices the call's own -/
def vtb (b : Nat) (vc va vp : Value) (V : VtS) : List Pc := [row b 58 (vtCs ⟨.int .i64 V.S, va, vp, .int .i64 V.N⟩ V.G vc), ownI vc V.G.C, ownI va V.P, ownB vp V.B]

set_option maxRecDepth 100000 in
set_option maxHeartbeats 2000000 in
theorem vt_arg (V : VtS) (i : Nat) (b : Nat) (vc va vp : Value) (W w : World) (L : List Pc) (S : St W w (vtb b vc va vp V ++ L)) (hI : VtI V) :
    Calls Tryd.prog 140 #[.pointer (some ⟨b, 0, none⟩), .int .i64 i] w fun e w' => e = .returned (.int .i64 (argV V.P i)) ∧ St W w' (vtb b vc va vp V ++ L) := by
  have hp := hI.p
  obtain ⟨lc, lf, ls⟩ := S.cells 0 rfl
  rcases (S.ownI 2 rfl).shape with ⟨rfl, h0⟩ | ⟨q, c, rfl, -, hq, hc, hcm⟩
  · have E : Hid (argV V.P i = 1) := by show _ = _; rw [h0]; rfl
    simp only [vtCs] at lc
    have HS := Lib.hid S; clear S hp h0
    go_enter Tryd.func140, Tryd.ntmps140
    go_wp2_with fail
    go_ret
    exact ⟨ret_i E.out.symm, HS.out⟩
  · have own := S.ownI 2 rfl
    obtain ⟨n, hn⟩ : ∃ n, n = V.P.length := ⟨_, rfl⟩
    by_cases hin : i < V.P.length
    · have hcell := own.cell (k := i) hin
      have E : Hid (argV V.P i = if V.P[i]?.getD 0 = 0 then 1 else V.P[i]?.getD 0) := rfl
      obtain ⟨x, hx⟩ : ∃ x, x = V.P[i]?.getD 0 := ⟨_, rfl⟩
      rw [← hx] at E hcell
      simp only [vtCs] at lc
      rw [← hn] at lc hin hp hc
      have HS := Lib.hid S; clear S own hx hn
      by_cases h0 : x = 0
      · subst h0
        go_enter Tryd.func140, Tryd.ntmps140
        go_wp2_with fail
        go_ret
        exact ⟨ret_i (by rw [E.out]; rfl), HS.out⟩
      · have hb : (x == 0) = false := by simpa using h0
        have H0 := Lib.hid h0; clear h0
        go_enter Tryd.func140, Tryd.ntmps140
        go_wp2_with fail
        go_ret
        exact ⟨ret_i (by rw [E.out, if_neg H0.out]), HS.out⟩
    · have E : Hid (argV V.P i = 1) := by show _ = _; unfold argV; rw [List.getElem?_eq_none (by omega)]; rfl
      simp only [vtCs] at lc
      rw [← hn] at lc hin hp hc
      have HS := Lib.hid S; clear S own hn
      go_enter Tryd.func140, Tryd.ntmps140
      go_wp2_with fail
      go_ret
      exact ⟨ret_i E.out.symm, HS.out⟩

/-- what clear does, whatever the first argument is: x, as the code reads it -/
theorem eraseV_0 (g : Gr) (f t : Int) : eraseV g 0 f t = clearG g (g.Y * g.W + g.X) t := rfl
theorem eraseV_1 (g : Gr) (f t : Int) : eraseV g 1 f t = clearG g f (g.Y * g.W + g.X + 1) := rfl
theorem eraseV_2 (g : Gr) (f t : Int) : eraseV g 2 f t = clearG g f t := rfl
theorem eraseV_n {g : Gr} {n f t : Int} (h0 : n ≠ 0) (h1 : n ≠ 1) (h2 : n ≠ 2) : eraseV g n f t = g := by unfold eraseV; rw [if_neg h0, if_neg h1, if_neg h2]

set_option maxRecDepth 100000 in
set_option maxHeartbeats 4000000 in
theorem vt_clear (V : VtS) (f t : Nat) (x y : Int) (hx : x = f) (hy : y = t) (b : Nat) (vc va vp : Value) (W w : World) (L : List Pc) (S : St W w (vtb b vc va vp V ++ L)) (hI : VtI V)
    (h1 : (f : Int) ≤ V.G.Y * V.G.W + V.G.X) (h2 : V.G.Y * V.G.W + V.G.X < t) (h3 : t ≤ V.G.C.length) :
    Calls Tryd.prog 141 #[.pointer (some ⟨b, 0, none⟩), .int .i64 x, .int .i64 y] w fun e w' => e = .returned (.tuple #[]) ∧ St W w' (vtb b vc va vp { V with G := eraseV V.G (V.P[0]?.getD 0) f t } ++ L) := by
  subst hx; subst hy
  obtain ⟨hd1, hd2, hd3, hd4, hd5, hd6⟩ := gridOk_d hI.g
  obtain ⟨hc1, hc2, hc3, hc4, -⟩ := gridOk_c hI.g
  have b2 : 0 ≤ V.G.Y * V.G.W := Int.mul_nonneg hc3 (by omega)
  have hlen : V.G.C.length ≤ 8000 := by omega
  obtain ⟨i, hi⟩ : ∃ i : Nat, (i : Int) = V.G.Y * V.G.W + V.G.X := ⟨(V.G.Y * V.G.W + V.G.X).toNat, by omega⟩
  have e3 : IntKind.i64.wrap (V.G.Y * V.G.W) = V.G.Y * V.G.W := IntWalk.i64_in _ (by omega)
  have e4 : IntKind.i64.wrap (V.G.Y * V.G.W + V.G.X) = (i : Int) := by rw [hi]; exact IntWalk.i64_in _ (by omega)
  rw [← hi] at h1 h2
  have hfi : f ≤ i := by omega
  have hit : i < t := by omega
  have hi8 : t ≤ 8000 := by omega
  have E0 : Hid (∀ n : Int, n = 0 → eraseV V.G n f t = clearG V.G i t) := by intro n e; subst e; rw [eraseV_0, hi]
  have E1 : Hid (∀ n : Int, n = 1 → eraseV V.G n f t = clearG V.G f (i + 1 : Nat)) := by intro n e; subst e; rw [eraseV_1, ← hi]; rfl
  have E2 : Hid (∀ n : Int, n = 2 → eraseV V.G n f t = clearG V.G f t) := by intro n e; subst e; rfl
  have E3 : Hid (∀ n : Int, n ≠ 0 → n ≠ 1 → n ≠ 2 → eraseV V.G n f t = V.G) := fun n a b c => eraseV_n a b c
  have hg := Lib.hid hI.g
  have Hl := Lib.hid hlen; have H3 := Lib.hid h3
  obtain ⟨x, hx⟩ : ∃ x, x = V.P[0]?.getD 0 := ⟨_, rfl⟩
  rw [← hx]
  clear hd1 hd2 hd3 hd4 hd5 hd6 hc1 hc2 hc3 hc4 b2 hI h1 h2 h3 hlen
  obtain ⟨lc, lf, ls⟩ := S.cells 0 rfl
  have hi' := Lib.hid hi; clear hi
  rcases (S.ownI 2 rfl).shape with ⟨rfl, h0⟩ | ⟨q, c, rfl, -, hq, hc, hcm⟩
  · have hx0 : x = 0 := by rw [hx, h0]; rfl
    subst hx0
    clear hx h0
    simp only [vtCs] at lc
    have HS := Lib.hid S; clear S
    go_enter Tryd.func141, Tryd.ntmps141
    go_wp2_with fail
    go_quiet (fail)
    clear e3 e4
    go_wp2_with fail
    refine Calls.mono (vt_erase' _ V.G i t _ _ rfl rfl b vc W _ _ (HS.out.drewN _) hit H3.out Hl.out hg.out) ?_; rintro e w4 ⟨rfl, S4⟩
    go_wp2_with fail
    ((try simp only [Exit.inBlock, Exit.then]); first | refine bodyPost_ret (results_none rfl _ _ _) rfl ?_ | refine bodyPost_end (results_none rfl _ _ _) rfl ?_)
    exact ⟨rfl, by rw [E0.out _ rfl]; exact S4⟩
  · have own := S.ownI 2 rfl
    obtain ⟨n, hn⟩ : ∃ n, n = V.P.length := ⟨_, rfl⟩
    rw [← hn] at hc lc
    by_cases hn0 : n = 0
    · subst hn0
      have hx0 : x = 0 := by rw [hx, List.getElem?_eq_none (by omega)]; rfl
      subst hx0
      clear hx own hn
      simp only [vtCs] at lc
      have HS := Lib.hid S; clear S
      go_enter Tryd.func141, Tryd.ntmps141
      go_wp2_with fail
      go_quiet (fail)
      clear e3 e4
      go_wp2_with fail
      refine Calls.mono (vt_erase' _ V.G i t _ _ rfl rfl b vc W _ _ (HS.out.drewN _) hit H3.out Hl.out hg.out) ?_; rintro e w4 ⟨rfl, S4⟩
      go_wp2_with fail
      ((try simp only [Exit.inBlock, Exit.then]); first | refine bodyPost_ret (results_none rfl _ _ _) rfl ?_ | refine bodyPost_end (results_none rfl _ _ _) rfl ?_)
      exact ⟨rfl, by rw [E0.out _ rfl]; exact S4⟩
    · have hcell := own.cell (k := 0) (by omega)
      rw [← hx] at hcell
      simp only [vtCs] at lc
      have hn1 : 0 < n := by omega
      have hnm : n ≤ 9223372036854775807 := by omega
      have HS := Lib.hid S; clear S own hx hn
      by_cases x0 : x = 0
      · subst x0
        go_enter Tryd.func141, Tryd.ntmps141
        go_wp2_with fail
        go_quiet (fail)
        clear e3 e4
        go_wp2_with fail
        refine Calls.mono (vt_erase' _ V.G i t _ _ rfl rfl b vc W _ _ (HS.out.drewN _) hit H3.out Hl.out hg.out) ?_; rintro e w4 ⟨rfl, S4⟩
        go_wp2_with fail
        ((try simp only [Exit.inBlock, Exit.then]); first | refine bodyPost_ret (results_none rfl _ _ _) rfl ?_ | refine bodyPost_end (results_none rfl _ _ _) rfl ?_)
        exact ⟨rfl, by rw [E0.out _ rfl]; exact S4⟩
      by_cases x1 : x = 1
      · subst x1
        go_enter Tryd.func141, Tryd.ntmps141
        go_wp2_with fail
        go_quiet (fail)
        clear e3 e4
        go_wp2_with fail
        refine Calls.mono (vt_erase' _ V.G f (i + 1) _ _ rfl (by omega) b vc W _ _ (HS.out.drewN _) (by omega) (by have := H3.out; omega) Hl.out hg.out) ?_; rintro e w4 ⟨rfl, S4⟩
        go_wp2_with fail
        ((try simp only [Exit.inBlock, Exit.then]); first | refine bodyPost_ret (results_none rfl _ _ _) rfl ?_ | refine bodyPost_end (results_none rfl _ _ _) rfl ?_)
        exact ⟨rfl, by rw [E1.out _ rfl]; exact S4⟩
      by_cases x2 : x = 2
      · subst x2
        go_enter Tryd.func141, Tryd.ntmps141
        go_wp2_with fail
        go_quiet (fail)
        clear e3 e4
        go_wp2_with fail
        refine Calls.mono (vt_erase' _ V.G f t _ _ rfl rfl b vc W _ _ (HS.out.drewN _) (by omega) H3.out Hl.out hg.out) ?_; rintro e w4 ⟨rfl, S4⟩
        go_wp2_with fail
        ((try simp only [Exit.inBlock, Exit.then]); first | refine bodyPost_ret (results_none rfl _ _ _) rfl ?_ | refine bodyPost_end (results_none rfl _ _ _) rfl ?_)
        exact ⟨rfl, by rw [E2.out _ rfl]; exact S4⟩
      · have b0 : (x == 0) = false := by simpa using x0
        have b1 : (x == 1) = false := by simpa using x1
        have b2 : (x == 2) = false := by simpa using x2
        have E9 := Lib.hid (E3.out x x0 x1 x2)
        clear x0 x1 x2
        go_enter Tryd.func141, Tryd.ntmps141
        go_wp2_with fail
        go_quiet (fail)
        clear e3 e4
        go_wp2_with fail
        ((try simp only [Exit.inBlock, Exit.then]); first | refine bodyPost_ret (results_none rfl _ _ _) rfl ?_ | refine bodyPost_end (results_none rfl _ _ _) rfl ?_)
        exact ⟨rfl, by rw [E9.out]; exact HS.out.drewN _⟩
end Go.Proofs.YtohjjhoobikioaaDoor
