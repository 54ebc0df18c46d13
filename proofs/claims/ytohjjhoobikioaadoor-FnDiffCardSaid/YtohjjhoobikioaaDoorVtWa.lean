/-
  VtOk of the program, where it holds.
-/
import Derived.Test.YtohjjhoobikioaaDoorVtW8
import Derived.Test.YtohjjhoobikioaaDoorDiffI
namespace Go.Proofs.YtohjjhoobikioaaDoor
open Go.RowKit

theorem vtOk_parts {V : VtS} (h : vtOk V = true) : gridOk V.G = true ∧ inB V.S 0 2 = true ∧ V.P.length ≤ 4 ∧ (V.P = [] ∨ V.S = 2) ∧ inB V.N 0 1000000 = true ∧ (∀ x ∈ V.P, inB x 0 9999 = true) ∧ (V.B = [] ∨ (V.S = 0 ∧ runeBegin V.B = true)) := by
  simp only [vtOk, Bool.and_eq_true, Bool.or_eq_true, decide_eq_true_eq, argsB, List.all_eq_true] at h
  obtain ⟨⟨⟨⟨⟨⟨h1, h2⟩, h3⟩, h4⟩, h5⟩, h6⟩, h7⟩ := h
  exact ⟨h1, h2, h3, h4, h5, h6, h7⟩

set_option maxRecDepth 100000 in
set_option maxHeartbeats 4000000 in
theorem impl_VtOk (V : VtS) (Ac Aa Ap : Option Addr) (nc cc na ca np cp : Nat) (w : World) (hC : RI w Ac nc cc V.G.C) (hA : RI w Aa na ca V.P) (hP : RB w Ap np cp V.B) (hok : vtOk V = true) :
    Calls Tryd.prog 81 #[.agg #[.int .i64 V.G.W, .int .i64 V.G.H, .slice Ac nc cc, .int .i64 V.G.X, .int .i64 V.G.Y, .bool V.G.R, .int .i64 V.S, .slice Aa na ca, .slice Ap np cp, .int .i64 V.N]] w fun e w' => e = .returned (.bool true) ∧ Ext w w' := by
  obtain ⟨o1, o2, o3, o4, o5, o6, o7⟩ := vtOk_parts hok
  have S := (St.refl w).alloc #[.int .i64 V.G.W, .int .i64 V.G.H, .slice Ac nc cc, .int .i64 V.G.X, .int .i64 V.G.Y, .bool V.G.R, .int .i64 V.S, .slice Aa na ca, .slice Ap np cp, .int .i64 V.N] 58
  have K1 := fun w h => impl_GridOk V.G.W V.G.H V.G.X V.G.Y V.G.R V.G.C Ac nc cc w h
  rw [show (⟨V.G.W, V.G.H, V.G.C, V.G.X, V.G.Y, V.G.R⟩ : Gr) = V.G from rfl, o1] at K1
  have K1 := Lib.hid K1
  have KI : Hid (∀ n l h w, inB n l h = true → Calls Tryd.prog 97 #[.int .i64 n, .int .i64 l, .int .i64 h] w fun e w' => e = .returned (.bool true) ∧ w = w') := fun n l h w e => by have := impl_in n l h w; rw [e] at this; exact this
  have K2 := Lib.hid (fun w h => impl_RuneBegin Ap np cp V.B w h)
  have HA := Lib.hid hA; have HP := Lib.hid hP
  have hna : na ≤ 4 := by rw [← hA.len]; exact o3
  have h4b : (decide ((0 : Int) < (na : Int)) && (V.S != 2)) = false := by
    rcases o4 with h | h
    · have : na = 0 := by rw [← hA.len, h]; rfl
      subst this; simp
    · simp [h]
  have H2 := Lib.hid o2; have H5 := Lib.hid o5; have H6 := Lib.hid o6
  have h7b : (np = 0 ∨ (V.S = 0 ∧ runeBegin V.B = true)) := by
    rcases o7 with h | h
    · left; rw [← hP.len, h]; rfl
    · exact .inr h
  have H4 : Hid (na = 0 ∨ V.S = 2) := by
    rcases o4 with h | h
    · left; show na = 0; rw [← hA.len, h]; rfl
    · exact .inr h
  clear o1 o2 o3 o4 o5 o6 o7 hok h4b
  have SS := Lib.hid S; clear S
  obtain ⟨s, hs⟩ : ∃ s, s = V.S := ⟨_, rfl⟩
  rw [← hs] at SS H2 H4 h7b ⊢
  clear hs
  by_cases hna0 : na = 0
  · subst hna0
    by_cases hnp : np = 0
    · subst hnp
      clear h7b H4
      obtain ⟨lc, lf, ls⟩ := SS.out.cells 0 rfl
      go_enter Tryd.func81, Tryd.ntmps81
      go_wp2_with (first
        | (go_at_call 71; (refine (K1.out _ (hC.ext SS.out.ext)).mono ?_); rintro e w1 ⟨rfl, x1⟩; have S1 := SS.out.call x1; obtain ⟨lc1, lf1, ls1⟩ := S1.cells 0 rfl)
        | (go_at_call 97; (first | (with_reducible refine (KI.out _ _ _ _ H2.out).mono ?_) | (with_reducible refine (KI.out _ _ _ _ H5.out).mono ?_)); rintro e w' ⟨rfl, rfl⟩))
      go_loopw [4, 41] (fun _ vi wr => vi = .int .i64 0 ∧ St w wr [row w.heap.size 58 #[.int .i64 V.G.W, .int .i64 V.G.H, .slice Ac nc cc, .int .i64 V.G.X, .int .i64 V.G.Y, .bool V.G.R, .int .i64 s, .slice Aa 0 ca, .slice Ap 0 cp, .int .i64 V.N]]) (fun _ _ _ => 0)
      case atStart => exact ⟨rfl, S1⟩
      case round =>
        obtain ⟨rfl, S2⟩ := hrel
        clear lc1 lf1 ls1
        obtain ⟨lc2, lf2, ls2⟩ := S2.cells 0 rfl
        go_wp2_with fail
        go_ret
        exact ⟨rfl, S2.ext⟩
    · rcases h7b with h7 | ⟨h7, h8⟩
      · exact absurd h7 hnp
      subst h7
      rw [h8] at K2
      have hnb : ((np : Int) == 0) = false := by simpa using hnp
      clear h8 H4
      obtain ⟨lc, lf, ls⟩ := SS.out.cells 0 rfl
      go_enter Tryd.func81, Tryd.ntmps81
      go_wp2_with (first
        | (go_at_call 71; (refine (K1.out _ (hC.ext SS.out.ext)).mono ?_); rintro e w1 ⟨rfl, x1⟩; have S1 := SS.out.call x1; obtain ⟨lc1, lf1, ls1⟩ := S1.cells 0 rfl)
        | (go_at_call 97; (first | (with_reducible refine (KI.out _ _ _ _ H2.out).mono ?_) | (with_reducible refine (KI.out _ _ _ _ H5.out).mono ?_)); rintro e w' ⟨rfl, rfl⟩))
      go_loopw [4, 41] (fun _ vi wr => vi = .int .i64 0 ∧ St w wr [row w.heap.size 58 #[.int .i64 V.G.W, .int .i64 V.G.H, .slice Ac nc cc, .int .i64 V.G.X, .int .i64 V.G.Y, .bool V.G.R, .int .i64 0, .slice Aa 0 ca, .slice Ap np cp, .int .i64 V.N]]) (fun _ _ _ => 0)
      case atStart => exact ⟨rfl, S1⟩
      case round =>
        obtain ⟨rfl, S2⟩ := hrel
        clear lc1 lf1 ls1
        obtain ⟨lc2, lf2, ls2⟩ := S2.cells 0 rfl
        go_wp2_with (go_at_call 119; (refine (K2.out _ (HP.out.ext S2.ext)).mono ?_); rintro e w3 ⟨rfl, x3⟩)
        go_ret
        exact ⟨rfl, (S2.call x3).ext⟩
  · have hs2 : s = 2 := by rcases H4.out with h | h
                           · exact absurd h hna0
                           · exact h
    subst hs2
    have hnp : np = 0 := by
      rcases h7b with h | ⟨h, -⟩
      · exact h
      · exact absurd h (by decide)
    subst hnp
    obtain ⟨b, o, rfl, -⟩ := HA.out.at1 (k := 0) (by omega)
    have EL : Hid (∀ k, k < na → inB (V.P[k]?.getD 0) 0 9999 = true) := by
      intro k hk
      have hk2 : k < V.P.length := by rw [HA.out.len]; exact hk
      rw [List.getElem?_eq_getElem hk2]
      exact H6.out _ (List.getElem_mem hk2)
    clear h7b H4
    have g0 : (0 : Int) < (na : Int) := by omega
    obtain ⟨lc, lf, ls⟩ := SS.out.cells 0 rfl
    go_enter Tryd.func81, Tryd.ntmps81
    go_wp2_with (first
      | (go_at_call 71; (refine (K1.out _ (hC.ext SS.out.ext)).mono ?_); rintro e w1 ⟨rfl, x1⟩; have S1 := SS.out.call x1; obtain ⟨lc1, lf1, ls1⟩ := S1.cells 0 rfl)
      | (go_at_call 97; (first | (with_reducible refine (KI.out _ _ _ _ H2.out).mono ?_) | (with_reducible refine (KI.out _ _ _ _ H5.out).mono ?_)); rintro e w' ⟨rfl, rfl⟩))
    go_loopw [4, 41] (fun _ vi wr => ∃ k : Nat, k ≤ na ∧ vi = .int .i64 k ∧ St w wr [row w.heap.size 58 #[.int .i64 V.G.W, .int .i64 V.G.H, .slice Ac nc cc, .int .i64 V.G.X, .int .i64 V.G.Y, .bool V.G.R, .int .i64 2, .slice (some ⟨b, o, none⟩) na ca, .slice Ap 0 cp, .int .i64 V.N]]) (fun _ vi _ => na - (intOf vi).toNat)
    case atStart => exact ⟨0, by omega, rfl, S1⟩
    case round =>
      obtain ⟨k, hk, rfl, S2⟩ := hrel
      clear lc1 lf1 ls1
      obtain ⟨lc2, lf2, ls2⟩ := S2.cells 0 rfl
      by_cases hlt : k < na
      · have hc := (HA.out.ext S2.ext).cellAt (k := k) hlt
        have E := Lib.hid (EL.out k hlt)
        obtain ⟨x, hx⟩ : ∃ x, x = V.P[k]?.getD 0 := ⟨_, rfl⟩
        rw [← hx] at hc E
        clear hx
        go_wp2_with (go_at_call 97; (with_reducible refine (KI.out _ _ _ _ E.out).mono ?_); rintro e w' ⟨rfl, rfl⟩)
        go_roundw
        case rel => exact ⟨k + 1, by omega, by go_num, S2⟩
        case measure => simp [intOf]; omega
      · go_wp2_with fail
        go_ret
        exact ⟨rfl, S2.ext⟩
end Go.Proofs.YtohjjhoobikioaaDoor
