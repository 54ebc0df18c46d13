/-
  Of several texts: VtWa, VtW9, VtWb.
-/
import Derived.Test.YtohjjhoobikioaaDoorVtW8
import Derived.Test.YtohjjhoobikioaaDoorDiffI
import Derived.Test.YtohjjhoobikioaaDoorDiffS
import Derived.Test.YtohjjhoobikioaaDoorGrp
/-! VtOk of the program, where it holds. -/
namespace Go.Proofs.YtohjjhoobikioaaDoor
open Go.RowKit

theorem vtOk_parts {V : VtS} (h : vtOk V = true) : gridOk V.G = true ∧ inB V.S 0 2 = true ∧ V.P.length ≤ 4 ∧ (V.P = [] ∨ V.S = 2) ∧ inB V.N 0 1000000 = true ∧ (∀ x ∈ V.P, inB x 0 9999 = true) ∧ (V.B = [] ∨ (V.S = 0 ∧ runeBegin V.B = true)) := by
  simp only [vtOk, Bool.and_eq_true, Bool.or_eq_true, decide_eq_true_eq, argsB, List.all_eq_true] at h
  obtain ⟨⟨⟨⟨⟨⟨h1, h2⟩, h3⟩, h4⟩, h5⟩, h6⟩, h7⟩ := h
  exact ⟨h1, h2, h3, h4, h5, h6, h7⟩

set_option maxRecDepth 100000 in
set_option maxHeartbeats 4000000 in
theorem impl_VtOk (V : VtS) (Ac Aa Ap : Option Addr) (nc cc na ca np cp : Nat) (w : World) (hC : RI w Ac nc cc V.G.C) (hA : RI w Aa na ca V.P) (hP : RB w Ap np cp V.B) (hok : vtOk V = true) :
    Calls Tryd.prog 81 #[.agg #[.int .i64 V.G.W, .int .i64 V.G.H, .slice Ac nc cc, .int .i64 V.G.X, .int .i64 V.G.Y, .bool V.G.R, .int .i64 V.S, .slice Aa na ca, .slice Ap np cp, .int .i64 V.N]] w fun e w' => e = .returned (.bool true) ∧ Ext w w' := by
  obtain ⟨o1, o2, o3, o4, o5, o6, o7⟩ := vtOk_parts hok
  have S := (St.refl w).alloc #[.int .i64 V.G.W, .int .i64 V.G.H, .slice Ac nc cc, .int .i64 V.G.X, .int .i64 V.G.Y, .bool V.G.R, .int .i64 V.S, .slice Aa na ca, .slice Ap np cp, .int .i64 V.N] 58
  have K1 := fun w h => impl_GridOk V.G.W V.G.H V.G.X V.G.Y V.G.R V.G.C Ac nc cc w h
  rw [show (⟨V.G.W, V.G.H, V.G.C, V.G.X, V.G.Y, V.G.R⟩ : Gr) = V.G from rfl, o1] at K1
  have K1 := Lib.hid K1
  have KI : Hid (∀ n l h w, inB n l h = true → Calls Tryd.prog 97 #[.int .i64 n, .int .i64 l, .int .i64 h] w fun e w' => e = .returned (.bool true) ∧ w = w') := fun n l h w e => by have := impl_in n l h w; rw [e] at this; exact this
  have K2 := Lib.hid (fun w h => impl_RuneBegin Ap np cp V.B w h)
  have HA := Lib.hid hA; have HP := Lib.hid hP
  have hna : na ≤ 4 := by rw [← hA.len]; exact o3
  have h4b : (decide ((0 : Int) < (na : Int)) && (V.S != 2)) = false := by
    rcases o4 with h | h
    · have : na = 0 := by rw [← hA.len, h]; rfl
      subst this; simp
    · simp [h]
  have H2 := Lib.hid o2; have H5 := Lib.hid o5; have H6 := Lib.hid o6
  have h7b : (np = 0 ∨ (V.S = 0 ∧ runeBegin V.B = true)) := by
    rcases o7 with h | h
    · left; rw [← hP.len, h]; rfl
    · exact .inr h
  have H4 : Hid (na = 0 ∨ V.S = 2) := by
    rcases o4 with h | h
    · left; show na = 0; rw [← hA.len, h]; rfl
    · exact .inr h
  clear o1 o2 o3 o4 o5 o6 o7 hok h4b
  have SS := Lib.hid S; clear S
  obtain ⟨s, hs⟩ : ∃ s, s = V.S := ⟨_, rfl⟩
  rw [← hs] at SS H2 H4 h7b ⊢
  clear hs
  by_cases hna0 : na = 0
  · subst hna0
    by_cases hnp : np = 0
    · subst hnp
      clear h7b H4
      obtain ⟨lc, lf, ls⟩ := SS.out.cells 0 rfl
      go_enter Tryd.func81, Tryd.ntmps81
      go_wp2_with (first
        | (go_at_call 71; (refine (K1.out _ (hC.ext SS.out.ext)).mono ?_); rintro e w1 ⟨rfl, x1⟩; have S1 := SS.out.call x1; obtain ⟨lc1, lf1, ls1⟩ := S1.cells 0 rfl)
        | (go_at_call 97; (first | (with_reducible refine (KI.out _ _ _ _ H2.out).mono ?_) | (with_reducible refine (KI.out _ _ _ _ H5.out).mono ?_)); rintro e w' ⟨rfl, rfl⟩))
      go_loopw [4, 41] (fun _ vi wr => vi = .int .i64 0 ∧ St w wr [row w.heap.size 58 #[.int .i64 V.G.W, .int .i64 V.G.H, .slice Ac nc cc, .int .i64 V.G.X, .int .i64 V.G.Y, .bool V.G.R, .int .i64 s, .slice Aa 0 ca, .slice Ap 0 cp, .int .i64 V.N]]) (fun _ _ _ => 0)
      case atStart => exact ⟨rfl, S1⟩
      case round =>
        obtain ⟨rfl, S2⟩ := hrel
        clear lc1 lf1 ls1
        obtain ⟨lc2, lf2, ls2⟩ := S2.cells 0 rfl
        go_wp2_with fail
        go_ret
        exact ⟨rfl, S2.ext⟩
    · rcases h7b with h7 | ⟨h7, h8⟩
      · exact absurd h7 hnp
      subst h7
      rw [h8] at K2
      have hnb : ((np : Int) == 0) = false := by simpa using hnp
      clear h8 H4
      obtain ⟨lc, lf, ls⟩ := SS.out.cells 0 rfl
      go_enter Tryd.func81, Tryd.ntmps81
      go_wp2_with (first
        | (go_at_call 71; (refine (K1.out _ (hC.ext SS.out.ext)).mono ?_); rintro e w1 ⟨rfl, x1⟩; have S1 := SS.out.call x1; obtain ⟨lc1, lf1, ls1⟩ := S1.cells 0 rfl)
        | (go_at_call 97; (first | (with_reducible refine (KI.out _ _ _ _ H2.out).mono ?_) | (with_reducible refine (KI.out _ _ _ _ H5.out).mono ?_)); rintro e w' ⟨rfl, rfl⟩))
      go_loopw [4, 41] (fun _ vi wr => vi = .int .i64 0 ∧ St w wr [row w.heap.size 58 #[.int .i64 V.G.W, .int .i64 V.G.H, .slice Ac nc cc, .int .i64 V.G.X, .int .i64 V.G.Y, .bool V.G.R, .int .i64 0, .slice Aa 0 ca, .slice Ap np cp, .int .i64 V.N]]) (fun _ _ _ => 0)
      case atStart => exact ⟨rfl, S1⟩
      case round =>
        obtain ⟨rfl, S2⟩ := hrel
        clear lc1 lf1 ls1
        obtain ⟨lc2, lf2, ls2⟩ := S2.cells 0 rfl
        go_wp2_with (go_at_call 119; (refine (K2.out _ (HP.out.ext S2.ext)).mono ?_); rintro e w3 ⟨rfl, x3⟩)
        go_ret
        exact ⟨rfl, (S2.call x3).ext⟩
  · have hs2 : s = 2 := by rcases H4.out with h | h
                           · exact absurd h hna0
                           · exact h
    subst hs2
    have hnp : np = 0 := by
      rcases h7b with h | ⟨h, -⟩
      · exact h
      · exact absurd h (by decide)
    subst hnp
    obtain ⟨b, o, rfl, -⟩ := HA.out.at1 (k := 0) (by omega)
    have EL : Hid (∀ k, k < na → inB (V.P[k]?.getD 0) 0 9999 = true) := by
      intro k hk
      have hk2 : k < V.P.length := by rw [HA.out.len]; exact hk
      rw [List.getElem?_eq_getElem hk2]
      exact H6.out _ (List.getElem_mem hk2)
    clear h7b H4
    have g0 : (0 : Int) < (na : Int) := by omega
    obtain ⟨lc, lf, ls⟩ := SS.out.cells 0 rfl
    go_enter Tryd.func81, Tryd.ntmps81
    go_wp2_with (first
      | (go_at_call 71; (refine (K1.out _ (hC.ext SS.out.ext)).mono ?_); rintro e w1 ⟨rfl, x1⟩; have S1 := SS.out.call x1; obtain ⟨lc1, lf1, ls1⟩ := S1.cells 0 rfl)
      | (go_at_call 97; (first | (with_reducible refine (KI.out _ _ _ _ H2.out).mono ?_) | (with_reducible refine (KI.out _ _ _ _ H5.out).mono ?_)); rintro e w' ⟨rfl, rfl⟩))
    go_loopw [4, 41] (fun _ vi wr => ∃ k : Nat, k ≤ na ∧ vi = .int .i64 k ∧ St w wr [row w.heap.size 58 #[.int .i64 V.G.W, .int .i64 V.G.H, .slice Ac nc cc, .int .i64 V.G.X, .int .i64 V.G.Y, .bool V.G.R, .int .i64 2, .slice (some ⟨b, o, none⟩) na ca, .slice Ap 0 cp, .int .i64 V.N]]) (fun _ vi _ => na - (intOf vi).toNat)
    case atStart => exact ⟨0, by omega, rfl, S1⟩
    case round =>
      obtain ⟨k, hk, rfl, S2⟩ := hrel
      clear lc1 lf1 ls1
      obtain ⟨lc2, lf2, ls2⟩ := S2.cells 0 rfl
      by_cases hlt : k < na
      · have hc := (HA.out.ext S2.ext).cellAt (k := k) hlt
        have E := Lib.hid (EL.out k hlt)
        obtain ⟨x, hx⟩ : ∃ x, x = V.P[k]?.getD 0 := ⟨_, rfl⟩
        rw [← hx] at hc E
        clear hx
        go_wp2_with (go_at_call 97; (with_reducible refine (KI.out _ _ _ _ E.out).mono ?_); rintro e w' ⟨rfl, rfl⟩)
        go_roundw
        case rel => exact ⟨k + 1, by omega, by go_num, S2⟩
        case measure => simp [intOf]; omega
      · go_wp2_with fail
        go_ret
        exact ⟨rfl, S2.ext⟩
end Go.Proofs.YtohjjhoobikioaaDoor
/-! copyVt of the program. -/
namespace Go.Proofs.YtohjjhoobikioaaDoor
open Go.RowKit

abbrev zeroV : Array Value := #[.int .i64 0, .int .i64 0, .slice none 0 0, .int .i64 0, .int .i64 0, .bool false, .int .i64 0, .slice none 0 0, .slice none 0 0, .int .i64 0]
abbrev vtA (V : VtS) (vc va vp : Value) : Array Value := #[.int .i64 V.G.W, .int .i64 V.G.H, vc, .int .i64 V.G.X, .int .i64 V.G.Y, .bool V.G.R, .int .i64 V.S, va, vp, .int .i64 V.N]
theorem vt10 {W w : World} {L : List Pc} {b : Nat} {T : TypeId} {V : VtS} {vc va vp : Value} (S : St W w L) (i : Nat) (e : L[i]? = some (YtohjjhoobikioaaDoor.row b T (vtA V vc va vp))) :
    w.cell? ⟨b, 0, none⟩ = some (.int .i64 V.G.W) ∧ w.cell? ⟨b, 1, none⟩ = some (.int .i64 V.G.H) ∧ w.cell? ⟨b, 2, none⟩ = some vc ∧ w.cell? ⟨b, 3, none⟩ = some (.int .i64 V.G.X) ∧ w.cell? ⟨b, 4, none⟩ = some (.int .i64 V.G.Y) ∧ w.cell? ⟨b, 5, none⟩ = some (.bool V.G.R) ∧ w.cell? ⟨b, 6, none⟩ = some (.int .i64 V.S) ∧ w.cell? ⟨b, 7, none⟩ = some va ∧ w.cell? ⟨b, 8, none⟩ = some vp ∧ w.cell? ⟨b, 9, none⟩ = some (.int .i64 V.N) := by
  obtain ⟨lc, -, -⟩ := S.cells i e
  exact ⟨lc 0, lc 1, lc 2, lc 3, lc 4, lc 5, lc 6, lc 7, lc 8, lc 9⟩

theorem row_cast {W w : World} {p0 p1 p2 p3 : Pc} {b : Nat} {T : TypeId} {cs cs' : Array Value} (S : St W w [p0, p1, p2, p3, YtohjjhoobikioaaDoor.row b T cs]) (e : cs = cs') : St W w [p0, p1, p2, p3, YtohjjhoobikioaaDoor.row b T cs'] := e ▸ S
theorem row_set {W w : World} {p0 p1 p2 p3 : Pc} {b : Nat} {T : TypeId} {cs : Array Value} (S : St W w [p0, p1, p2, p3, YtohjjhoobikioaaDoor.row b T cs]) (k : Nat) (u : Value) : St W (w.setCell ⟨b, k, none⟩ u) [p0, p1, p2, p3, YtohjjhoobikioaaDoor.row b T (cs.setIfInBounds k u)] := S.setc 4 rfl k u
theorem ten8 (a0 a1 a2 a3 a4 a5 a6 a7 a8 a9 b0 b1 b2 b3 b4 b5 b7 b8 : Value) : ((((((((#[a0, a1, a2, a3, a4, a5, a6, a7, a8, a9].setIfInBounds 0 b0).setIfInBounds 1 b1).setIfInBounds 2 b2).setIfInBounds 3 b3).setIfInBounds 4 b4).setIfInBounds 5 b5).setIfInBounds 7 b7).setIfInBounds 8 b8) = #[b0, b1, b2, b3, b4, b5, a6, b7, b8, a9] := by
  simp only [List.setIfInBounds_toArray, List.set_cons_zero, List.set_cons_succ]
/-- the fields of a terminal that lead to memory, stored anew one by one -/
theorem vt_store8 {W w : World} {p0 p1 p2 p3 : Pc} {b : Nat} {T : TypeId} {V : VtS} {v1 v2 v3 u1 u2 u3 : Value} (S : St W w [p0, p1, p2, p3, YtohjjhoobikioaaDoor.row b T (vtA V u1 u2 u3)]) :
    St W ((((((((w.setCell ⟨b, 0, none⟩ (.int .i64 V.G.W)).setCell ⟨b, 1, none⟩ (.int .i64 V.G.H)).setCell ⟨b, 2, none⟩ v1).setCell ⟨b, 3, none⟩ (.int .i64 V.G.X)).setCell ⟨b, 4, none⟩ (.int .i64 V.G.Y)).setCell ⟨b, 5, none⟩ (.bool V.G.R)).setCell ⟨b, 7, none⟩ v2).setCell ⟨b, 8, none⟩ v3) [p0, p1, p2, p3, YtohjjhoobikioaaDoor.row b T (vtA V v1 v2 v3)] := by
  have S1 := row_set (row_set (row_set (row_set (row_set (row_set (row_set (row_set S 0 (.int .i64 V.G.W)) 1 (.int .i64 V.G.H)) 2 v1) 3 (.int .i64 V.G.X)) 4 (.int .i64 V.G.Y)) 5 (.bool V.G.R)) 7 v2) 8 v3
  exact row_cast S1 (ten8 _ _ _ _ _ _ _ _ _ _ _ _ _ _ _ _ _ _)
set_option maxRecDepth 100000 in
set_option maxHeartbeats 64000000 in
theorem impl_copyVt (V : VtS) (Ac Aa Ap : Option Addr) (nc cc na ca np cp : Nat) (w : World) (hC : RI w Ac nc cc V.G.C) (hA : RI w Aa na ca V.P) (hP : RB w Ap np cp V.B) (h1 : nc ≤ 8000) (h2 : na ≤ 8000) (h3 : np ≤ 8000) :
    Calls Tryd.prog 82 #[.agg (vtA V (.slice Ac nc cc) (.slice Aa na ca) (.slice Ap np cp))] w fun e w' => ∃ vc va vp, e = .returned (.agg (vtA V vc va vp)) ∧ St w w' [ownI vc V.G.C, ownI va V.P, ownB vp V.B] := by
  have S := ((St.refl w).alloc (vtA V (.slice Ac nc cc) (.slice Aa na ca) (.slice Ap np cp)) 58).alloc zeroV 58
  simp only [World.size_alloc] at S
  have SS := Lib.hid S; clear S
  go_enter Tryd.func82, Tryd.ntmps82
  go_upto_region 1 with fail
  go_cut [] (fun wx => ∃ (A1 A2 A3 : Option Addr) (n1 c1 n2 c2 n3 c3 : Nat), St w wx [ownB (.slice A3 n3 c3) V.B, ownI (.slice A2 n2 c2) V.P, ownI (.slice A1 n1 c1) V.G.C, row (w.heap.size + 1) 58 zeroV, row w.heap.size 58 (vtA V (.slice A1 n1 c1) (.slice A2 n2 c2) (.slice A3 n3 c3))])
  case first =>
    have S0 := SS.out.drew
    obtain ⟨lc, lf, ls⟩ := S0.cells 1 rfl
    have HS0 := Lib.hid S0; clear S0
    go_region_with (first
      | (go_at_call 68; refine (impl_copyGrid V.G Ac nc cc _ (hC.ext HS0.out.ext) h1).mono ?_; rintro e w1 ⟨v1, rfl, own1, x1⟩; obtain ⟨A1, n1, c1, rfl⟩ := own1.form'; (have S1 := HS0.out.newI own1 x1; obtain ⟨lc1, lf1, ls1⟩ := S1.cells 2 rfl; have HS1 := Lib.hid S1; clear S1 own1 x1))
      | (go_at_call 102; refine (impl_copyInts Aa na ca V.P _ (hA.ext HS1.out.ext) (by omega)).mono ?_; rintro e w2 ⟨v2, rfl, own2, x2⟩; obtain ⟨A2, n2, c2, rfl⟩ := own2.form'; have S2 := HS1.out.newI own2 x2; obtain ⟨lc2, lf2, ls2⟩ := S2.cells 3 rfl; have HS2 := Lib.hid S2; clear S2 own2 x2)
      | (go_at_call 120; refine (impl_copyBytes Ap np cp V.B _ (hP.ext HS2.out.ext) (by omega)).mono ?_; rintro e w3 ⟨v3, rfl, own3, x3⟩; obtain ⟨A3, n3, c3, rfl⟩ := own3.form'; have S3 := HS2.out.newB own3 x3; obtain ⟨lc3, lf3, ls3⟩ := S3.cells 4 rfl; have HS3 := Lib.hid S3; clear S3 own3 x3))
    all_goals
      go_wp2_with fail
      go_meet
      exact ⟨A1, A2, A3, n1, c1, n2, c2, n3, c3, vt_store8 HS3.out⟩
  case rest =>
    obtain ⟨A1, A2, A3, n1, c1, n2, c2, n3, c3, S⟩ := hcut
    clear SS
    obtain ⟨lc, lf, ls⟩ := S.cells 4 rfl
    obtain ⟨lc2, lf2, ls2⟩ := S.cells 3 rfl
    go_wp2_with ((with_reducible refine wp_setA (k := 0) (u := .agg (vtA V (.slice A1 n1 c1) (.slice A2 n2 c2) (.slice A3 n3 c3))) (vtA V (.slice A1 n1 c1) (.slice A2 n2 c2) (.slice A3 n3 c3)) S 3 rfl ?_ ?_ ?_ ?_ ?_ ?_ ?_); go_must (exact rfl); go_must (exact rfl); go_must (kernel_rfl); go_must (kernel_rfl); go_must (exact Nat.le_of_ble_eq_true (by kernel_rfl)); go_must (kernel_rfl))
    intro w6 S6
    clear lc lf ls lc2 lf2 ls2 S
    obtain ⟨lc, -, -⟩ := S6.cells 3 rfl
    go_wp2_with fail
    refine bodyPost_ret (v := .agg (vtA V (.slice A1 n1 c1) (.slice A2 n2 c2) (.slice A3 n3 c3))) (by simp [results, Tryd.results82, go_sem, lc]) rfl ⟨_, _, _, rfl, ?_⟩
    exact (St.keep (M := [ownB (.slice A3 n3 c3) V.B, ownI (.slice A2 n2 c2) V.P, ownI (.slice A1 n1 c1) V.G.C]) (L := _) S6).perm (List.reverse_perm [ownI (.slice A1 n1 c1) V.G.C, ownI (.slice A2 n2 c2) V.P, ownB (.slice A3 n3 c3) V.B])
end Go.Proofs.YtohjjhoobikioaaDoor
/-! VtFeed of the program. -/
namespace Go.Proofs.YtohjjhoobikioaaDoor
open Go.RowKit

theorem feed_snoc {V : VtS} {l : List UInt8} {k : Nat} (hk : k < l.length) : feed V (l.take (k + 1)) = vtStep (feed V (l.take k)) (l.getD k 0).toNat := by
  have e : l.take (k + 1) = l.take k ++ [l.getD k 0] := by
    rw [List.take_add_one, List.getElem?_eq_getElem hk]; simp [List.getD, List.getElem?_eq_getElem hk]
  rw [e, feed_append]; rfl

set_option maxRecDepth 100000 in
set_option maxHeartbeats 8000000 in
theorem impl_VtFeed (V : VtS) (Ac Aa Ap : Option Addr) (nc cc na ca np cp : Nat) (A : Option Addr) (n c : Nat) (l : List UInt8) (w : World) (hC : RI w Ac nc cc V.G.C) (hA : RI w Aa na ca V.P) (hP : RB w Ap np cp V.B) (hr : RB w A n c l) (hok : vtOk V = true) (hn : n ≤ 1099511627776) :
    Calls Tryd.prog 36 #[.agg (vtA V (.slice Ac nc cc) (.slice Aa na ca) (.slice Ap np cp)), .slice A n c] w fun e w' => ∃ vc va vp, e = .returned (.agg (vtA (feed V l) vc va vp)) ∧ St w w' [ownI vc (feed V l).G.C, ownI va (feed V l).P, ownB vp (feed V l).B] := by
  have S := ((St.refl w).alloc (vtA V (.slice Ac nc cc) (.slice Aa na ca) (.slice Ap np cp)) 58).alloc zeroV 58
  simp only [World.size_alloc] at S
  have hI := vtOk_I hok
  have nc8 : nc ≤ 8000 := by
    obtain ⟨-, -, -, -, q5, q6⟩ := gridOk_d hI.g
    rw [hC.len] at q6; omega
  have na8 : na ≤ 8000 := by have := hI.p; rw [hA.len] at this; omega
  have np8 : np ≤ 8000 := by have := hI.b; rw [hP.len] at this; omega
  have K1 := Lib.hid (fun w h1 h2 h3 => impl_VtOk V Ac Aa Ap nc cc na ca np cp w h1 h2 h3 hok)
  have K2 := Lib.hid (fun w h1 h2 h3 => impl_copyVt V Ac Aa Ap nc cc na ca np cp w h1 h2 h3 nc8 na8 np8)
  have HI := Lib.hid hI; have HR := Lib.hid hr
  have Hl := Lib.hid hr.len
  clear hok hI nc8 na8 np8 hr
  have SS := Lib.hid S; clear S
  go_enter Tryd.func36, Tryd.ntmps36
  go_wp2_with fail
  refine Calls.mono (K1.out _ (hC.ext SS.out.ext) (hA.ext SS.out.ext) (hP.ext SS.out.ext)) ?_; rintro e w1 ⟨rfl, x1⟩
  have S1 := Lib.hid (SS.out.call x1)
  clear SS x1
  obtain ⟨lc, lf, ls⟩ := S1.out.cells 1 rfl
  go_wp2_with fail
  clear lc lf ls
  refine Calls.mono (K2.out _ (hC.ext S1.out.ext) (hA.ext S1.out.ext) (hP.ext S1.out.ext)) ?_; rintro e w2 ⟨vc, va, vp, rfl, S2⟩
  obtain ⟨A1, n1, c1, rfl⟩ := (S2.ownI 0 rfl).form'
  obtain ⟨A2, n2, c2, rfl⟩ := (S2.ownI 1 rfl).form'
  obtain ⟨A3, n3, c3, rfl⟩ := (S2.ownB 2 rfl).form'
  have S3 := Lib.hid ((S1.out.joined S2).alloc (vtA V (.slice A1 n1 c1) (.slice A2 n2 c2) (.slice A3 n3 c3)) 58)
  have hb : w2.heap.size = w2.heap.size := rfl
  clear S1 S2 hb
  go_wp2_with fail
  generalize w2.heap.size = b at *
  go_loopw [7, 16] (fun _ vi wr => ∃ (k : Nat) (V' : VtS) (vc va vp : Value), k ≤ n ∧ vi = .int .i64 k ∧ Hid (V' = feed V (l.take k)) ∧ St w wr (vtb b vc va vp V' ++ [row (w.heap.size + 1) 58 zeroV, row w.heap.size 58 (vtA V (.slice Ac nc cc) (.slice Aa na ca) (.slice Ap np cp))])) (fun _ vi _ => n - (intOf vi).toNat)
  case atStart => exact ⟨0, V, _, _, _, by omega, rfl, rfl, S3.out⟩
  case round =>
    obtain ⟨k, V', vc, va, vp, hk, rfl, HV, S⟩ := hrel
    clear S3
    by_cases hlt : k < n
    · obtain ⟨q, o, hA2, hcell⟩ := (HR.out.ext S.ext).at1 (k := k) hlt
      subst hA2
      have E : Hid (vtStep V' (l.getD k 0).toNat = feed V (l.take (k + 1))) := by
        show _ = _; rw [HV.out, feed_snoc (by rw [Hl.out]; exact hlt)]
      obtain ⟨y, hy⟩ : ∃ y, y = l.getD k 0 := ⟨_, rfl⟩
      rw [← hy] at hcell E
      have hy8 := y.toNat_lt
      have HI2 : Hid (VtI V') := by show VtI V'; rw [HV.out]; exact feed_ok HI.out _
      clear hy
      have SS := Lib.hid S; clear S
      go_wp2_with fail
      refine Calls.mono (vt_step V' y.toNat b vc va vp w _ _ SS.out HI2.out (by omega)) ?_; rintro e w5 ⟨rfl, vc5, va5, vp5, S5⟩
      go_wp2_with fail
      go_roundw
      case rel => exact ⟨k + 1, _, vc5, va5, vp5, by omega, by go_num, E.out, S5⟩
      case measure => simp [intOf]; omega
    · have e : V' = feed V l := by
        rw [HV.out, List.take_of_length_le (by rw [Hl.out]; omega)]
      have HE := Lib.hid e
      clear HV e
      obtain ⟨A1, n1, c1, rfl⟩ := (S.ownI 1 rfl).form'
      obtain ⟨A2, n2, c2, rfl⟩ := (S.ownI 2 rfl).form'
      obtain ⟨A3, n3, c3, rfl⟩ := (S.ownB 3 rfl).form'
      obtain ⟨lc, lf, ls⟩ := S.cells 0 rfl
      simp only [vtCs] at lc
      go_wp2_with ((with_reducible refine wp_setA (k := 0) (u := .agg (vtA V' (.slice A1 n1 c1) (.slice A2 n2 c2) (.slice A3 n3 c3))) (vtA V' (.slice A1 n1 c1) (.slice A2 n2 c2) (.slice A3 n3 c3)) S 4 rfl ?_ ?_ ?_ ?_ ?_ ?_ ?_); go_must (exact rfl); go_must (exact rfl); go_must (kernel_rfl); go_must (kernel_rfl); go_must (exact Nat.le_of_ble_eq_true (by kernel_rfl)); go_must (kernel_rfl))
      intro w6 S6
      clear lc lf ls
      obtain ⟨lc, -, -⟩ := S6.cells 4 rfl
      go_wp2_with fail
      refine bodyPost_ret (v := .agg (vtA V' (.slice A1 n1 c1) (.slice A2 n2 c2) (.slice A3 n3 c3))) (by simp [results, Tryd.results36, go_sem, lc]) rfl ⟨_, _, _, by rw [← HE.out], ?_⟩
      rw [← HE.out]
      exact St.keep (M := [ownI (.slice A1 n1 c1) V'.G.C, ownI (.slice A2 n2 c2) V'.P, ownB (.slice A3 n3 c3) V'.B]) (L := _) S6.drop
end Go.Proofs.YtohjjhoobikioaaDoor
