/-
  copyVt of the program.
-/
import Derived.Test.YtohjjhoobikioaaDoorVtW8
import Derived.Test.YtohjjhoobikioaaDoorDiffS
import Derived.Test.YtohjjhoobikioaaDoorGrp
namespace Go.Proofs.YtohjjhoobikioaaDoor
open Go.RowKit

abbrev zeroV : Array Value := #[.int .i64 0, .int .i64 0, .slice none 0 0, .int .i64 0, .int .i64 0, .bool false, .int .i64 0, .slice none 0 0, .slice none 0 0, .int .i64 0]
abbrev vtA (V : VtS) (vc va vp : Value) : Array Value := #[.int .i64 V.G.W, .int .i64 V.G.H, vc, .int .i64 V.G.X, .int .i64 V.G.Y, .bool V.G.R, .int .i64 V.S, va, vp, .int .i64 V.N]
theorem vt10 {W w : World} {L : List Pc} {b : Nat} {T : TypeId} {V : VtS} {vc va vp : Value} (S : St W w L) (i : Nat) (e : L[i]? = some (YtohjjhoobikioaaDoor.row b T (vtA V vc va vp))) :
    w.cell? ⟨b, 0, none⟩ = some (.int .i64 V.G.W) ∧ w.cell? ⟨b, 1, none⟩ = some (.int .i64 V.G.H) ∧ w.cell? ⟨b, 2, none⟩ = some vc ∧ w.cell? ⟨b, 3, none⟩ = some (.int .i64 V.G.X) ∧ w.cell? ⟨b, 4, none⟩ = some (.int .i64 V.G.Y) ∧ w.cell? ⟨b, 5, none⟩ = some (.bool V.G.R) ∧ w.cell? ⟨b, 6, none⟩ = some (.int .i64 V.S) ∧ w.cell? ⟨b, 7, none⟩ = some va ∧ w.cell? ⟨b, 8, none⟩ = some vp ∧ w.cell? ⟨b, 9, none⟩ = some (.int .i64 V.N) := by
  obtain ⟨lc, -, -⟩ := S.cells i e
  exact ⟨lc 0, lc 1, lc 2, lc 3, lc 4, lc 5, lc 6, lc 7, lc 8, lc 9⟩

theorem row_cast {W w : World} {p0 p1 p2 p3 : Pc} {b : Nat} {T : TypeId} {cs cs' : Array Value} (S : St W w [p0, p1, p2, p3, YtohjjhoobikioaaDoor.row b T cs]) (e : cs = cs') : St W w [p0, p1, p2, p3, YtohjjhoobikioaaDoor.row b T cs'] := e ▸ S
theorem row_set {W w : World} {p0 p1 p2 p3 : Pc} {b : Nat} {T : TypeId} {cs : Array Value} (S : St W w [p0, p1, p2, p3, YtohjjhoobikioaaDoor.row b T cs]) (k : Nat) (u : Value) : St W (w.setCell ⟨b, k, none⟩ u) [p0, p1, p2, p3, YtohjjhoobikioaaDoor.row b T (cs.setIfInBounds k u)] := S.setc 4 rfl k u
theorem ten8 (a0 a1 a2 a3 a4 a5 a6 a7 a8 a9 b0 b1 b2 b3 b4 b5 b7 b8 : Value) : ((((((((#[a0, a1, a2, a3, a4, a5, a6, a7, a8, a9].setIfInBounds 0 b0).setIfInBounds 1 b1).setIfInBounds 2 b2).setIfInBounds 3 b3).setIfInBounds 4 b4).setIfInBounds 5 b5).setIfInBounds 7 b7).setIfInBounds 8 b8) = #[b0, b1, b2, b3, b4, b5, a6, b7, b8, a9] := by
  simp only [List.setIfInBounds_toArray, List.set_cons_zero, List.set_cons_succ]
/-- the fields of a terminal that lead to memory, stored anew one by one -/
theorem vt_store8 {W w : World} {p0 p1 p2 p3 : Pc} {b : Nat} {T : TypeId} {V : VtS} {v1 v2 v3 u1 u2 u3 : Value} (S : St W w [p0, p1, p2, p3, YtohjjhoobikioaaDoor.row b T (vtA V u1 u2 u3)]) :
    St W ((((((((w.setCell ⟨b, 0, none⟩ (.int .i64 V.G.W)).setCell ⟨b, 1, none⟩ (.int .i64 V.G.H)).setCell ⟨b, 2, none⟩ v1).setCell ⟨b, 3, none⟩ (.int .i64 V.G.X)).setCell ⟨b, 4, none⟩ (.int .i64 V.G.Y)).setCell ⟨b, 5, none⟩ (.bool V.G.R)).setCell ⟨b, 7, none⟩ v2).setCell ⟨b, 8, none⟩ v3) [p0, p1, p2, p3, YtohjjhoobikioaaDoor.row b T (vtA V v1 v2 v3)] := by
  have S1 := row_set (row_set (row_set (row_set (row_set (row_set (row_set (row_set S 0 (.int .i64 V.G.W)) 1 (.int .i64 V.G.H)) 2 v1) 3 (.int .i64 V.G.X)) 4 (.int .i64 V.G.Y)) 5 (.bool V.G.R)) 7 v2) 8 v3
  exact row_cast S1 (ten8 _ _ _ _ _ _ _ _ _ _ _ _ _ _ _ _ _ _)
set_option maxRecDepth 100000 in
set_option maxHeartbeats 64000000 in
theorem impl_copyVt (V : VtS) (Ac Aa Ap : Option Addr) (nc cc na ca np cp : Nat) (w : World) (hC : RI w Ac nc cc V.G.C) (hA : RI w Aa na ca V.P) (hP : RB w Ap np cp V.B) (h1 : nc ≤ 8000) (h2 : na ≤ 8000) (h3 : np ≤ 8000) :
    Calls Tryd.prog 82 #[.agg (vtA V (.slice Ac nc cc) (.slice Aa na ca) (.slice Ap np cp))] w fun e w' => ∃ vc va vp, e = .returned (.agg (vtA V vc va vp)) ∧ St w w' [ownI vc V.G.C, ownI va V.P, ownB vp V.B] := by
  have S := ((St.refl w).alloc (vtA V (.slice Ac nc cc) (.slice Aa na ca) (.slice Ap np cp)) 58).alloc zeroV 58
  simp only [World.size_alloc] at S
  have SS := Lib.hid S; clear S
  go_enter Tryd.func82, Tryd.ntmps82
  go_upto_region 1 with fail
  go_cut [] (fun wx => ∃ (A1 A2 A3 : Option Addr) (n1 c1 n2 c2 n3 c3 : Nat), St w wx [ownB (.slice A3 n3 c3) V.B, ownI (.slice A2 n2 c2) V.P, ownI (.slice A1 n1 c1) V.G.C, row (w.heap.size + 1) 58 zeroV, row w.heap.size 58 (vtA V (.slice A1 n1 c1) (.slice A2 n2 c2) (.slice A3 n3 c3))])
  case first =>
    have S0 := SS.out.drew
    obtain ⟨lc, lf, ls⟩ := S0.cells 1 rfl
    have HS0 := Lib.hid S0; clear S0
    go_region_with (first
      | (go_at_call 68; refine (impl_copyGrid V.G Ac nc cc _ (hC.ext HS0.out.ext) h1).mono ?_; rintro e w1 ⟨v1, rfl, own1, x1⟩; obtain ⟨A1, n1, c1, rfl⟩ := own1.form'; (have S1 := HS0.out.newI own1 x1; obtain ⟨lc1, lf1, ls1⟩ := S1.cells 2 rfl; have HS1 := Lib.hid S1; clear S1 own1 x1))
      | (go_at_call 102; refine (impl_copyInts Aa na ca V.P _ (hA.ext HS1.out.ext) (by omega)).mono ?_; rintro e w2 ⟨v2, rfl, own2, x2⟩; obtain ⟨A2, n2, c2, rfl⟩ := own2.form'; have S2 := HS1.out.newI own2 x2; obtain ⟨lc2, lf2, ls2⟩ := S2.cells 3 rfl; have HS2 := Lib.hid S2; clear S2 own2 x2)
      | (go_at_call 120; refine (impl_copyBytes Ap np cp V.B _ (hP.ext HS2.out.ext) (by omega)).mono ?_; rintro e w3 ⟨v3, rfl, own3, x3⟩; obtain ⟨A3, n3, c3, rfl⟩ := own3.form'; have S3 := HS2.out.newB own3 x3; obtain ⟨lc3, lf3, ls3⟩ := S3.cells 4 rfl; have HS3 := Lib.hid S3; clear S3 own3 x3))
    all_goals
      go_wp2_with fail
      go_meet
      exact ⟨A1, A2, A3, n1, c1, n2, c2, n3, c3, vt_store8 HS3.out⟩
  case rest =>
    obtain ⟨A1, A2, A3, n1, c1, n2, c2, n3, c3, S⟩ := hcut
    clear SS
    obtain ⟨lc, lf, ls⟩ := S.cells 4 rfl
    obtain ⟨lc2, lf2, ls2⟩ := S.cells 3 rfl
    go_wp2_with ((with_reducible refine wp_setA (k := 0) (u := .agg (vtA V (.slice A1 n1 c1) (.slice A2 n2 c2) (.slice A3 n3 c3))) (vtA V (.slice A1 n1 c1) (.slice A2 n2 c2) (.slice A3 n3 c3)) S 3 rfl ?_ ?_ ?_ ?_ ?_ ?_ ?_); go_must (exact rfl); go_must (exact rfl); go_must (kernel_rfl); go_must (kernel_rfl); go_must (exact Nat.le_of_ble_eq_true (by kernel_rfl)); go_must (kernel_rfl))
    intro w6 S6
    clear lc lf ls lc2 lf2 ls2 S
    obtain ⟨lc, -, -⟩ := S6.cells 3 rfl
    go_wp2_with fail
    refine bodyPost_ret (v := .agg (vtA V (.slice A1 n1 c1) (.slice A2 n2 c2) (.slice A3 n3 c3))) (by simp [results, Tryd.results82, go_sem, lc]) rfl ⟨_, _, _, rfl, ?_⟩
    exact (St.keep (M := [ownB (.slice A3 n3 c3) V.B, ownI (.slice A2 n2 c2) V.P, ownI (.slice A1 n1 c1) V.G.C]) (L := _) S6).perm (List.reverse_perm [ownI (.slice A1 n1 c1) V.G.C, ownI (.slice A2 n2 c2) V.P, ownB (.slice A3 n3 c3) V.B])
end Go.Proofs.YtohjjhoobikioaaDoor
