/-
  Of several texts: SvP, Sv2, Sv3, Sv4, Sv1, Sv1b, Sv5.
-/
import Derived.Test.YtohjjhoobikioaaDoorVtI
import Derived.Test.YtohjjhoobikioaaDoorVtF
import Derived.Test.YtohjjhoobikioaaDoorGS3
import Derived.Test.YtohjjhoobikioaaDoorFull
import Derived.Deep.CutBlock
import Derived.StillTailTactics
import Derived.Test.YtohjjhoobikioaaDoorVtW1
import Derived.Test.YtohjjhoobikioaaDoorVtW6
/-! The reference's terminal, plainly: what is valid. -/
namespace Go.Proofs.YtohjjhoobikioaaDoor
open Go.RowKit

structure VtV (v : VtS) : Prop where
  i : VtI v
  p : v.P = [] ∨ v.S = 2
  b : v.B = [] ∨ (v.S = 0 ∧ runeBegin v.B = true)
theorem VtV.ok {v : VtS} (h : VtV v) : vtOk v = true := by
  obtain ⟨⟨h1, h2, h3, h4, h5, h6⟩, hp, hb⟩ := h
  simp only [vtOk, Bool.and_eq_true, Bool.or_eq_true, decide_eq_true_eq, inB_iff, argsB, List.all_eq_true]
  exact ⟨⟨⟨⟨⟨⟨h1, h2⟩, h3⟩, hp⟩, h6⟩, h4⟩, hb⟩
theorem VtV.new {g : Gr} (h : gridOk g = true) : VtV ⟨g, 0, [], [], 0⟩ :=
  ⟨⟨h, by simp, by simp, by simp, by simp, by simp⟩, .inl rfl, .inl rfl⟩
theorem begin_of_bytes {l f : List UInt8} {r : Int} (h0 : l ≠ []) (hf : f ≠ []) (h : runeBytes r = l ++ f) : runeBegin l = true := by
  have l1 : 0 < l.length := List.length_pos_iff.2 h0
  have l2 : 0 < f.length := List.length_pos_iff.2 hf
  have hk : runeOk r = true := by
    cases hr : runeOk r
    · have e2 : runeBytes r = [] := by unfold runeBytes; rw [if_pos hr]
      rw [e2] at h
      have := congrArg List.length h
      rw [List.length_append] at this; simp at this; omega
    · rfl
  have p := begin_pre hk (k := l.length) l1 (by rw [h, List.length_append]; omega)
  rw [h, List.take_left' rfl] at p
  exact p
end Go.Proofs.YtohjjhoobikioaaDoor
/-! The reference's terminal: what ends a sequence. -/
namespace Go.Proofs.YtohjjhoobikioaaDoor
open Go.RowKit

def argD (l : List Int) (i : Nat) (d : Int) : Int := if l[i]?.getD 0 = 0 then d else l[i]?.getD 0
theorem argD_in {l : List Int} (hb : ∀ x ∈ l, 0 ≤ x ∧ x ≤ 9999) (i : Nat) {d : Int} (hd : 0 ≤ d ∧ d ≤ 9999) : 0 ≤ argD l i d ∧ argD l i d ≤ 9999 := by
  have := getD_mem hb i
  unfold argD; split <;> omega
set_option maxRecDepth 100000 in
set_option maxHeartbeats 1000000 in
theorem spec_l09Arg (A : Option Addr) (n c : Nat) (l : List Int) (i : Nat) (d : Int) (w : World) (h : RI w A n c l) :
    Calls Tryd.prog 152 #[.slice A n c, .int .i64 i, .int .i64 d] w fun e w' => e = .returned (.int .i64 (argD l i d)) ∧ w' = w := by
  have hcap := h.cap; have hcm := h.cmax
  by_cases hin : i < n
  · obtain ⟨b, o, rfl, hcell⟩ := h.at1 hin
    have e : l.getD i 0 = l[i]?.getD 0 := rfl
    rw [e] at hcell
    have E : Hid (argD l i d = if l[i]?.getD 0 = 0 then d else l[i]?.getD 0) := rfl
    obtain ⟨x, hx2⟩ : ∃ x, x = l[i]?.getD 0 := ⟨_, rfl⟩
    rw [← hx2] at hcell E
    clear hx2 h e
    by_cases h0 : x = 0
    · subst h0
      go_enter Tryd.func152, Tryd.ntmps152
      go_wp2_with fail
      go_ret
      exact ⟨ret_i (by rw [E.out]; rfl), rfl⟩
    · have hb0 : (x == 0) = false := by simpa using h0
      have H0 := Lib.hid h0; clear h0
      go_enter Tryd.func152, Tryd.ntmps152
      go_wp2_with fail
      go_ret
      exact ⟨ret_i (by rw [E.out, if_neg H0.out]), rfl⟩
  · have E : Hid (argD l i d = d) := by show _ = _; unfold argD; rw [List.getElem?_eq_none (by rw [h.len]; omega)]; rfl
    clear h
    go_enter Tryd.func152, Tryd.ntmps152
    go_wp2_with fail
    go_ret
    exact ⟨ret_i E.out.symm, rfl⟩

abbrev gA (g : Gr) (v : Value) : Array Value := #[.int .i64 g.W, .int .i64 g.H, v, .int .i64 g.X, .int .i64 g.Y, .bool g.R]
set_option maxRecDepth 100000 in
set_option maxHeartbeats 4000000 in
theorem spec_l09Erase (g : Gr) (A : Option Addr) (n c : Nat) (a t b x : Int) (W w : World) (L : List Pc) (S : St W w (ownI (.slice A n c) g.C :: L)) (hg : gridOk g = true) (ht0 : 0 ≤ t) (ht1 : t ≤ 1000000) :
    Calls Tryd.prog 153 #[.agg (gA g (.slice A n c)), .int .i64 a, .int .i64 t, .int .i64 b, .int .i64 x] w fun e w' => ∃ (G : Gr) (A' : Option Addr) (n' c' : Nat), e = .returned (.agg (gA G (.slice A' n' c'))) ∧ gridOk G = true ∧ St W w' (ownI (.slice A' n' c') G.C :: L) := by
  have S0 := (S.alloc (gA g (.slice A n c)) 40).alloc zeroG 40
  rw [World.size_alloc] at S0
  have Hg := Lib.hid hg
  clear S hg
  obtain ⟨lc, lf, ls⟩ := S0.cells 1 rfl
  have SS := Lib.hid S0; clear S0
  by_cases h0 : x = 0
  · subst h0
    go_enter Tryd.func153, Tryd.ntmps153
    go_wp2_with fail
    refine Calls.mono (spec_GridClear g A n c t b _ ((SS.out.ownI 2 rfl).ri) Hg.out) ?_; rintro e w1 ⟨v1, rfl, own1, x1⟩
    obtain ⟨A1, n1, c1, rfl⟩ := own1.form'
    have S1 := SS.out.newI own1 x1
    clear lc lf ls own1 x1 SS
    go_wp2_with ((with_reducible refine wp_setA (k := 0) (u := .agg (gA (clearG g t b) (.slice A1 n1 c1))) (gA (clearG g t b) (.slice A1 n1 c1)) S1 1 rfl ?_ ?_ ?_ ?_ ?_ ?_ ?_); go_must (exact rfl); go_must (exact rfl); go_must (kernel_rfl); go_must (kernel_rfl); go_must (exact Nat.le_of_ble_eq_true (by kernel_rfl)); go_must (kernel_rfl))
    intro w2 S2
    obtain ⟨lc2, -, -⟩ := S2.cells 1 rfl
    go_wp2_with fail
    exact bodyPost_ret (v := .agg (gA (clearG g t b) (.slice A1 n1 c1))) (by simp [results, Tryd.results153, go_sem, lc2]) rfl ⟨clearG g t b, A1, n1, c1, rfl, clearG_ok Hg.out t b, (((S2.bring 3 rfl).drop.bring 2 rfl).drop.swap).drop⟩
  by_cases h1 : x = 1
  · subst h1
    go_enter Tryd.func153, Tryd.ntmps153
    go_wp2_with fail
    refine Calls.mono (spec_GridClear g A n c a (t + 1) _ ((SS.out.ownI 2 rfl).ri) Hg.out) ?_; rintro e w1 ⟨v1, rfl, own1, x1⟩
    obtain ⟨A1, n1, c1, rfl⟩ := own1.form'
    have S1 := SS.out.newI own1 x1
    clear lc lf ls own1 x1 SS
    go_wp2_with ((with_reducible refine wp_setA (k := 0) (u := .agg (gA (clearG g a (t + 1)) (.slice A1 n1 c1))) (gA (clearG g a (t + 1)) (.slice A1 n1 c1)) S1 1 rfl ?_ ?_ ?_ ?_ ?_ ?_ ?_); go_must (exact rfl); go_must (exact rfl); go_must (kernel_rfl); go_must (kernel_rfl); go_must (exact Nat.le_of_ble_eq_true (by kernel_rfl)); go_must (kernel_rfl))
    intro w2 S2
    obtain ⟨lc2, -, -⟩ := S2.cells 1 rfl
    go_wp2_with fail
    exact bodyPost_ret (v := .agg (gA (clearG g a (t + 1)) (.slice A1 n1 c1))) (by simp [results, Tryd.results153, go_sem, lc2]) rfl ⟨clearG g a (t + 1), A1, n1, c1, rfl, clearG_ok Hg.out a (t + 1), (((S2.bring 3 rfl).drop.bring 2 rfl).drop.swap).drop⟩
  by_cases h2 : x = 2
  · subst h2
    go_enter Tryd.func153, Tryd.ntmps153
    go_wp2_with fail
    refine Calls.mono (spec_GridClear g A n c a b _ ((SS.out.ownI 2 rfl).ri) Hg.out) ?_; rintro e w1 ⟨v1, rfl, own1, x1⟩
    obtain ⟨A1, n1, c1, rfl⟩ := own1.form'
    have S1 := SS.out.newI own1 x1
    clear lc lf ls own1 x1 SS
    go_wp2_with ((with_reducible refine wp_setA (k := 0) (u := .agg (gA (clearG g a b) (.slice A1 n1 c1))) (gA (clearG g a b) (.slice A1 n1 c1)) S1 1 rfl ?_ ?_ ?_ ?_ ?_ ?_ ?_); go_must (exact rfl); go_must (exact rfl); go_must (kernel_rfl); go_must (kernel_rfl); go_must (exact Nat.le_of_ble_eq_true (by kernel_rfl)); go_must (kernel_rfl))
    intro w2 S2
    obtain ⟨lc2, -, -⟩ := S2.cells 1 rfl
    go_wp2_with fail
    exact bodyPost_ret (v := .agg (gA (clearG g a b) (.slice A1 n1 c1))) (by simp [results, Tryd.results153, go_sem, lc2]) rfl ⟨clearG g a b, A1, n1, c1, rfl, clearG_ok Hg.out a b, (((S2.bring 3 rfl).drop.bring 2 rfl).drop.swap).drop⟩
  · have b0 : (x == 0) = false := by simpa using h0
    have b1 : (x == 1) = false := by simpa using h1
    have b2 : (x == 2) = false := by simpa using h2
    clear h0 h1 h2
    go_enter Tryd.func153, Tryd.ntmps153
    go_wp2_with ((with_reducible refine wp_setA (k := 0) (u := .agg (gA g (.slice A n c))) (gA g (.slice A n c)) SS.out 0 rfl ?_ ?_ ?_ ?_ ?_ ?_ ?_); go_must (exact rfl); go_must (exact rfl); go_must (kernel_rfl); go_must (kernel_rfl); go_must (exact Nat.le_of_ble_eq_true (by kernel_rfl)); go_must (kernel_rfl))
    intro w2 S2
    obtain ⟨lc2, -, -⟩ := S2.cells 0 rfl
    go_wp2_with fail
    exact bodyPost_ret (v := .agg (gA g (.slice A n c))) (by simp [results, Tryd.results153, go_sem, lc2]) rfl ⟨g, A, n, c, rfl, Hg.out, S2.drop.drop⟩

end Go.Proofs.YtohjjhoobikioaaDoor
/-! The reference's terminal: the end of a sequence. -/
namespace Go.Proofs.YtohjjhoobikioaaDoor
open Go.RowKit

abbrev zeroVt : Array Value := #[.int .i64 0, .int .i64 0, .slice none 0 0, .int .i64 0, .int .i64 0, .bool false, .int .i64 0, .slice none 0 0, .slice none 0 0, .int .i64 0]
abbrev vA (V : VtS) (vc va vp : Value) : Array Value := #[.int .i64 V.G.W, .int .i64 V.G.H, vc, .int .i64 V.G.X, .int .i64 V.G.Y, .bool V.G.R, .int .i64 V.S, va, vp, .int .i64 V.N]
/-- the slices of a terminal, the call's own -/
abbrev vo (vc va vp : Value) (V : VtS) (L : List Pc) : List Pc := ownI vc V.G.C :: ownI va V.P :: ownB vp V.B :: L
/-- what a function of the reference's terminal answers: a valid terminal, its slices the call's own -/
def VtAns (W : World) (L : List Pc) (e : Ending) (w' : World) : Prop :=
  ∃ (V : VtS) (A1 A2 A3 : Option Addr) (n1 c1 n2 c2 n3 c3 : Nat), e = .returned (.agg (vA V (.slice A1 n1 c1) (.slice A2 n2 c2) (.slice A3 n3 c3))) ∧ VtV V ∧ St W w' (vo (.slice A1 n1 c1) (.slice A2 n2 c2) (.slice A3 n3 c3) V L)

/-- a drawn region of which all but the tail leaves the world alone -/
theorem region_tail {P : Program} {id : Nat} {Q : Exit → Act → World → Prop} {a : Act} {w : World} {l : List Oper} (n : Nat) (hm : P.follows .mixedOrders = true) (hB : Region.lexTailB .any l.toArray n = true)
    (h : wpStill P l.toArray w.drew (fun a' => wpList P l.toArray Q (l.drop n) a' w.drew) (l.take n) a) : (Code.region id l.toArray true).wp P Q a w := wp_region_still_tail n hm hB h
/-- the grid of a terminal taken anew -/
theorem vt_newG {W w : World} {L : List Pc} {p0 p1 p2 p3 p4 : Pc} (S : St W w (p0 :: p1 :: p2 :: p3 :: p4 :: L)) : St W w (p0 :: p1 :: p2 :: p3 :: L) := by
  have h := (S.bring 4 rfl).drop
  exact h
set_option maxRecDepth 100000 in
set_option maxHeartbeats 8000000 in
theorem spec_l09Act (V : VtS) (A1 A2 A3 : Option Addr) (n1 c1 n2 c2 n3 c3 : Nat) (b : Nat) (W w : World) (L : List Pc) (S : St W w (vo (.slice A1 n1 c1) (.slice A2 n2 c2) (.slice A3 n3 c3) V L)) (hV : VtV V) (hS : V.S = 2) (hb : b ≤ 255) :
    Calls Tryd.prog 147 #[.agg (vA V (.slice A1 n1 c1) (.slice A2 n2 c2) (.slice A3 n3 c3)), .int .i64 b] w (VtAns W L) := by
  have S0 := ((S.alloc (vA V (.slice A1 n1 c1) (.slice A2 n2 c2) (.slice A3 n3 c3)) 58).alloc zeroVt 58).alloc (gA V.G (.slice A1 n1 c1)) 40
  simp only [World.size_alloc] at S0
  clear S
  have SS := Lib.hid S0; clear S0
  have hB : V.B = [] := by
    rcases hV.b with h | h
    · exact h
    · omega
  have HB := Lib.hid hB; have HV := Lib.hid hV
  obtain ⟨d1, d2, d3, d4, d5, d6⟩ := gridOk_d hV.i.g
  obtain ⟨q1, q2, q3, q4, -⟩ := gridOk_c hV.i.g
  have ey0 : 0 ≤ V.G.Y * V.G.W := Int.mul_nonneg q3 (by omega)
  have ey1 : V.G.Y * V.G.W ≤ 40000 := by
    have h1 : V.G.Y * V.G.W ≤ 200 * V.G.W := Int.mul_le_mul_of_nonneg_right (by omega) (by omega)
    omega
  have e3 : IntKind.i64.wrap (V.G.Y * V.G.W) = V.G.Y * V.G.W := IntWalk.i64_in _ (by omega)
  have e4 : IntKind.i64.wrap (V.G.Y * V.G.W + V.G.X) = V.G.Y * V.G.W + V.G.X := IntWalk.i64_in _ (by omega)
  clear d5 d6 hV hB hS
  have hat0 : 0 ≤ V.G.Y * V.G.W + V.G.X := by omega
  have hat1 : V.G.Y * V.G.W + V.G.X ≤ 1000000 := by omega
  go_enter Tryd.func147, Tryd.ntmps147
  go_wp2_with fail
  refine Calls.mono (spec_l09Arg _ _ _ _ 0 1 _ ((SS.out.ownI 4 rfl).ri)) ?_; rintro e w1 ⟨rfl, rfl⟩
  have hx := argD_in HV.out.i.p2 0 (d := 1) (by omega)
  have hy := argD_in HV.out.i.p2 1 (d := 1) (by omega)
  obtain ⟨hx0, hx1⟩ := hx
  obtain ⟨hy0, hy1⟩ := hy
  generalize argD V.P 0 1 = x at *
  obtain ⟨lc, lf, ls⟩ := SS.out.cells 0 rfl
  go_upto_block 0 with fail
  go_cut [] (fun wx => ∃ (G : Gr) (A : Option Addr) (n c : Nat), Hid (gridOk G = true) ∧ St W wx (ownI (.slice A n c) G.C :: row (w.heap.size + 1 + 1) 40 (gA V.G (.slice A1 n1 c1)) :: row (w.heap.size + 1) 58 zeroVt :: row w.heap.size 58 (vA { V with G := G } (.slice A n c) (.slice A2 n2 c2) (.slice A3 n3 c3)) :: ownI (.slice A2 n2 c2) V.P :: ownB (.slice A3 n3 c3) V.B :: L))
  case first =>
    by_cases h65 : b = 65
    · subst h65
      have ew : IntKind.i64.wrap (V.G.Y - x) = V.G.Y - x := IntWalk.i64_in _ (by omega)
      go_wp2_with fail
      refine Calls.mono (spec_GridGo V.G _ _ _ V.G.X (V.G.Y - x) _ ((SS.out.ownI 3 rfl).ri) HV.out.i.g) ?_; rintro e w2 ⟨v, rfl, own, x2⟩
      obtain ⟨A, n, c, rfl⟩ := own.form'
      have S2 := SS.out.newI own x2
      clear lc lf ls own x2
      go_wp2_with ((with_reducible refine wp_setA (k := 0) (u := .agg (gA (goG V.G V.G.X (V.G.Y - x)) (.slice A n c))) (vA { V with G := goG V.G V.G.X (V.G.Y - x) } (.slice A n c) (.slice A2 n2 c2) (.slice A3 n3 c3)) S2 3 rfl ?_ ?_ ?_ ?_ ?_ ?_ ?_); go_must (exact rfl); go_must (exact rfl); go_must (kernel_rfl); go_must (kernel_rfl); go_must (exact Nat.le_of_ble_eq_true (by kernel_rfl)); go_must (kernel_rfl))
      intro w3 S3
      go_wp2_with fail
      go_meet
      exact ⟨goG V.G V.G.X (V.G.Y - x), A, n, c, goG_ok HV.out.i.g _ _, vt_newG S3⟩
    by_cases h66 : b = 66
    · subst h66
      have ew : IntKind.i64.wrap (V.G.Y + x) = V.G.Y + x := IntWalk.i64_in _ (by omega)
      go_wp2_with fail
      refine Calls.mono (spec_GridGo V.G _ _ _ V.G.X (V.G.Y + x) _ ((SS.out.ownI 3 rfl).ri) HV.out.i.g) ?_; rintro e w2 ⟨v, rfl, own, x2⟩
      obtain ⟨A, n, c, rfl⟩ := own.form'
      have S2 := SS.out.newI own x2
      clear lc lf ls own x2
      go_wp2_with ((with_reducible refine wp_setA (k := 0) (u := .agg (gA (goG V.G V.G.X (V.G.Y + x)) (.slice A n c))) (vA { V with G := goG V.G V.G.X (V.G.Y + x) } (.slice A n c) (.slice A2 n2 c2) (.slice A3 n3 c3)) S2 3 rfl ?_ ?_ ?_ ?_ ?_ ?_ ?_); go_must (exact rfl); go_must (exact rfl); go_must (kernel_rfl); go_must (kernel_rfl); go_must (exact Nat.le_of_ble_eq_true (by kernel_rfl)); go_must (kernel_rfl))
      intro w3 S3
      go_wp2_with fail
      go_meet
      exact ⟨goG V.G V.G.X (V.G.Y + x), A, n, c, goG_ok HV.out.i.g _ _, vt_newG S3⟩
    by_cases h67 : b = 67
    · subst h67
      have ew : IntKind.i64.wrap (V.G.X + x) = V.G.X + x := IntWalk.i64_in _ (by omega)
      go_wp2_with fail
      refine Calls.mono (spec_GridGo V.G _ _ _ (V.G.X + x) V.G.Y _ ((SS.out.ownI 3 rfl).ri) HV.out.i.g) ?_; rintro e w2 ⟨v, rfl, own, x2⟩
      obtain ⟨A, n, c, rfl⟩ := own.form'
      have S2 := SS.out.newI own x2
      clear lc lf ls own x2
      go_wp2_with ((with_reducible refine wp_setA (k := 0) (u := .agg (gA (goG V.G (V.G.X + x) V.G.Y) (.slice A n c))) (vA { V with G := goG V.G (V.G.X + x) V.G.Y } (.slice A n c) (.slice A2 n2 c2) (.slice A3 n3 c3)) S2 3 rfl ?_ ?_ ?_ ?_ ?_ ?_ ?_); go_must (exact rfl); go_must (exact rfl); go_must (kernel_rfl); go_must (kernel_rfl); go_must (exact Nat.le_of_ble_eq_true (by kernel_rfl)); go_must (kernel_rfl))
      intro w3 S3
      go_wp2_with fail
      go_meet
      exact ⟨goG V.G (V.G.X + x) V.G.Y, A, n, c, goG_ok HV.out.i.g _ _, vt_newG S3⟩
    by_cases h68 : b = 68
    · subst h68
      have ew : IntKind.i64.wrap (V.G.X - x) = V.G.X - x := IntWalk.i64_in _ (by omega)
      go_wp2_with fail
      refine Calls.mono (spec_GridGo V.G _ _ _ (V.G.X - x) V.G.Y _ ((SS.out.ownI 3 rfl).ri) HV.out.i.g) ?_; rintro e w2 ⟨v, rfl, own, x2⟩
      obtain ⟨A, n, c, rfl⟩ := own.form'
      have S2 := SS.out.newI own x2
      clear lc lf ls own x2
      go_wp2_with ((with_reducible refine wp_setA (k := 0) (u := .agg (gA (goG V.G (V.G.X - x) V.G.Y) (.slice A n c))) (vA { V with G := goG V.G (V.G.X - x) V.G.Y } (.slice A n c) (.slice A2 n2 c2) (.slice A3 n3 c3)) S2 3 rfl ?_ ?_ ?_ ?_ ?_ ?_ ?_); go_must (exact rfl); go_must (exact rfl); go_must (kernel_rfl); go_must (kernel_rfl); go_must (exact Nat.le_of_ble_eq_true (by kernel_rfl)); go_must (kernel_rfl))
      intro w3 S3
      go_wp2_with fail
      go_meet
      exact ⟨goG V.G (V.G.X - x) V.G.Y, A, n, c, goG_ok HV.out.i.g _ _, vt_newG S3⟩
    by_cases h72 : b = 72
    · subst h72
      have ew : IntKind.i64.wrap (x - 1) = x - 1 := IntWalk.i64_in _ (by omega)
      have SD := SS.out.drew
      generalize ((w.alloc (.cells (vA V (.slice A1 n1 c1) (.slice A2 n2 c2) (.slice A3 n3 c3)) 58)).alloc (.cells zeroVt 58)).alloc (.cells (gA V.G (.slice A1 n1 c1)) 40) = wA at SS SD lc lf ls ⊢
      obtain ⟨kc, kf, ks⟩ := SS.out.cells 2 rfl
      go_wp2_with fail
      clear lc lf ls kc kf ks
      refine region_tail 7 (by kernel_rfl) (by kernel_rfl) ?_
      simp only [List.take_succ_cons, List.take_zero, List.drop_succ_cons, List.drop_zero]
      generalize wA.drew = wD at SD ⊢
      have K1 := spec_l09Arg _ _ _ _ 1 1 _ ((SD.ownI 4 rfl).ri)
      generalize argD V.P 1 1 = y at *
      have ew2 : IntKind.i64.wrap (y - 1) = y - 1 := IntWalk.i64_in _ (by omega)
      obtain ⟨lc, lf, ls⟩ := SD.cells 0 rfl
      obtain ⟨kc, kf, ks⟩ := SD.cells 2 rfl
      have HSD := Lib.hid SD; clear SD
      repeat still_step
      still_call K1
      repeat still_step
      refine wpStill_nil ?_
      go_wp2_with fail
      refine Calls.mono (spec_GridGo V.G _ _ _ (y - 1) (x - 1) _ ((HSD.out.ownI 3 rfl).ri) HV.out.i.g) ?_; rintro e w2 ⟨v, rfl, own, x2⟩
      obtain ⟨A, n, c, rfl⟩ := own.form'
      have S2 := HSD.out.newI own x2
      clear lc lf ls kc kf ks own x2 HSD
      go_wp2_with ((with_reducible refine wp_setA (k := 0) (u := .agg (gA (goG V.G (y - 1) (x - 1)) (.slice A n c))) (vA { V with G := goG V.G (y - 1) (x - 1) } (.slice A n c) (.slice A2 n2 c2) (.slice A3 n3 c3)) S2 3 rfl ?_ ?_ ?_ ?_ ?_ ?_ ?_); go_must (exact rfl); go_must (exact rfl); go_must (kernel_rfl); go_must (kernel_rfl); go_must (exact Nat.le_of_ble_eq_true (by kernel_rfl)); go_must (kernel_rfl))
      intro w3 S3
      go_wp2_with fail
      go_meet
      exact ⟨goG V.G (y - 1) (x - 1), A, n, c, goG_ok HV.out.i.g _ _, vt_newG S3⟩
    by_cases h74 : b = 74
    · subst h74
      have SD := SS.out.drew
      generalize ((w.alloc (.cells (vA V (.slice A1 n1 c1) (.slice A2 n2 c2) (.slice A3 n3 c3)) 58)).alloc (.cells zeroVt 58)).alloc (.cells (gA V.G (.slice A1 n1 c1)) 40) = wA at SS SD lc lf ls ⊢
      obtain ⟨kc, kf, ks⟩ := SS.out.cells 2 rfl
      go_wp2_with fail
      clear lc lf ls kc kf ks
      refine region_tail 8 (by kernel_rfl) (by kernel_rfl) ?_
      simp only [List.take_succ_cons, List.take_zero, List.drop_succ_cons, List.drop_zero]
      generalize wA.drew = wD at SD ⊢
      have K1 := spec_l09Arg _ _ _ _ 0 0 _ ((SD.ownI 4 rfl).ri)
      generalize argD V.P 0 0 = y at *
      obtain ⟨lc, lf, ls⟩ := SD.cells 0 rfl
      obtain ⟨kc, kf, ks⟩ := SD.cells 2 rfl
      have HSD := Lib.hid SD; clear SD
      repeat still_step
      still_call K1
      repeat still_step
      refine wpStill_nil ?_
      go_wp2_with fail
      refine Calls.mono (spec_l09Erase V.G A1 n1 c1 _ _ _ y _ _ _ (HSD.out.bring 3 rfl) HV.out.i.g hat0 hat1) ?_; rintro e w2 ⟨G, A, n, c, rfl, hG, S2⟩
      have HG := Lib.hid hG
      clear lc lf ls kc kf ks HSD hG
      go_wp2_with ((with_reducible refine wp_setA (k := 0) (u := .agg (gA (G) (.slice A n c))) (vA { V with G := G } (.slice A n c) (.slice A2 n2 c2) (.slice A3 n3 c3)) S2 3 rfl ?_ ?_ ?_ ?_ ?_ ?_ ?_); go_must (exact rfl); go_must (exact rfl); go_must (kernel_rfl); go_must (kernel_rfl); go_must (exact Nat.le_of_ble_eq_true (by kernel_rfl)); go_must (kernel_rfl))
      intro w3 S3
      go_wp2_with fail
      go_meet
      exact ⟨G, A, n, c, HG.out, S3⟩
    by_cases h75 : b = 75
    · subst h75
      have ew : IntKind.i64.wrap (V.G.Y * V.G.W + V.G.W) = V.G.Y * V.G.W + V.G.W := IntWalk.i64_in _ (by omega)
      have SD := SS.out.drew
      generalize ((w.alloc (.cells (vA V (.slice A1 n1 c1) (.slice A2 n2 c2) (.slice A3 n3 c3)) 58)).alloc (.cells zeroVt 58)).alloc (.cells (gA V.G (.slice A1 n1 c1)) 40) = wA at SS SD lc lf ls ⊢
      obtain ⟨kc, kf, ks⟩ := SS.out.cells 2 rfl
      go_wp2_with fail
      clear lc lf ls kc kf ks
      refine region_tail 18 (by kernel_rfl) (by kernel_rfl) ?_
      simp only [List.take_succ_cons, List.take_zero, List.drop_succ_cons, List.drop_zero]
      generalize wA.drew = wD at SD ⊢
      have K1 := spec_l09Arg _ _ _ _ 0 0 _ ((SD.ownI 4 rfl).ri)
      generalize argD V.P 0 0 = y at *
      obtain ⟨lc, lf, ls⟩ := SD.cells 0 rfl
      obtain ⟨kc, kf, ks⟩ := SD.cells 2 rfl
      have HSD := Lib.hid SD; clear SD
      repeat still_step
      still_call K1
      repeat still_step
      refine wpStill_nil ?_
      go_wp2_with fail
      refine Calls.mono (spec_l09Erase V.G A1 n1 c1 _ _ _ y _ _ _ (HSD.out.bring 3 rfl) HV.out.i.g hat0 hat1) ?_; rintro e w2 ⟨G, A, n, c, rfl, hG, S2⟩
      have HG := Lib.hid hG
      clear lc lf ls kc kf ks HSD hG
      go_wp2_with ((with_reducible refine wp_setA (k := 0) (u := .agg (gA (G) (.slice A n c))) (vA { V with G := G } (.slice A n c) (.slice A2 n2 c2) (.slice A3 n3 c3)) S2 3 rfl ?_ ?_ ?_ ?_ ?_ ?_ ?_); go_must (exact rfl); go_must (exact rfl); go_must (kernel_rfl); go_must (kernel_rfl); go_must (exact Nat.le_of_ble_eq_true (by kernel_rfl)); go_must (kernel_rfl))
      intro w3 S3
      go_wp2_with fail
      go_meet
      exact ⟨G, A, n, c, HG.out, S3⟩
    · have b65 : ((b : Int) == 65) = false := by simp; omega
      have b66 : ((b : Int) == 66) = false := by simp; omega
      have b67 : ((b : Int) == 67) = false := by simp; omega
      have b68 : ((b : Int) == 68) = false := by simp; omega
      have b72 : ((b : Int) == 72) = false := by simp; omega
      have b74 : ((b : Int) == 74) = false := by simp; omega
      have b75 : ((b : Int) == 75) = false := by simp; omega
      clear h65 h66 h67 h68 h72 h74 h75
      go_wp2_with fail
      go_meet
      exact ⟨V.G, A1, n1, c1, HV.out.i.g, SS.out.bring 3 rfl⟩
  case rest =>
    clear lc lf ls SS
    obtain ⟨G, A, n, c, HG, S⟩ := hcut
    obtain ⟨lc, lf, ls⟩ := S.cells 3 rfl
    have S5 := (S.setc 3 rfl 6 (.int .i64 0)).setc 3 rfl 7 (.slice none 0 0)
    clear S
    go_wp2_with ((with_reducible refine wp_setA (k := 0) (u := .agg (vA { V with G := G, S := 0, P := [] } (.slice A n c) (.slice none 0 0) (.slice A3 n3 c3))) (vA { V with G := G, S := 0, P := [] } (.slice A n c) (.slice none 0 0) (.slice A3 n3 c3)) S5 2 rfl ?_ ?_ ?_ ?_ ?_ ?_ ?_); go_must (exact rfl); go_must (exact rfl); go_must (kernel_rfl); go_must (kernel_rfl); go_must (exact Nat.le_of_ble_eq_true (by kernel_rfl)); go_must (kernel_rfl))
    intro w6 S6
    clear lc lf ls S5
    obtain ⟨lc6, -, -⟩ := S6.cells 2 rfl
    go_wp2_with fail
    refine bodyPost_ret (v := .agg (vA { V with G := G, S := 0, P := [] } (.slice A n c) (.slice none 0 0) (.slice A3 n3 c3))) (by simp [results, Tryd.results147, go_sem, lc6]) rfl ⟨{ V with G := G, S := 0, P := [] }, A, none, A3, n, c, 0, 0, n3, c3, rfl, ?_, ?_⟩
    · obtain ⟨⟨h1, h2, h3, h4, h5, h6⟩, -, -⟩ := HV.out
      exact ⟨⟨HG.out, by simp, by simp, by simp, h5, h6⟩, .inl rfl, .inl HB.out⟩
    · exact ((((((((S6.bring 1 rfl).drop).bring 1 rfl).drop).bring 1 rfl).drop).bring 1 rfl).drop).nilI.swap
end Go.Proofs.YtohjjhoobikioaaDoor
/-! The reference's terminal: a byte of a sequence. -/
namespace Go.Proofs.YtohjjhoobikioaaDoor
open Go.RowKit

/-- a terminal that takes arguments -/
theorem vt_argsV {V : VtS} {P : List Int} (hV : VtV V) (hS : V.S = 2) (h1 : P.length ≤ 4) (h2 : ∀ x ∈ P, 0 ≤ x ∧ x ≤ 9999) : VtV { V with P := P } := by
  obtain ⟨⟨a1, a2, a3, a4, a5, a6⟩, b1, b2⟩ := hV
  exact ⟨⟨a1, a2, h1, h2, a5, a6⟩, .inr hS, b2⟩
theorem p4 {W w : World} {L : List Pc} {p0 p1 p2 p3 p4 p5 : Pc} (S : St W w (p0 :: p1 :: p2 :: p3 :: p4 :: p5 :: L)) : St W w (p3 :: p0 :: p5 :: L) := by
  have h := ((((S.bring 1 rfl).drop).bring 1 rfl).drop.bring 2 rfl).drop
  have h2 : St W w (p0 :: p3 :: p5 :: L) := h
  exact h2.swap
set_option maxRecDepth 100000 in
set_option maxHeartbeats 8000000 in
theorem spec_l09Csi (V : VtS) (A1 A2 A3 : Option Addr) (n1 c1 n2 c2 n3 c3 : Nat) (b : Nat) (W w : World) (L : List Pc) (S : St W w (vo (.slice A1 n1 c1) (.slice A2 n2 c2) (.slice A3 n3 c3) V L)) (hV : VtV V) (hS : V.S = 2) (hb : b ≤ 255) :
    Calls Tryd.prog 144 #[.agg (vA V (.slice A1 n1 c1) (.slice A2 n2 c2) (.slice A3 n3 c3)), .int .i64 b] w (VtAns W L) := by
  have S0 := ((S.alloc (vA V (.slice A1 n1 c1) (.slice A2 n2 c2) (.slice A3 n3 c3)) 58).alloc zeroVt 58)
  simp only [World.size_alloc] at S0
  clear S
  have HV := Lib.hid hV; have HS := Lib.hid hS
  have hp4 := hV.i.p
  have hp2 := hV.i.p2
  clear hV hS
  have ra := (S0.ownI 3 rfl).ri
  have hn2 := ra.len
  have S2 := S0.newI (OwnI.emptyAt (b := w.heap.size + 1 + 1) (by simp) (Nat.le_refl _)) ((Ext.refl _).alloc (.cells #[] 3))
  have ra := ra.ext ((Ext.refl _).alloc (.cells #[] 3))
  have HRA := Lib.hid ra; have HN2 := Lib.hid hn2
  obtain ⟨lc, lf, ls⟩ := S0.cells 1 rfl
  clear S0 ra hn2
  have hp2' := Lib.hid hp2; clear hp2
  rw [show V.P.length = n2 from HN2.out] at hp4
  have SS := Lib.hid S2; clear S2
  by_cases hd : 48 ≤ b ∧ b ≤ 57
  · obtain ⟨hd1, hd2⟩ := hd
    go_enter Tryd.func144, Tryd.ntmps144
    go_wp2_with (at_builtin; go_must (refine wp_addI rfl _ _ rfl SS.out 0 rfl rfl rfl HRA.out ?_ ?_); go_must (simp; omega))
    intro v1 w1 S3
    have S3 : St W w1 (ownI v1 V.P :: row (w.heap.size + 1) 58 zeroVt :: row w.heap.size 58 (vA V (.slice A1 n1 c1) (.slice A2 n2 c2) (.slice A3 n3 c3)) :: vo (.slice A1 n1 c1) (.slice A2 n2 c2) (.slice A3 n3 c3) V L) := S3
    clear lc lf ls SS
    obtain ⟨A5, c5, rfl, -⟩ := (S3.ownI 0 rfl).form
    have hl := HN2.out
    obtain ⟨k2, hk2⟩ : ∃ k2, k2 = V.P.length := ⟨_, rfl⟩
    rw [← hk2] at S3 hl ⊢
    subst hl
    have HK := Lib.hid hk2; clear hk2
    have SS3 := Lib.hid S3; clear S3
    go_upto_if 19 with fail
    go_cut [5] (fun v5 wx => ∃ (P : List Int) (q m c : Nat), v5 = .slice (some ⟨q, 0, none⟩) (m + 1) c ∧ m + 1 ≤ 4 ∧ Hid (P.length = m + 1) ∧ Hid (∀ x ∈ P, 0 ≤ x ∧ x ≤ 9999) ∧ St W wx (ownI (.slice (some ⟨q, 0, none⟩) (m + 1) c) P :: row (w.heap.size + 1) 58 zeroVt :: row w.heap.size 58 (vA V (.slice A1 n1 c1) (.slice A2 k2 c2) (.slice A3 n3 c3)) :: vo (.slice A1 n1 c1) (.slice A2 k2 c2) (.slice A3 n3 c3) V L))
    case first =>
      by_cases h0 : k2 = 0
      · subst h0
        have hP : V.P = [] := List.length_eq_zero_iff.1 HK.out.symm
        have HP := Lib.hid hP; clear hP
        go_wp2_with (at_builtin; go_must (refine wp_addI rfl _ _ rfl (SS3.out.skip _) 0 rfl rfl rfl (RI.new _ [0] (by simp)) ?_ ?_); go_must (rw [HP.out]; simp))
        intro v4 w4 S4
        rw [show V.P ++ [0] = [0] by rw [HP.out]; rfl] at S4
        clear SS3
        rcases (S4.ownI 0 rfl).shape with ⟨-, h9⟩ | ⟨q, c', rfl, -, -, -, -⟩
        · simp at h9
        go_wp2_with fail
        go_meet
        exact ⟨[0], q, 0, c', rfl, by omega, rfl, (by show ∀ x ∈ [0], _; intro x hx; simp at hx; omega), S4⟩
      · rcases (SS3.out.ownI 0 rfl).shape with ⟨-, h9⟩ | ⟨q, c', e, -, -, -, -⟩
        · rw [h9] at HK; exact absurd HK.out h0
        injection e with e1 e2 e3; subst e1; subst e3
        clear e2
        obtain ⟨m, rfl⟩ : ∃ m, k2 = m + 1 := ⟨k2 - 1, by omega⟩
        have hm : m + 1 ≤ 4 := hp4
        go_wp2_with fail
        go_meet
        exact ⟨V.P, q, m, c5, rfl, hm, HK.out.symm, hp2'.out, SS3.out⟩
    case rest =>
      clear SS3 HK HRA HN2 hp2'
      obtain ⟨P, q, m, c5, rfl, hm, HPl, HP2, S⟩ := hcut
      have hx := getD_mem HP2.out m
      have hcell := (S.ownI 0 rfl).cell (k := m) (by rw [HPl.out]; omega)
      have hfro := (S.ownI 0 rfl).frozen m
      obtain ⟨x, hx2⟩ : ∃ x, x = P[m]?.getD 0 := ⟨_, rfl⟩
      rw [← hx2] at hx hcell
      clear hx2
      obtain ⟨lc, lf, ls⟩ := S.cells 2 rfl
      have HS5 := Lib.hid S; clear S
      have key : ∀ y : Int, 0 ≤ y ∧ y ≤ 9999 → ∀ z ∈ P.set m y, 0 ≤ z ∧ z ≤ 9999 := by
        intro y hy z hz
        rcases List.mem_or_eq_of_mem_set hz with h | h
        · exact HP2.out z h
        · rw [h]; exact hy
      have KEY := Lib.hid key; clear key
      by_cases hbig : 9999 < x * 10 + b - 48
      · go_wp2_with ((with_reducible refine wp_setI (k := m) (u := 9999) HS5.out 0 rfl ?_ ?_ ?_ ?_); go_must (rw [HPl.out]; omega); go_must (exact rfl); go_must (exact rfl))
        intro w6 S6
        have S6 : St W w6 (ownI (.slice (some ⟨q, 0, none⟩) (m + 1) c5) (P.set m 9999) :: row (w.heap.size + 1) 58 zeroVt :: row w.heap.size 58 (vA V (.slice A1 n1 c1) (.slice A2 k2 c2) (.slice A3 n3 c3)) :: vo (.slice A1 n1 c1) (.slice A2 k2 c2) (.slice A3 n3 c3) V L) := S6
        clear lc lf ls hcell hfro HS5
        obtain ⟨lc, lf, ls⟩ := S6.cells 2 rfl
        have S7 := S6.setc 2 rfl 7 (.slice (some ⟨q, 0, none⟩) (m + 1) c5)
        clear S6
        go_wp2_with ((with_reducible refine wp_setA (k := 0) (u := .agg (vA { V with P := P.set m 9999 } (.slice A1 n1 c1) (.slice (some ⟨q, 0, none⟩) (m + 1) c5) (.slice A3 n3 c3))) (vA { V with P := P.set m 9999 } (.slice A1 n1 c1) (.slice (some ⟨q, 0, none⟩) (m + 1) c5) (.slice A3 n3 c3)) S7 1 rfl ?_ ?_ ?_ ?_ ?_ ?_ ?_); go_must (exact rfl); go_must (exact rfl); go_must (kernel_rfl); go_must (kernel_rfl); go_must (exact Nat.le_of_ble_eq_true (by kernel_rfl)); go_must (kernel_rfl))
        intro w8 S8
        clear lc lf ls S7
        obtain ⟨lc, -, -⟩ := S8.cells 1 rfl
        go_wp2_with fail
        exact bodyPost_ret (v := .agg (vA { V with P := P.set m 9999 } (.slice A1 n1 c1) (.slice (some ⟨q, 0, none⟩) (m + 1) c5) (.slice A3 n3 c3))) (by simp [results, Tryd.results144, go_sem, lc]) rfl ⟨{ V with P := P.set m 9999 }, A1, some ⟨q, 0, none⟩, A3, n1, c1, m + 1, c5, n3, c3, rfl, vt_argsV HV.out HS.out (by rw [List.length_set, HPl.out]; exact hm) (KEY.out 9999 (by omega)), p4 S8⟩
      · go_wp2_with ((with_reducible refine wp_setI (k := m) (u := x * 10 + b - 48) HS5.out 0 rfl ?_ ?_ ?_ ?_); go_must (rw [HPl.out]; omega); go_must (exact rfl); go_must (exact rfl))
        intro w6 S6
        have S6 : St W w6 (ownI (.slice (some ⟨q, 0, none⟩) (m + 1) c5) (P.set m (x * 10 + b - 48)) :: row (w.heap.size + 1) 58 zeroVt :: row w.heap.size 58 (vA V (.slice A1 n1 c1) (.slice A2 k2 c2) (.slice A3 n3 c3)) :: vo (.slice A1 n1 c1) (.slice A2 k2 c2) (.slice A3 n3 c3) V L) := S6
        clear lc lf ls hcell hfro HS5
        obtain ⟨lc, lf, ls⟩ := S6.cells 2 rfl
        have S7 := S6.setc 2 rfl 7 (.slice (some ⟨q, 0, none⟩) (m + 1) c5)
        clear S6
        go_wp2_with ((with_reducible refine wp_setA (k := 0) (u := .agg (vA { V with P := P.set m (x * 10 + b - 48) } (.slice A1 n1 c1) (.slice (some ⟨q, 0, none⟩) (m + 1) c5) (.slice A3 n3 c3))) (vA { V with P := P.set m (x * 10 + b - 48) } (.slice A1 n1 c1) (.slice (some ⟨q, 0, none⟩) (m + 1) c5) (.slice A3 n3 c3)) S7 1 rfl ?_ ?_ ?_ ?_ ?_ ?_ ?_); go_must (exact rfl); go_must (exact rfl); go_must (kernel_rfl); go_must (kernel_rfl); go_must (exact Nat.le_of_ble_eq_true (by kernel_rfl)); go_must (kernel_rfl))
        intro w8 S8
        clear lc lf ls S7
        obtain ⟨lc, -, -⟩ := S8.cells 1 rfl
        go_wp2_with fail
        exact bodyPost_ret (v := .agg (vA { V with P := P.set m (x * 10 + b - 48) } (.slice A1 n1 c1) (.slice (some ⟨q, 0, none⟩) (m + 1) c5) (.slice A3 n3 c3))) (by simp [results, Tryd.results144, go_sem, lc]) rfl ⟨{ V with P := P.set m (x * 10 + b - 48) }, A1, some ⟨q, 0, none⟩, A3, n1, c1, m + 1, c5, n3, c3, rfl, vt_argsV HV.out HS.out (by rw [List.length_set, HPl.out]; exact hm) (KEY.out (x * 10 + b - 48) (by omega)), p4 S8⟩
  by_cases hs : b = 59
  · subst hs
    clear hd
    go_enter Tryd.func144, Tryd.ntmps144
    go_wp2_with (at_builtin; go_must (refine wp_addI rfl _ _ rfl SS.out 0 rfl rfl rfl HRA.out ?_ ?_); go_must (simp; omega))
    intro v1 w1 S3
    have S3 : St W w1 (ownI v1 V.P :: row (w.heap.size + 1) 58 zeroVt :: row w.heap.size 58 (vA V (.slice A1 n1 c1) (.slice A2 n2 c2) (.slice A3 n3 c3)) :: vo (.slice A1 n1 c1) (.slice A2 n2 c2) (.slice A3 n3 c3) V L) := S3
    clear lc lf ls SS
    obtain ⟨A5, c5, rfl, -⟩ := (S3.ownI 0 rfl).form
    have hl := HN2.out
    obtain ⟨k2, hk2⟩ : ∃ k2, k2 = V.P.length := ⟨_, rfl⟩
    rw [← hk2] at S3 hl ⊢
    subst hl
    have HK := Lib.hid hk2; clear hk2
    have SS3 := Lib.hid S3; clear S3
    go_upto_if 48 with fail
    go_cut [5] (fun v5 wx => ∃ (P : List Int) (q m c : Nat), v5 = .slice (some ⟨q, 0, none⟩) (m + 1) c ∧ m + 1 ≤ 4 ∧ Hid (P.length = m + 1) ∧ Hid (∀ x ∈ P, 0 ≤ x ∧ x ≤ 9999) ∧ St W wx (ownI (.slice (some ⟨q, 0, none⟩) (m + 1) c) P :: row (w.heap.size + 1) 58 zeroVt :: row w.heap.size 58 (vA V (.slice A1 n1 c1) (.slice A2 k2 c2) (.slice A3 n3 c3)) :: vo (.slice A1 n1 c1) (.slice A2 k2 c2) (.slice A3 n3 c3) V L))
    case first =>
      by_cases h0 : k2 = 0
      · subst h0
        have hP : V.P = [] := List.length_eq_zero_iff.1 HK.out.symm
        have HP := Lib.hid hP; clear hP
        go_wp2_with (at_builtin; go_must (refine wp_addI rfl _ _ rfl (SS3.out.skip _) 0 rfl rfl rfl (RI.new _ [0] (by simp)) ?_ ?_); go_must (rw [HP.out]; simp))
        intro v4 w4 S4
        rw [show V.P ++ [0] = [0] by rw [HP.out]; rfl] at S4
        clear SS3
        rcases (S4.ownI 0 rfl).shape with ⟨-, h9⟩ | ⟨q, c', rfl, -, -, -, -⟩
        · simp at h9
        go_wp2_with fail
        go_meet
        exact ⟨[0], q, 0, c', rfl, by omega, rfl, (by show ∀ x ∈ [0], _; intro x hx; simp at hx; omega), S4⟩
      · rcases (SS3.out.ownI 0 rfl).shape with ⟨-, h9⟩ | ⟨q, c', e, -, -, -, -⟩
        · rw [h9] at HK; exact absurd HK.out h0
        injection e with e1 e2 e3; subst e1; subst e3
        clear e2
        obtain ⟨m, rfl⟩ : ∃ m, k2 = m + 1 := ⟨k2 - 1, by omega⟩
        have hm : m + 1 ≤ 4 := hp4
        go_wp2_with fail
        go_meet
        exact ⟨V.P, q, m, c5, rfl, hm, HK.out.symm, hp2'.out, SS3.out⟩
    case rest =>
      clear SS3 HK HRA HN2 hp2'
      obtain ⟨P, q, m, c5, rfl, hm, HPl, HP2, S⟩ := hcut
      by_cases h4 : m + 1 < 4
      · have HS5 := Lib.hid S; clear S
        go_wp2_with (at_builtin; go_must (refine wp_addI rfl _ _ rfl (HS5.out.skip _) 0 rfl rfl rfl (RI.new _ [0] (by simp)) ?_ ?_); go_must (rw [HPl.out]; simp; omega))
        intro v6 w6 S6
        have S6 : St W w6 (ownI v6 (P ++ [0]) :: row (w.heap.size + 1) 58 zeroVt :: row w.heap.size 58 (vA V (.slice A1 n1 c1) (.slice A2 k2 c2) (.slice A3 n3 c3)) :: vo (.slice A1 n1 c1) (.slice A2 k2 c2) (.slice A3 n3 c3) V L) := S6
        obtain ⟨A6, n6, c6, rfl⟩ := (S6.ownI 0 rfl).form'
        clear HS5
        obtain ⟨lc, lf, ls⟩ := S6.cells 2 rfl
        have S7 := S6.setc 2 rfl 7 (.slice A6 n6 c6)
        clear S6
        go_wp2_with ((with_reducible refine wp_setA (k := 0) (u := .agg (vA { V with P := P ++ [0] } (.slice A1 n1 c1) (.slice A6 n6 c6) (.slice A3 n3 c3))) (vA { V with P := P ++ [0] } (.slice A1 n1 c1) (.slice A6 n6 c6) (.slice A3 n3 c3)) S7 1 rfl ?_ ?_ ?_ ?_ ?_ ?_ ?_); go_must (exact rfl); go_must (exact rfl); go_must (kernel_rfl); go_must (kernel_rfl); go_must (exact Nat.le_of_ble_eq_true (by kernel_rfl)); go_must (kernel_rfl))
        intro w8 S8
        clear lc lf ls S7
        obtain ⟨lc, -, -⟩ := S8.cells 1 rfl
        go_wp2_with fail
        exact bodyPost_ret (v := .agg (vA { V with P := P ++ [0] } (.slice A1 n1 c1) (.slice A6 n6 c6) (.slice A3 n3 c3))) (by simp [results, Tryd.results144, go_sem, lc]) rfl ⟨{ V with P := P ++ [0] }, A1, A6, A3, n1, c1, n6, c6, n3, c3, rfl, vt_argsV HV.out HS.out (by rw [List.length_append, HPl.out]; simp; omega) (fun z hz => by rcases List.mem_append.1 hz with h | h; exact HP2.out z h; simp at h; omega), p4 S8⟩
      · obtain ⟨lc, lf, ls⟩ := S.cells 2 rfl
        have S7 := S.setc 2 rfl 7 (.slice (some ⟨q, 0, none⟩) (m + 1) c5)
        clear S
        go_wp2_with ((with_reducible refine wp_setA (k := 0) (u := .agg (vA { V with P := P } (.slice A1 n1 c1) (.slice (some ⟨q, 0, none⟩) (m + 1) c5) (.slice A3 n3 c3))) (vA { V with P := P } (.slice A1 n1 c1) (.slice (some ⟨q, 0, none⟩) (m + 1) c5) (.slice A3 n3 c3)) S7 1 rfl ?_ ?_ ?_ ?_ ?_ ?_ ?_); go_must (exact rfl); go_must (exact rfl); go_must (kernel_rfl); go_must (kernel_rfl); go_must (exact Nat.le_of_ble_eq_true (by kernel_rfl)); go_must (kernel_rfl))
        intro w8 S8
        clear lc lf ls S7
        obtain ⟨lc, -, -⟩ := S8.cells 1 rfl
        go_wp2_with fail
        exact bodyPost_ret (v := .agg (vA { V with P := P } (.slice A1 n1 c1) (.slice (some ⟨q, 0, none⟩) (m + 1) c5) (.slice A3 n3 c3))) (by simp [results, Tryd.results144, go_sem, lc]) rfl ⟨{ V with P := P }, A1, some ⟨q, 0, none⟩, A3, n1, c1, m + 1, c5, n3, c3, rfl, vt_argsV HV.out HS.out (by rw [HPl.out]; exact hm) HP2.out, p4 S8⟩
  · have hb59 : ((b : Int) == 59) = false := by simp; omega
    have hdd : (decide ((48 : Int) ≤ (b : Int)) && decide ((b : Int) ≤ 57)) = false := by simp; omega
    by_cases hlow : 48 ≤ b
    · have hh : ¬ b ≤ 57 := by omega
      clear hd hs hdd
      go_enter Tryd.func144, Tryd.ntmps144
      go_wp2_with (at_builtin; go_must (refine wp_addI rfl _ _ rfl SS.out 0 rfl rfl rfl HRA.out ?_ ?_); go_must (simp; omega))
      intro v1 w1 S3
      have S3 : St W w1 (ownI v1 V.P :: row (w.heap.size + 1) 58 zeroVt :: row w.heap.size 58 (vA V (.slice A1 n1 c1) (.slice A2 n2 c2) (.slice A3 n3 c3)) :: vo (.slice A1 n1 c1) (.slice A2 n2 c2) (.slice A3 n3 c3) V L) := S3
      obtain ⟨A5, n5, c5, rfl⟩ := (S3.ownI 0 rfl).form'
      clear lc lf ls SS
      obtain ⟨lc, lf, ls⟩ := S3.cells 2 rfl
      have S4 : St W w1 (vo (.slice A1 n1 c1) (.slice A2 n2 c2) (.slice A3 n3 c3) V (row (w.heap.size + 1) 58 zeroVt :: L)) := by
        have h := (((S3.drop.bring 1 rfl).drop.bring 1 rfl).bring 2 rfl).bring 3 rfl
        have h2 : St W w1 (ownB (.slice A3 n3 c3) V.B :: ownI (.slice A2 n2 c2) V.P :: ownI (.slice A1 n1 c1) V.G.C :: row (w.heap.size + 1) 58 zeroVt :: L) := h
        exact (h2.bring 1 rfl).bring 2 rfl
      have HS4 := Lib.hid S4; clear S3 S4
      go_wp2_with fail
      refine Calls.mono (spec_l09Act V A1 A2 A3 n1 c1 n2 c2 n3 c3 b W _ _ HS4.out HV.out HS.out hb) ?_; rintro e w2 ⟨V', B1, B2, B3, m1, d1, m2, d2, m3, d3, rfl, hV', S5⟩
      have HV' := Lib.hid hV'
      clear lc lf ls HS4 hV'
      go_wp2_with ((with_reducible refine wp_setA (k := 0) (u := .agg (vA V' (.slice B1 m1 d1) (.slice B2 m2 d2) (.slice B3 m3 d3))) (vA V' (.slice B1 m1 d1) (.slice B2 m2 d2) (.slice B3 m3 d3)) S5 3 rfl ?_ ?_ ?_ ?_ ?_ ?_ ?_); go_must (exact rfl); go_must (exact rfl); go_must (kernel_rfl); go_must (kernel_rfl); go_must (exact Nat.le_of_ble_eq_true (by kernel_rfl)); go_must (kernel_rfl))
      intro w8 S8
      clear S5
      obtain ⟨lc, -, -⟩ := S8.cells 3 rfl
      go_wp2_with fail
      refine bodyPost_ret (v := .agg (vA V' (.slice B1 m1 d1) (.slice B2 m2 d2) (.slice B3 m3 d3))) (by simp [results, Tryd.results144, go_sem, lc]) rfl ⟨V', B1, B2, B3, m1, d1, m2, d2, m3, d3, rfl, HV'.out, ?_⟩
      exact (S8.bring 3 rfl).drop
    · clear hd hs hdd
      go_enter Tryd.func144, Tryd.ntmps144
      go_wp2_with (at_builtin; go_must (refine wp_addI rfl _ _ rfl SS.out 0 rfl rfl rfl HRA.out ?_ ?_); go_must (simp; omega))
      intro v1 w1 S3
      have S3 : St W w1 (ownI v1 V.P :: row (w.heap.size + 1) 58 zeroVt :: row w.heap.size 58 (vA V (.slice A1 n1 c1) (.slice A2 n2 c2) (.slice A3 n3 c3)) :: vo (.slice A1 n1 c1) (.slice A2 n2 c2) (.slice A3 n3 c3) V L) := S3
      obtain ⟨A5, n5, c5, rfl⟩ := (S3.ownI 0 rfl).form'
      clear lc lf ls SS
      obtain ⟨lc, lf, ls⟩ := S3.cells 2 rfl
      have S4 : St W w1 (vo (.slice A1 n1 c1) (.slice A2 n2 c2) (.slice A3 n3 c3) V (row (w.heap.size + 1) 58 zeroVt :: L)) := by
        have h := (((S3.drop.bring 1 rfl).drop.bring 1 rfl).bring 2 rfl).bring 3 rfl
        have h2 : St W w1 (ownB (.slice A3 n3 c3) V.B :: ownI (.slice A2 n2 c2) V.P :: ownI (.slice A1 n1 c1) V.G.C :: row (w.heap.size + 1) 58 zeroVt :: L) := h
        exact (h2.bring 1 rfl).bring 2 rfl
      have HS4 := Lib.hid S4; clear S3 S4
      go_wp2_with fail
      refine Calls.mono (spec_l09Act V A1 A2 A3 n1 c1 n2 c2 n3 c3 b W _ _ HS4.out HV.out HS.out hb) ?_; rintro e w2 ⟨V', B1, B2, B3, m1, d1, m2, d2, m3, d3, rfl, hV', S5⟩
      have HV' := Lib.hid hV'
      clear lc lf ls HS4 hV'
      go_wp2_with ((with_reducible refine wp_setA (k := 0) (u := .agg (vA V' (.slice B1 m1 d1) (.slice B2 m2 d2) (.slice B3 m3 d3))) (vA V' (.slice B1 m1 d1) (.slice B2 m2 d2) (.slice B3 m3 d3)) S5 3 rfl ?_ ?_ ?_ ?_ ?_ ?_ ?_); go_must (exact rfl); go_must (exact rfl); go_must (kernel_rfl); go_must (kernel_rfl); go_must (exact Nat.le_of_ble_eq_true (by kernel_rfl)); go_must (kernel_rfl))
      intro w8 S8
      clear S5
      obtain ⟨lc, -, -⟩ := S8.cells 3 rfl
      go_wp2_with fail
      refine bodyPost_ret (v := .agg (vA V' (.slice B1 m1 d1) (.slice B2 m2 d2) (.slice B3 m3 d3))) (by simp [results, Tryd.results144, go_sem, lc]) rfl ⟨V', B1, B2, B3, m1, d1, m2, d2, m3, d3, rfl, HV'.out, ?_⟩
      exact (S8.bring 3 rfl).drop
end Go.Proofs.YtohjjhoobikioaaDoor
/-! The reference's RuneRead and RuneBegin, as far as validity needs them. -/
namespace Go.Proofs.YtohjjhoobikioaaDoor
open Go.RowKit

theorem bytes_eqd {a b : List UInt8} : ((⟨a.toArray⟩ : ByteArray) == ⟨b.toArray⟩) = decide (a = b) := by
  have := bytes_ne (a := a) (b := b)
  unfold bne at this
  cases h : decide (a = b) <;> rw [h] at this <;> simpa using this
theorem ret_rk {r r' : Int} {k k' : Nat} (h : r = r') (h2 : k = k') : Ending.returned (.tuple #[.int .i64 r, .int .i64 (k : Int)]) = .returned (.tuple #[.int .i64 r', .int .i64 (k' : Int)]) := by rw [h, h2]
set_option maxRecDepth 100000 in
set_option maxHeartbeats 4000000 in
theorem spec_RuneRead0 (A : Option Addr) (n c : Nat) (l : List UInt8) (w : World) (h : RB w A n c l) (hn : n ≤ 1000) :
    Calls Tryd.prog 146 #[.slice A n c, .int .i64 0] w fun e w' => ∃ (r : Int) (k : Nat), e = .returned (.tuple #[.int .i64 r, .int .i64 k]) ∧ (k = 0 ∨ (1 ≤ k ∧ k ≤ n ∧ runeBytes r = l.take k)) ∧ Ext w w' := by
  by_cases h0 : n = 0
  · subst h0
    go_enter Tryd.func146, Tryd.ntmps146
    go_wp2_with fail
    go_ret2
    exact ⟨0, 0, rfl, .inl rfl, Ext.refl _⟩
  obtain ⟨b, o, rfl, hcell⟩ := h.at1 (k := 0) (by omega)
  have hcap := h.cap
  have HR := Lib.hid h
  obtain ⟨x, hx⟩ : ∃ x : UInt8, x = l.getD 0 0 := ⟨_, rfl⟩
  have hx8 := x.toNat_lt
  rw [← hx, Nat.add_zero] at hcell
  clear hx h
  go_enter Tryd.func146, Tryd.ntmps146
  go_wp2_with fail
  go_loopw [6] (fun vs wr => ∃ s : Nat, 1 ≤ s ∧ s ≤ 5 ∧ vs = .int .i64 s ∧ Ext w wr) (fun vs _ => 5 - (intOf vs).toNat)
  case atStart => exact ⟨1, by omega, by omega, rfl, Ext.refl _⟩
  case round =>
    obtain ⟨s, hs1, hs5, rfl, x0⟩ := hrel
    by_cases hs4 : s = 5
    · subst hs4
      go_wp2_with fail
      go_ret2
      exact ⟨0, 0, rfl, .inl rfl, x0⟩
    by_cases hsn : s ≤ n
    · have hc0 := x0.cell hcell
      clear hcell
      have hsi : (s : Int) ≤ (n : Int) := by omega
      rcases (show s = 1 ∨ s = 2 ∨ s = 3 ∨ s = 4 by omega) with rfl | rfl | rfl | rfl
      · go_wp2_with fail
        have x3 := x0
        clear hc0 x0
        go_loopw [7, 8] (fun vr vj wr => ∃ (r : Int) (j : Nat), 1 ≤ j ∧ j ≤ 1 ∧ vr = .int .i64 r ∧ vj = .int .i64 j ∧ Ext w wr) (fun _ vj _ => 5 - (intOf vj).toNat)
        case atStart => exact ⟨_, 1, by omega, hs1, rfl, rfl, by first | exact x3 | exact x3.alloc _⟩
        case round =>
          clear x3
          obtain ⟨r, j, hj1, hjs, rfl, rfl, x1⟩ := hrel
          by_cases hlt : j < 1
          · exact absurd hlt (by omega)
          · obtain rfl : j = 1 := by omega
            go_wp2_with fail
            refine Calls.mono (spec_RuneBytes _ _) ?_; rintro e w2 ⟨A2, n2, c2, rfl, r2, x2⟩
            have y2 := x1.trans x2
            clear x1 x2 hlt
            by_cases hl2 : n2 = 1
            · subst hl2
              have RC := (HR.out.ext y2).pre hsn
              have q1 := fun m => conv_str (r2.ext ((Ext.refl w2).drewN m))
              have q2 := fun m => conv_str (RC.ext ((Ext.refl w2).drewN m))
              obtain ⟨d, hd⟩ : ∃ d, d = decide (runeBytes r = l.take 1) := ⟨_, rfl⟩
              have hne2 : (runeBytes r == l.take 1) = d := by rw [hd]; exact Bool.beq_eq_decide_eq _ _
              have HD := Lib.hid hd
              have HRC := Lib.hid RC
              have HR2 := Lib.hid r2
              clear hd r2 RC
              cases d
              · go_wp2_with fail
                go_quiet (fail)
                go_wp2_with fail
                go_roundw
                case rel => exact ⟨2, by omega, by omega, by go_num, y2.drewN _⟩
                case measure => simp [intOf]
              · go_wp2_with fail
                go_quiet (fail)
                go_wp2_with fail
                go_ret2
                exact ⟨r, 1, rfl, .inr ⟨by omega, hsn, of_decide_eq_true HD.out.symm⟩, y2.drewN _⟩
            · have hb : ((n2 : Int) == 1) = false := by simp; omega
              clear r2
              go_wp2_with fail
              go_quiet (fail)
              go_wp2_with fail
              go_roundw
              case rel => exact ⟨2, by omega, by omega, by go_num, y2.drewN _⟩
              case measure => simp [intOf]
      · go_wp2_with fail
        have x3 := x0
        clear hc0 x0
        go_loopw [7, 8] (fun vr vj wr => ∃ (r : Int) (j : Nat), 1 ≤ j ∧ j ≤ 2 ∧ vr = .int .i64 r ∧ vj = .int .i64 j ∧ Ext w wr) (fun _ vj _ => 5 - (intOf vj).toNat)
        case atStart => exact ⟨_, 1, by omega, hs1, rfl, rfl, by first | exact x3 | exact x3.alloc _⟩
        case round =>
          clear x3
          obtain ⟨r, j, hj1, hjs, rfl, rfl, x1⟩ := hrel
          by_cases hlt : j < 2
          · obtain ⟨b', o', e', hc'⟩ := HR.out.at1 (k := j) (by omega)
            injection e' with e'; injection e' with e1 e2; subst e1; subst e2
            have hc1 := x1.cell hc'
            have hy8 := (l.getD j 0).toNat_lt
            generalize (l.getD j 0).toNat = y at *
            go_wp2_with fail
            go_roundw
            case rel => exact ⟨_, j + 1, by omega, by omega, rfl, by go_num, x1⟩
            case measure => simp [intOf]; omega
          · obtain rfl : j = 2 := by omega
            go_wp2_with fail
            refine Calls.mono (spec_RuneBytes _ _) ?_; rintro e w2 ⟨A2, n2, c2, rfl, r2, x2⟩
            have y2 := x1.trans x2
            clear x1 x2 hlt
            by_cases hl2 : n2 = 2
            · subst hl2
              have RC := (HR.out.ext y2).pre hsn
              have q1 := fun m => conv_str (r2.ext ((Ext.refl w2).drewN m))
              have q2 := fun m => conv_str (RC.ext ((Ext.refl w2).drewN m))
              obtain ⟨d, hd⟩ : ∃ d, d = decide (runeBytes r = l.take 2) := ⟨_, rfl⟩
              have hne2 : (runeBytes r == l.take 2) = d := by rw [hd]; exact Bool.beq_eq_decide_eq _ _
              have HD := Lib.hid hd
              have HRC := Lib.hid RC
              have HR2 := Lib.hid r2
              clear hd r2 RC
              cases d
              · go_wp2_with fail
                go_quiet (fail)
                go_wp2_with fail
                go_roundw
                case rel => exact ⟨3, by omega, by omega, by go_num, y2.drewN _⟩
                case measure => simp [intOf]
              · go_wp2_with fail
                go_quiet (fail)
                go_wp2_with fail
                go_ret2
                exact ⟨r, 2, rfl, .inr ⟨by omega, hsn, of_decide_eq_true HD.out.symm⟩, y2.drewN _⟩
            · have hb : ((n2 : Int) == 2) = false := by simp; omega
              clear r2
              go_wp2_with fail
              go_quiet (fail)
              go_wp2_with fail
              go_roundw
              case rel => exact ⟨3, by omega, by omega, by go_num, y2.drewN _⟩
              case measure => simp [intOf]
      · go_wp2_with fail
        have x3 := x0
        clear hc0 x0
        go_loopw [7, 8] (fun vr vj wr => ∃ (r : Int) (j : Nat), 1 ≤ j ∧ j ≤ 3 ∧ vr = .int .i64 r ∧ vj = .int .i64 j ∧ Ext w wr) (fun _ vj _ => 5 - (intOf vj).toNat)
        case atStart => exact ⟨_, 1, by omega, hs1, rfl, rfl, by first | exact x3 | exact x3.alloc _⟩
        case round =>
          clear x3
          obtain ⟨r, j, hj1, hjs, rfl, rfl, x1⟩ := hrel
          by_cases hlt : j < 3
          · obtain ⟨b', o', e', hc'⟩ := HR.out.at1 (k := j) (by omega)
            injection e' with e'; injection e' with e1 e2; subst e1; subst e2
            have hc1 := x1.cell hc'
            have hy8 := (l.getD j 0).toNat_lt
            generalize (l.getD j 0).toNat = y at *
            go_wp2_with fail
            go_roundw
            case rel => exact ⟨_, j + 1, by omega, by omega, rfl, by go_num, x1⟩
            case measure => simp [intOf]; omega
          · obtain rfl : j = 3 := by omega
            go_wp2_with fail
            refine Calls.mono (spec_RuneBytes _ _) ?_; rintro e w2 ⟨A2, n2, c2, rfl, r2, x2⟩
            have y2 := x1.trans x2
            clear x1 x2 hlt
            by_cases hl2 : n2 = 3
            · subst hl2
              have RC := (HR.out.ext y2).pre hsn
              have q1 := fun m => conv_str (r2.ext ((Ext.refl w2).drewN m))
              have q2 := fun m => conv_str (RC.ext ((Ext.refl w2).drewN m))
              obtain ⟨d, hd⟩ : ∃ d, d = decide (runeBytes r = l.take 3) := ⟨_, rfl⟩
              have hne2 : (runeBytes r == l.take 3) = d := by rw [hd]; exact Bool.beq_eq_decide_eq _ _
              have HD := Lib.hid hd
              have HRC := Lib.hid RC
              have HR2 := Lib.hid r2
              clear hd r2 RC
              cases d
              · go_wp2_with fail
                go_quiet (fail)
                go_wp2_with fail
                go_roundw
                case rel => exact ⟨4, by omega, by omega, by go_num, y2.drewN _⟩
                case measure => simp [intOf]
              · go_wp2_with fail
                go_quiet (fail)
                go_wp2_with fail
                go_ret2
                exact ⟨r, 3, rfl, .inr ⟨by omega, hsn, of_decide_eq_true HD.out.symm⟩, y2.drewN _⟩
            · have hb : ((n2 : Int) == 3) = false := by simp; omega
              clear r2
              go_wp2_with fail
              go_quiet (fail)
              go_wp2_with fail
              go_roundw
              case rel => exact ⟨4, by omega, by omega, by go_num, y2.drewN _⟩
              case measure => simp [intOf]
      · go_wp2_with fail
        have x3 := x0
        clear hc0 x0
        go_loopw [7, 8] (fun vr vj wr => ∃ (r : Int) (j : Nat), 1 ≤ j ∧ j ≤ 4 ∧ vr = .int .i64 r ∧ vj = .int .i64 j ∧ Ext w wr) (fun _ vj _ => 5 - (intOf vj).toNat)
        case atStart => exact ⟨_, 1, by omega, hs1, rfl, rfl, by first | exact x3 | exact x3.alloc _⟩
        case round =>
          clear x3
          obtain ⟨r, j, hj1, hjs, rfl, rfl, x1⟩ := hrel
          by_cases hlt : j < 4
          · obtain ⟨b', o', e', hc'⟩ := HR.out.at1 (k := j) (by omega)
            injection e' with e'; injection e' with e1 e2; subst e1; subst e2
            have hc1 := x1.cell hc'
            have hy8 := (l.getD j 0).toNat_lt
            generalize (l.getD j 0).toNat = y at *
            go_wp2_with fail
            go_roundw
            case rel => exact ⟨_, j + 1, by omega, by omega, rfl, by go_num, x1⟩
            case measure => simp [intOf]; omega
          · obtain rfl : j = 4 := by omega
            go_wp2_with fail
            refine Calls.mono (spec_RuneBytes _ _) ?_; rintro e w2 ⟨A2, n2, c2, rfl, r2, x2⟩
            have y2 := x1.trans x2
            clear x1 x2 hlt
            by_cases hl2 : n2 = 4
            · subst hl2
              have RC := (HR.out.ext y2).pre hsn
              have q1 := fun m => conv_str (r2.ext ((Ext.refl w2).drewN m))
              have q2 := fun m => conv_str (RC.ext ((Ext.refl w2).drewN m))
              obtain ⟨d, hd⟩ : ∃ d, d = decide (runeBytes r = l.take 4) := ⟨_, rfl⟩
              have hne2 : (runeBytes r == l.take 4) = d := by rw [hd]; exact Bool.beq_eq_decide_eq _ _
              have HD := Lib.hid hd
              have HRC := Lib.hid RC
              have HR2 := Lib.hid r2
              clear hd r2 RC
              cases d
              · go_wp2_with fail
                go_quiet (fail)
                go_wp2_with fail
                go_roundw
                case rel => exact ⟨5, by omega, by omega, by go_num, y2.drewN _⟩
                case measure => simp [intOf]
              · go_wp2_with fail
                go_quiet (fail)
                go_wp2_with fail
                go_ret2
                exact ⟨r, 4, rfl, .inr ⟨by omega, hsn, of_decide_eq_true HD.out.symm⟩, y2.drewN _⟩
            · have hb : ((n2 : Int) == 4) = false := by simp; omega
              clear r2
              go_wp2_with fail
              go_quiet (fail)
              go_wp2_with fail
              go_roundw
              case rel => exact ⟨5, by omega, by omega, by go_num, y2.drewN _⟩
              case measure => simp [intOf]
    · have hsi : ¬ (s : Int) ≤ (n : Int) := by omega
      have hs3 : (s : Int) ≤ 4 := by omega
      go_wp2_with fail
      go_ret2
      exact ⟨0, 0, rfl, .inl rfl, x0⟩
end Go.Proofs.YtohjjhoobikioaaDoor
/-! The reference's RuneBegin, as far as validity needs it. -/
namespace Go.Proofs.YtohjjhoobikioaaDoor
open Go.RowKit

theorem byte_lit (x : UInt8) : [Value.int .u8 (x.toNat : Int)] = [x].map byteC := rfl
set_option maxRecDepth 100000 in
set_option maxHeartbeats 4000000 in
theorem spec_RuneBegin_w (A : Option Addr) (n c : Nat) (l : List UInt8) (w : World) (h : RB w A n c l) (hn : n ≤ 1000) :
    Calls Tryd.prog 142 #[.slice A n c] w fun e w' => ∃ d : Bool, e = .returned (.bool d) ∧ (d = true → runeBegin l = true) ∧ Ext w w' := by
  by_cases h0 : n = 0
  · subst h0
    go_enter Tryd.func142, Tryd.ntmps142
    go_wp2_with fail
    go_ret
    exact ⟨false, rfl, (fun e => nomatch e), Ext.refl _⟩
  by_cases h3 : 3 < n
  · go_enter Tryd.func142, Tryd.ntmps142
    go_wp2_with fail
    go_ret
    exact ⟨false, rfl, (fun e => nomatch e), Ext.refl _⟩
  have hl := h.len
  have hne : l ≠ [] := by intro e; rw [e] at hl; simp at hl; omega
  have HR := Lib.hid h; have Hl := Lib.hid hl; have Hne := Lib.hid hne
  clear h hl hne
  go_enter Tryd.func142, Tryd.ntmps142
  go_wp2_with fail
  go_loopw [3] (fun vs wr => ∃ s : Nat, n + 1 ≤ s ∧ s ≤ 5 ∧ vs = .int .i64 s ∧ Ext w wr) (fun vs _ => 5 - (intOf vs).toNat)
  case atStart => exact ⟨n + 1, by omega, by omega, by go_num, Ext.refl _⟩
  case round =>
    obtain ⟨s, hs1, hs5, rfl, x0⟩ := hrel
    by_cases hs4 : s ≤ 4
    · have S0 : St w wr [] := St.of x0
      have S1 := S0.newB (OwnB.empty (Nat.le_refl _)) ((Ext.refl _).alloc _)
      clear x0
      go_wp2_with (at_builtin; refine wp_addB rfl _ _ rfl S1 0 rfl rfl rfl (HR.out.ext S1.ext) (by simp; omega) ?_)
      intro v2 w2 S2
      have S3 := S2.newB (OwnB.empty (Nat.le_refl _)) ((Ext.refl _).alloc _)
      go_wp2_with (at_builtin; refine wp_addB rfl _ _ rfl S3 0 rfl rfl rfl (HR.out.ext S3.ext) (by simp; omega) ?_)
      intro v3 w3 S4
      have S4 : St w w3 [ownB v3 l, ownB v2 l] := S4
      clear S1 S2 S3
      obtain ⟨A2, c2, rfl, -⟩ := (S4.ownB 1 rfl).form
      obtain ⟨A3, c3, rfl, -⟩ := (S4.ownB 0 rfl).form
      rw [Hl.out] at S4
      rw [Hl.out]
      go_wp2_with fail
      go_loopw [4, 5] (fun vlo vhi wr => ∃ (lo hi : List UInt8) (f g : List UInt8) (m : Nat) (A2 A3 : Option Addr) (c2 c3 : Nat), Hid (lo = l ++ f) ∧ Hid (hi = l ++ g) ∧ Hid (lo.length = m) ∧ Hid (hi.length = m) ∧ n ≤ m ∧ m ≤ s ∧ vlo = .slice A2 m c2 ∧ vhi = .slice A3 m c3 ∧ St w wr [ownB (.slice A3 m c3) hi, ownB (.slice A2 m c2) lo]) (fun vlo _ _ => 5 - (match vlo with | .slice _ m _ => m | _ => 0))
      case atStart => exact ⟨l, l, [], [], n, A2, A3, c2, c3, (List.append_nil _).symm, (List.append_nil _).symm, Hl.out, Hl.out, by omega, by omega, rfl, rfl, S4⟩
      case round =>
        clear S4
        obtain ⟨lo, hi, f, g, m, A2, A3, c2, c3, Hlo, Hhi, Hm1, Hm2, hm1, hm2, rfl, rfl, S⟩ := hrel
        by_cases hlt : m < s
        · have SS := Lib.hid S; clear S
          go_wp2_with (at_builtin; refine wp_addB rfl _ _ rfl (SS.out.skip _) 1 rfl rfl rfl (RB.lit _ _ [(128 : UInt8)] rfl (by simp)) (by rw [Hm1.out]; simp; omega) ?_)
          intro v2 w2 S2
          clear SS
          have SS := Lib.hid S2; clear S2
          go_wp2_with (at_builtin; refine wp_addB rfl _ _ rfl (SS.out.skip _) 0 rfl rfl rfl (RB.lit _ _ [(191 : UInt8)] rfl (by simp)) (by rw [Hm2.out]; simp; omega) ?_)
          intro v3 w3 S3
          clear SS
          have S3 : St w w3 [ownB v3 (hi ++ [191]), ownB v2 (lo ++ [128])] := S3
          obtain ⟨A4, c4, rfl, -⟩ := (S3.ownB 1 rfl).form
          obtain ⟨A5, c5, rfl, -⟩ := (S3.ownB 0 rfl).form
          have e1 : (lo ++ [128]).length = m + 1 := by rw [List.length_append, Hm1.out]; rfl
          have e2 : (hi ++ [191]).length = m + 1 := by rw [List.length_append, Hm2.out]; rfl
          rw [e1, e2] at S3
          rw [e1, e2]
          have E1 := Lib.hid e1; have E2 := Lib.hid e2; clear e1 e2
          go_wp2_with fail
          go_roundw
          case rel => exact ⟨lo ++ [128], hi ++ [191], f ++ [128], g ++ [191], m + 1, A4, A5, c4, c5, (by show _ = _; rw [Hlo.out, List.append_assoc]), (by show _ = _; rw [Hhi.out, List.append_assoc]), E1.out, E2.out, by omega, by omega, rfl, rfl, S3⟩
          case measure => simp; omega
        · obtain rfl : m = s := by omega
          have SS := Lib.hid S; clear S
          go_wp2_with fail
          refine Calls.mono (spec_RuneRead0 _ _ _ _ _ ((SS.out.ownB 1 rfl).rb) (by omega)) ?_; rintro e w2 ⟨r2, k2, rfl, q2, x2⟩
          have S2 := Lib.hid (SS.out.call x2)
          clear SS x2
          go_wp2_with fail
          refine Calls.mono (spec_RuneRead0 _ _ _ _ _ ((S2.out.ownB 0 rfl).rb) (by omega)) ?_; rintro e w3 ⟨r3, k3, rfl, q3, x3⟩
          have x4 := (S2.out.call x3).ext
          clear S2 x3
          have hfl : f ≠ [] := by intro e; have h1 := Hm1.out; have h2 := Hlo.out; rw [e, List.append_nil] at h2; rw [h2, Hl.out] at h1; omega
          have hgl : g ≠ [] := by intro e; have h1 := Hm2.out; have h2 := Hhi.out; rw [e, List.append_nil] at h2; rw [h2, Hl.out] at h1; omega
          have P2 : Hid (k2 = m → runeBegin l = true) := by
            intro e
            rcases q2 with q | ⟨-, -, q⟩
            · omega
            · rw [e, Hlo.out, List.take_of_length_le (by rw [← Hlo.out, Hm1.out]; omega)] at q
              exact begin_of_bytes Hne.out hfl q
          have P3 : Hid (k3 = m → runeBegin l = true) := by
            intro e
            rcases q3 with q | ⟨-, -, q⟩
            · omega
            · rw [e, Hhi.out, List.take_of_length_le (by rw [← Hhi.out, Hm2.out]; omega)] at q
              exact begin_of_bytes Hne.out hgl q
          clear q2 q3 hfl hgl Hlo Hhi Hm1 Hm2
          by_cases hk2 : k2 = m
          · have T := Lib.hid (P2.out hk2)
            subst hk2
            go_wp2_with fail
            go_ret
            exact ⟨true, rfl, (fun _ => T.out), x4⟩
          · have hb2 : ((k2 : Int) == (m : Int)) = false := by simp; omega
            by_cases hk3 : k3 = m
            · have T := Lib.hid (P3.out hk3)
              subst hk3
              go_wp2_with fail
              go_ret
              exact ⟨true, rfl, (fun _ => T.out), x4⟩
            · have hb3 : ((k3 : Int) == (m : Int)) = false := by simp; omega
              clear hk2 hk3
              go_wp2_with fail
              go_roundw
              case rel => exact ⟨m + 1, by omega, by omega, by go_num, x4⟩
              case measure => simp [intOf]; omega
    · go_wp2_with fail
      go_ret
      exact ⟨false, rfl, (fun e => nomatch e), x0⟩
end Go.Proofs.YtohjjhoobikioaaDoor
/-! The reference's terminal: a byte outside of sequences. -/
namespace Go.Proofs.YtohjjhoobikioaaDoor
open Go.RowKit

/-- no part of a rune is kept -/
theorem vt_nilV {V : VtS} {G : Gr} {N : Int} (hV : VtV V) (hG : gridOk G = true) (hN : 0 ≤ N ∧ N ≤ 1000000) : VtV { V with G := G, B := [], N := N } := by
  obtain ⟨⟨a1, a2, a3, a4, a5, a6⟩, b1, b2⟩ := hV
  exact ⟨⟨hG, a2, a3, a4, by simp, hN⟩, b1, .inl rfl⟩
theorem vt_partV {V : VtS} {B : List UInt8} (hV : VtV V) (hS : V.S = 0) (hB : runeBegin B = true) : VtV { V with B := B } := by
  obtain ⟨⟨a1, a2, a3, a4, a5, a6⟩, b1, b2⟩ := hV
  exact ⟨⟨a1, a2, a3, a4, runeBegin_len hB, a6⟩, b1, .inr ⟨hS, hB⟩⟩
theorem vt_escV {V : VtS} (hV : VtV V) (hS : V.S = 0) : VtV { V with S := 1, B := [] } := by
  obtain ⟨⟨a1, a2, a3, a4, a5, a6⟩, b1, b2⟩ := hV
  have hp : V.P = [] := by
    rcases b1 with h | h
    · exact h
    · omega
  exact ⟨⟨a1, by simp, a3, a4, by simp, a6⟩, .inl hp, .inl rfl⟩
theorem q_nil {W w : World} {L : List Pc} {p g z t c a b : Pc} (S : St W w (p :: g :: z :: t :: c :: a :: b :: L)) : St W w (c :: a :: ownB (.slice none 0 0) [] :: L) := by
  have h : St W w (c :: a :: b :: L) := S.drop.drop.drop.drop
  have h2 : St W w (ownB (.slice none 0 0) [] :: c :: a :: L) := ((h.bring 2 rfl).drop).nilB
  have h3 : St W w (c :: ownB (.slice none 0 0) [] :: a :: L) := h2.swap
  have h4 : St W w (a :: c :: ownB (.slice none 0 0) [] :: L) := h3.bring 2 rfl
  exact h4.swap
theorem q_new {W w : World} {L : List Pc} {n p g z t c a b : Pc} (S : St W w (n :: p :: g :: z :: t :: c :: a :: b :: L)) : St W w (n :: a :: ownB (.slice none 0 0) [] :: L) := by
  have h := (S.bring 5 rfl).drop
  have h1 : St W w (n :: p :: g :: z :: t :: a :: b :: L) := h
  have h2 : St W w (p :: g :: z :: t :: n :: a :: b :: L) := (((h1.bring 4 rfl).bring 4 rfl).bring 4 rfl).bring 4 rfl
  exact q_nil h2
theorem q_part {W w : World} {L : List Pc} {p g z t c a b : Pc} (S : St W w (p :: g :: z :: t :: c :: a :: b :: L)) : St W w (c :: a :: p :: L) := by
  have h : St W w (p :: c :: a :: b :: L) := (((S.bring 1 rfl).drop.bring 1 rfl).drop.bring 1 rfl).drop
  have h1 : St W w (p :: c :: a :: L) := (h.bring 3 rfl).drop
  have h2 : St W w (a :: p :: c :: L) := h1.bring 2 rfl
  exact h2.bring 2 rfl
abbrev ncell : Value := .slice none 0 0
set_option maxRecDepth 100000 in
set_option maxHeartbeats 8000000 in
theorem spec_l09Plain_hi (V : VtS) (A1 A2 A3 : Option Addr) (n1 c1 n2 c2 n3 c3 : Nat) (b : Nat) (W w : World) (L : List Pc) (S : St W w (vo (.slice A1 n1 c1) (.slice A2 n2 c2) (.slice A3 n3 c3) V L)) (hV : VtV V) (hS : V.S = 0) (h0 : 128 ≤ b) (h1 : b ≤ 255) :
    Calls Tryd.prog 143 #[.agg (vA V (.slice A1 n1 c1) (.slice A2 n2 c2) (.slice A3 n3 c3)), .int .i64 b] w (VtAns W L) := by
  have S0 := ((S.alloc (vA V (.slice A1 n1 c1) (.slice A2 n2 c2) (.slice A3 n3 c3)) 58).alloc zeroVt 58).alloc (gA V.G (.slice A1 n1 c1)) 40
  simp only [World.size_alloc] at S0
  clear S
  have HV := Lib.hid hV; have HS := Lib.hid hS
  have hb3 := hV.i.b
  obtain ⟨d1, d2, d3, d4, -, -⟩ := gridOk_d hV.i.g
  obtain ⟨q1, q2, q3, q4, -⟩ := gridOk_c hV.i.g
  obtain ⟨hN0, hN1⟩ := hV.i.n
  clear hV hS
  have rp := (S0.ownB 5 rfl).rb
  have S2 := S0.newB (OwnB.emptyAt (b := w.heap.size + 1 + 1 + 1) (by simp) (Nat.le_refl _)) ((Ext.refl _).alloc (.cells #[] 5))
  have HRP := Lib.hid (rp.ext ((Ext.refl _).alloc (.cells #[] 5)))
  have hn3 : n3 ≤ 3 := by rw [← rp.len]; exact hb3
  have B8 := Lib.hid (byteC_of (k := b) (by omega))
  have hbw : IntKind.u8.wrap (b : Int) = (b : Int) := by rw [IntKind.wrap_u8]; omega
  obtain ⟨lc, lf, ls⟩ := S0.cells 2 rfl
  clear S0 rp
  have HB3 := Lib.hid hb3; clear hb3
  have SS := Lib.hid S2; clear S2
  have hDl : (V.B ++ [UInt8.ofNat b]).length ≤ 4 := by rw [List.length_append]; have := HB3.out; simp; omega
  have HDl := Lib.hid hDl; clear hDl
  go_enter Tryd.func143, Tryd.ntmps143
  go_wp2_with (at_builtin; go_must (refine wp_addB rfl _ _ rfl SS.out 0 rfl rfl rfl HRP.out ?_ ?_); go_must (simp; omega))
  intro v1 w1 S3
  have S3 : St W w1 (ownB v1 V.B :: row (w.heap.size + 1 + 1) 40 (gA V.G (.slice A1 n1 c1)) :: row (w.heap.size + 1) 58 zeroVt :: row w.heap.size 58 (vA V (.slice A1 n1 c1) (.slice A2 n2 c2) (.slice A3 n3 c3)) :: vo (.slice A1 n1 c1) (.slice A2 n2 c2) (.slice A3 n3 c3) V L) := S3
  clear lc lf ls SS
  have SS3 := Lib.hid S3; clear S3
  go_wp2_with (at_builtin; go_must (refine wp_addB rfl _ _ rfl (SS3.out.skip _) 0 rfl rfl rfl (RB.lit _ _ [UInt8.ofNat b] (B8.out) (by simp)) ?_ ?_); go_must (have := HB3.out; simp; omega))
  intro v2 w2 S4
  have S4 : St W w2 (ownB v2 (V.B ++ [UInt8.ofNat b]) :: row (w.heap.size + 1 + 1) 40 (gA V.G (.slice A1 n1 c1)) :: row (w.heap.size + 1) 58 zeroVt :: row w.heap.size 58 (vA V (.slice A1 n1 c1) (.slice A2 n2 c2) (.slice A3 n3 c3)) :: vo (.slice A1 n1 c1) (.slice A2 n2 c2) (.slice A3 n3 c3) V L) := S4
  clear SS3
  obtain ⟨A6, c6, rfl, -⟩ := (S4.ownB 0 rfl).form
  obtain ⟨k6, hk6⟩ : ∃ k6, k6 = (V.B ++ [UInt8.ofNat b]).length := ⟨_, rfl⟩
  obtain ⟨D, hD⟩ : ∃ D, D = V.B ++ [UInt8.ofNat b] := ⟨_, rfl⟩
  rw [← hk6] at HDl S4 ⊢
  rw [← hD] at hk6 S4
  have HK6 := Lib.hid hk6; clear hk6 hD
  obtain ⟨lc, lf, ls⟩ := S4.cells 3 rfl
  have S5 : St W (w2.setCell ⟨w.heap.size, 8, none⟩ (.slice none 0 0)) (ownB (.slice A6 k6 c6) D :: row (w.heap.size + 1 + 1) 40 (gA V.G (.slice A1 n1 c1)) :: row (w.heap.size + 1) 58 zeroVt :: row w.heap.size 58 (vA V (.slice A1 n1 c1) (.slice A2 n2 c2) (.slice none 0 0)) :: vo (.slice A1 n1 c1) (.slice A2 n2 c2) (.slice A3 n3 c3) V L) := S4.setc 3 rfl 8 (.slice none 0 0)
  have hk4 : k6 ≤ 4 := HDl.out
  clear S4 HDl
  go_upto_region 4 with fail
  clear lc lf ls
  generalize w2.setCell ⟨w.heap.size, 8, none⟩ (.slice none 0 0) = w5 at *
  obtain ⟨lc, lf, ls⟩ := S5.cells 3 rfl
  obtain ⟨kc, kf, ks⟩ := S5.cells 1 rfl
  have HS5 := Lib.hid S5; clear S5
  go_wp2_with fail
  refine Calls.mono (spec_RuneRead0 _ _ _ _ _ ((HS5.out.ownB 0 rfl).rb) (by omega)) ?_; rintro e w6 ⟨r, k, rfl, -, x6⟩
  have S6 := HS5.out.call x6
  clear lc lf ls kc kf ks HS5 x6
  obtain ⟨lc, lf, ls⟩ := S6.cells 3 rfl
  obtain ⟨kc, kf, ks⟩ := S6.cells 1 rfl
  have HS5 := Lib.hid S6; clear S6
  by_cases hk : k = k6
  · subst hk
    go_wp2_with fail
    refine Calls.mono (spec_GridPut V.G _ _ _ r _ ((HS5.out.ownI 4 rfl).ri) HV.out.i.g) ?_; rintro e w3 ⟨v3, rfl, own, x2⟩
    obtain ⟨A7, n7, c7, rfl⟩ := own.form'
    have S6 := HS5.out.newI own x2
    clear lc lf ls kc kf ks own x2 HS5
    go_wp2_with ((with_reducible refine wp_setA (k := 0) (u := .agg (gA (putG V.G r) (.slice A7 n7 c7))) (vA { V with G := putG V.G r, B := [] } (.slice A7 n7 c7) (.slice A2 n2 c2) (.slice none 0 0)) S6 4 rfl ?_ ?_ ?_ ?_ ?_ ?_ ?_); go_must (exact rfl); go_must (exact rfl); go_must (kernel_rfl); go_must (kernel_rfl); go_must (exact Nat.le_of_ble_eq_true (by kernel_rfl)); go_must (kernel_rfl))
    intro w7 S7
    obtain ⟨lc, lf, ls⟩ := S7.cells 4 rfl
    go_wp2_with ((with_reducible refine wp_setA (k := 0) (u := .agg (vA { V with G := putG V.G r, B := [] } (.slice A7 n7 c7) (.slice A2 n2 c2) (.slice none 0 0))) (vA { V with G := putG V.G r, B := [] } (.slice A7 n7 c7) (.slice A2 n2 c2) (.slice none 0 0)) S7 3 rfl ?_ ?_ ?_ ?_ ?_ ?_ ?_); go_must (exact rfl); go_must (exact rfl); go_must (kernel_rfl); go_must (kernel_rfl); go_must (exact Nat.le_of_ble_eq_true (by kernel_rfl)); go_must (kernel_rfl))
    intro w8 S8
    obtain ⟨mc, -, -⟩ := S8.cells 3 rfl
    go_wp2_with fail
    exact bodyPost_ret (v := .agg (vA { V with G := putG V.G r, B := [] } (.slice A7 n7 c7) (.slice A2 n2 c2) (.slice none 0 0))) (by simp [results, Tryd.results143, go_sem, mc]) rfl ⟨{ V with G := putG V.G r, B := [] }, _, _, _, _, _, _, _, _, _, rfl, vt_nilV HV.out (putG_ok HV.out.i.g r) HV.out.i.n, q_new S8⟩
  · have hkb : ((k : Int) == (k6 : Int)) = false := by simp; omega
    clear hk
    go_wp2_with fail
    refine Calls.mono (spec_RuneBegin_w _ _ _ _ _ ((HS5.out.ownB 0 rfl).rb) (by omega)) ?_; rintro e w3 ⟨d, rfl, hd, x3⟩
    have HD := Lib.hid hd; clear hd
    have S6 := HS5.out.call x3
    clear lc lf ls kc kf ks HS5 x3
    obtain ⟨lc, lf, ls⟩ := S6.cells 3 rfl
    cases d
    · go_wp2_with ((with_reducible refine wp_setA (k := 0) (u := .agg (vA { V with G := V.G, B := [], N := V.N } (.slice A1 n1 c1) (.slice A2 n2 c2) (.slice none 0 0))) (vA { V with G := V.G, B := [], N := V.N } (.slice A1 n1 c1) (.slice A2 n2 c2) (.slice none 0 0)) S6 2 rfl ?_ ?_ ?_ ?_ ?_ ?_ ?_); go_must (exact rfl); go_must (exact rfl); go_must (kernel_rfl); go_must (kernel_rfl); go_must (exact Nat.le_of_ble_eq_true (by kernel_rfl)); go_must (kernel_rfl))
      intro w8 S8
      obtain ⟨mc, -, -⟩ := S8.cells 2 rfl
      go_wp2_with fail
      exact bodyPost_ret (v := .agg (vA { V with G := V.G, B := [], N := V.N } (.slice A1 n1 c1) (.slice A2 n2 c2) (.slice none 0 0))) (by simp [results, Tryd.results143, go_sem, mc]) rfl ⟨{ V with G := V.G, B := [], N := V.N }, _, _, _, _, _, _, _, _, _, rfl, vt_nilV HV.out HV.out.i.g HV.out.i.n, q_nil S8⟩
    · have S7 := S6.setc 3 rfl 8 (.slice A6 k6 c6)
      go_wp2_with ((with_reducible refine wp_setA (k := 0) (u := .agg (vA { V with B := D } (.slice A1 n1 c1) (.slice A2 n2 c2) (.slice A6 k6 c6))) (vA { V with B := D } (.slice A1 n1 c1) (.slice A2 n2 c2) (.slice A6 k6 c6)) S7 2 rfl ?_ ?_ ?_ ?_ ?_ ?_ ?_); go_must (exact rfl); go_must (exact rfl); go_must (kernel_rfl); go_must (kernel_rfl); go_must (exact Nat.le_of_ble_eq_true (by kernel_rfl)); go_must (kernel_rfl))
      intro w8 S8
      obtain ⟨mc, -, -⟩ := S8.cells 2 rfl
      go_wp2_with fail
      exact bodyPost_ret (v := .agg (vA { V with B := D } (.slice A1 n1 c1) (.slice A2 n2 c2) (.slice A6 k6 c6))) (by simp [results, Tryd.results143, go_sem, mc]) rfl ⟨{ V with B := D }, _, _, _, _, _, _, _, _, _, rfl, vt_partV HV.out HS.out (by first | exact HD.out rfl | exact HD.out trivial), q_part S8⟩
set_option maxRecDepth 100000 in
set_option maxHeartbeats 8000000 in
theorem spec_l09Plain_7a (V : VtS) (A1 A2 A3 : Option Addr) (n1 c1 n2 c2 n3 c3 : Nat) (W w : World) (L : List Pc) (S : St W w (vo (.slice A1 n1 c1) (.slice A2 n2 c2) (.slice A3 n3 c3) V L)) (hV : VtV V) (hS : V.S = 0) (hlo : V.N < 1000000) :
    Calls Tryd.prog 143 #[.agg (vA V (.slice A1 n1 c1) (.slice A2 n2 c2) (.slice A3 n3 c3)), .int .i64 7] w (VtAns W L) := by
  have S0 := ((S.alloc (vA V (.slice A1 n1 c1) (.slice A2 n2 c2) (.slice A3 n3 c3)) 58).alloc zeroVt 58).alloc (gA V.G (.slice A1 n1 c1)) 40
  simp only [World.size_alloc] at S0
  clear S
  have HV := Lib.hid hV; have HS := Lib.hid hS
  have hb3 := hV.i.b
  obtain ⟨d1, d2, d3, d4, -, -⟩ := gridOk_d hV.i.g
  obtain ⟨q1, q2, q3, q4, -⟩ := gridOk_c hV.i.g
  obtain ⟨hN0, hN1⟩ := hV.i.n
  clear hV hS
  have rp := (S0.ownB 5 rfl).rb
  have S2 := S0.newB (OwnB.emptyAt (b := w.heap.size + 1 + 1 + 1) (by simp) (Nat.le_refl _)) ((Ext.refl _).alloc (.cells #[] 5))
  have HRP := Lib.hid (rp.ext ((Ext.refl _).alloc (.cells #[] 5)))
  have hn3 : n3 ≤ 3 := by rw [← rp.len]; exact hb3
  have B8 := Lib.hid (byteC_of (k := 7) (by omega))
  obtain ⟨lc, lf, ls⟩ := S0.cells 2 rfl
  clear S0 rp
  have HB3 := Lib.hid hb3; clear hb3
  have SS := Lib.hid S2; clear S2
  have hDl : (V.B ++ [UInt8.ofNat 7]).length ≤ 4 := by rw [List.length_append]; have := HB3.out; simp; omega
  have HDl := Lib.hid hDl; clear hDl
  go_enter Tryd.func143, Tryd.ntmps143
  go_wp2_with (at_builtin; go_must (refine wp_addB rfl _ _ rfl SS.out 0 rfl rfl rfl HRP.out ?_ ?_); go_must (simp; omega))
  intro v1 w1 S3
  have S3 : St W w1 (ownB v1 V.B :: row (w.heap.size + 1 + 1) 40 (gA V.G (.slice A1 n1 c1)) :: row (w.heap.size + 1) 58 zeroVt :: row w.heap.size 58 (vA V (.slice A1 n1 c1) (.slice A2 n2 c2) (.slice A3 n3 c3)) :: vo (.slice A1 n1 c1) (.slice A2 n2 c2) (.slice A3 n3 c3) V L) := S3
  clear lc lf ls SS
  have SS3 := Lib.hid S3; clear S3
  go_wp2_with (at_builtin; go_must (refine wp_addB rfl _ _ rfl (SS3.out.skip _) 0 rfl rfl rfl (RB.lit _ _ [UInt8.ofNat 7] (B8.out) (by simp)) ?_ ?_); go_must (have := HB3.out; simp; omega))
  intro v2 w2 S4
  have S4 : St W w2 (ownB v2 (V.B ++ [UInt8.ofNat 7]) :: row (w.heap.size + 1 + 1) 40 (gA V.G (.slice A1 n1 c1)) :: row (w.heap.size + 1) 58 zeroVt :: row w.heap.size 58 (vA V (.slice A1 n1 c1) (.slice A2 n2 c2) (.slice A3 n3 c3)) :: vo (.slice A1 n1 c1) (.slice A2 n2 c2) (.slice A3 n3 c3) V L) := S4
  clear SS3
  obtain ⟨A6, c6, rfl, -⟩ := (S4.ownB 0 rfl).form
  obtain ⟨k6, hk6⟩ : ∃ k6, k6 = (V.B ++ [UInt8.ofNat 7]).length := ⟨_, rfl⟩
  obtain ⟨D, hD⟩ : ∃ D, D = V.B ++ [UInt8.ofNat 7] := ⟨_, rfl⟩
  rw [← hk6] at HDl S4 ⊢
  rw [← hD] at hk6 S4
  have HK6 := Lib.hid hk6; clear hk6 hD
  obtain ⟨lc, lf, ls⟩ := S4.cells 3 rfl
  have S5 : St W (w2.setCell ⟨w.heap.size, 8, none⟩ (.slice none 0 0)) (ownB (.slice A6 k6 c6) D :: row (w.heap.size + 1 + 1) 40 (gA V.G (.slice A1 n1 c1)) :: row (w.heap.size + 1) 58 zeroVt :: row w.heap.size 58 (vA V (.slice A1 n1 c1) (.slice A2 n2 c2) (.slice none 0 0)) :: vo (.slice A1 n1 c1) (.slice A2 n2 c2) (.slice A3 n3 c3) V L) := S4.setc 3 rfl 8 (.slice none 0 0)
  have hk4 : k6 ≤ 4 := HDl.out
  clear S4 HDl
  go_upto_region 4 with fail
  clear lc lf ls
  generalize w2.setCell ⟨w.heap.size, 8, none⟩ (.slice none 0 0) = w5 at *
  obtain ⟨lc, lf, ls⟩ := S5.cells 3 rfl
  obtain ⟨kc, kf, ks⟩ := S5.cells 1 rfl
  have HS5 := Lib.hid S5; clear S5
  have S6 := HS5.out.setc 3 rfl 9 (.int .i64 (V.N + 1))
  go_wp2_with ((with_reducible refine wp_setA (k := 0) (u := .agg (vA { V with G := V.G, B := [], N := V.N + 1 } (.slice A1 n1 c1) (.slice A2 n2 c2) (.slice none 0 0))) (vA { V with G := V.G, B := [], N := V.N + 1 } (.slice A1 n1 c1) (.slice A2 n2 c2) (.slice none 0 0)) S6 2 rfl ?_ ?_ ?_ ?_ ?_ ?_ ?_); go_must (exact rfl); go_must (exact rfl); go_must (kernel_rfl); go_must (kernel_rfl); go_must (exact Nat.le_of_ble_eq_true (by kernel_rfl)); go_must (kernel_rfl))
  intro w8 S8
  obtain ⟨mc, -, -⟩ := S8.cells 2 rfl
  go_wp2_with fail
  exact bodyPost_ret (v := .agg (vA { V with G := V.G, B := [], N := V.N + 1 } (.slice A1 n1 c1) (.slice A2 n2 c2) (.slice none 0 0))) (by simp [results, Tryd.results143, go_sem, mc]) rfl ⟨{ V with G := V.G, B := [], N := V.N + 1 }, _, _, _, _, _, _, _, _, _, rfl, vt_nilV HV.out HV.out.i.g (by have := HV.out.i.n; omega), q_nil S8⟩
set_option maxRecDepth 100000 in
set_option maxHeartbeats 8000000 in
theorem spec_l09Plain_7b (V : VtS) (A1 A2 A3 : Option Addr) (n1 c1 n2 c2 n3 c3 : Nat) (W w : World) (L : List Pc) (S : St W w (vo (.slice A1 n1 c1) (.slice A2 n2 c2) (.slice A3 n3 c3) V L)) (hV : VtV V) (hS : V.S = 0) (hlo : ¬ V.N < 1000000) :
    Calls Tryd.prog 143 #[.agg (vA V (.slice A1 n1 c1) (.slice A2 n2 c2) (.slice A3 n3 c3)), .int .i64 7] w (VtAns W L) := by
  have S0 := ((S.alloc (vA V (.slice A1 n1 c1) (.slice A2 n2 c2) (.slice A3 n3 c3)) 58).alloc zeroVt 58).alloc (gA V.G (.slice A1 n1 c1)) 40
  simp only [World.size_alloc] at S0
  clear S
  have HV := Lib.hid hV; have HS := Lib.hid hS
  have hb3 := hV.i.b
  obtain ⟨d1, d2, d3, d4, -, -⟩ := gridOk_d hV.i.g
  obtain ⟨q1, q2, q3, q4, -⟩ := gridOk_c hV.i.g
  obtain ⟨hN0, hN1⟩ := hV.i.n
  clear hV hS
  have rp := (S0.ownB 5 rfl).rb
  have S2 := S0.newB (OwnB.emptyAt (b := w.heap.size + 1 + 1 + 1) (by simp) (Nat.le_refl _)) ((Ext.refl _).alloc (.cells #[] 5))
  have HRP := Lib.hid (rp.ext ((Ext.refl _).alloc (.cells #[] 5)))
  have hn3 : n3 ≤ 3 := by rw [← rp.len]; exact hb3
  have B8 := Lib.hid (byteC_of (k := 7) (by omega))
  obtain ⟨lc, lf, ls⟩ := S0.cells 2 rfl
  clear S0 rp
  have HB3 := Lib.hid hb3; clear hb3
  have SS := Lib.hid S2; clear S2
  have hDl : (V.B ++ [UInt8.ofNat 7]).length ≤ 4 := by rw [List.length_append]; have := HB3.out; simp; omega
  have HDl := Lib.hid hDl; clear hDl
  go_enter Tryd.func143, Tryd.ntmps143
  go_wp2_with (at_builtin; go_must (refine wp_addB rfl _ _ rfl SS.out 0 rfl rfl rfl HRP.out ?_ ?_); go_must (simp; omega))
  intro v1 w1 S3
  have S3 : St W w1 (ownB v1 V.B :: row (w.heap.size + 1 + 1) 40 (gA V.G (.slice A1 n1 c1)) :: row (w.heap.size + 1) 58 zeroVt :: row w.heap.size 58 (vA V (.slice A1 n1 c1) (.slice A2 n2 c2) (.slice A3 n3 c3)) :: vo (.slice A1 n1 c1) (.slice A2 n2 c2) (.slice A3 n3 c3) V L) := S3
  clear lc lf ls SS
  have SS3 := Lib.hid S3; clear S3
  go_wp2_with (at_builtin; go_must (refine wp_addB rfl _ _ rfl (SS3.out.skip _) 0 rfl rfl rfl (RB.lit _ _ [UInt8.ofNat 7] (B8.out) (by simp)) ?_ ?_); go_must (have := HB3.out; simp; omega))
  intro v2 w2 S4
  have S4 : St W w2 (ownB v2 (V.B ++ [UInt8.ofNat 7]) :: row (w.heap.size + 1 + 1) 40 (gA V.G (.slice A1 n1 c1)) :: row (w.heap.size + 1) 58 zeroVt :: row w.heap.size 58 (vA V (.slice A1 n1 c1) (.slice A2 n2 c2) (.slice A3 n3 c3)) :: vo (.slice A1 n1 c1) (.slice A2 n2 c2) (.slice A3 n3 c3) V L) := S4
  clear SS3
  obtain ⟨A6, c6, rfl, -⟩ := (S4.ownB 0 rfl).form
  obtain ⟨k6, hk6⟩ : ∃ k6, k6 = (V.B ++ [UInt8.ofNat 7]).length := ⟨_, rfl⟩
  obtain ⟨D, hD⟩ : ∃ D, D = V.B ++ [UInt8.ofNat 7] := ⟨_, rfl⟩
  rw [← hk6] at HDl S4 ⊢
  rw [← hD] at hk6 S4
  have HK6 := Lib.hid hk6; clear hk6 hD
  obtain ⟨lc, lf, ls⟩ := S4.cells 3 rfl
  have S5 : St W (w2.setCell ⟨w.heap.size, 8, none⟩ (.slice none 0 0)) (ownB (.slice A6 k6 c6) D :: row (w.heap.size + 1 + 1) 40 (gA V.G (.slice A1 n1 c1)) :: row (w.heap.size + 1) 58 zeroVt :: row w.heap.size 58 (vA V (.slice A1 n1 c1) (.slice A2 n2 c2) (.slice none 0 0)) :: vo (.slice A1 n1 c1) (.slice A2 n2 c2) (.slice A3 n3 c3) V L) := S4.setc 3 rfl 8 (.slice none 0 0)
  have hk4 : k6 ≤ 4 := HDl.out
  clear S4 HDl
  go_upto_region 4 with fail
  clear lc lf ls
  generalize w2.setCell ⟨w.heap.size, 8, none⟩ (.slice none 0 0) = w5 at *
  obtain ⟨lc, lf, ls⟩ := S5.cells 3 rfl
  obtain ⟨kc, kf, ks⟩ := S5.cells 1 rfl
  have HS5 := Lib.hid S5; clear S5
  go_wp2_with ((with_reducible refine wp_setA (k := 0) (u := .agg (vA { V with G := V.G, B := [], N := V.N } (.slice A1 n1 c1) (.slice A2 n2 c2) (.slice none 0 0))) (vA { V with G := V.G, B := [], N := V.N } (.slice A1 n1 c1) (.slice A2 n2 c2) (.slice none 0 0)) HS5.out 2 rfl ?_ ?_ ?_ ?_ ?_ ?_ ?_); go_must (exact rfl); go_must (exact rfl); go_must (kernel_rfl); go_must (kernel_rfl); go_must (exact Nat.le_of_ble_eq_true (by kernel_rfl)); go_must (kernel_rfl))
  intro w8 S8
  obtain ⟨mc, -, -⟩ := S8.cells 2 rfl
  go_wp2_with fail
  exact bodyPost_ret (v := .agg (vA { V with G := V.G, B := [], N := V.N } (.slice A1 n1 c1) (.slice A2 n2 c2) (.slice none 0 0))) (by simp [results, Tryd.results143, go_sem, mc]) rfl ⟨{ V with G := V.G, B := [], N := V.N }, _, _, _, _, _, _, _, _, _, rfl, vt_nilV HV.out HV.out.i.g HV.out.i.n, q_nil S8⟩
set_option maxRecDepth 100000 in
set_option maxHeartbeats 8000000 in
theorem spec_l09Plain_8 (V : VtS) (A1 A2 A3 : Option Addr) (n1 c1 n2 c2 n3 c3 : Nat) (W w : World) (L : List Pc) (S : St W w (vo (.slice A1 n1 c1) (.slice A2 n2 c2) (.slice A3 n3 c3) V L)) (hV : VtV V) (hS : V.S = 0) :
    Calls Tryd.prog 143 #[.agg (vA V (.slice A1 n1 c1) (.slice A2 n2 c2) (.slice A3 n3 c3)), .int .i64 8] w (VtAns W L) := by
  have S0 := ((S.alloc (vA V (.slice A1 n1 c1) (.slice A2 n2 c2) (.slice A3 n3 c3)) 58).alloc zeroVt 58).alloc (gA V.G (.slice A1 n1 c1)) 40
  simp only [World.size_alloc] at S0
  clear S
  have HV := Lib.hid hV; have HS := Lib.hid hS
  have hb3 := hV.i.b
  obtain ⟨d1, d2, d3, d4, -, -⟩ := gridOk_d hV.i.g
  obtain ⟨q1, q2, q3, q4, -⟩ := gridOk_c hV.i.g
  obtain ⟨hN0, hN1⟩ := hV.i.n
  clear hV hS
  have rp := (S0.ownB 5 rfl).rb
  have S2 := S0.newB (OwnB.emptyAt (b := w.heap.size + 1 + 1 + 1) (by simp) (Nat.le_refl _)) ((Ext.refl _).alloc (.cells #[] 5))
  have HRP := Lib.hid (rp.ext ((Ext.refl _).alloc (.cells #[] 5)))
  have hn3 : n3 ≤ 3 := by rw [← rp.len]; exact hb3
  have B8 := Lib.hid (byteC_of (k := 8) (by omega))
  obtain ⟨lc, lf, ls⟩ := S0.cells 2 rfl
  clear S0 rp
  have HB3 := Lib.hid hb3; clear hb3
  have SS := Lib.hid S2; clear S2
  have hDl : (V.B ++ [UInt8.ofNat 8]).length ≤ 4 := by rw [List.length_append]; have := HB3.out; simp; omega
  have HDl := Lib.hid hDl; clear hDl
  go_enter Tryd.func143, Tryd.ntmps143
  go_wp2_with (at_builtin; go_must (refine wp_addB rfl _ _ rfl SS.out 0 rfl rfl rfl HRP.out ?_ ?_); go_must (simp; omega))
  intro v1 w1 S3
  have S3 : St W w1 (ownB v1 V.B :: row (w.heap.size + 1 + 1) 40 (gA V.G (.slice A1 n1 c1)) :: row (w.heap.size + 1) 58 zeroVt :: row w.heap.size 58 (vA V (.slice A1 n1 c1) (.slice A2 n2 c2) (.slice A3 n3 c3)) :: vo (.slice A1 n1 c1) (.slice A2 n2 c2) (.slice A3 n3 c3) V L) := S3
  clear lc lf ls SS
  have SS3 := Lib.hid S3; clear S3
  go_wp2_with (at_builtin; go_must (refine wp_addB rfl _ _ rfl (SS3.out.skip _) 0 rfl rfl rfl (RB.lit _ _ [UInt8.ofNat 8] (B8.out) (by simp)) ?_ ?_); go_must (have := HB3.out; simp; omega))
  intro v2 w2 S4
  have S4 : St W w2 (ownB v2 (V.B ++ [UInt8.ofNat 8]) :: row (w.heap.size + 1 + 1) 40 (gA V.G (.slice A1 n1 c1)) :: row (w.heap.size + 1) 58 zeroVt :: row w.heap.size 58 (vA V (.slice A1 n1 c1) (.slice A2 n2 c2) (.slice A3 n3 c3)) :: vo (.slice A1 n1 c1) (.slice A2 n2 c2) (.slice A3 n3 c3) V L) := S4
  clear SS3
  obtain ⟨A6, c6, rfl, -⟩ := (S4.ownB 0 rfl).form
  obtain ⟨k6, hk6⟩ : ∃ k6, k6 = (V.B ++ [UInt8.ofNat 8]).length := ⟨_, rfl⟩
  obtain ⟨D, hD⟩ : ∃ D, D = V.B ++ [UInt8.ofNat 8] := ⟨_, rfl⟩
  rw [← hk6] at HDl S4 ⊢
  rw [← hD] at hk6 S4
  have HK6 := Lib.hid hk6; clear hk6 hD
  obtain ⟨lc, lf, ls⟩ := S4.cells 3 rfl
  have S5 : St W (w2.setCell ⟨w.heap.size, 8, none⟩ (.slice none 0 0)) (ownB (.slice A6 k6 c6) D :: row (w.heap.size + 1 + 1) 40 (gA V.G (.slice A1 n1 c1)) :: row (w.heap.size + 1) 58 zeroVt :: row w.heap.size 58 (vA V (.slice A1 n1 c1) (.slice A2 n2 c2) (.slice none 0 0)) :: vo (.slice A1 n1 c1) (.slice A2 n2 c2) (.slice A3 n3 c3) V L) := S4.setc 3 rfl 8 (.slice none 0 0)
  have hk4 : k6 ≤ 4 := HDl.out
  clear S4 HDl
  go_upto_region 4 with fail
  clear lc lf ls
  generalize w2.setCell ⟨w.heap.size, 8, none⟩ (.slice none 0 0) = w5 at *
  obtain ⟨lc, lf, ls⟩ := S5.cells 3 rfl
  obtain ⟨kc, kf, ks⟩ := S5.cells 1 rfl
  have HS5 := Lib.hid S5; clear S5
  go_wp2_with fail
  refine Calls.mono (spec_GridGo V.G _ _ _ (V.G.X - 1) V.G.Y _ ((HS5.out.ownI 4 rfl).ri) HV.out.i.g) ?_; rintro e w3 ⟨v3, rfl, own, x2⟩
  obtain ⟨A7, n7, c7, rfl⟩ := own.form'
  have S6 := HS5.out.newI own x2
  clear lc lf ls kc kf ks own x2 HS5
  go_wp2_with ((with_reducible refine wp_setA (k := 0) (u := .agg (gA (goG V.G (V.G.X - 1) V.G.Y) (.slice A7 n7 c7))) (vA { V with G := goG V.G (V.G.X - 1) V.G.Y, B := [] } (.slice A7 n7 c7) (.slice A2 n2 c2) (.slice none 0 0)) S6 4 rfl ?_ ?_ ?_ ?_ ?_ ?_ ?_); go_must (exact rfl); go_must (exact rfl); go_must (kernel_rfl); go_must (kernel_rfl); go_must (exact Nat.le_of_ble_eq_true (by kernel_rfl)); go_must (kernel_rfl))
  intro w7 S7
  obtain ⟨lc, lf, ls⟩ := S7.cells 4 rfl
  go_wp2_with ((with_reducible refine wp_setA (k := 0) (u := .agg (vA { V with G := goG V.G (V.G.X - 1) V.G.Y, B := [] } (.slice A7 n7 c7) (.slice A2 n2 c2) (.slice none 0 0))) (vA { V with G := goG V.G (V.G.X - 1) V.G.Y, B := [] } (.slice A7 n7 c7) (.slice A2 n2 c2) (.slice none 0 0)) S7 3 rfl ?_ ?_ ?_ ?_ ?_ ?_ ?_); go_must (exact rfl); go_must (exact rfl); go_must (kernel_rfl); go_must (kernel_rfl); go_must (exact Nat.le_of_ble_eq_true (by kernel_rfl)); go_must (kernel_rfl))
  intro w8 S8
  obtain ⟨mc, -, -⟩ := S8.cells 3 rfl
  go_wp2_with fail
  exact bodyPost_ret (v := .agg (vA { V with G := goG V.G (V.G.X - 1) V.G.Y, B := [] } (.slice A7 n7 c7) (.slice A2 n2 c2) (.slice none 0 0))) (by simp [results, Tryd.results143, go_sem, mc]) rfl ⟨{ V with G := goG V.G (V.G.X - 1) V.G.Y, B := [] }, _, _, _, _, _, _, _, _, _, rfl, vt_nilV HV.out (goG_ok HV.out.i.g _ _) HV.out.i.n, q_new S8⟩
set_option maxRecDepth 100000 in
set_option maxHeartbeats 8000000 in
theorem spec_l09Plain_13 (V : VtS) (A1 A2 A3 : Option Addr) (n1 c1 n2 c2 n3 c3 : Nat) (W w : World) (L : List Pc) (S : St W w (vo (.slice A1 n1 c1) (.slice A2 n2 c2) (.slice A3 n3 c3) V L)) (hV : VtV V) (hS : V.S = 0) :
    Calls Tryd.prog 143 #[.agg (vA V (.slice A1 n1 c1) (.slice A2 n2 c2) (.slice A3 n3 c3)), .int .i64 13] w (VtAns W L) := by
  have S0 := ((S.alloc (vA V (.slice A1 n1 c1) (.slice A2 n2 c2) (.slice A3 n3 c3)) 58).alloc zeroVt 58).alloc (gA V.G (.slice A1 n1 c1)) 40
  simp only [World.size_alloc] at S0
  clear S
  have HV := Lib.hid hV; have HS := Lib.hid hS
  have hb3 := hV.i.b
  obtain ⟨d1, d2, d3, d4, -, -⟩ := gridOk_d hV.i.g
  obtain ⟨q1, q2, q3, q4, -⟩ := gridOk_c hV.i.g
  obtain ⟨hN0, hN1⟩ := hV.i.n
  clear hV hS
  have rp := (S0.ownB 5 rfl).rb
  have S2 := S0.newB (OwnB.emptyAt (b := w.heap.size + 1 + 1 + 1) (by simp) (Nat.le_refl _)) ((Ext.refl _).alloc (.cells #[] 5))
  have HRP := Lib.hid (rp.ext ((Ext.refl _).alloc (.cells #[] 5)))
  have hn3 : n3 ≤ 3 := by rw [← rp.len]; exact hb3
  have B8 := Lib.hid (byteC_of (k := 13) (by omega))
  obtain ⟨lc, lf, ls⟩ := S0.cells 2 rfl
  clear S0 rp
  have HB3 := Lib.hid hb3; clear hb3
  have SS := Lib.hid S2; clear S2
  have hDl : (V.B ++ [UInt8.ofNat 13]).length ≤ 4 := by rw [List.length_append]; have := HB3.out; simp; omega
  have HDl := Lib.hid hDl; clear hDl
  go_enter Tryd.func143, Tryd.ntmps143
  go_wp2_with (at_builtin; go_must (refine wp_addB rfl _ _ rfl SS.out 0 rfl rfl rfl HRP.out ?_ ?_); go_must (simp; omega))
  intro v1 w1 S3
  have S3 : St W w1 (ownB v1 V.B :: row (w.heap.size + 1 + 1) 40 (gA V.G (.slice A1 n1 c1)) :: row (w.heap.size + 1) 58 zeroVt :: row w.heap.size 58 (vA V (.slice A1 n1 c1) (.slice A2 n2 c2) (.slice A3 n3 c3)) :: vo (.slice A1 n1 c1) (.slice A2 n2 c2) (.slice A3 n3 c3) V L) := S3
  clear lc lf ls SS
  have SS3 := Lib.hid S3; clear S3
  go_wp2_with (at_builtin; go_must (refine wp_addB rfl _ _ rfl (SS3.out.skip _) 0 rfl rfl rfl (RB.lit _ _ [UInt8.ofNat 13] (B8.out) (by simp)) ?_ ?_); go_must (have := HB3.out; simp; omega))
  intro v2 w2 S4
  have S4 : St W w2 (ownB v2 (V.B ++ [UInt8.ofNat 13]) :: row (w.heap.size + 1 + 1) 40 (gA V.G (.slice A1 n1 c1)) :: row (w.heap.size + 1) 58 zeroVt :: row w.heap.size 58 (vA V (.slice A1 n1 c1) (.slice A2 n2 c2) (.slice A3 n3 c3)) :: vo (.slice A1 n1 c1) (.slice A2 n2 c2) (.slice A3 n3 c3) V L) := S4
  clear SS3
  obtain ⟨A6, c6, rfl, -⟩ := (S4.ownB 0 rfl).form
  obtain ⟨k6, hk6⟩ : ∃ k6, k6 = (V.B ++ [UInt8.ofNat 13]).length := ⟨_, rfl⟩
  obtain ⟨D, hD⟩ : ∃ D, D = V.B ++ [UInt8.ofNat 13] := ⟨_, rfl⟩
  rw [← hk6] at HDl S4 ⊢
  rw [← hD] at hk6 S4
  have HK6 := Lib.hid hk6; clear hk6 hD
  obtain ⟨lc, lf, ls⟩ := S4.cells 3 rfl
  have S5 : St W (w2.setCell ⟨w.heap.size, 8, none⟩ (.slice none 0 0)) (ownB (.slice A6 k6 c6) D :: row (w.heap.size + 1 + 1) 40 (gA V.G (.slice A1 n1 c1)) :: row (w.heap.size + 1) 58 zeroVt :: row w.heap.size 58 (vA V (.slice A1 n1 c1) (.slice A2 n2 c2) (.slice none 0 0)) :: vo (.slice A1 n1 c1) (.slice A2 n2 c2) (.slice A3 n3 c3) V L) := S4.setc 3 rfl 8 (.slice none 0 0)
  have hk4 : k6 ≤ 4 := HDl.out
  clear S4 HDl
  go_upto_region 4 with fail
  clear lc lf ls
  generalize w2.setCell ⟨w.heap.size, 8, none⟩ (.slice none 0 0) = w5 at *
  obtain ⟨lc, lf, ls⟩ := S5.cells 3 rfl
  obtain ⟨kc, kf, ks⟩ := S5.cells 1 rfl
  have HS5 := Lib.hid S5; clear S5
  go_wp2_with fail
  refine Calls.mono (spec_GridGo V.G _ _ _ 0 V.G.Y _ ((HS5.out.ownI 4 rfl).ri) HV.out.i.g) ?_; rintro e w3 ⟨v3, rfl, own, x2⟩
  obtain ⟨A7, n7, c7, rfl⟩ := own.form'
  have S6 := HS5.out.newI own x2
  clear lc lf ls kc kf ks own x2 HS5
  go_wp2_with ((with_reducible refine wp_setA (k := 0) (u := .agg (gA (goG V.G 0 V.G.Y) (.slice A7 n7 c7))) (vA { V with G := goG V.G 0 V.G.Y, B := [] } (.slice A7 n7 c7) (.slice A2 n2 c2) (.slice none 0 0)) S6 4 rfl ?_ ?_ ?_ ?_ ?_ ?_ ?_); go_must (exact rfl); go_must (exact rfl); go_must (kernel_rfl); go_must (kernel_rfl); go_must (exact Nat.le_of_ble_eq_true (by kernel_rfl)); go_must (kernel_rfl))
  intro w7 S7
  obtain ⟨lc, lf, ls⟩ := S7.cells 4 rfl
  go_wp2_with ((with_reducible refine wp_setA (k := 0) (u := .agg (vA { V with G := goG V.G 0 V.G.Y, B := [] } (.slice A7 n7 c7) (.slice A2 n2 c2) (.slice none 0 0))) (vA { V with G := goG V.G 0 V.G.Y, B := [] } (.slice A7 n7 c7) (.slice A2 n2 c2) (.slice none 0 0)) S7 3 rfl ?_ ?_ ?_ ?_ ?_ ?_ ?_); go_must (exact rfl); go_must (exact rfl); go_must (kernel_rfl); go_must (kernel_rfl); go_must (exact Nat.le_of_ble_eq_true (by kernel_rfl)); go_must (kernel_rfl))
  intro w8 S8
  obtain ⟨mc, -, -⟩ := S8.cells 3 rfl
  go_wp2_with fail
  exact bodyPost_ret (v := .agg (vA { V with G := goG V.G 0 V.G.Y, B := [] } (.slice A7 n7 c7) (.slice A2 n2 c2) (.slice none 0 0))) (by simp [results, Tryd.results143, go_sem, mc]) rfl ⟨{ V with G := goG V.G 0 V.G.Y, B := [] }, _, _, _, _, _, _, _, _, _, rfl, vt_nilV HV.out (goG_ok HV.out.i.g _ _) HV.out.i.n, q_new S8⟩
set_option maxRecDepth 100000 in
set_option maxHeartbeats 8000000 in
theorem spec_l09Plain_10n (V : VtS) (A1 A2 A3 : Option Addr) (n1 c1 n2 c2 n3 c3 : Nat) (W w : World) (L : List Pc) (S : St W w (vo (.slice A1 n1 c1) (.slice A2 n2 c2) (.slice A3 n3 c3) V L)) (hV : VtV V) (hS : V.S = 0) (hy : V.G.Y ≠ V.G.H - 1) :
    Calls Tryd.prog 143 #[.agg (vA V (.slice A1 n1 c1) (.slice A2 n2 c2) (.slice A3 n3 c3)), .int .i64 10] w (VtAns W L) := by
  have hyb : (V.G.Y == V.G.H - 1) = false := by simpa using hy
  have HY := Lib.hid hy; clear hy
  have S0 := ((S.alloc (vA V (.slice A1 n1 c1) (.slice A2 n2 c2) (.slice A3 n3 c3)) 58).alloc zeroVt 58).alloc (gA V.G (.slice A1 n1 c1)) 40
  simp only [World.size_alloc] at S0
  clear S
  have HV := Lib.hid hV; have HS := Lib.hid hS
  have hb3 := hV.i.b
  obtain ⟨d1, d2, d3, d4, -, -⟩ := gridOk_d hV.i.g
  obtain ⟨q1, q2, q3, q4, -⟩ := gridOk_c hV.i.g
  obtain ⟨hN0, hN1⟩ := hV.i.n
  clear hV hS
  have rp := (S0.ownB 5 rfl).rb
  have S2 := S0.newB (OwnB.emptyAt (b := w.heap.size + 1 + 1 + 1) (by simp) (Nat.le_refl _)) ((Ext.refl _).alloc (.cells #[] 5))
  have HRP := Lib.hid (rp.ext ((Ext.refl _).alloc (.cells #[] 5)))
  have hn3 : n3 ≤ 3 := by rw [← rp.len]; exact hb3
  have B8 := Lib.hid (byteC_of (k := 10) (by omega))
  obtain ⟨lc, lf, ls⟩ := S0.cells 2 rfl
  clear S0 rp
  have HB3 := Lib.hid hb3; clear hb3
  have SS := Lib.hid S2; clear S2
  have hDl : (V.B ++ [UInt8.ofNat 10]).length ≤ 4 := by rw [List.length_append]; have := HB3.out; simp; omega
  have HDl := Lib.hid hDl; clear hDl
  go_enter Tryd.func143, Tryd.ntmps143
  go_wp2_with (at_builtin; go_must (refine wp_addB rfl _ _ rfl SS.out 0 rfl rfl rfl HRP.out ?_ ?_); go_must (simp; omega))
  intro v1 w1 S3
  have S3 : St W w1 (ownB v1 V.B :: row (w.heap.size + 1 + 1) 40 (gA V.G (.slice A1 n1 c1)) :: row (w.heap.size + 1) 58 zeroVt :: row w.heap.size 58 (vA V (.slice A1 n1 c1) (.slice A2 n2 c2) (.slice A3 n3 c3)) :: vo (.slice A1 n1 c1) (.slice A2 n2 c2) (.slice A3 n3 c3) V L) := S3
  clear lc lf ls SS
  have SS3 := Lib.hid S3; clear S3
  go_wp2_with (at_builtin; go_must (refine wp_addB rfl _ _ rfl (SS3.out.skip _) 0 rfl rfl rfl (RB.lit _ _ [UInt8.ofNat 10] (B8.out) (by simp)) ?_ ?_); go_must (have := HB3.out; simp; omega))
  intro v2 w2 S4
  have S4 : St W w2 (ownB v2 (V.B ++ [UInt8.ofNat 10]) :: row (w.heap.size + 1 + 1) 40 (gA V.G (.slice A1 n1 c1)) :: row (w.heap.size + 1) 58 zeroVt :: row w.heap.size 58 (vA V (.slice A1 n1 c1) (.slice A2 n2 c2) (.slice A3 n3 c3)) :: vo (.slice A1 n1 c1) (.slice A2 n2 c2) (.slice A3 n3 c3) V L) := S4
  clear SS3
  obtain ⟨A6, c6, rfl, -⟩ := (S4.ownB 0 rfl).form
  obtain ⟨k6, hk6⟩ : ∃ k6, k6 = (V.B ++ [UInt8.ofNat 10]).length := ⟨_, rfl⟩
  obtain ⟨D, hD⟩ : ∃ D, D = V.B ++ [UInt8.ofNat 10] := ⟨_, rfl⟩
  rw [← hk6] at HDl S4 ⊢
  rw [← hD] at hk6 S4
  have HK6 := Lib.hid hk6; clear hk6 hD
  obtain ⟨lc, lf, ls⟩ := S4.cells 3 rfl
  have S5 : St W (w2.setCell ⟨w.heap.size, 8, none⟩ (.slice none 0 0)) (ownB (.slice A6 k6 c6) D :: row (w.heap.size + 1 + 1) 40 (gA V.G (.slice A1 n1 c1)) :: row (w.heap.size + 1) 58 zeroVt :: row w.heap.size 58 (vA V (.slice A1 n1 c1) (.slice A2 n2 c2) (.slice none 0 0)) :: vo (.slice A1 n1 c1) (.slice A2 n2 c2) (.slice A3 n3 c3) V L) := S4.setc 3 rfl 8 (.slice none 0 0)
  have hk4 : k6 ≤ 4 := HDl.out
  clear S4 HDl
  go_upto_region 4 with fail
  clear lc lf ls
  generalize w2.setCell ⟨w.heap.size, 8, none⟩ (.slice none 0 0) = w5 at *
  obtain ⟨lc, lf, ls⟩ := S5.cells 3 rfl
  obtain ⟨kc, kf, ks⟩ := S5.cells 1 rfl
  have HS5 := Lib.hid S5; clear S5
  go_wp2_with fail
  refine Calls.mono (spec_GridGo V.G _ _ _ V.G.X (V.G.Y + 1) _ ((HS5.out.ownI 4 rfl).ri) HV.out.i.g) ?_; rintro e w3 ⟨v3, rfl, own, x2⟩
  obtain ⟨A7, n7, c7, rfl⟩ := own.form'
  have S6 := HS5.out.newI own x2
  clear lc lf ls kc kf ks own x2 HS5
  go_wp2_with ((with_reducible refine wp_setA (k := 0) (u := .agg (gA (goG V.G V.G.X (V.G.Y + 1)) (.slice A7 n7 c7))) (vA { V with G := goG V.G V.G.X (V.G.Y + 1), B := [] } (.slice A7 n7 c7) (.slice A2 n2 c2) (.slice none 0 0)) S6 4 rfl ?_ ?_ ?_ ?_ ?_ ?_ ?_); go_must (exact rfl); go_must (exact rfl); go_must (kernel_rfl); go_must (kernel_rfl); go_must (exact Nat.le_of_ble_eq_true (by kernel_rfl)); go_must (kernel_rfl))
  intro w7 S7
  obtain ⟨lc, lf, ls⟩ := S7.cells 4 rfl
  go_wp2_with ((with_reducible refine wp_setA (k := 0) (u := .agg (vA { V with G := goG V.G V.G.X (V.G.Y + 1), B := [] } (.slice A7 n7 c7) (.slice A2 n2 c2) (.slice none 0 0))) (vA { V with G := goG V.G V.G.X (V.G.Y + 1), B := [] } (.slice A7 n7 c7) (.slice A2 n2 c2) (.slice none 0 0)) S7 3 rfl ?_ ?_ ?_ ?_ ?_ ?_ ?_); go_must (exact rfl); go_must (exact rfl); go_must (kernel_rfl); go_must (kernel_rfl); go_must (exact Nat.le_of_ble_eq_true (by kernel_rfl)); go_must (kernel_rfl))
  intro w8 S8
  obtain ⟨mc, -, -⟩ := S8.cells 3 rfl
  go_wp2_with fail
  exact bodyPost_ret (v := .agg (vA { V with G := goG V.G V.G.X (V.G.Y + 1), B := [] } (.slice A7 n7 c7) (.slice A2 n2 c2) (.slice none 0 0))) (by simp [results, Tryd.results143, go_sem, mc]) rfl ⟨{ V with G := goG V.G V.G.X (V.G.Y + 1), B := [] }, _, _, _, _, _, _, _, _, _, rfl, vt_nilV HV.out (goG_ok HV.out.i.g _ _) HV.out.i.n, q_new S8⟩
set_option maxRecDepth 100000 in
set_option maxHeartbeats 8000000 in
theorem spec_l09Plain_10y (V : VtS) (A1 A2 A3 : Option Addr) (n1 c1 n2 c2 n3 c3 : Nat) (W w : World) (L : List Pc) (S : St W w (vo (.slice A1 n1 c1) (.slice A2 n2 c2) (.slice A3 n3 c3) V L)) (hV : VtV V) (hS : V.S = 0) (hy : V.G.Y = V.G.H - 1) :
    Calls Tryd.prog 143 #[.agg (vA V (.slice A1 n1 c1) (.slice A2 n2 c2) (.slice A3 n3 c3)), .int .i64 10] w (VtAns W L) := by
  have hyb : (V.G.Y == V.G.H - 1) = true := by simpa using hy
  have HY := Lib.hid hy; clear hy
  have S0 := ((S.alloc (vA V (.slice A1 n1 c1) (.slice A2 n2 c2) (.slice A3 n3 c3)) 58).alloc zeroVt 58).alloc (gA V.G (.slice A1 n1 c1)) 40
  simp only [World.size_alloc] at S0
  clear S
  have HV := Lib.hid hV; have HS := Lib.hid hS
  have hb3 := hV.i.b
  obtain ⟨d1, d2, d3, d4, -, -⟩ := gridOk_d hV.i.g
  obtain ⟨q1, q2, q3, q4, -⟩ := gridOk_c hV.i.g
  obtain ⟨hN0, hN1⟩ := hV.i.n
  clear hV hS
  have rp := (S0.ownB 5 rfl).rb
  have S2 := S0.newB (OwnB.emptyAt (b := w.heap.size + 1 + 1 + 1) (by simp) (Nat.le_refl _)) ((Ext.refl _).alloc (.cells #[] 5))
  have HRP := Lib.hid (rp.ext ((Ext.refl _).alloc (.cells #[] 5)))
  have hn3 : n3 ≤ 3 := by rw [← rp.len]; exact hb3
  have B8 := Lib.hid (byteC_of (k := 10) (by omega))
  obtain ⟨lc, lf, ls⟩ := S0.cells 2 rfl
  clear S0 rp
  have HB3 := Lib.hid hb3; clear hb3
  have SS := Lib.hid S2; clear S2
  have hDl : (V.B ++ [UInt8.ofNat 10]).length ≤ 4 := by rw [List.length_append]; have := HB3.out; simp; omega
  have HDl := Lib.hid hDl; clear hDl
  go_enter Tryd.func143, Tryd.ntmps143
  go_wp2_with (at_builtin; go_must (refine wp_addB rfl _ _ rfl SS.out 0 rfl rfl rfl HRP.out ?_ ?_); go_must (simp; omega))
  intro v1 w1 S3
  have S3 : St W w1 (ownB v1 V.B :: row (w.heap.size + 1 + 1) 40 (gA V.G (.slice A1 n1 c1)) :: row (w.heap.size + 1) 58 zeroVt :: row w.heap.size 58 (vA V (.slice A1 n1 c1) (.slice A2 n2 c2) (.slice A3 n3 c3)) :: vo (.slice A1 n1 c1) (.slice A2 n2 c2) (.slice A3 n3 c3) V L) := S3
  clear lc lf ls SS
  have SS3 := Lib.hid S3; clear S3
  go_wp2_with (at_builtin; go_must (refine wp_addB rfl _ _ rfl (SS3.out.skip _) 0 rfl rfl rfl (RB.lit _ _ [UInt8.ofNat 10] (B8.out) (by simp)) ?_ ?_); go_must (have := HB3.out; simp; omega))
  intro v2 w2 S4
  have S4 : St W w2 (ownB v2 (V.B ++ [UInt8.ofNat 10]) :: row (w.heap.size + 1 + 1) 40 (gA V.G (.slice A1 n1 c1)) :: row (w.heap.size + 1) 58 zeroVt :: row w.heap.size 58 (vA V (.slice A1 n1 c1) (.slice A2 n2 c2) (.slice A3 n3 c3)) :: vo (.slice A1 n1 c1) (.slice A2 n2 c2) (.slice A3 n3 c3) V L) := S4
  clear SS3
  obtain ⟨A6, c6, rfl, -⟩ := (S4.ownB 0 rfl).form
  obtain ⟨k6, hk6⟩ : ∃ k6, k6 = (V.B ++ [UInt8.ofNat 10]).length := ⟨_, rfl⟩
  obtain ⟨D, hD⟩ : ∃ D, D = V.B ++ [UInt8.ofNat 10] := ⟨_, rfl⟩
  rw [← hk6] at HDl S4 ⊢
  rw [← hD] at hk6 S4
  have HK6 := Lib.hid hk6; clear hk6 hD
  obtain ⟨lc, lf, ls⟩ := S4.cells 3 rfl
  have S5 : St W (w2.setCell ⟨w.heap.size, 8, none⟩ (.slice none 0 0)) (ownB (.slice A6 k6 c6) D :: row (w.heap.size + 1 + 1) 40 (gA V.G (.slice A1 n1 c1)) :: row (w.heap.size + 1) 58 zeroVt :: row w.heap.size 58 (vA V (.slice A1 n1 c1) (.slice A2 n2 c2) (.slice none 0 0)) :: vo (.slice A1 n1 c1) (.slice A2 n2 c2) (.slice A3 n3 c3) V L) := S4.setc 3 rfl 8 (.slice none 0 0)
  have hk4 : k6 ≤ 4 := HDl.out
  clear S4 HDl
  go_upto_region 4 with fail
  clear lc lf ls
  generalize w2.setCell ⟨w.heap.size, 8, none⟩ (.slice none 0 0) = w5 at *
  obtain ⟨lc, lf, ls⟩ := S5.cells 3 rfl
  obtain ⟨kc, kf, ks⟩ := S5.cells 1 rfl
  have HS5 := Lib.hid S5; clear S5
  go_wp2_with fail
  refine Calls.mono (spec_GridScroll V.G _ _ _ _ ((HS5.out.ownI 4 rfl).ri) HV.out.i.g) ?_; rintro e w3 ⟨v3, rfl, own3, x3⟩
  obtain ⟨A9, n9, c9, rfl⟩ := own3.form'
  have S9 := HS5.out.newI own3 x3
  clear lc lf ls kc kf ks own3 x3 HS5
  go_wp2_with ((with_reducible refine wp_setA (k := 0) (u := .agg (gA V.G (.slice A9 n9 c9))) (gA V.G (.slice A9 n9 c9)) S9 2 rfl ?_ ?_ ?_ ?_ ?_ ?_ ?_); go_must (exact rfl); go_must (exact rfl); go_must (kernel_rfl); go_must (kernel_rfl); go_must (exact Nat.le_of_ble_eq_true (by kernel_rfl)); go_must (kernel_rfl))
  intro w9 S9b
  have S9c : St W w9 (ownB (.slice A6 k6 c6) D :: row (w.heap.size + 1 + 1) 40 (gA V.G (.slice A9 n9 c9)) :: row (w.heap.size + 1) 58 zeroVt :: row w.heap.size 58 (vA V (.slice A1 n1 c1) (.slice A2 n2 c2) (.slice none 0 0)) :: ownI (.slice A9 n9 c9) (scrollG V.G).C :: ownI (.slice A2 n2 c2) V.P :: ownB (.slice A3 n3 c3) V.B :: L) := by
    have h := (S9b.bring 5 rfl).drop
    exact (((h.bring 4 rfl).bring 4 rfl).bring 4 rfl).bring 4 rfl
  clear S9 S9b
  obtain ⟨lc, lf, ls⟩ := S9c.cells 3 rfl
  obtain ⟨kc, kf, ks⟩ := S9c.cells 1 rfl
  have HS5 := Lib.hid S9c; clear S9c
  have HG := Lib.hid (scrollG_ok HV.out.i.g)
  go_wp2_with fail
  refine Calls.mono (spec_GridGo (scrollG V.G) _ _ _ V.G.X (V.G.Y + 1) _ ((HS5.out.ownI 4 rfl).ri) HG.out) ?_; rintro e w3 ⟨v3, rfl, own, x2⟩
  obtain ⟨A7, n7, c7, rfl⟩ := own.form'
  have S6 := HS5.out.newI own x2
  clear lc lf ls kc kf ks own x2 HS5
  go_wp2_with ((with_reducible refine wp_setA (k := 0) (u := .agg (gA (goG (scrollG V.G) V.G.X (V.G.Y + 1)) (.slice A7 n7 c7))) (vA { V with G := goG (scrollG V.G) V.G.X (V.G.Y + 1), B := [] } (.slice A7 n7 c7) (.slice A2 n2 c2) (.slice none 0 0)) S6 4 rfl ?_ ?_ ?_ ?_ ?_ ?_ ?_); go_must (exact rfl); go_must (exact rfl); go_must (kernel_rfl); go_must (kernel_rfl); go_must (exact Nat.le_of_ble_eq_true (by kernel_rfl)); go_must (kernel_rfl))
  intro w7 S7
  obtain ⟨lc, lf, ls⟩ := S7.cells 4 rfl
  go_wp2_with ((with_reducible refine wp_setA (k := 0) (u := .agg (vA { V with G := goG (scrollG V.G) V.G.X (V.G.Y + 1), B := [] } (.slice A7 n7 c7) (.slice A2 n2 c2) (.slice none 0 0))) (vA { V with G := goG (scrollG V.G) V.G.X (V.G.Y + 1), B := [] } (.slice A7 n7 c7) (.slice A2 n2 c2) (.slice none 0 0)) S7 3 rfl ?_ ?_ ?_ ?_ ?_ ?_ ?_); go_must (exact rfl); go_must (exact rfl); go_must (kernel_rfl); go_must (kernel_rfl); go_must (exact Nat.le_of_ble_eq_true (by kernel_rfl)); go_must (kernel_rfl))
  intro w8 S8
  obtain ⟨mc, -, -⟩ := S8.cells 3 rfl
  go_wp2_with fail
  exact bodyPost_ret (v := .agg (vA { V with G := goG (scrollG V.G) V.G.X (V.G.Y + 1), B := [] } (.slice A7 n7 c7) (.slice A2 n2 c2) (.slice none 0 0))) (by simp [results, Tryd.results143, go_sem, mc]) rfl ⟨{ V with G := goG (scrollG V.G) V.G.X (V.G.Y + 1), B := [] }, _, _, _, _, _, _, _, _, _, rfl, vt_nilV HV.out (goG_ok HG.out _ _) HV.out.i.n, q_new S8⟩
set_option maxRecDepth 100000 in
set_option maxHeartbeats 8000000 in
theorem spec_l09Plain_27 (V : VtS) (A1 A2 A3 : Option Addr) (n1 c1 n2 c2 n3 c3 : Nat) (W w : World) (L : List Pc) (S : St W w (vo (.slice A1 n1 c1) (.slice A2 n2 c2) (.slice A3 n3 c3) V L)) (hV : VtV V) (hS : V.S = 0) :
    Calls Tryd.prog 143 #[.agg (vA V (.slice A1 n1 c1) (.slice A2 n2 c2) (.slice A3 n3 c3)), .int .i64 27] w (VtAns W L) := by
  have S0 := ((S.alloc (vA V (.slice A1 n1 c1) (.slice A2 n2 c2) (.slice A3 n3 c3)) 58).alloc zeroVt 58).alloc (gA V.G (.slice A1 n1 c1)) 40
  simp only [World.size_alloc] at S0
  clear S
  have HV := Lib.hid hV; have HS := Lib.hid hS
  have hb3 := hV.i.b
  obtain ⟨d1, d2, d3, d4, -, -⟩ := gridOk_d hV.i.g
  obtain ⟨q1, q2, q3, q4, -⟩ := gridOk_c hV.i.g
  obtain ⟨hN0, hN1⟩ := hV.i.n
  clear hV hS
  have rp := (S0.ownB 5 rfl).rb
  have S2 := S0.newB (OwnB.emptyAt (b := w.heap.size + 1 + 1 + 1) (by simp) (Nat.le_refl _)) ((Ext.refl _).alloc (.cells #[] 5))
  have HRP := Lib.hid (rp.ext ((Ext.refl _).alloc (.cells #[] 5)))
  have hn3 : n3 ≤ 3 := by rw [← rp.len]; exact hb3
  have B8 := Lib.hid (byteC_of (k := 27) (by omega))
  obtain ⟨lc, lf, ls⟩ := S0.cells 2 rfl
  clear S0 rp
  have HB3 := Lib.hid hb3; clear hb3
  have SS := Lib.hid S2; clear S2
  have hDl : (V.B ++ [UInt8.ofNat 27]).length ≤ 4 := by rw [List.length_append]; have := HB3.out; simp; omega
  have HDl := Lib.hid hDl; clear hDl
  go_enter Tryd.func143, Tryd.ntmps143
  go_wp2_with (at_builtin; go_must (refine wp_addB rfl _ _ rfl SS.out 0 rfl rfl rfl HRP.out ?_ ?_); go_must (simp; omega))
  intro v1 w1 S3
  have S3 : St W w1 (ownB v1 V.B :: row (w.heap.size + 1 + 1) 40 (gA V.G (.slice A1 n1 c1)) :: row (w.heap.size + 1) 58 zeroVt :: row w.heap.size 58 (vA V (.slice A1 n1 c1) (.slice A2 n2 c2) (.slice A3 n3 c3)) :: vo (.slice A1 n1 c1) (.slice A2 n2 c2) (.slice A3 n3 c3) V L) := S3
  clear lc lf ls SS
  have SS3 := Lib.hid S3; clear S3
  go_wp2_with (at_builtin; go_must (refine wp_addB rfl _ _ rfl (SS3.out.skip _) 0 rfl rfl rfl (RB.lit _ _ [UInt8.ofNat 27] (B8.out) (by simp)) ?_ ?_); go_must (have := HB3.out; simp; omega))
  intro v2 w2 S4
  have S4 : St W w2 (ownB v2 (V.B ++ [UInt8.ofNat 27]) :: row (w.heap.size + 1 + 1) 40 (gA V.G (.slice A1 n1 c1)) :: row (w.heap.size + 1) 58 zeroVt :: row w.heap.size 58 (vA V (.slice A1 n1 c1) (.slice A2 n2 c2) (.slice A3 n3 c3)) :: vo (.slice A1 n1 c1) (.slice A2 n2 c2) (.slice A3 n3 c3) V L) := S4
  clear SS3
  obtain ⟨A6, c6, rfl, -⟩ := (S4.ownB 0 rfl).form
  obtain ⟨k6, hk6⟩ : ∃ k6, k6 = (V.B ++ [UInt8.ofNat 27]).length := ⟨_, rfl⟩
  obtain ⟨D, hD⟩ : ∃ D, D = V.B ++ [UInt8.ofNat 27] := ⟨_, rfl⟩
  rw [← hk6] at HDl S4 ⊢
  rw [← hD] at hk6 S4
  have HK6 := Lib.hid hk6; clear hk6 hD
  obtain ⟨lc, lf, ls⟩ := S4.cells 3 rfl
  have S5 : St W (w2.setCell ⟨w.heap.size, 8, none⟩ (.slice none 0 0)) (ownB (.slice A6 k6 c6) D :: row (w.heap.size + 1 + 1) 40 (gA V.G (.slice A1 n1 c1)) :: row (w.heap.size + 1) 58 zeroVt :: row w.heap.size 58 (vA V (.slice A1 n1 c1) (.slice A2 n2 c2) (.slice none 0 0)) :: vo (.slice A1 n1 c1) (.slice A2 n2 c2) (.slice A3 n3 c3) V L) := S4.setc 3 rfl 8 (.slice none 0 0)
  have hk4 : k6 ≤ 4 := HDl.out
  clear S4 HDl
  go_upto_region 4 with fail
  clear lc lf ls
  generalize w2.setCell ⟨w.heap.size, 8, none⟩ (.slice none 0 0) = w5 at *
  obtain ⟨lc, lf, ls⟩ := S5.cells 3 rfl
  obtain ⟨kc, kf, ks⟩ := S5.cells 1 rfl
  have HS5 := Lib.hid S5; clear S5
  have S6 := HS5.out.setc 3 rfl 6 (.int .i64 1)
  go_wp2_with ((with_reducible refine wp_setA (k := 0) (u := .agg (vA { V with S := 1, B := [] } (.slice A1 n1 c1) (.slice A2 n2 c2) (.slice none 0 0))) (vA { V with S := 1, B := [] } (.slice A1 n1 c1) (.slice A2 n2 c2) (.slice none 0 0)) S6 2 rfl ?_ ?_ ?_ ?_ ?_ ?_ ?_); go_must (exact rfl); go_must (exact rfl); go_must (kernel_rfl); go_must (kernel_rfl); go_must (exact Nat.le_of_ble_eq_true (by kernel_rfl)); go_must (kernel_rfl))
  intro w8 S8
  obtain ⟨mc, -, -⟩ := S8.cells 2 rfl
  go_wp2_with fail
  exact bodyPost_ret (v := .agg (vA { V with S := 1, B := [] } (.slice A1 n1 c1) (.slice A2 n2 c2) (.slice none 0 0))) (by simp [results, Tryd.results143, go_sem, mc]) rfl ⟨{ V with S := 1, B := [] }, _, _, _, _, _, _, _, _, _, rfl, vt_escV HV.out HS.out, q_nil S8⟩
set_option maxRecDepth 100000 in
set_option maxHeartbeats 8000000 in
theorem spec_l09Plain_put (V : VtS) (A1 A2 A3 : Option Addr) (n1 c1 n2 c2 n3 c3 : Nat) (b : Nat) (W w : World) (L : List Pc) (S : St W w (vo (.slice A1 n1 c1) (.slice A2 n2 c2) (.slice A3 n3 c3) V L)) (hV : VtV V) (hS : V.S = 0) (h0 : 32 ≤ b) (h1 : b ≤ 126) :
    Calls Tryd.prog 143 #[.agg (vA V (.slice A1 n1 c1) (.slice A2 n2 c2) (.slice A3 n3 c3)), .int .i64 b] w (VtAns W L) := by
  have S0 := ((S.alloc (vA V (.slice A1 n1 c1) (.slice A2 n2 c2) (.slice A3 n3 c3)) 58).alloc zeroVt 58).alloc (gA V.G (.slice A1 n1 c1)) 40
  simp only [World.size_alloc] at S0
  clear S
  have HV := Lib.hid hV; have HS := Lib.hid hS
  have hb3 := hV.i.b
  obtain ⟨d1, d2, d3, d4, -, -⟩ := gridOk_d hV.i.g
  obtain ⟨q1, q2, q3, q4, -⟩ := gridOk_c hV.i.g
  obtain ⟨hN0, hN1⟩ := hV.i.n
  clear hV hS
  have rp := (S0.ownB 5 rfl).rb
  have S2 := S0.newB (OwnB.emptyAt (b := w.heap.size + 1 + 1 + 1) (by simp) (Nat.le_refl _)) ((Ext.refl _).alloc (.cells #[] 5))
  have HRP := Lib.hid (rp.ext ((Ext.refl _).alloc (.cells #[] 5)))
  have hn3 : n3 ≤ 3 := by rw [← rp.len]; exact hb3
  have B8 := Lib.hid (byteC_of (k := b) (by omega))
  have hbw : IntKind.u8.wrap (b : Int) = (b : Int) := by rw [IntKind.wrap_u8]; omega
  obtain ⟨lc, lf, ls⟩ := S0.cells 2 rfl
  clear S0 rp
  have HB3 := Lib.hid hb3; clear hb3
  have SS := Lib.hid S2; clear S2
  have hDl : (V.B ++ [UInt8.ofNat b]).length ≤ 4 := by rw [List.length_append]; have := HB3.out; simp; omega
  have HDl := Lib.hid hDl; clear hDl
  go_enter Tryd.func143, Tryd.ntmps143
  go_wp2_with (at_builtin; go_must (refine wp_addB rfl _ _ rfl SS.out 0 rfl rfl rfl HRP.out ?_ ?_); go_must (simp; omega))
  intro v1 w1 S3
  have S3 : St W w1 (ownB v1 V.B :: row (w.heap.size + 1 + 1) 40 (gA V.G (.slice A1 n1 c1)) :: row (w.heap.size + 1) 58 zeroVt :: row w.heap.size 58 (vA V (.slice A1 n1 c1) (.slice A2 n2 c2) (.slice A3 n3 c3)) :: vo (.slice A1 n1 c1) (.slice A2 n2 c2) (.slice A3 n3 c3) V L) := S3
  clear lc lf ls SS
  have SS3 := Lib.hid S3; clear S3
  go_wp2_with (at_builtin; go_must (refine wp_addB rfl _ _ rfl (SS3.out.skip _) 0 rfl rfl rfl (RB.lit _ _ [UInt8.ofNat b] (B8.out) (by simp)) ?_ ?_); go_must (have := HB3.out; simp; omega))
  intro v2 w2 S4
  have S4 : St W w2 (ownB v2 (V.B ++ [UInt8.ofNat b]) :: row (w.heap.size + 1 + 1) 40 (gA V.G (.slice A1 n1 c1)) :: row (w.heap.size + 1) 58 zeroVt :: row w.heap.size 58 (vA V (.slice A1 n1 c1) (.slice A2 n2 c2) (.slice A3 n3 c3)) :: vo (.slice A1 n1 c1) (.slice A2 n2 c2) (.slice A3 n3 c3) V L) := S4
  clear SS3
  obtain ⟨A6, c6, rfl, -⟩ := (S4.ownB 0 rfl).form
  obtain ⟨k6, hk6⟩ : ∃ k6, k6 = (V.B ++ [UInt8.ofNat b]).length := ⟨_, rfl⟩
  obtain ⟨D, hD⟩ : ∃ D, D = V.B ++ [UInt8.ofNat b] := ⟨_, rfl⟩
  rw [← hk6] at HDl S4 ⊢
  rw [← hD] at hk6 S4
  have HK6 := Lib.hid hk6; clear hk6 hD
  obtain ⟨lc, lf, ls⟩ := S4.cells 3 rfl
  have S5 : St W (w2.setCell ⟨w.heap.size, 8, none⟩ (.slice none 0 0)) (ownB (.slice A6 k6 c6) D :: row (w.heap.size + 1 + 1) 40 (gA V.G (.slice A1 n1 c1)) :: row (w.heap.size + 1) 58 zeroVt :: row w.heap.size 58 (vA V (.slice A1 n1 c1) (.slice A2 n2 c2) (.slice none 0 0)) :: vo (.slice A1 n1 c1) (.slice A2 n2 c2) (.slice A3 n3 c3) V L) := S4.setc 3 rfl 8 (.slice none 0 0)
  have hk4 : k6 ≤ 4 := HDl.out
  clear S4 HDl
  go_upto_region 4 with fail
  clear lc lf ls
  generalize w2.setCell ⟨w.heap.size, 8, none⟩ (.slice none 0 0) = w5 at *
  obtain ⟨lc, lf, ls⟩ := S5.cells 3 rfl
  obtain ⟨kc, kf, ks⟩ := S5.cells 1 rfl
  have HS5 := Lib.hid S5; clear S5
  go_wp2_with fail
  refine Calls.mono (spec_GridPut V.G _ _ _ (b : Int) _ ((HS5.out.ownI 4 rfl).ri) HV.out.i.g) ?_; rintro e w3 ⟨v3, rfl, own, x2⟩
  obtain ⟨A7, n7, c7, rfl⟩ := own.form'
  have S6 := HS5.out.newI own x2
  clear lc lf ls kc kf ks own x2 HS5
  go_wp2_with ((with_reducible refine wp_setA (k := 0) (u := .agg (gA (putG V.G (b : Int)) (.slice A7 n7 c7))) (vA { V with G := putG V.G (b : Int), B := [] } (.slice A7 n7 c7) (.slice A2 n2 c2) (.slice none 0 0)) S6 4 rfl ?_ ?_ ?_ ?_ ?_ ?_ ?_); go_must (exact rfl); go_must (exact rfl); go_must (kernel_rfl); go_must (kernel_rfl); go_must (exact Nat.le_of_ble_eq_true (by kernel_rfl)); go_must (kernel_rfl))
  intro w7 S7
  obtain ⟨lc, lf, ls⟩ := S7.cells 4 rfl
  go_wp2_with ((with_reducible refine wp_setA (k := 0) (u := .agg (vA { V with G := putG V.G (b : Int), B := [] } (.slice A7 n7 c7) (.slice A2 n2 c2) (.slice none 0 0))) (vA { V with G := putG V.G (b : Int), B := [] } (.slice A7 n7 c7) (.slice A2 n2 c2) (.slice none 0 0)) S7 3 rfl ?_ ?_ ?_ ?_ ?_ ?_ ?_); go_must (exact rfl); go_must (exact rfl); go_must (kernel_rfl); go_must (kernel_rfl); go_must (exact Nat.le_of_ble_eq_true (by kernel_rfl)); go_must (kernel_rfl))
  intro w8 S8
  obtain ⟨mc, -, -⟩ := S8.cells 3 rfl
  go_wp2_with fail
  exact bodyPost_ret (v := .agg (vA { V with G := putG V.G (b : Int), B := [] } (.slice A7 n7 c7) (.slice A2 n2 c2) (.slice none 0 0))) (by simp [results, Tryd.results143, go_sem, mc]) rfl ⟨{ V with G := putG V.G (b : Int), B := [] }, _, _, _, _, _, _, _, _, _, rfl, vt_nilV HV.out (putG_ok HV.out.i.g _) HV.out.i.n, q_new S8⟩
set_option maxRecDepth 100000 in
set_option maxHeartbeats 8000000 in
theorem spec_l09Plain_no (V : VtS) (A1 A2 A3 : Option Addr) (n1 c1 n2 c2 n3 c3 : Nat) (b : Nat) (W w : World) (L : List Pc) (S : St W w (vo (.slice A1 n1 c1) (.slice A2 n2 c2) (.slice A3 n3 c3) V L)) (hV : VtV V) (hS : V.S = 0) (h0 : b < 128) (h7 : b ≠ 7) (h8 : b ≠ 8) (h13 : b ≠ 13) (h10 : b ≠ 10) (h27 : b ≠ 27) (hp : b < 32 ∨ b = 127) :
    Calls Tryd.prog 143 #[.agg (vA V (.slice A1 n1 c1) (.slice A2 n2 c2) (.slice A3 n3 c3)), .int .i64 b] w (VtAns W L) := by
  have S0 := ((S.alloc (vA V (.slice A1 n1 c1) (.slice A2 n2 c2) (.slice A3 n3 c3)) 58).alloc zeroVt 58).alloc (gA V.G (.slice A1 n1 c1)) 40
  simp only [World.size_alloc] at S0
  clear S
  have HV := Lib.hid hV; have HS := Lib.hid hS
  have hb3 := hV.i.b
  obtain ⟨d1, d2, d3, d4, -, -⟩ := gridOk_d hV.i.g
  obtain ⟨q1, q2, q3, q4, -⟩ := gridOk_c hV.i.g
  obtain ⟨hN0, hN1⟩ := hV.i.n
  clear hV hS
  have rp := (S0.ownB 5 rfl).rb
  have S2 := S0.newB (OwnB.emptyAt (b := w.heap.size + 1 + 1 + 1) (by simp) (Nat.le_refl _)) ((Ext.refl _).alloc (.cells #[] 5))
  have HRP := Lib.hid (rp.ext ((Ext.refl _).alloc (.cells #[] 5)))
  have hn3 : n3 ≤ 3 := by rw [← rp.len]; exact hb3
  have B8 := Lib.hid (byteC_of (k := b) (by omega))
  have hbw : IntKind.u8.wrap (b : Int) = (b : Int) := by rw [IntKind.wrap_u8]; omega
  obtain ⟨lc, lf, ls⟩ := S0.cells 2 rfl
  clear S0 rp
  have HB3 := Lib.hid hb3; clear hb3
  have SS := Lib.hid S2; clear S2
  have hDl : (V.B ++ [UInt8.ofNat b]).length ≤ 4 := by rw [List.length_append]; have := HB3.out; simp; omega
  have HDl := Lib.hid hDl; clear hDl
  have b7 : ((b : Int) == 7) = false := by simp; omega
  have b8 : ((b : Int) == 8) = false := by simp; omega
  have b13 : ((b : Int) == 13) = false := by simp; omega
  have b10 : ((b : Int) == 10) = false := by simp; omega
  have b27 : ((b : Int) == 27) = false := by simp; omega
  have bp : (decide ((32 : Int) ≤ (b : Int)) && decide ((b : Int) < 127)) = false := by simp; omega
  have HP := Lib.hid hp
  clear h7 h8 h13 h10 h27 hp
  go_enter Tryd.func143, Tryd.ntmps143
  go_wp2_with (at_builtin; go_must (refine wp_addB rfl _ _ rfl SS.out 0 rfl rfl rfl HRP.out ?_ ?_); go_must (simp; omega))
  intro v1 w1 S3
  have S3 : St W w1 (ownB v1 V.B :: row (w.heap.size + 1 + 1) 40 (gA V.G (.slice A1 n1 c1)) :: row (w.heap.size + 1) 58 zeroVt :: row w.heap.size 58 (vA V (.slice A1 n1 c1) (.slice A2 n2 c2) (.slice A3 n3 c3)) :: vo (.slice A1 n1 c1) (.slice A2 n2 c2) (.slice A3 n3 c3) V L) := S3
  clear lc lf ls SS
  have SS3 := Lib.hid S3; clear S3
  go_wp2_with (at_builtin; go_must (refine wp_addB rfl _ _ rfl (SS3.out.skip _) 0 rfl rfl rfl (RB.lit _ _ [UInt8.ofNat b] (B8.out) (by simp)) ?_ ?_); go_must (have := HB3.out; simp; omega))
  intro v2 w2 S4
  have S4 : St W w2 (ownB v2 (V.B ++ [UInt8.ofNat b]) :: row (w.heap.size + 1 + 1) 40 (gA V.G (.slice A1 n1 c1)) :: row (w.heap.size + 1) 58 zeroVt :: row w.heap.size 58 (vA V (.slice A1 n1 c1) (.slice A2 n2 c2) (.slice A3 n3 c3)) :: vo (.slice A1 n1 c1) (.slice A2 n2 c2) (.slice A3 n3 c3) V L) := S4
  clear SS3
  obtain ⟨A6, c6, rfl, -⟩ := (S4.ownB 0 rfl).form
  obtain ⟨k6, hk6⟩ : ∃ k6, k6 = (V.B ++ [UInt8.ofNat b]).length := ⟨_, rfl⟩
  obtain ⟨D, hD⟩ : ∃ D, D = V.B ++ [UInt8.ofNat b] := ⟨_, rfl⟩
  rw [← hk6] at HDl S4 ⊢
  rw [← hD] at hk6 S4
  have HK6 := Lib.hid hk6; clear hk6 hD
  obtain ⟨lc, lf, ls⟩ := S4.cells 3 rfl
  have S5 : St W (w2.setCell ⟨w.heap.size, 8, none⟩ (.slice none 0 0)) (ownB (.slice A6 k6 c6) D :: row (w.heap.size + 1 + 1) 40 (gA V.G (.slice A1 n1 c1)) :: row (w.heap.size + 1) 58 zeroVt :: row w.heap.size 58 (vA V (.slice A1 n1 c1) (.slice A2 n2 c2) (.slice none 0 0)) :: vo (.slice A1 n1 c1) (.slice A2 n2 c2) (.slice A3 n3 c3) V L) := S4.setc 3 rfl 8 (.slice none 0 0)
  have hk4 : k6 ≤ 4 := HDl.out
  clear S4 HDl
  go_upto_region 4 with fail
  clear lc lf ls
  generalize w2.setCell ⟨w.heap.size, 8, none⟩ (.slice none 0 0) = w5 at *
  obtain ⟨lc, lf, ls⟩ := S5.cells 3 rfl
  obtain ⟨kc, kf, ks⟩ := S5.cells 1 rfl
  have HS5 := Lib.hid S5; clear S5
  rcases HP.out with hp | rfl
  · go_wp2_with ((with_reducible refine wp_setA (k := 0) (u := .agg (vA { V with G := V.G, B := [], N := V.N } (.slice A1 n1 c1) (.slice A2 n2 c2) (.slice none 0 0))) (vA { V with G := V.G, B := [], N := V.N } (.slice A1 n1 c1) (.slice A2 n2 c2) (.slice none 0 0)) HS5.out 2 rfl ?_ ?_ ?_ ?_ ?_ ?_ ?_); go_must (exact rfl); go_must (exact rfl); go_must (kernel_rfl); go_must (kernel_rfl); go_must (exact Nat.le_of_ble_eq_true (by kernel_rfl)); go_must (kernel_rfl))
    intro w8 S8
    obtain ⟨mc, -, -⟩ := S8.cells 2 rfl
    go_wp2_with fail
    exact bodyPost_ret (v := .agg (vA { V with G := V.G, B := [], N := V.N } (.slice A1 n1 c1) (.slice A2 n2 c2) (.slice none 0 0))) (by simp [results, Tryd.results143, go_sem, mc]) rfl ⟨{ V with G := V.G, B := [], N := V.N }, _, _, _, _, _, _, _, _, _, rfl, vt_nilV HV.out HV.out.i.g HV.out.i.n, q_nil S8⟩
  · go_wp2_with ((with_reducible refine wp_setA (k := 0) (u := .agg (vA { V with G := V.G, B := [], N := V.N } (.slice A1 n1 c1) (.slice A2 n2 c2) (.slice none 0 0))) (vA { V with G := V.G, B := [], N := V.N } (.slice A1 n1 c1) (.slice A2 n2 c2) (.slice none 0 0)) HS5.out 2 rfl ?_ ?_ ?_ ?_ ?_ ?_ ?_); go_must (exact rfl); go_must (exact rfl); go_must (kernel_rfl); go_must (kernel_rfl); go_must (exact Nat.le_of_ble_eq_true (by kernel_rfl)); go_must (kernel_rfl))
    intro w8 S8
    obtain ⟨mc, -, -⟩ := S8.cells 2 rfl
    go_wp2_with fail
    exact bodyPost_ret (v := .agg (vA { V with G := V.G, B := [], N := V.N } (.slice A1 n1 c1) (.slice A2 n2 c2) (.slice none 0 0))) (by simp [results, Tryd.results143, go_sem, mc]) rfl ⟨{ V with G := V.G, B := [], N := V.N }, _, _, _, _, _, _, _, _, _, rfl, vt_nilV HV.out HV.out.i.g HV.out.i.n, q_nil S8⟩
theorem spec_l09Plain (V : VtS) (A1 A2 A3 : Option Addr) (n1 c1 n2 c2 n3 c3 : Nat) (b : Nat) (W w : World) (L : List Pc) (S : St W w (vo (.slice A1 n1 c1) (.slice A2 n2 c2) (.slice A3 n3 c3) V L)) (hV : VtV V) (hS : V.S = 0) (h1 : b ≤ 255) :
    Calls Tryd.prog 143 #[.agg (vA V (.slice A1 n1 c1) (.slice A2 n2 c2) (.slice A3 n3 c3)), .int .i64 b] w (VtAns W L) := by
  by_cases h0 : 128 ≤ b
  · exact spec_l09Plain_hi V A1 A2 A3 n1 c1 n2 c2 n3 c3 b W w L S hV hS h0 h1
  by_cases h7 : b = 7
  · subst h7
    by_cases hN : V.N < 1000000
    · exact spec_l09Plain_7a V A1 A2 A3 n1 c1 n2 c2 n3 c3 W w L S hV hS hN
    · exact spec_l09Plain_7b V A1 A2 A3 n1 c1 n2 c2 n3 c3 W w L S hV hS hN
  by_cases h8 : b = 8
  · subst h8; exact spec_l09Plain_8 V A1 A2 A3 n1 c1 n2 c2 n3 c3 W w L S hV hS
  by_cases h13 : b = 13
  · subst h13; exact spec_l09Plain_13 V A1 A2 A3 n1 c1 n2 c2 n3 c3 W w L S hV hS
  by_cases h10 : b = 10
  · subst h10
    by_cases hy : V.G.Y = V.G.H - 1
    · exact spec_l09Plain_10y V A1 A2 A3 n1 c1 n2 c2 n3 c3 W w L S hV hS hy
    · exact spec_l09Plain_10n V A1 A2 A3 n1 c1 n2 c2 n3 c3 W w L S hV hS hy
  by_cases h27 : b = 27
  · subst h27; exact spec_l09Plain_27 V A1 A2 A3 n1 c1 n2 c2 n3 c3 W w L S hV hS
  by_cases hp : 32 ≤ b ∧ b ≤ 126
  · exact spec_l09Plain_put V A1 A2 A3 n1 c1 n2 c2 n3 c3 b W w L S hV hS hp.1 hp.2
  · exact spec_l09Plain_no V A1 A2 A3 n1 c1 n2 c2 n3 c3 b W w L S hV hS (by omega) h7 h8 h13 h10 h27 (by omega)
end Go.Proofs.YtohjjhoobikioaaDoor
