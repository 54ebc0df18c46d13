/-
  Of several texts: PBox, PNewI, PAll.
-/
import Derived.Test.YtohjjhoobikioaaDoorPOk
import Derived.Test.YtohjjhoobikioaaDoorLawKit
import Derived.Test.YtohjjhoobikioaaDoorTailS
import Derived.Test.YtohjjhoobikioaaDoorDiffS
import Derived.Test.YtohjjhoobikioaaDoorPTo
import Derived.Test.YtohjjhoobikioaaDoorCvT
import Derived.Test.YtohjjhoobikioaaDoorGS
/-! A painter in a variable of its own: its nine cells. -/
namespace Go.Proofs.YtohjjhoobikioaaDoor
open Go.RowKit

abbrev PBox (w : World) (b : Nat) (PW PH : Int) (K : Bool) (W H : Int) (v : Value) (X Y : Int) (R : Bool) : Prop :=
  w.cell? ⟨b, 0, none⟩ = some (.int .i64 PW) ∧ w.cell? ⟨b, 1, none⟩ = some (.int .i64 PH) ∧ w.cell? ⟨b, 2, none⟩ = some (.bool K) ∧ w.cell? ⟨b, 3, none⟩ = some (.int .i64 W) ∧ w.cell? ⟨b, 4, none⟩ = some (.int .i64 H) ∧ w.cell? ⟨b, 5, none⟩ = some v ∧ w.cell? ⟨b, 6, none⟩ = some (.int .i64 X) ∧ w.cell? ⟨b, 7, none⟩ = some (.int .i64 Y) ∧ w.cell? ⟨b, 8, none⟩ = some (.bool R)
theorem PBox.ext {w w' : World} {b : Nat} {PW PH W H X Y : Int} {K R : Bool} {v : Value} (h : PBox w b PW PH K W H v X Y R) (x : Ext w w') : PBox w' b PW PH K W H v X Y R :=
  ⟨x.cell h.1, x.cell h.2.1, x.cell h.2.2.1, x.cell h.2.2.2.1, x.cell h.2.2.2.2.1, x.cell h.2.2.2.2.2.1, x.cell h.2.2.2.2.2.2.1, x.cell h.2.2.2.2.2.2.2.1, x.cell h.2.2.2.2.2.2.2.2⟩
theorem PBox.made (w : World) (PW PH : Int) (K : Bool) (W H : Int) (v : Value) (X Y : Int) (R : Bool) (T : TypeId) : PBox (w.alloc (.cells #[.int .i64 PW, .int .i64 PH, .bool K, .int .i64 W, .int .i64 H, v, .int .i64 X, .int .i64 Y, .bool R] T)) w.heap.size PW PH K W H v X Y R := by
  refine ⟨?_, ?_, ?_, ?_, ?_, ?_, ?_, ?_, ?_⟩ <;> (rw [cell_of_row _ w.heap.size _ _ _ (0, 0) (heap_alloc_new w _)]; rfl)
theorem keepP2 {wb w' w1 : World} {b b' : Nat} {PW PH W H X Y PW' PH' W' H' X' Y' : Int} {K R K' R' : Bool} {v v' : Value} (h : PBox w' b PW PH K W H v X Y R ∧ PBox w' b' PW' PH' K' W' H' v' X' Y' R' ∧ Ext wb w') (x : Ext w' w1) : PBox w1 b PW PH K W H v X Y R ∧ PBox w1 b' PW' PH' K' W' H' v' X' Y' R' ∧ Ext wb w1 :=
  ⟨h.1.ext x, h.2.1.ext x, h.2.2.trans x⟩

end Go.Proofs.YtohjjhoobikioaaDoor
/-! impl.PaintNew and impl.GridGo, where they hold. -/
namespace Go.Proofs.YtohjjhoobikioaaDoor
open Go.RowKit

theorem paintOk_freshI {w h : Int} : paintOk w h false ⟨0, 0, [], 0, 0, false⟩ = decide (newOk w h) := by
  simp [paintOk, sameG, noG]

set_option maxRecDepth 100000 in
set_option maxHeartbeats 1000000 in
theorem impl_PaintNewI (w hh : Int) (W : World) (hok : newOk w hh) :
    Calls Tryd.prog 52 #[.int .i64 w, .int .i64 hh] W fun e w' => e = .returned (.tuple #[.agg #[.int .i64 w, .int .i64 hh, .bool false, .int .i64 0, .int .i64 0, .slice none 0 0, .int .i64 0, .int .i64 0, .bool false], .bool true]) ∧ Ext W w' := by
  have hp : paintOk w hh false ⟨0, 0, [], 0, 0, false⟩ = true := by rw [paintOk_freshI]; simp [hok]
  have bP := PBox.made (W.alloc (.cells #[.int .i64 0, .int .i64 0, .bool false, .int .i64 0, .int .i64 0, .slice none 0 0, .int .i64 0, .int .i64 0, .bool false] 64)) w hh false 0 0 (.slice none 0 0) 0 0 false 64
  have X0 := ((Ext.refl W).alloc (.cells #[.int .i64 0, .int .i64 0, .bool false, .int .i64 0, .int .i64 0, .slice none 0 0, .int .i64 0, .int .i64 0, .bool false] 64)).alloc (.cells #[.int .i64 w, .int .i64 hh, .bool false, .int .i64 0, .int .i64 0, .slice none 0 0, .int .i64 0, .int .i64 0, .bool false] 64)
  rw [World.size_alloc] at bP
  have HP := Lib.hid bP; clear bP
  go_enter Tryd.func52, Tryd.ntmps52
  go_wp2_with fail
  have k1 := impl_PaintOk w hh 0 0 0 0 false false [] none 0 0 _ ((RI.nil W).ext X0)
  rw [hp] at k1
  refine k1.mono ?_; rintro e w1 ⟨rfl, x1⟩
  clear k1
  obtain ⟨q0, q1, q2, q3, q4, q5, q6, q7, q8⟩ := HP.out.ext x1
  have ql := World.block_lt_of_cell? w1 _ q0
  have Hr := Lib.hid (row_ext (row_alloc (row_new W _) _) x1)
  obtain ⟨z, zf, zl⟩ := rowAll Hr.out
  go_wp2_with ((with_reducible refine wp_storeAt (off := 0) (v := .agg #[.int .i64 w, .int .i64 hh, .bool false, .int .i64 0, .int .i64 0, .slice none 0 0, .int .i64 0, .int .i64 0, .bool false]) #[.int .i64 w, .int .i64 hh, .bool false, .int .i64 0, .int .i64 0, .slice none 0 0, .int .i64 0, .int .i64 0, .bool false] Hr.out ?_ ?_ ?_ ?_ ?_ ?_ ?_); exact rfl; exact rfl; kernel_rfl; kernel_rfl; (exact Nat.le_of_ble_eq_true (by kernel_rfl)); kernel_rfl)
  intro w2 hr g2
  have X2 := (X0.trans x1).row g2 (by omega)
  obtain ⟨u, -, -⟩ := rowAll hr
  clear z zf zl Hr hr q0 q1 q2 q3 q4 q5 q6 q7 q8 ql
  go_wp2_with fail
  refine bodyPost_ret (v := .tuple #[.agg #[.int .i64 w, .int .i64 hh, .bool false, .int .i64 0, .int .i64 0, .slice none 0 0, .int .i64 0, .int .i64 0, .bool false], .bool true]) (by simp [results, Tryd.results52, go_sem, u]) rfl ⟨rfl, X2⟩
set_option maxRecDepth 100000 in
set_option maxHeartbeats 4000000 in
theorem impl_GridGo (g : Gr) (A : Option Addr) (n c : Nat) (x y : Int) (w : World) (hC : RI w A n c g.C) (hg : gridOk g = true) (hx : -9223372036854775808 ≤ x) (hx2 : x ≤ 9223372036854775807) :
    Calls Tryd.prog 53 #[.agg #[.int .i64 g.W, .int .i64 g.H, .slice A n c, .int .i64 g.X, .int .i64 g.Y, .bool g.R], .int .i64 x, .int .i64 y] w fun e w' => ∃ v, e = .returned (.agg #[.int .i64 g.W, .int .i64 g.H, v, .int .i64 (goG g x y).X, .int .i64 (goG g x y).Y, .bool false]) ∧ OwnI w' w.heap.size v g.C ∧ Ext w w' := by
  have S0 := ((St.refl w).alloc #[.int .i64 g.W, .int .i64 g.H, .slice A n c, .int .i64 g.X, .int .i64 g.Y, .bool g.R] 40).alloc zeroG 40
  simp only [World.size_alloc] at S0
  have K := fun w h => impl_GridOk g.W g.H g.X g.Y g.R g.C A n c w h
  rw [show (⟨g.W, g.H, g.C, g.X, g.Y, g.R⟩ : Gr) = g from rfl, hg] at K
  have HK := Lib.hid K; clear K
  have hn : n ≤ 8000 := by
    obtain ⟨-, -, -, -, q5, q6⟩ := gridOk_d hg
    rw [hC.len] at q6; omega
  have HG := Lib.hid hg; have HC := Lib.hid hC
  clear hg hC
  go_enter Tryd.func53, Tryd.ntmps53
  go_wp2_with fail
  refine Calls.mono (HK.out _ (HC.out.ext S0.ext)) ?_; rintro e w1 ⟨rfl, x1⟩
  have S1 := S0.call x1
  clear S0 x1 HK
  obtain ⟨lc, lf, ls⟩ := S1.cells 1 rfl
  go_wp2_with fail
  refine Calls.mono (impl_copyGrid g A n c _ (HC.out.ext S1.ext) hn) ?_; rintro e w2 ⟨v2, rfl, own2, x2⟩
  obtain ⟨A2, n2, c2, rfl⟩ := own2.form'
  have S2 := (S1.newI own2 x2).alloc zeroG 40
  clear S1 own2 x2 lc lf ls
  go_wp2_with ((with_reducible refine wp_setA (k := 0) (u := .agg (gridCs g (.slice A2 n2 c2))) (gridCs g (.slice A2 n2 c2)) S2 0 rfl ?_ ?_ ?_ ?_ ?_ ?_ ?_); go_must (exact rfl); go_must (exact rfl); go_must (kernel_rfl); go_must (kernel_rfl); go_must (exact Nat.le_of_ble_eq_true (by kernel_rfl)); go_must (kernel_rfl))
  intro w3 S3
  clear S2
  generalize w2.heap.size = b7 at *
  have S3 : St w w3 (gbox b7 (.slice A2 n2 c2) g ++ [row (w.heap.size + 1) 40 zeroG, row w.heap.size 40 #[.int .i64 g.W, .int .i64 g.H, .slice A n c, .int .i64 g.X, .int .i64 g.Y, .bool g.R]]) := S3
  go_wp2_with fail
  refine Calls.mono (impl_moveTo g x y b7 _ w _ _ S3 HG.out hx hx2) ?_; rintro e w4 ⟨rfl, S4⟩
  clear S3
  have S4 : St w w4 [row b7 40 #[.int .i64 g.W, .int .i64 g.H, .slice A2 n2 c2, .int .i64 (goG g x y).X, .int .i64 (goG g x y).Y, .bool false], ownI (.slice A2 n2 c2) g.C, row (w.heap.size + 1) 40 zeroG, row w.heap.size 40 #[.int .i64 g.W, .int .i64 g.H, .slice A n c, .int .i64 g.X, .int .i64 g.Y, .bool g.R]] := S4
  obtain ⟨lc, lf, ls⟩ := S4.cells 0 rfl
  go_wp2_with ((with_reducible refine wp_setA (k := 0) (u := .agg #[.int .i64 g.W, .int .i64 g.H, .slice A2 n2 c2, .int .i64 (goG g x y).X, .int .i64 (goG g x y).Y, .bool false]) (#[.int .i64 g.W, .int .i64 g.H, .slice A2 n2 c2, .int .i64 (goG g x y).X, .int .i64 (goG g x y).Y, .bool false]) S4 2 rfl ?_ ?_ ?_ ?_ ?_ ?_ ?_); go_must (exact rfl); go_must (exact rfl); go_must (kernel_rfl); go_must (kernel_rfl); go_must (exact Nat.le_of_ble_eq_true (by kernel_rfl)); go_must (kernel_rfl))
  intro w5 S5
  clear lc lf ls S4
  obtain ⟨lc, -, -⟩ := S5.cells 2 rfl
  go_wp2_with fail
  exact bodyPost_ret (v := .agg #[.int .i64 g.W, .int .i64 g.H, .slice A2 n2 c2, .int .i64 (goG g x y).X, .int .i64 (goG g x y).Y, .bool false]) (by simp [results, Tryd.results53, go_sem, lc]) rfl ⟨_, rfl, S5.outI 1 rfl, S5.ext⟩
end Go.Proofs.YtohjjhoobikioaaDoor
/-! PaintAll of both packages. -/
namespace Go.Proofs.YtohjjhoobikioaaDoor
open Go.RowKit

/-- a painter -/
structure Pt where
  PW : Int
  PH : Int
  K : Bool
  G : Gr
abbrev paCells (p : Pt) (v : Value) : Array Value := #[.int .i64 p.PW, .int .i64 p.PH, .bool p.K, .int .i64 p.G.W, .int .i64 p.G.H, v, .int .i64 p.G.X, .int .i64 p.G.Y, .bool p.G.R]
abbrev gCells (g : Gr) (v : Value) : Array Value := #[.int .i64 g.W, .int .i64 g.H, v, .int .i64 g.X, .int .i64 g.Y, .bool g.R]
def zeroPt : Pt := ⟨0, 0, false, ⟨0, 0, [], 0, 0, false⟩⟩
def toGr (x : SGrid) : Gr := ⟨x.W, x.H, x.Cells, x.X, x.Y, x.Wrap⟩
def ptNext (s : Pt × List UInt8) (g : Gr) : Pt × List UInt8 := if ptOk s.1.PW s.1.PH s.1.K s.1.G g = true then (⟨s.1.PW, s.1.PH, true, g⟩, s.2 ++ ptD s.1.PW s.1.PH s.1.K s.1.G g) else s
def paOk (p : Pt) : Bool := paintOk p.PW p.PH p.K p.G
def paintAll (p : Pt) (l : List SGrid) : Pt × List UInt8 := if paOk p = true then l.foldl (fun s x => ptNext s (toGr x)) (p, []) else (zeroPt, [])
theorem foldl_take1 {α β : Type} (f : β → α → β) (b : β) (l : List α) {k : Nat} (hk : k < l.length) : (l.take (k + 1)).foldl f b = f ((l.take k).foldl f b) (l[k]'hk) := by
  rw [List.take_add_one, List.getElem?_eq_getElem hk, List.foldl_append]; rfl
theorem paOk_len {p : Pt} (h : paOk p = true) : p.G.C.length ≤ 8000 := by
  unfold paOk paintOk at h
  rw [Bool.and_eq_true] at h
  obtain ⟨-, h⟩ := h
  split at h
  · simp only [Bool.and_eq_true] at h
    obtain ⟨⟨⟨h, -⟩, -⟩, -⟩ := h
    obtain ⟨-, -, -, -, q5, q6⟩ := gridOk_d h
    omega
  · have e : p.G.C = [] := by
      simp only [sameG, noG, Bool.and_eq_true] at h
      have := h
      simp_all
    rw [e]; simp
theorem pa_pick {W w : World} {t x a g b r c u v : Pc} (S : St W w [t, x, a, g, b, r, c, u, v]) : St W w [b, r, a, u, v] := by
  have h1 : St W w [a, g, b, r, c, u, v] := S.drop.drop
  have h2 : St W w [a, b, r, c, u, v] := (h1.bring 1 rfl).drop
  have h3 : St W w [a, b, r, u, v] := (h2.bring 3 rfl).drop
  have h4 : St W w [r, a, b, u, v] := h3.bring 2 rfl
  exact h4.bring 2 rfl
/-- what PaintAll answers -/
def PaAns (p : Pt) (l : List SGrid) (w : World) (e : Ending) (w' : World) : Prop :=
  ∃ u vb, e = .returned (.tuple #[.agg (paCells (paintAll p l).1 u), vb]) ∧ St w w' [ownB vb (paintAll p l).2, ownI u (paintAll p l).1.G.C]
set_option maxRecDepth 100000 in
set_option maxHeartbeats 4000000 in
theorem impl_copyPaint (p : Pt) (A : Option Addr) (n c : Nat) (w : World) (hC : RI w A n c p.G.C) (hn : n ≤ 8000) :
    Calls Tryd.prog 89 #[.agg (paCells p (.slice A n c))] w fun e w' => ∃ v, e = .returned (.agg (paCells p v)) ∧ OwnI w' w.heap.size v p.G.C ∧ Ext w w' := by
  have S0 := ((St.refl w).alloc (paCells p (.slice A n c)) 64).alloc zeroP 64
  simp only [World.size_alloc] at S0
  have HC := Lib.hid hC; clear hC
  go_enter Tryd.func89, Tryd.ntmps89
  go_wp2_with fail
  refine Calls.mono (impl_copyGrid p.G A n c _ (HC.out.ext S0.ext) (by omega)) ?_; rintro e w1 ⟨v1, rfl, own1, x1⟩
  obtain ⟨A1, n1, c1, rfl⟩ := own1.form'
  have S1 := S0.newI own1 x1
  clear S0 own1 x1
  go_wp2_with ((with_reducible refine wp_setA (k := 3) (u := .agg (gCells p.G (.slice A1 n1 c1))) (paCells p (.slice A1 n1 c1)) S1 2 rfl ?_ ?_ ?_ ?_ ?_ ?_ ?_); go_must (exact rfl); go_must (exact rfl); go_must (kernel_rfl); go_must (kernel_rfl); go_must (exact Nat.le_of_ble_eq_true (by kernel_rfl)); go_must (kernel_rfl))
  intro w2 S2
  have S2 : St w w2 [ownI (.slice A1 n1 c1) p.G.C, row (w.heap.size + 1) 64 zeroP, row w.heap.size 64 (paCells p (.slice A1 n1 c1))] := S2
  clear S1
  go_wp2_with (first | ((with_reducible refine wpList_load_row rfl 64 _ rfl (w.heap.size) ?_ 64 (paCells p (.slice A1 n1 c1)) (0, 0) _ (S2.row 2 rfl) Tryd.underlying64 rfl ?_ ?_); go_must (exact rfl); go_must (kernel_rfl)) | ((with_reducible refine wp_setA (k := 0) (u := .agg (paCells p (.slice A1 n1 c1))) (paCells p (.slice A1 n1 c1)) S2 1 rfl ?_ ?_ ?_ ?_ ?_ ?_ ?_); go_must (exact rfl); go_must (exact rfl); go_must (kernel_rfl); go_must (kernel_rfl); go_must (exact Nat.le_of_ble_eq_true (by kernel_rfl)); go_must (kernel_rfl)))
  intro w3 S3
  clear S2
  go_wp2_with fail
  refine bodyPost_ret (v := .agg (paCells p (.slice A1 n1 c1))) (results_cell_row Tryd.results89 _ _ (w.heap.size + 1) 64 (paCells p (.slice A1 n1 c1)) (0, 0) _ rfl (S3.row 1 rfl) Tryd.underlying64 rfl (by kernel_rfl)) rfl ⟨_, rfl, S3.outI 0 rfl, S3.ext⟩
set_option maxRecDepth 100000 in
set_option maxHeartbeats 16000000 in
theorem impl_PaintAll (p : Pt) (l : List SGrid) (A : Option Addr) (n c : Nat) (v : Value) (w : World) (ht : Tab w) (hC : RI w A n c p.G.C) (h : Rd w v (.sl 6 (l.flatMap dGrid))) (hs : l.length ≤ 1048576) :
    Calls Tryd.prog 48 #[.agg (paCells p (.slice A n c)), v] w (PaAns p l w) := by
  obtain ⟨Ag, cg, rfl, hcg, hcm, hA, hat⟩ := h.rows dGrid_len (by decide)
  obtain ⟨m, hm⟩ : ∃ m, m = l.length := ⟨_, rfl⟩
  rw [← hm] at hcg hat hs ⊢
  have HN := Lib.hid hm; clear hm
  have HAT := Lib.hid hat; clear hat h
  have hcap : m ≤ 9223372036854775807 := by omega
  have K := fun w h => impl_PaintOk p.PW p.PH p.G.W p.G.H p.G.X p.G.Y p.K p.G.R p.G.C A n c w h
  rw [show paintOk p.PW p.PH p.K ⟨p.G.W, p.G.H, p.G.C, p.G.X, p.G.Y, p.G.R⟩ = paOk p from rfl] at K
  have S0 := ((St.refl w).alloc (paCells p (.slice A n c)) 64).alloc zeroP 64
  simp only [World.size_alloc] at S0
  have HT := Lib.hid ht; clear ht
  have HC := Lib.hid hC; clear hC
  cases hok : paOk p
  · have HR : Hid (paintAll p l = (zeroPt, [])) := by show _ = _; unfold paintAll; rw [hok]; rfl
    rw [hok] at K
    have HK := Lib.hid K; clear K hok
    go_enter Tryd.func48, Tryd.ntmps48
    go_wp2_with ((with_reducible refine wpList_load_row rfl 64 _ rfl (w.heap.size) ?_ 64 (paCells p (.slice A n c)) (0, 0) _ (S0.row 1 rfl) Tryd.underlying64 rfl ?_ ?_); go_must (exact rfl); go_must (kernel_rfl))
    refine Calls.mono (HK.out _ (HC.out.ext S0.ext)) ?_; rintro e w1 ⟨rfl, x1⟩
    have S1 := S0.call x1
    clear S0 x1
    go_wp2_with ((with_reducible refine wp_setA (k := 0) (u := .agg (zeroP)) (zeroP) S1 0 rfl ?_ ?_ ?_ ?_ ?_ ?_ ?_); go_must (exact rfl); go_must (exact rfl); go_must (kernel_rfl); go_must (kernel_rfl); go_must (exact Nat.le_of_ble_eq_true (by kernel_rfl)); go_must (kernel_rfl))
    intro w2 S2
    obtain ⟨lc, -, -⟩ := S2.cells 0 rfl
    go_wp2_with fail
    refine bodyPost_ret (v := .tuple #[.agg zeroP, .slice none 0 0]) (by simp [results, Tryd.results48, go_sem, lc]) rfl ⟨.slice none 0 0, .slice none 0 0, by rw [HR.out]; rfl, ?_⟩
    rw [HR.out]
    exact ((St.of S2.ext).nilI).nilB
  have hlen := paOk_len hok
  have HR : Hid (paintAll p l = l.foldl (fun s x => ptNext s (toGr x)) (p, [])) := by show _ = _; unfold paintAll; rw [if_pos hok]
  rw [hok] at K
  have HK := Lib.hid K; clear K hok
  have hn8 : n ≤ 8000 := by have := HC.out.len; omega
  clear hlen
  go_enter Tryd.func48, Tryd.ntmps48
  go_wp2_with ((with_reducible refine wpList_load_row rfl 64 _ rfl (w.heap.size) ?_ 64 (paCells p (.slice A n c)) (0, 0) _ (S0.row 1 rfl) Tryd.underlying64 rfl ?_ ?_); go_must (exact rfl); go_must (kernel_rfl))
  refine Calls.mono (HK.out _ (HC.out.ext S0.ext)) ?_; rintro e w1 ⟨rfl, x1⟩
  have S1 := S0.call x1
  clear S0 x1 HK
  go_wp2_with ((with_reducible refine wpList_load_row rfl 64 _ rfl (w.heap.size) ?_ 64 (paCells p (.slice A n c)) (0, 0) _ (S1.row 1 rfl) Tryd.underlying64 rfl ?_ ?_); go_must (exact rfl); go_must (kernel_rfl))
  refine Calls.mono (impl_copyPaint p A n c _ (HC.out.ext S1.ext) hn8) ?_; rintro e w2 ⟨v2, rfl, own2, x2⟩
  obtain ⟨A2, n2, c2, rfl⟩ := own2.form'
  have S2 := (S1.newI own2 x2).alloc zeroP 64
  clear S1 own2 x2
  go_wp2_with ((with_reducible refine wp_setA (k := 0) (u := .agg (paCells p (.slice A2 n2 c2))) (paCells p (.slice A2 n2 c2)) S2 0 rfl ?_ ?_ ?_ ?_ ?_ ?_ ?_); go_must (exact rfl); go_must (exact rfl); go_must (kernel_rfl); go_must (kernel_rfl); go_must (exact Nat.le_of_ble_eq_true (by kernel_rfl)); go_must (kernel_rfl))
  intro w3 S3
  generalize w2.heap.size = b6 at *
  have S2 : St w w3 [row b6 64 (paCells p (.slice A2 n2 c2)), ownI (.slice A2 n2 c2) p.G.C, row (w.heap.size + 1) 64 zeroP, row w.heap.size 64 (paCells p (.slice A n c))] := S3
  clear S3
  have S4 := S2.nilB
  clear S2
  go_wp2_with fail
  go_loopw [7, 21] (fun va vi wr => ∃ (k : Nat) (s : Pt × List UInt8) (A2 : Option Addr) (n2 c2 : Nat) (A7 : Option Addr) (n7 c7 : Nat), k ≤ m ∧ vi = .int .i64 k ∧ va = .slice A7 n7 c7 ∧ Hid ((l.take k).foldl (fun s x => ptNext s (toGr x)) (p, []) = s) ∧ Hid (s.2.length ≤ 1600031 * k) ∧ St w wr [ownB (.slice A7 n7 c7) s.2, row b6 64 (paCells s.1 (.slice A2 n2 c2)), ownI (.slice A2 n2 c2) s.1.G.C, row (w.heap.size + 1) 64 zeroP, row w.heap.size 64 (paCells p (.slice A n c))]) (fun _ vi _ => m - (intOf vi).toNat)
  case atStart => exact ⟨0, (p, []), _, _, _, _, _, _, by omega, rfl, rfl, rfl, by show _ ≤ _; simp, S4⟩
  case round =>
    obtain ⟨k, s, A2, n2, c2, A7, n7, c7, hk, rfl, rfl, HS, HL, S⟩ := hrel
    clear S4
    have hx := S.ext
    by_cases hlt : k < m
    · have hk2 : k < l.length := by rw [← HN.out]; exact hlt
      obtain ⟨b, o, rfl, hat2⟩ := HAT.out (by omega)
      have hg := List.getElem?_eq_getElem hk2
      have HF := Lib.hid (foldl_take1 (fun s x => ptNext s (toGr x)) (p, []) l hk2)
      generalize l[k]'hk2 = y at *
      obtain ⟨u0, e0, q0⟩ := hat2 k y hg 0 _ rfl
      obtain ⟨u1, e1, q1⟩ := hat2 k y hg 1 _ rfl
      obtain ⟨u2, e2, q2⟩ := hat2 k y hg 2 _ rfl
      obtain ⟨u3, e3, q3⟩ := hat2 k y hg 3 _ rfl
      obtain ⟨u4, e4, q4⟩ := hat2 k y hg 4 _ rfl
      obtain ⟨u5, e5, q5⟩ := hat2 k y hg 5 _ rfl
      obtain rfl := q0.atv
      obtain rfl := q1.atv
      obtain rfl := q3.atv
      obtain rfl := q4.atv
      obtain rfl := q5.atv
      obtain ⟨Ae, ne, ce, rfl, re⟩ := q2.ints
      have e0 := hx.cell e0
      have e1 := hx.cell e1
      have e2 := hx.cell e2
      have e3 := hx.cell e3
      have e4 := hx.cell e4
      have e5 := hx.cell e5
      simp only [← Nat.add_assoc, Nat.add_zero] at e0 e1 e2 e3 e4 e5
      clear hat2 hg hk2 q0 q1 q2 q3 q4 q5
      obtain ⟨G, hG⟩ : ∃ G, G = toGr y := ⟨_, rfl⟩
      have eC : y.Cells = G.C := by rw [hG]; rfl
      rw [show y.W = G.W by rw [hG]; rfl] at e0
      rw [show y.H = G.H by rw [hG]; rfl] at e1
      rw [show y.X = G.X by rw [hG]; rfl] at e3
      rw [show y.Y = G.Y by rw [hG]; rfl] at e4
      rw [show y.Wrap = G.R by rw [hG]; rfl] at e5
      rw [eC] at re
      rw [← hG] at HF
      clear hG eC
      have S5 := S.alloc zeroG 40
      clear S
      go_wp2_with ((with_reducible refine wp_setA (k := 0) (u := .agg (gCells G (.slice Ae ne ce))) (gCells G (.slice Ae ne ce)) S5 0 rfl ?_ ?_ ?_ ?_ ?_ ?_ ?_); go_must (exact rfl); go_must (exact rfl); go_must (kernel_rfl); go_must (kernel_rfl); go_must (exact Nat.le_of_ble_eq_true (by kernel_rfl)); go_must (kernel_rfl))
      intro w5 S6
      generalize wr.heap.size = b9 at *
      have S6 : St w w5 [row b9 40 (gCells G (.slice Ae ne ce)), ownB (.slice A7 n7 c7) s.2, row b6 64 (paCells s.1 (.slice A2 n2 c2)), ownI (.slice A2 n2 c2) s.1.G.C, row (w.heap.size + 1) 64 zeroP, row w.heap.size 64 (paCells p (.slice A n c))] := S6
      clear S5 e0 e1 e2 e3 e4 e5
      have SS := Lib.hid S6; clear S6
      go_wp2_with (first | ((with_reducible refine wpList_load_row rfl 64 _ rfl (b6) ?_ 64 (paCells s.1 (.slice A2 n2 c2)) (0, 0) _ (SS.out.row 2 rfl) Tryd.underlying64 rfl ?_ ?_); go_must (exact rfl); go_must (kernel_rfl)) | ((with_reducible refine wpList_load_row rfl 40 _ rfl (b9) ?_ 40 (gCells G (.slice Ae ne ce)) (0, 0) _ (SS.out.row 0 rfl) Tryd.underlying40 rfl ?_ ?_); go_must (exact rfl); go_must (kernel_rfl)))
      refine Calls.mono (impl_PaintTo s.1.PW s.1.PH s.1.G.W s.1.G.H s.1.G.X s.1.G.Y s.1.K s.1.G.R s.1.G.C A2 n2 c2 G.W G.H G.X G.Y G.R G.C Ae ne ce _ (HT.out.ext SS.out.ext) ((SS.out.ownI 3 rfl).ri) (re.ext SS.out.ext)) ?_; rintro e w6 ⟨u, vb, rfl, T6⟩
      have T6 : St w5 w6 [ownX vb (ptD s.1.PW s.1.PH s.1.K s.1.G G), ownI u (ptC s.1.PW s.1.PH s.1.K s.1.G G)] := T6
      have S7 := (SS.out.joined T6).alloc zeroP 64
      obtain ⟨A8, n8, c8, rfl⟩ := (T6.ownI 1 rfl).form'
      obtain ⟨Ab, nb, cb, rfl⟩ := (T6.ownX 0 rfl).form'
      clear SS T6
      have hDl := ptD_len s.1.PW s.1.PH s.1.K s.1.G G
      have HOK : Hid (ptNext s G = if ptOk s.1.PW s.1.PH s.1.K s.1.G G = true then (⟨s.1.PW, s.1.PH, true, G⟩, s.2 ++ ptD s.1.PW s.1.PH s.1.K s.1.G G) else s) := rfl
      have HPC : Hid (ptOk s.1.PW s.1.PH s.1.K s.1.G G = true → ptC s.1.PW s.1.PH s.1.K s.1.G G = G.C) := fun h => (pt_yes h).2
      have S7 : St w _ [row w6.heap.size 64 zeroP, ownX (.slice Ab nb cb) (ptD s.1.PW s.1.PH s.1.K s.1.G G), ownI (.slice A8 n8 c8) (ptC s.1.PW s.1.PH s.1.K s.1.G G), row b9 40 (gCells G (.slice Ae ne ce)), ownB (.slice A7 n7 c7) s.2, row b6 64 (paCells s.1 (.slice A2 n2 c2)), ownI (.slice A2 n2 c2) s.1.G.C, row (w.heap.size + 1) 64 zeroP, row w.heap.size 64 (paCells p (.slice A n c))] := S7
      rw [show (⟨s.1.G.W, s.1.G.H, s.1.G.C, s.1.G.X, s.1.G.Y, s.1.G.R⟩ : Gr) = s.1.G from rfl, show (⟨G.W, G.H, G.C, G.X, G.Y, G.R⟩ : Gr) = G from rfl]
      generalize ptD s.1.PW s.1.PH s.1.K s.1.G G = D at *
      generalize ptC s.1.PW s.1.PH s.1.K s.1.G G = C at *
      cases hq : ptOk s.1.PW s.1.PH s.1.K s.1.G G
      · rw [hq] at HOK HPC
        clear hq
        have HNX : Hid ((l.take (k + 1)).foldl (fun s x => ptNext s (toGr x)) (p, []) = s) := by show _ = _; rw [HF.out, HS.out, HOK.out]; rfl
        go_wp2_with ((with_reducible refine wp_setA (k := 0) (u := .agg (ptCs s.1.PW s.1.PH G false (.slice A8 n8 c8))) (paCells zeroPt (.slice A8 n8 c8)) S7 0 rfl ?_ ?_ ?_ ?_ ?_ ?_ ?_); go_must (exact rfl); go_must (exact rfl); go_must (kernel_rfl); go_must (kernel_rfl); go_must (exact Nat.le_of_ble_eq_true (by kernel_rfl)); go_must (kernel_rfl))
        intro w8 S8
        have S9 : St w w8 [ownB (.slice A7 n7 c7) s.2, row b6 64 (paCells s.1 (.slice A2 n2 c2)), ownI (.slice A2 n2 c2) s.1.G.C, row (w.heap.size + 1) 64 zeroP, row w.heap.size 64 (paCells p (.slice A n c))] := S8.drop.drop.drop.drop
        clear S7 S8
        have HS9 := Lib.hid S9; clear S9
        go_wp2_with fail
        go_roundw
        case rel => exact ⟨k + 1, s, A2, n2, c2, A7, n7, c7, by omega, by go_num, rfl, HNX.out, (by show _ ≤ _; have := HL.out; omega), HS9.out⟩
        case measure => simp [intOf]; omega
      · rw [hq] at HOK HPC
        clear hq
        have hC2 : C = G.C := HPC.out rfl
        subst hC2
        have HNX : Hid ((l.take (k + 1)).foldl (fun s x => ptNext s (toGr x)) (p, []) = (⟨s.1.PW, s.1.PH, true, G⟩, s.2 ++ D)) := by show _ = _; rw [HF.out, HS.out, HOK.out]; rfl
        have hsz : s.2.length + nb ≤ 140737488355327 := by
          have h1 := HL.out
          have h2 := (S7.ownX 1 rfl).rb.len
          have h3 : 1600031 * k ≤ 1600031 * 1048576 := Nat.mul_le_mul_left _ (by omega)
          omega
        have HDl := Lib.hid hDl; clear hDl
        go_wp2_with ((with_reducible refine wp_setA (k := 0) (u := .agg (ptCs s.1.PW s.1.PH G true (.slice A8 n8 c8))) (paCells ⟨s.1.PW, s.1.PH, true, G⟩ (.slice A8 n8 c8)) S7 0 rfl ?_ ?_ ?_ ?_ ?_ ?_ ?_); go_must (exact rfl); go_must (exact rfl); go_must (kernel_rfl); go_must (kernel_rfl); go_must (exact Nat.le_of_ble_eq_true (by kernel_rfl)); go_must (kernel_rfl))
        intro w8 S8
        have S8 : St w w8 [row w6.heap.size 64 (paCells ⟨s.1.PW, s.1.PH, true, G⟩ (.slice A8 n8 c8)), ownX (.slice Ab nb cb) D, ownI (.slice A8 n8 c8) G.C, row b9 40 (gCells G (.slice Ae ne ce)), ownB (.slice A7 n7 c7) s.2, row b6 64 (paCells s.1 (.slice A2 n2 c2)), ownI (.slice A2 n2 c2) s.1.G.C, row (w.heap.size + 1) 64 zeroP, row w.heap.size 64 (paCells p (.slice A n c))] := S8
        clear S7
        generalize w6.heap.size = b10 at *
        go_wp2_with (first | ((with_reducible refine wpList_load_row rfl 64 _ rfl (b10) ?_ 64 (paCells ⟨s.1.PW, s.1.PH, true, G⟩ (.slice A8 n8 c8)) (0, 0) _ (S8.row 0 rfl) Tryd.underlying64 rfl ?_ ?_); go_must (exact rfl); go_must (kernel_rfl)) | ((with_reducible refine wp_setA (k := 0) (u := .agg (paCells ⟨s.1.PW, s.1.PH, true, G⟩ (.slice A8 n8 c8))) (paCells ⟨s.1.PW, s.1.PH, true, G⟩ (.slice A8 n8 c8)) S8 5 rfl ?_ ?_ ?_ ?_ ?_ ?_ ?_); go_must (exact rfl); go_must (exact rfl); go_must (kernel_rfl); go_must (kernel_rfl); go_must (exact Nat.le_of_ble_eq_true (by kernel_rfl)); go_must (kernel_rfl)))
        intro w9 S9
        have S9 : St w w9 [row b10 64 (paCells ⟨s.1.PW, s.1.PH, true, G⟩ (.slice A8 n8 c8)), ownX (.slice Ab nb cb) D, ownI (.slice A8 n8 c8) G.C, row b9 40 (gCells G (.slice Ae ne ce)), ownB (.slice A7 n7 c7) s.2, row b6 64 (paCells ⟨s.1.PW, s.1.PH, true, G⟩ (.slice A8 n8 c8)), ownI (.slice A2 n2 c2) s.1.G.C, row (w.heap.size + 1) 64 zeroP, row w.heap.size 64 (paCells p (.slice A n c))] := S9
        clear S8
        have HS9 := Lib.hid S9; clear S9
        go_wp2_with (at_builtin; go_must (refine wp_addB rfl _ _ rfl HS9.out 4 rfl rfl rfl ((HS9.out.ownX 1 rfl).rb) hsz ?_))
        intro v10 w10 S10
        have S10 : St w w10 [row b10 64 (paCells ⟨s.1.PW, s.1.PH, true, G⟩ (.slice A8 n8 c8)), ownX (.slice Ab nb cb) D, ownI (.slice A8 n8 c8) G.C, row b9 40 (gCells G (.slice Ae ne ce)), ownB v10 (s.2 ++ D), row b6 64 (paCells ⟨s.1.PW, s.1.PH, true, G⟩ (.slice A8 n8 c8)), ownI (.slice A2 n2 c2) s.1.G.C, row (w.heap.size + 1) 64 zeroP, row w.heap.size 64 (paCells p (.slice A n c))] := S10
        obtain ⟨Ac, nc, cc, rfl⟩ := (S10.ownB 4 rfl).form'
        have S11 : St w w10 [ownB (.slice Ac nc cc) (s.2 ++ D), row b6 64 (paCells ⟨s.1.PW, s.1.PH, true, G⟩ (.slice A8 n8 c8)), ownI (.slice A8 n8 c8) G.C, row (w.heap.size + 1) 64 zeroP, row w.heap.size 64 (paCells p (.slice A n c))] := pa_pick S10
        clear HS9 S10
        have HS11 := Lib.hid S11; clear S11
        go_wp2_with fail
        go_roundw
        case rel => exact ⟨k + 1, (⟨s.1.PW, s.1.PH, true, G⟩, s.2 ++ D), A8, n8, c8, Ac, nc, cc, by omega, by go_num, rfl, HNX.out, (by show _ ≤ _; have h1 := HL.out; have h2 := HDl.out; rw [List.length_append]; omega), HS11.out⟩
        case measure => simp [intOf]; omega
    · obtain rfl : k = m := by omega
      have HE : Hid (paintAll p l = s) := by show _ = _; rw [HR.out, ← HS.out, List.take_of_length_le (by rw [← HN.out]; omega)]
      clear HS HR
      go_wp2_with (first | ((with_reducible refine wpList_load_row rfl 64 _ rfl (b6) ?_ 64 (paCells s.1 (.slice A2 n2 c2)) (0, 0) _ (S.row 1 rfl) Tryd.underlying64 rfl ?_ ?_); go_must (exact rfl); go_must (kernel_rfl)) | ((with_reducible refine wp_setA (k := 0) (u := .agg (paCells s.1 (.slice A2 n2 c2))) (paCells s.1 (.slice A2 n2 c2)) S 3 rfl ?_ ?_ ?_ ?_ ?_ ?_ ?_); go_must (exact rfl); go_must (exact rfl); go_must (kernel_rfl); go_must (kernel_rfl); go_must (exact Nat.le_of_ble_eq_true (by kernel_rfl)); go_must (kernel_rfl)))
      intro w6 S6
      obtain ⟨lc, -, -⟩ := S6.cells 3 rfl
      go_wp2_with fail
      refine bodyPost_ret (v := .tuple #[.agg (paCells s.1 (.slice A2 n2 c2)), .slice A7 n7 c7]) (by simp [results, Tryd.results48, go_sem, lc]) rfl ⟨.slice A2 n2 c2, .slice A7 n7 c7, by rw [HE.out], ?_⟩
      rw [HE.out]
      exact St.keep (M := [ownB (.slice A7 n7 c7) s.2, ownI (.slice A2 n2 c2) s.1.G.C]) (L := _) ((S6.bring 1 rfl).drop)
set_option maxRecDepth 100000 in
set_option maxHeartbeats 4000000 in
theorem spec_l29Copy (p : Pt) (A : Option Addr) (n c : Nat) (w : World) (hC : RI w A n c p.G.C) (hn : n ≤ 8000) :
    Calls Tryd.prog 88 #[.agg (paCells p (.slice A n c))] w fun e w' => ∃ v, e = .returned (.agg (paCells p v)) ∧ OwnI w' w.heap.size v p.G.C ∧ Ext w w' := by
  have S0 := ((St.refl w).alloc (paCells p (.slice A n c)) 64).alloc zeroP 64
  simp only [World.size_alloc] at S0
  have HC := Lib.hid hC; clear hC
  go_enter Tryd.func88, Tryd.ntmps88
  go_wp2_with fail
  refine Calls.mono (spec_l08Copy p.G A n c _ (HC.out.ext S0.ext) (by omega)) ?_; rintro e w1 ⟨v1, rfl, own1, x1⟩
  obtain ⟨A1, n1, c1, rfl⟩ := own1.form'
  have S1 := S0.newI own1 x1
  clear S0 own1 x1
  go_wp2_with ((with_reducible refine wp_setA (k := 3) (u := .agg (gCells p.G (.slice A1 n1 c1))) (paCells p (.slice A1 n1 c1)) S1 2 rfl ?_ ?_ ?_ ?_ ?_ ?_ ?_); go_must (exact rfl); go_must (exact rfl); go_must (kernel_rfl); go_must (kernel_rfl); go_must (exact Nat.le_of_ble_eq_true (by kernel_rfl)); go_must (kernel_rfl))
  intro w2 S2
  have S2 : St w w2 [ownI (.slice A1 n1 c1) p.G.C, row (w.heap.size + 1) 64 zeroP, row w.heap.size 64 (paCells p (.slice A1 n1 c1))] := S2
  clear S1
  go_wp2_with (first | ((with_reducible refine wpList_load_row rfl 64 _ rfl (w.heap.size) ?_ 64 (paCells p (.slice A1 n1 c1)) (0, 0) _ (S2.row 2 rfl) Tryd.underlying64 rfl ?_ ?_); go_must (exact rfl); go_must (kernel_rfl)) | ((with_reducible refine wp_setA (k := 0) (u := .agg (paCells p (.slice A1 n1 c1))) (paCells p (.slice A1 n1 c1)) S2 1 rfl ?_ ?_ ?_ ?_ ?_ ?_ ?_); go_must (exact rfl); go_must (exact rfl); go_must (kernel_rfl); go_must (kernel_rfl); go_must (exact Nat.le_of_ble_eq_true (by kernel_rfl)); go_must (kernel_rfl)))
  intro w3 S3
  clear S2
  go_wp2_with fail
  refine bodyPost_ret (v := .agg (paCells p (.slice A1 n1 c1))) (results_cell_row Tryd.results88 _ _ (w.heap.size + 1) 64 (paCells p (.slice A1 n1 c1)) (0, 0) _ rfl (S3.row 1 rfl) Tryd.underlying64 rfl (by kernel_rfl)) rfl ⟨_, rfl, S3.outI 0 rfl, S3.ext⟩
set_option maxRecDepth 100000 in
set_option maxHeartbeats 16000000 in
theorem spec_PaintAll (p : Pt) (l : List SGrid) (A : Option Addr) (n c : Nat) (v : Value) (w : World) (hC : RI w A n c p.G.C) (h : Rd w v (.sl 6 (l.flatMap dGrid))) (hs : l.length ≤ 1048576) :
    Calls Tryd.prog 46 #[.agg (paCells p (.slice A n c)), v] w (PaAns p l w) := by
  obtain ⟨Ag, cg, rfl, hcg, hcm, hA, hat⟩ := h.rows dGrid_len (by decide)
  obtain ⟨m, hm⟩ : ∃ m, m = l.length := ⟨_, rfl⟩
  rw [← hm] at hcg hat hs ⊢
  have HN := Lib.hid hm; clear hm
  have HAT := Lib.hid hat; clear hat h
  have hcap : m ≤ 9223372036854775807 := by omega
  have K := fun w h => spec_PaintOk p.PW p.PH p.G.W p.G.H p.G.X p.G.Y p.K p.G.R p.G.C A n c w h
  rw [show paintOk p.PW p.PH p.K ⟨p.G.W, p.G.H, p.G.C, p.G.X, p.G.Y, p.G.R⟩ = paOk p from rfl] at K
  have S0 := ((St.refl w).alloc (paCells p (.slice A n c)) 64).alloc zeroP 64
  simp only [World.size_alloc] at S0
  have HC := Lib.hid hC; clear hC
  cases hok : paOk p
  · have HR : Hid (paintAll p l = (zeroPt, [])) := by show _ = _; unfold paintAll; rw [hok]; rfl
    rw [hok] at K
    have HK := Lib.hid K; clear K hok
    go_enter Tryd.func46, Tryd.ntmps46
    go_wp2_with ((with_reducible refine wpList_load_row rfl 64 _ rfl (w.heap.size) ?_ 64 (paCells p (.slice A n c)) (0, 0) _ (S0.row 1 rfl) Tryd.underlying64 rfl ?_ ?_); go_must (exact rfl); go_must (kernel_rfl))
    refine Calls.mono (HK.out _ (HC.out.ext S0.ext)) ?_; rintro e w1 ⟨rfl, x1⟩
    have S1 := S0.call x1
    clear S0 x1
    go_wp2_with ((with_reducible refine wp_setA (k := 0) (u := .agg (zeroP)) (zeroP) S1 0 rfl ?_ ?_ ?_ ?_ ?_ ?_ ?_); go_must (exact rfl); go_must (exact rfl); go_must (kernel_rfl); go_must (kernel_rfl); go_must (exact Nat.le_of_ble_eq_true (by kernel_rfl)); go_must (kernel_rfl))
    intro w2 S2
    obtain ⟨lc, -, -⟩ := S2.cells 0 rfl
    go_wp2_with fail
    refine bodyPost_ret (v := .tuple #[.agg zeroP, .slice none 0 0]) (by simp [results, Tryd.results46, go_sem, lc]) rfl ⟨.slice none 0 0, .slice none 0 0, by rw [HR.out]; rfl, ?_⟩
    rw [HR.out]
    exact ((St.of S2.ext).nilI).nilB
  have hlen := paOk_len hok
  have HR : Hid (paintAll p l = l.foldl (fun s x => ptNext s (toGr x)) (p, [])) := by show _ = _; unfold paintAll; rw [if_pos hok]
  rw [hok] at K
  have HK := Lib.hid K; clear K hok
  have hn8 : n ≤ 8000 := by have := HC.out.len; omega
  clear hlen
  go_enter Tryd.func46, Tryd.ntmps46
  go_wp2_with ((with_reducible refine wpList_load_row rfl 64 _ rfl (w.heap.size) ?_ 64 (paCells p (.slice A n c)) (0, 0) _ (S0.row 1 rfl) Tryd.underlying64 rfl ?_ ?_); go_must (exact rfl); go_must (kernel_rfl))
  refine Calls.mono (HK.out _ (HC.out.ext S0.ext)) ?_; rintro e w1 ⟨rfl, x1⟩
  have S1 := S0.call x1
  clear S0 x1 HK
  go_wp2_with ((with_reducible refine wpList_load_row rfl 64 _ rfl (w.heap.size) ?_ 64 (paCells p (.slice A n c)) (0, 0) _ (S1.row 1 rfl) Tryd.underlying64 rfl ?_ ?_); go_must (exact rfl); go_must (kernel_rfl))
  refine Calls.mono (spec_l29Copy p A n c _ (HC.out.ext S1.ext) hn8) ?_; rintro e w2 ⟨v2, rfl, own2, x2⟩
  obtain ⟨A2, n2, c2, rfl⟩ := own2.form'
  have S2 := (S1.newI own2 x2).alloc zeroP 64
  clear S1 own2 x2
  go_wp2_with ((with_reducible refine wp_setA (k := 0) (u := .agg (paCells p (.slice A2 n2 c2))) (paCells p (.slice A2 n2 c2)) S2 0 rfl ?_ ?_ ?_ ?_ ?_ ?_ ?_); go_must (exact rfl); go_must (exact rfl); go_must (kernel_rfl); go_must (kernel_rfl); go_must (exact Nat.le_of_ble_eq_true (by kernel_rfl)); go_must (kernel_rfl))
  intro w3 S3
  generalize w2.heap.size = b6 at *
  have S2 : St w w3 [row b6 64 (paCells p (.slice A2 n2 c2)), ownI (.slice A2 n2 c2) p.G.C, row (w.heap.size + 1) 64 zeroP, row w.heap.size 64 (paCells p (.slice A n c))] := S3
  clear S3
  have S4 := S2.newB (OwnB.empty (Nat.le_refl _)) ((Ext.refl _).alloc _)
  clear S2
  go_wp2_with fail
  go_loopw [7, 22] (fun va vi wr => ∃ (k : Nat) (s : Pt × List UInt8) (A2 : Option Addr) (n2 c2 : Nat) (A7 : Option Addr) (n7 c7 : Nat), k ≤ m ∧ vi = .int .i64 k ∧ va = .slice A7 n7 c7 ∧ Hid ((l.take k).foldl (fun s x => ptNext s (toGr x)) (p, []) = s) ∧ Hid (s.2.length ≤ 1600031 * k) ∧ St w wr [ownB (.slice A7 n7 c7) s.2, row b6 64 (paCells s.1 (.slice A2 n2 c2)), ownI (.slice A2 n2 c2) s.1.G.C, row (w.heap.size + 1) 64 zeroP, row w.heap.size 64 (paCells p (.slice A n c))]) (fun _ vi _ => m - (intOf vi).toNat)
  case atStart => exact ⟨0, (p, []), _, _, _, _, _, _, by omega, rfl, rfl, rfl, by show _ ≤ _; simp, S4⟩
  case round =>
    obtain ⟨k, s, A2, n2, c2, A7, n7, c7, hk, rfl, rfl, HS, HL, S⟩ := hrel
    clear S4
    have hx := S.ext
    by_cases hlt : k < m
    · have hk2 : k < l.length := by rw [← HN.out]; exact hlt
      obtain ⟨b, o, rfl, hat2⟩ := HAT.out (by omega)
      have hg := List.getElem?_eq_getElem hk2
      have HF := Lib.hid (foldl_take1 (fun s x => ptNext s (toGr x)) (p, []) l hk2)
      generalize l[k]'hk2 = y at *
      obtain ⟨u0, e0, q0⟩ := hat2 k y hg 0 _ rfl
      obtain ⟨u1, e1, q1⟩ := hat2 k y hg 1 _ rfl
      obtain ⟨u2, e2, q2⟩ := hat2 k y hg 2 _ rfl
      obtain ⟨u3, e3, q3⟩ := hat2 k y hg 3 _ rfl
      obtain ⟨u4, e4, q4⟩ := hat2 k y hg 4 _ rfl
      obtain ⟨u5, e5, q5⟩ := hat2 k y hg 5 _ rfl
      obtain rfl := q0.atv
      obtain rfl := q1.atv
      obtain rfl := q3.atv
      obtain rfl := q4.atv
      obtain rfl := q5.atv
      obtain ⟨Ae, ne, ce, rfl, re⟩ := q2.ints
      have e0 := hx.cell e0
      have e1 := hx.cell e1
      have e2 := hx.cell e2
      have e3 := hx.cell e3
      have e4 := hx.cell e4
      have e5 := hx.cell e5
      simp only [← Nat.add_assoc, Nat.add_zero] at e0 e1 e2 e3 e4 e5
      clear hat2 hg hk2 q0 q1 q2 q3 q4 q5
      obtain ⟨G, hG⟩ : ∃ G, G = toGr y := ⟨_, rfl⟩
      have eC : y.Cells = G.C := by rw [hG]; rfl
      rw [show y.W = G.W by rw [hG]; rfl] at e0
      rw [show y.H = G.H by rw [hG]; rfl] at e1
      rw [show y.X = G.X by rw [hG]; rfl] at e3
      rw [show y.Y = G.Y by rw [hG]; rfl] at e4
      rw [show y.Wrap = G.R by rw [hG]; rfl] at e5
      rw [eC] at re
      rw [← hG] at HF
      clear hG eC
      have S5 := S.alloc zeroG 40
      clear S
      go_wp2_with ((with_reducible refine wp_setA (k := 0) (u := .agg (gCells G (.slice Ae ne ce))) (gCells G (.slice Ae ne ce)) S5 0 rfl ?_ ?_ ?_ ?_ ?_ ?_ ?_); go_must (exact rfl); go_must (exact rfl); go_must (kernel_rfl); go_must (kernel_rfl); go_must (exact Nat.le_of_ble_eq_true (by kernel_rfl)); go_must (kernel_rfl))
      intro w5 S6
      generalize wr.heap.size = b9 at *
      have S6 : St w w5 [row b9 40 (gCells G (.slice Ae ne ce)), ownB (.slice A7 n7 c7) s.2, row b6 64 (paCells s.1 (.slice A2 n2 c2)), ownI (.slice A2 n2 c2) s.1.G.C, row (w.heap.size + 1) 64 zeroP, row w.heap.size 64 (paCells p (.slice A n c))] := S6
      clear S5 e0 e1 e2 e3 e4 e5
      have SS := Lib.hid S6; clear S6
      go_wp2_with (first | ((with_reducible refine wpList_load_row rfl 64 _ rfl (b6) ?_ 64 (paCells s.1 (.slice A2 n2 c2)) (0, 0) _ (SS.out.row 2 rfl) Tryd.underlying64 rfl ?_ ?_); go_must (exact rfl); go_must (kernel_rfl)) | ((with_reducible refine wpList_load_row rfl 40 _ rfl (b9) ?_ 40 (gCells G (.slice Ae ne ce)) (0, 0) _ (SS.out.row 0 rfl) Tryd.underlying40 rfl ?_ ?_); go_must (exact rfl); go_must (kernel_rfl)))
      refine Calls.mono (spec_PaintTo s.1.PW s.1.PH s.1.G.W s.1.G.H s.1.G.X s.1.G.Y s.1.K s.1.G.R s.1.G.C A2 n2 c2 G.W G.H G.X G.Y G.R G.C Ae ne ce _ ((SS.out.ownI 3 rfl).ri) (re.ext SS.out.ext)) ?_; rintro e w6 ⟨u, vb, rfl, T6⟩
      have T6 : St w5 w6 [ownX vb (ptD s.1.PW s.1.PH s.1.K s.1.G G), ownI u (ptC s.1.PW s.1.PH s.1.K s.1.G G)] := T6
      have S7 := (SS.out.joined T6).alloc zeroP 64
      obtain ⟨A8, n8, c8, rfl⟩ := (T6.ownI 1 rfl).form'
      obtain ⟨Ab, nb, cb, rfl⟩ := (T6.ownX 0 rfl).form'
      clear SS T6
      have hDl := ptD_len s.1.PW s.1.PH s.1.K s.1.G G
      have HOK : Hid (ptNext s G = if ptOk s.1.PW s.1.PH s.1.K s.1.G G = true then (⟨s.1.PW, s.1.PH, true, G⟩, s.2 ++ ptD s.1.PW s.1.PH s.1.K s.1.G G) else s) := rfl
      have HPC : Hid (ptOk s.1.PW s.1.PH s.1.K s.1.G G = true → ptC s.1.PW s.1.PH s.1.K s.1.G G = G.C) := fun h => (pt_yes h).2
      have S7 : St w _ [row w6.heap.size 64 zeroP, ownX (.slice Ab nb cb) (ptD s.1.PW s.1.PH s.1.K s.1.G G), ownI (.slice A8 n8 c8) (ptC s.1.PW s.1.PH s.1.K s.1.G G), row b9 40 (gCells G (.slice Ae ne ce)), ownB (.slice A7 n7 c7) s.2, row b6 64 (paCells s.1 (.slice A2 n2 c2)), ownI (.slice A2 n2 c2) s.1.G.C, row (w.heap.size + 1) 64 zeroP, row w.heap.size 64 (paCells p (.slice A n c))] := S7
      rw [show (⟨s.1.G.W, s.1.G.H, s.1.G.C, s.1.G.X, s.1.G.Y, s.1.G.R⟩ : Gr) = s.1.G from rfl, show (⟨G.W, G.H, G.C, G.X, G.Y, G.R⟩ : Gr) = G from rfl]
      generalize ptD s.1.PW s.1.PH s.1.K s.1.G G = D at *
      generalize ptC s.1.PW s.1.PH s.1.K s.1.G G = C at *
      cases hq : ptOk s.1.PW s.1.PH s.1.K s.1.G G
      · rw [hq] at HOK HPC
        clear hq
        have HNX : Hid ((l.take (k + 1)).foldl (fun s x => ptNext s (toGr x)) (p, []) = s) := by show _ = _; rw [HF.out, HS.out, HOK.out]; rfl
        go_wp2_with ((with_reducible refine wp_setA (k := 0) (u := .agg (ptCs s.1.PW s.1.PH G false (.slice A8 n8 c8))) (paCells zeroPt (.slice A8 n8 c8)) S7 0 rfl ?_ ?_ ?_ ?_ ?_ ?_ ?_); go_must (exact rfl); go_must (exact rfl); go_must (kernel_rfl); go_must (kernel_rfl); go_must (exact Nat.le_of_ble_eq_true (by kernel_rfl)); go_must (kernel_rfl))
        intro w8 S8
        have S9 : St w w8 [ownB (.slice A7 n7 c7) s.2, row b6 64 (paCells s.1 (.slice A2 n2 c2)), ownI (.slice A2 n2 c2) s.1.G.C, row (w.heap.size + 1) 64 zeroP, row w.heap.size 64 (paCells p (.slice A n c))] := S8.drop.drop.drop.drop
        clear S7 S8
        have HS9 := Lib.hid S9; clear S9
        go_wp2_with fail
        go_roundw
        case rel => exact ⟨k + 1, s, A2, n2, c2, A7, n7, c7, by omega, by go_num, rfl, HNX.out, (by show _ ≤ _; have := HL.out; omega), HS9.out⟩
        case measure => simp [intOf]; omega
      · rw [hq] at HOK HPC
        clear hq
        have hC2 : C = G.C := HPC.out rfl
        subst hC2
        have HNX : Hid ((l.take (k + 1)).foldl (fun s x => ptNext s (toGr x)) (p, []) = (⟨s.1.PW, s.1.PH, true, G⟩, s.2 ++ D)) := by show _ = _; rw [HF.out, HS.out, HOK.out]; rfl
        have hsz : s.2.length + nb ≤ 140737488355327 := by
          have h1 := HL.out
          have h2 := (S7.ownX 1 rfl).rb.len
          have h3 : 1600031 * k ≤ 1600031 * 1048576 := Nat.mul_le_mul_left _ (by omega)
          omega
        have HDl := Lib.hid hDl; clear hDl
        go_wp2_with ((with_reducible refine wp_setA (k := 0) (u := .agg (ptCs s.1.PW s.1.PH G true (.slice A8 n8 c8))) (paCells ⟨s.1.PW, s.1.PH, true, G⟩ (.slice A8 n8 c8)) S7 0 rfl ?_ ?_ ?_ ?_ ?_ ?_ ?_); go_must (exact rfl); go_must (exact rfl); go_must (kernel_rfl); go_must (kernel_rfl); go_must (exact Nat.le_of_ble_eq_true (by kernel_rfl)); go_must (kernel_rfl))
        intro w8 S8
        have S8 : St w w8 [row w6.heap.size 64 (paCells ⟨s.1.PW, s.1.PH, true, G⟩ (.slice A8 n8 c8)), ownX (.slice Ab nb cb) D, ownI (.slice A8 n8 c8) G.C, row b9 40 (gCells G (.slice Ae ne ce)), ownB (.slice A7 n7 c7) s.2, row b6 64 (paCells s.1 (.slice A2 n2 c2)), ownI (.slice A2 n2 c2) s.1.G.C, row (w.heap.size + 1) 64 zeroP, row w.heap.size 64 (paCells p (.slice A n c))] := S8
        clear S7
        generalize w6.heap.size = b10 at *
        go_wp2_with (first | ((with_reducible refine wpList_load_row rfl 64 _ rfl (b10) ?_ 64 (paCells ⟨s.1.PW, s.1.PH, true, G⟩ (.slice A8 n8 c8)) (0, 0) _ (S8.row 0 rfl) Tryd.underlying64 rfl ?_ ?_); go_must (exact rfl); go_must (kernel_rfl)) | ((with_reducible refine wp_setA (k := 0) (u := .agg (paCells ⟨s.1.PW, s.1.PH, true, G⟩ (.slice A8 n8 c8))) (paCells ⟨s.1.PW, s.1.PH, true, G⟩ (.slice A8 n8 c8)) S8 5 rfl ?_ ?_ ?_ ?_ ?_ ?_ ?_); go_must (exact rfl); go_must (exact rfl); go_must (kernel_rfl); go_must (kernel_rfl); go_must (exact Nat.le_of_ble_eq_true (by kernel_rfl)); go_must (kernel_rfl)))
        intro w9 S9
        have S9 : St w w9 [row b10 64 (paCells ⟨s.1.PW, s.1.PH, true, G⟩ (.slice A8 n8 c8)), ownX (.slice Ab nb cb) D, ownI (.slice A8 n8 c8) G.C, row b9 40 (gCells G (.slice Ae ne ce)), ownB (.slice A7 n7 c7) s.2, row b6 64 (paCells ⟨s.1.PW, s.1.PH, true, G⟩ (.slice A8 n8 c8)), ownI (.slice A2 n2 c2) s.1.G.C, row (w.heap.size + 1) 64 zeroP, row w.heap.size 64 (paCells p (.slice A n c))] := S9
        clear S8
        have HS9 := Lib.hid S9; clear S9
        go_wp2_with (at_builtin; go_must (refine wp_addB rfl _ _ rfl HS9.out 4 rfl rfl rfl ((HS9.out.ownX 1 rfl).rb) hsz ?_))
        intro v10 w10 S10
        have S10 : St w w10 [row b10 64 (paCells ⟨s.1.PW, s.1.PH, true, G⟩ (.slice A8 n8 c8)), ownX (.slice Ab nb cb) D, ownI (.slice A8 n8 c8) G.C, row b9 40 (gCells G (.slice Ae ne ce)), ownB v10 (s.2 ++ D), row b6 64 (paCells ⟨s.1.PW, s.1.PH, true, G⟩ (.slice A8 n8 c8)), ownI (.slice A2 n2 c2) s.1.G.C, row (w.heap.size + 1) 64 zeroP, row w.heap.size 64 (paCells p (.slice A n c))] := S10
        obtain ⟨Ac, nc, cc, rfl⟩ := (S10.ownB 4 rfl).form'
        have S11 : St w w10 [ownB (.slice Ac nc cc) (s.2 ++ D), row b6 64 (paCells ⟨s.1.PW, s.1.PH, true, G⟩ (.slice A8 n8 c8)), ownI (.slice A8 n8 c8) G.C, row (w.heap.size + 1) 64 zeroP, row w.heap.size 64 (paCells p (.slice A n c))] := pa_pick S10
        clear HS9 S10
        have HS11 := Lib.hid S11; clear S11
        go_wp2_with fail
        go_roundw
        case rel => exact ⟨k + 1, (⟨s.1.PW, s.1.PH, true, G⟩, s.2 ++ D), A8, n8, c8, Ac, nc, cc, by omega, by go_num, rfl, HNX.out, (by show _ ≤ _; have h1 := HL.out; have h2 := HDl.out; rw [List.length_append]; omega), HS11.out⟩
        case measure => simp [intOf]; omega
    · obtain rfl : k = m := by omega
      have HE : Hid (paintAll p l = s) := by show _ = _; rw [HR.out, ← HS.out, List.take_of_length_le (by rw [← HN.out]; omega)]
      clear HS HR
      go_wp2_with (first | ((with_reducible refine wpList_load_row rfl 64 _ rfl (b6) ?_ 64 (paCells s.1 (.slice A2 n2 c2)) (0, 0) _ (S.row 1 rfl) Tryd.underlying64 rfl ?_ ?_); go_must (exact rfl); go_must (kernel_rfl)) | ((with_reducible refine wp_setA (k := 0) (u := .agg (paCells s.1 (.slice A2 n2 c2))) (paCells s.1 (.slice A2 n2 c2)) S 3 rfl ?_ ?_ ?_ ?_ ?_ ?_ ?_); go_must (exact rfl); go_must (exact rfl); go_must (kernel_rfl); go_must (kernel_rfl); go_must (exact Nat.le_of_ble_eq_true (by kernel_rfl)); go_must (kernel_rfl)))
      intro w6 S6
      obtain ⟨lc, -, -⟩ := S6.cells 3 rfl
      go_wp2_with fail
      refine bodyPost_ret (v := .tuple #[.agg (paCells s.1 (.slice A2 n2 c2)), .slice A7 n7 c7]) (by simp [results, Tryd.results46, go_sem, lc]) rfl ⟨.slice A2 n2 c2, .slice A7 n7 c7, by rw [HE.out], ?_⟩
      rw [HE.out]
      exact St.keep (M := [ownB (.slice A7 n7 c7) s.2, ownI (.slice A2 n2 c2) s.1.G.C]) (L := _) ((S6.bring 1 rfl).drop)
end Go.Proofs.YtohjjhoobikioaaDoor
