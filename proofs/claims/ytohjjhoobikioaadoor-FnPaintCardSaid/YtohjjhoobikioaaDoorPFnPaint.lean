/-
  Of several texts: LawFnPaint, PFnPaint.
-/
import Derived.Test.YtohjjhoobikioaaDoorSvB
import Derived.Test.YtohjjhoobikioaaDoorLawFnDiff
import Derived.Test.YtohjjhoobikioaaDoorVtF
import Derived.Test.YtohjjhoobikioaaDoorPAll
import Derived.Test.YtohjjhoobikioaaDoorDoor
import Derived.Test.YtohjjhoobikioaaDoorOpenB
/-! FnPaint: the law's walk. -/
namespace Go.Proofs.YtohjjhoobikioaaDoor
open Go.RowKit

/-! plainly: three grids painted one after another -/
def ofGr (g : Gr) : SGrid := ⟨g.W, g.H, g.C, g.X, g.Y, g.R⟩
theorem toGr_ofGr (g : Gr) : toGr (ofGr g) = g := rfl
def freshPt (w h : Int) : Pt := ⟨w, h, false, ⟨0, 0, [], 0, 0, false⟩⟩
theorem freshPt_ok {b : Gr} (hb : gridOk b = true) : paOk (freshPt b.W b.H) = true := by
  unfold paOk freshPt
  rw [paintOk_freshI]
  exact decide_eq_true (newOk_of hb)
theorem ptOk_shown {b s g : Gr} (hb : gridOk b = true) (hs : gridOk s = true) (hsR : s.R = false) (hsW : s.W = b.W) (hsH : s.H = b.H) :
    ptOk b.W b.H true s g = (gridOk g && !g.R && (g.W == b.W) && (g.H == b.H)) := by
  unfold ptOk paintOk
  rw [decide_eq_true (newOk_of hb)]
  simp [hs, hsR, hsW, hsH]
theorem shownOk {b s : Gr} (hb : gridOk b = true) (hs : gridOk s = true) (hsR : s.R = false) (hsW : s.W = b.W) (hsH : s.H = b.H) : paintOk b.W b.H true s = true := by
  unfold paintOk
  rw [decide_eq_true (newOk_of hb)]
  simp [hs, hsR, hsW, hsH]
theorem three_fed {b c : Gr} (hb : gridOk b = true) (hR : b.R = false) (_ : gridOk c = true) (hcR : c.R = false) (V : VtS) (hV : gridOk V.G = true) (hS : V.S = 0) (hP : V.P = []) (hw : V.G.W = b.W) (hh : V.G.H = b.H) :
    ∃ D, paintAll (freshPt b.W b.H) [ofGr b, ofGr c, ofGr (goG b 1 0)] = (⟨b.W, b.H, true, goG b 1 0⟩, D) ∧ D.length ≤ 4800093 ∧ feed V D = T (goG b 1 0) V.N := by
  have hd := goG_ok hb 1 0
  have hf := freshPt_ok hb
  have s1 : ptNext (freshPt b.W b.H, []) b = (⟨b.W, b.H, true, b⟩, [] ++ fullB b) := by
    have h1 : ptOk b.W b.H false ⟨0, 0, [], 0, 0, false⟩ b = true := by
      have : paintOk b.W b.H false ⟨0, 0, [], 0, 0, false⟩ = true := hf
      unfold ptOk; rw [this]; simp [hb, hR]
    unfold ptNext freshPt
    rw [if_pos h1]
    have h2 : ptD b.W b.H false ⟨0, 0, [], 0, 0, false⟩ b = fullD b := by unfold ptD; rw [if_pos h1]; rfl
    rw [h2]
    unfold fullD; rw [if_pos (fullOk_iff.2 ⟨hb, hR⟩)]
  have f1 : feed V (fullB b) = T b V.N := by
    obtain ⟨G, S, P, B, N⟩ := V
    simp only at hS hP hw hh
    subst hS; subst hP
    exact feed_full hb hV hw hh hR
  have l1 : (fullB b).length ≤ 1600031 := by
    have := fullD_len b
    unfold fullD at this
    rwa [if_pos (fullOk_iff.2 ⟨hb, hR⟩)] at this
  -- a step from a grid that is shown to one of the same size
  have step : ∀ (s g : Gr) (D : List UInt8), gridOk s = true → s.R = false → s.W = b.W → s.H = b.H → gridOk g = true → g.R = false → g.W = b.W → g.H = b.H → feed V D = T s V.N →
      ∃ D', ptNext (⟨b.W, b.H, true, s⟩, D) g = (⟨b.W, b.H, true, g⟩, D') ∧ D'.length ≤ D.length + 1600031 ∧ feed V D' = T g V.N := by
    intro s g D h1 h2 h3 h4 h5 h6 h7 h8 h9
    have hk : ptOk b.W b.H true s g = true := by rw [ptOk_shown hb h1 h2 h3 h4]; simp [h5, h6, h7, h8]
    refine ⟨D ++ ptD b.W b.H true s g, by unfold ptNext; rw [if_pos hk], by rw [List.length_append]; have := ptD_len b.W b.H true s g; omega, ?_⟩
    rw [feed_append, h9]
    have e : ptD b.W b.H true s g = diffB s g := by
      unfold ptD; rw [if_pos hk, if_pos rfl]
      unfold diffD; rw [if_pos (diffOk_iff.2 ⟨h1, h5, h3.trans h7.symm, h4.trans h8.symm, h6⟩)]
    rw [e, feed_diff h5 h1 (h3.trans h7.symm) (h4.trans h8.symm) h6]
  have e : paintAll (freshPt b.W b.H) [ofGr b, ofGr c, ofGr (goG b 1 0)] = ptNext (ptNext (ptNext (freshPt b.W b.H, []) b) c) (goG b 1 0) := by
    unfold paintAll; rw [if_pos hf]; rfl
  rw [e, s1]
  have h0 : feed V ([] ++ fullB b) = T b V.N := f1
  by_cases hc : ptOk b.W b.H true b c = true
  · have hq := hc
    rw [ptOk_shown hb hb hR rfl rfl] at hq
    simp only [Bool.and_eq_true, beq_iff_eq] at hq
    obtain ⟨⟨⟨g1, -⟩, g3⟩, g4⟩ := hq
    obtain ⟨D1, e1, n1, f2⟩ := step b c _ hb hR rfl rfl g1 hcR g3 g4 h0
    obtain ⟨D2, e2, n2, f3⟩ := step c (goG b 1 0) D1 g1 hcR g3 g4 hd rfl rfl rfl f2
    rw [e1, e2]
    exact ⟨D2, rfl, by simp at n1; omega, f3⟩
  · have hn : ptNext (⟨b.W, b.H, true, b⟩, [] ++ fullB b) c = (⟨b.W, b.H, true, b⟩, [] ++ fullB b) := by unfold ptNext; rw [if_neg hc]
    rw [hn]
    obtain ⟨D2, e2, n2, f3⟩ := step b (goG b 1 0) _ hb hR rfl rfl hd rfl rfl rfl h0
    rw [e2]
    exact ⟨D2, rfl, by simp at n2; omega, f3⟩
/-- a slice over a whole block -/
theorem Rd.of_row {w : World} {g : Nat} {T : TypeId} {cs : Array Value} {k n : Nat} {es : List Dv} (hrow : w.heap[g]? = some (.cells cs T (0, 0))) (h : Rds w cs.toList es) (hl : es.length = n * k) (hn : n ≤ 1048576) : Rd w (.slice (some ⟨g, 0, none⟩) n n) (.sl k es) := by
  refine .sl k es _ n n g 0 (fun i => cs.toList.getD i undef) hl (Nat.le_refl _) (by omega) (fun h => nomatch h) (fun _ => rfl) (fun i d e => ?_) (fun i d e => ?_)
  · obtain ⟨u, h1, -⟩ := h.get e
    rw [Nat.zero_add, cell_of_row w g i _ _ _ hrow]
    rw [← Array.getElem?_toList, h1]
    simp [List.getD, h1]
  · obtain ⟨u, h1, h2⟩ := h.get e
    have : cs.toList.getD i undef = u := by simp [List.getD, h1]
    rw [this]; exact h2
set_option linter.unusedSimpArgs false in
set_option maxRecDepth 100000 in
set_option maxHeartbeats 32000000 in
theorem law_FnPaint (A : Option Addr) (n cp0 : Nat) (l : List UInt8) (W : World) (ht : Tab W) (hr : RB W A n cp0 l) :
    Calls Tryd.prog 12 #[.slice A n cp0] W fun e w' => e = .returned (.bool true) ∧ Ext W w' := by
  have hn := hr.nmax
  by_cases hbig : 1048576 < n
  · go_enter Tryd.func12, Tryd.ntmps12
    go_wp2_with fail
    go_ret
    exact ⟨rfl, Ext.refl _⟩
  go_enter Tryd.func12, Tryd.ntmps12
  go_wp2_with fail
  refine (spec_MakeTerminal A n cp0 l _ hr (by omega)).mono ?_; rintro e w1 ⟨V, b, Ac, nc, cc, Aa, na, ca, Ap, np, cp, Ab, nb, cb, rfl, hV, hS, hb, hbw, hbh, hbR, rC, rA, rP, rb, x1⟩
  replace hV := Lib.hid hV; replace hS := Lib.hid hS; replace hb := Lib.hid hb; replace hbw := Lib.hid hbw; replace hbh := Lib.hid hbh; replace hbR := Lib.hid hbR; replace rC := Lib.hid rC; replace rA := Lib.hid rA; replace rP := Lib.hid rP; replace rb := Lib.hid rb
  have X1 := (x1.alloc (.cells (vA V (.slice Ac nc cc) (.slice Aa na ca) (.slice Ap np cp)) 58)).alloc (.cells (gA b (.slice Ab nb cb)) 40)
  go_wp2_with fail
  refine (spec_MakeGrids A n cp0 l _ (hr.ext X1) (by omega)).mono ?_; rintro e w2 ⟨a, c, Ay, ny, cy, Ax, nx, cx, rfl, -, hc, -, -, hcR, -, rx, x2⟩
  replace hc := Lib.hid hc; replace hcR := Lib.hid hcR; replace rx := Lib.hid rx
  have y1 := ((Ext.refl w1).alloc (.cells (vA V (.slice Ac nc cc) (.slice Aa na ca) (.slice Ap np cp)) 58)).alloc (.cells (gA b (.slice Ab nb cb)) 40)
  have y2 := ((Ext.refl w2).alloc (.cells (gA a (.slice Ay ny cy)) 40)).alloc (.cells (gA c (.slice Ax nx cx)) 40)
  have y12 := y1.trans (x2.trans y2)
  have r3 := row_ext (row_alloc (row_new w1 (.cells (vA V (.slice Ac nc cc) (.slice Aa na ca) (.slice Ap np cp)) 58)) (.cells (gA b (.slice Ab nb cb)) 40)) (x2.trans y2)
  have r4 := row_ext (row_new (w1.alloc (.cells (vA V (.slice Ac nc cc) (.slice Aa na ca) (.slice Ap np cp)) 58)) (.cells (gA b (.slice Ab nb cb)) 40)) (x2.trans y2)
  have r6 := row_new (w2.alloc (.cells (gA a (.slice Ay ny cy)) 40)) (.cells (gA c (.slice Ax nx cx)) 40)
  rw [World.size_alloc] at r4 r6
  have X2 := X1.trans (x2.trans y2)
  replace rC := Lib.hid (rC.out.ext y12)
  replace rA := Lib.hid (rA.out.ext y12)
  replace rP := Lib.hid (rP.out.ext y12)
  replace rb := Lib.hid (rb.out.ext y12)
  replace rx := Lib.hid (rx.out.ext y2)
  replace r3 := Lib.hid r3; replace r6 := Lib.hid r6
  obtain ⟨lc, lf, ls⟩ := rowAll r4
  replace r4 := Lib.hid r4
  clear x1 x2 y1 y2 y12 X1
  go_wp2_with fail
  generalize (w2.alloc (.cells (gA a (.slice Ay ny cy)) 40)).alloc (.cells (gA c (.slice Ax nx cx)) 40) = B at *
  generalize w1.heap.size = b3 at *
  generalize w2.heap.size = b5 at *
  have HT := Lib.hid (ht.ext X2); clear ht
  have hP0 : V.P = [] := by rcases hV.out.p with e | e; exact e; have := hS.out; omega
  obtain ⟨D, hD1, hD2, hD3⟩ := three_fed hb.out hbR.out hc.out hcR.out V hV.out.i.g hS.out hP0 hbw.out.symm hbh.out.symm
  have HB := hb; have HVk := Lib.hid hV.out.ok; have HD1 := Lib.hid hD1; have HD2 := Lib.hid hD2; have HD3 := Lib.hid hD3
  have HSH : Hid (paintOk b.W b.H true (goG b 1 0) = true) := shownOk hb.out (goG_ok hb.out 1 0) rfl rfl rfl
  have HN : Hid (newOk b.W b.H) := newOk_of hb.out
  have RC := rC; have RA := rA; have RP := rP; have RB' := rb; have RX := rx
  have R3 := r3; have R4 := r4; have R6 := r6
  clear hV hS hb hbw hbh hbR hc hcR rC rA rP rb rx hP0 hD1 hD2 hD3 r3 r4 r6
  -- the painter
  refine Calls.mono (impl_PaintNewI b.W b.H _ HN.out) ?_; rintro e w5 ⟨rfl, x5⟩
  have S0 := (St.of x5).alloc #[.int .i64 b.W, .int .i64 b.H, .bool false, .int .i64 0, .int .i64 0, .slice none 0 0, .int .i64 0, .int .i64 0, .bool false] 64
  clear lc lf ls x5
  go_wp2_with fail
  generalize w5.heap.size = b7 at *
  generalize w5.alloc (.cells #[.int .i64 b.W, .int .i64 b.H, .bool false, .int .i64 0, .int .i64 0, .slice none 0 0, .int .i64 0, .int .i64 0, .bool false] 64) = w6 at *
  have SS := Lib.hid S0.drew; clear S0
  refine wp_region_held_drew (S := fun w' => w'.heap[b3 + 1]? = some (.cells (gA b (.slice Ab nb cb)) 40 (0, 0)) ∧ w'.heap[b5 + 1]? = some (.cells (gA c (.slice Ax nx cx)) 40 (0, 0))) (by kernel_rfl) ⟨row_ext R4.out SS.out.ext, row_ext R6.out SS.out.ext⟩ (fun hHeld => ?_)
  refine wpAnyH_take (i := 0) (v := .agg (gA b (.slice Ab nb cb))) rfl (by kernel_rfl) (by kernel_rfl) (by kernel_rfl) (fun _ _ _ h => h) (yieldsIf_row (by rfl) _ _ rfl (b3 + 1) rfl _ _ _ (fun _ h => h.1) Tryd.underlying40 rfl (by kernel_rfl)) hHeld ?_
  (try simp only [Act.put, List.setIfInBounds_toArray, List.set_cons_zero, List.set_cons_succ])
  refine wpAnyH_take (i := 1) (v := .agg (gA c (.slice Ax nx cx))) rfl (by kernel_rfl) (by kernel_rfl) (by kernel_rfl) (fun _ _ _ h => h) (yieldsIf_row (by rfl) _ _ rfl (b5 + 1) rfl _ _ _ (fun _ h => h.2) Tryd.underlying40 rfl (by kernel_rfl)) hHeld ?_
  (try simp only [Act.put, List.setIfInBounds_toArray, List.set_cons_zero, List.set_cons_succ])
  refine wpAnyH_take (i := 2) (v := .agg (gA b (.slice Ab nb cb))) rfl (by kernel_rfl) (by kernel_rfl) (by kernel_rfl) (fun _ _ _ h => h) (yieldsIf_row (by rfl) _ _ rfl (b3 + 1) rfl _ _ _ (fun _ h => h.1) Tryd.underlying40 rfl (by kernel_rfl)) hHeld ?_
  (try simp only [Act.put, List.setIfInBounds_toArray, List.set_cons_zero, List.set_cons_succ])
  refine wpAnyH_ready (rs := [3]) (by kernel_rfl) (by simp) ?_
  refine AllReadyH.cons rfl (fun K hK => ?_) AllReadyH.nil
  rw [if_pos (by rfl)]
  go_simp
  refine Calls.mono (impl_GridGo b Ab nb cb 1 0 _ (RB'.out.ext SS.out.ext) HB.out (by omega) (by omega)) ?_; rintro e w7 ⟨vd, rfl, ownd, xd⟩
  obtain ⟨Ad, nd, cd, rfl⟩ := ownd.form'
  have S1 := SS.out.newI ownd xd
  clear SS ownd xd
  refine hK.out _ _ ⟨row_ext R4.out S1.ext, row_ext R6.out S1.ext⟩ (fun hHeld => ?_)
  clear hK K
  (try simp only [Act.put, List.setIfInBounds_toArray, List.set_cons_zero, List.set_cons_succ])
  refine wpAnyH_ready (rs := [4]) (by kernel_rfl) (by simp) ?_
  refine AllReadyH.cons rfl (fun K hK => ?_) AllReadyH.nil
  rw [if_pos (by rfl)]
  go_simp
  have S2 := S1.alloc #[.int .i64 b.W, .int .i64 b.H, .slice Ab nb cb, .int .i64 b.X, .int .i64 b.Y, .bool b.R, .int .i64 c.W, .int .i64 c.H, .slice Ax nx cx, .int .i64 c.X, .int .i64 c.Y, .bool c.R, .int .i64 b.W, .int .i64 b.H, .slice Ad nd cd, .int .i64 (goG b 1 0).X, .int .i64 (goG b 1 0).Y, .bool false] 40
  clear S1
  refine hK.out _ _ ⟨row_ext R4.out S2.ext, row_ext R6.out S2.ext⟩ (fun hHeld => ?_)
  clear hK K
  (try simp only [Act.put, List.setIfInBounds_toArray, List.set_cons_zero, List.set_cons_succ])
  refine wpAnyH_ready (rs := [5]) (by kernel_rfl) (by simp) ?_
  refine AllReadyH.cons rfl (fun K hK => ?_) AllReadyH.nil
  rw [if_pos (by rfl)]
  go_simp
  refine hK.out _ _ ⟨row_ext R4.out S2.ext, row_ext R6.out S2.ext⟩ (fun hHeld => ?_)
  clear hK K
  (try simp only [Act.put, List.setIfInBounds_toArray, List.set_cons_zero, List.set_cons_succ])
  refine wpAnyH_done (by kernel_rfl) ?_ _
  generalize w7.heap.size = b9 at *
  generalize w7.alloc (.cells #[.int .i64 b.W, .int .i64 b.H, .slice Ab nb cb, .int .i64 b.X, .int .i64 b.Y, .bool b.R, .int .i64 c.W, .int .i64 c.H, .slice Ax nx cx, .int .i64 c.X, .int .i64 c.Y, .bool c.R, .int .i64 b.W, .int .i64 b.H, .slice Ad nd cd, .int .i64 (goG b 1 0).X, .int .i64 (goG b 1 0).Y, .bool false] 40) = w8 at *
  have rd9 : Rd w8 (.slice (some ⟨b9, 0, none⟩) 3 3) (.sl 6 ([ofGr b, ofGr c, ofGr (goG b 1 0)].flatMap dGrid)) :=
    Rd.of_row (S2.row 0 rfl) (.cons (.one _) (.cons (.one _) (.cons (RB'.out.ext S2.ext).rd (.cons (.one _) (.cons (.one _) (.cons (.one _) (.cons (.one _) (.cons (.one _) (.cons (RX.out.ext S2.ext).rd (.cons (.one _) (.cons (.one _) (.cons (.one _) (.cons (.one _) (.cons (.one _) (.cons ((S2.ownI 1 rfl).ri).rd (.cons (.one _) (.cons (.one _) (.cons (.one _) .nil)))))))))))))))))) rfl (by omega)
  go_wp2_with ((with_reducible refine wpList_load_row rfl 64 _ rfl (b7) ?_ 64 (#[.int .i64 b.W, .int .i64 b.H, .bool false, .int .i64 0, .int .i64 0, .slice none 0 0, .int .i64 0, .int .i64 0, .bool false]) (0, 0) _ (S2.row 2 rfl) Tryd.underlying64 rfl ?_ ?_); go_must (exact rfl); go_must (kernel_rfl))
  refine Calls.mono (impl_PaintAll (freshPt b.W b.H) [ofGr b, ofGr c, ofGr (goG b 1 0)] none 0 0 _ _ (HT.out.ext S2.ext) (RI.nil _) rd9 (by simp)) ?_; rintro e w9 ⟨u, vb, rfl, T9⟩
  rw [HD1.out] at T9 ⊢
  obtain ⟨Aq, nq, cq, rfl⟩ := (T9.ownI 1 rfl).form'
  obtain ⟨Aw, nw, cw, rfl⟩ := (T9.ownB 0 rfl).form'
  have S3 := (S2.joined T9).alloc (paCells ⟨b.W, b.H, true, goG b 1 0⟩ (.slice Aq nq cq)) 64
  have hDn : nw ≤ 1099511627776 := by have h1 := (T9.ownB 0 rfl).rb.len; have h2 := HD2.out; simp only at h1; omega
  clear S2 T9 rd9
  have S3 : St B _ [row w9.heap.size 64 (paCells ⟨b.W, b.H, true, goG b 1 0⟩ (.slice Aq nq cq)), ownB (.slice Aw nw cw) D, ownI (.slice Aq nq cq) (goG b 1 0).C, row b9 40 #[.int .i64 b.W, .int .i64 b.H, .slice Ab nb cb, .int .i64 b.X, .int .i64 b.Y, .bool b.R, .int .i64 c.W, .int .i64 c.H, .slice Ax nx cx, .int .i64 c.X, .int .i64 c.Y, .bool c.R, .int .i64 b.W, .int .i64 b.H, .slice Ad nd cd, .int .i64 (goG b 1 0).X, .int .i64 (goG b 1 0).Y, .bool false], ownI (.slice Ad nd cd) b.C, row b7 64 #[.int .i64 b.W, .int .i64 b.H, .bool false, .int .i64 0, .int .i64 0, .slice none 0 0, .int .i64 0, .int .i64 0, .bool false]] := S3
  generalize hwA : w9.alloc (.cells (paCells ⟨b.W, b.H, true, goG b 1 0⟩ (.slice Aq nq cq)) 64) = w10 at *
  go_wp2_with ((with_reducible refine wpList_load_row rfl 58 _ rfl (b3) ?_ 58 (vA V (.slice Ac nc cc) (.slice Aa na ca) (.slice Ap np cp)) (0, 0) _ (row_ext R3.out S3.ext) Tryd.underlying58 rfl ?_ ?_); go_must (exact rfl); go_must (kernel_rfl))
  generalize w9.heap.size = b10 at *
  refine Calls.mono (impl_VtFeed V Ac Aa Ap nc cc na ca np cp Aw nw cw D _ (RC.out.ext S3.ext) (RA.out.ext S3.ext) (RP.out.ext S3.ext) ((S3.ownB 1 rfl).rb) HVk.out hDn) ?_; rintro e w11 ⟨vc, va, vp, rfl, T11⟩
  rw [HD3.out] at T11 ⊢
  obtain ⟨Ar, nr, cr, rfl⟩ := (T11.ownI 0 rfl).form'
  obtain ⟨As, ns, cs, rfl⟩ := (T11.ownI 1 rfl).form'
  obtain ⟨At, nt, ct, rfl⟩ := (T11.ownB 2 rfl).form'
  have S4 := (S3.joined T11).alloc (vA (T (goG b 1 0) V.N) (.slice Ar nr cr) (.slice As ns cs) (.slice At nt ct)) 58
  clear S3 T11
  have S4 : St B _ [row w11.heap.size 58 #[.int .i64 (goG b 1 0).W, .int .i64 (goG b 1 0).H, .slice Ar nr cr, .int .i64 (goG b 1 0).X, .int .i64 (goG b 1 0).Y, .bool (goG b 1 0).R, .int .i64 0, .slice As ns cs, .slice At nt ct, .int .i64 V.N], ownI (.slice Ar nr cr) (goG b 1 0).C, ownI (.slice As ns cs) [], ownB (.slice At nt ct) [], row b10 64 (paCells ⟨b.W, b.H, true, goG b 1 0⟩ (.slice Aq nq cq)), ownB (.slice Aw nw cw) D, ownI (.slice Aq nq cq) (goG b 1 0).C, row b9 40 #[.int .i64 b.W, .int .i64 b.H, .slice Ab nb cb, .int .i64 b.X, .int .i64 b.Y, .bool b.R, .int .i64 c.W, .int .i64 c.H, .slice Ax nx cx, .int .i64 c.X, .int .i64 c.Y, .bool c.R, .int .i64 b.W, .int .i64 b.H, .slice Ad nd cd, .int .i64 (goG b 1 0).X, .int .i64 (goG b 1 0).Y, .bool false], ownI (.slice Ad nd cd) b.C, row b7 64 #[.int .i64 b.W, .int .i64 b.H, .bool false, .int .i64 0, .int .i64 0, .slice none 0 0, .int .i64 0, .int .i64 0, .bool false]] := S4
  go_wp2_with fail
  generalize w11.alloc (.cells (vA (T (goG b 1 0) V.N) (.slice Ar nr cr) (.slice As ns cs) (.slice At nt ct)) 58) = w12 at *
  generalize w11.heap.size = b12 at *
  have SS := Lib.hid S4.drew; clear S4
  refine wp_region_held_drew (S := fun w' => w'.heap[b12]? = some (.cells #[.int .i64 (goG b 1 0).W, .int .i64 (goG b 1 0).H, .slice Ar nr cr, .int .i64 (goG b 1 0).X, .int .i64 (goG b 1 0).Y, .bool (goG b 1 0).R, .int .i64 0, .slice As ns cs, .slice At nt ct, .int .i64 V.N] 58 (0, 0)) ∧ w'.heap[b10]? = some (.cells (paCells ⟨b.W, b.H, true, goG b 1 0⟩ (.slice Aq nq cq)) 64 (0, 0)) ∧ w'.heap[b3 + 1]? = some (.cells (gA b (.slice Ab nb cb)) 40 (0, 0))) (by kernel_rfl) ⟨SS.out.row 0 rfl, SS.out.row 4 rfl, row_ext R4.out SS.out.ext⟩ (fun hHeld => ?_)
  refine wpAnyH_take (i := 0) (oi := { dst := some 48, op := Op.move (Operand.tmp 8), type := 4, pos := "laws.go:356", after := #[], guard := none }) (v := .bool true) rfl (by kernel_rfl) (by kernel_rfl) (by kernel_rfl) (fun _ _ _ h => h) (Or.inl ⟨by rfl, fun w hSw => by go_simp⟩) hHeld ?_
  (try simp only [Act.put, List.setIfInBounds_toArray, List.set_cons_zero, List.set_cons_succ])
  refine wpAnyH_take (i := 1) (oi := { dst := some 49, op := Op.move (Operand.tmp 48), type := 4, pos := "laws.go:356", after := #[{ on := 0, ground := Ground.data }], guard := none }) (v := .bool true) rfl (by kernel_rfl) (by kernel_rfl) (by kernel_rfl) (fun _ _ _ h => h) (Or.inl ⟨by rfl, fun w hSw => by go_simp⟩) hHeld ?_
  (try simp only [Act.put, List.setIfInBounds_toArray, List.set_cons_zero, List.set_cons_succ])
  refine wpAnyH_take (i := 2) (oi := { dst := some 50, op := Op.fieldAddr 64 (Operand.tmp 10) 2, type := 0, pos := "laws.go:356", after := #[{ on := 1, ground := Ground.guard }], guard := some (1, true) }) (v := .pointer (some ⟨b10, 2, none⟩)) rfl (by kernel_rfl) (by kernel_rfl) (by kernel_rfl) (fun _ _ _ h => h) (Or.inl ⟨by rfl, fun w hSw => by go_simp⟩) hHeld ?_
  (try simp only [Act.put, List.setIfInBounds_toArray, List.set_cons_zero, List.set_cons_succ])
  refine wpAnyH_take (i := 3) (oi := { dst := some 51, op := Op.load 4 (Operand.tmp 50), type := 4, pos := "laws.go:356", after := #[{ on := 2, ground := Ground.data }, { on := 1, ground := Ground.guard }], guard := some (1, true) }) (v := .bool true) rfl (by kernel_rfl) (by kernel_rfl) (by kernel_rfl) (fun _ _ _ h => h) (Or.inl ⟨by rfl, fun w hSw => by have hrow := rowAll hSw.2.1; obtain ⟨lc, -, -⟩ := hrow; go_simp⟩) hHeld ?_
  (try simp only [Act.put, List.setIfInBounds_toArray, List.set_cons_zero, List.set_cons_succ])
  refine wpAnyH_take (i := 4) (oi := { dst := some 52, op := Op.pick (Operand.tmp 49) (Operand.tmp 51) (Operand.const (Value.bool false)), type := 4, pos := "laws.go:356", after := #[{ on := 1, ground := Ground.data }, { on := 3, ground := Ground.data }], guard := none }) (v := .bool true) rfl (by kernel_rfl) (by kernel_rfl) (by kernel_rfl) (fun _ _ _ h => h) (Or.inl ⟨by rfl, fun w hSw => by go_simp⟩) hHeld ?_
  (try simp only [Act.put, List.setIfInBounds_toArray, List.set_cons_zero, List.set_cons_succ])
  refine wpAnyH_take (i := 5) (oi := { dst := some 53, op := Op.move (Operand.tmp 52), type := 4, pos := "laws.go:356", after := #[{ on := 4, ground := Ground.data }, { on := 1, ground := Ground.chain }], guard := none }) (v := .bool true) rfl (by kernel_rfl) (by kernel_rfl) (by kernel_rfl) (fun _ _ _ h => h) (Or.inl ⟨by rfl, fun w hSw => by go_simp⟩) hHeld ?_
  (try simp only [Act.put, List.setIfInBounds_toArray, List.set_cons_zero, List.set_cons_succ])
  refine wpAnyH_take (i := 6) (oi := { dst := some 54, op := Op.fieldAddr 58 (Operand.tmp 12) 0, type := 0, pos := "laws.go:356", after := #[{ on := 5, ground := Ground.guard }], guard := some (5, true) }) (v := .pointer (some ⟨b12, 0, none⟩)) rfl (by kernel_rfl) (by kernel_rfl) (by kernel_rfl) (fun _ _ _ h => h) (Or.inl ⟨by rfl, fun w hSw => by go_simp⟩) hHeld ?_
  (try simp only [Act.put, List.setIfInBounds_toArray, List.set_cons_zero, List.set_cons_succ])
  refine wpAnyH_take (i := 7) (oi := { dst := some 55, op := Op.load 40 (Operand.tmp 54), type := 40, pos := "laws.go:356", after := #[{ on := 6, ground := Ground.data }, { on := 5, ground := Ground.guard }], guard := some (5, true) }) (v := .agg #[.int .i64 (goG b 1 0).W, .int .i64 (goG b 1 0).H, .slice Ar nr cr, .int .i64 (goG b 1 0).X, .int .i64 (goG b 1 0).Y, .bool (goG b 1 0).R]) rfl (by kernel_rfl) (by kernel_rfl) (by kernel_rfl) (fun _ _ _ h => h) (Or.inl ⟨by rfl, fun w hSw => by have hrow := rowAll hSw.1; obtain ⟨lc, -, -⟩ := hrow; go_simp⟩) hHeld ?_
  (try simp only [Act.put, List.setIfInBounds_toArray, List.set_cons_zero, List.set_cons_succ])
  refine wpAnyH_take (i := 8) (oi := { dst := some 56, op := Op.fieldAddr 64 (Operand.tmp 10) 3, type := 0, pos := "laws.go:356", after := #[{ on := 5, ground := Ground.guard }], guard := some (5, true) }) (v := .pointer (some ⟨b10, 3, none⟩)) rfl (by kernel_rfl) (by kernel_rfl) (by kernel_rfl) (fun _ _ _ h => h) (Or.inl ⟨by rfl, fun w hSw => by go_simp⟩) hHeld ?_
  (try simp only [Act.put, List.setIfInBounds_toArray, List.set_cons_zero, List.set_cons_succ])
  refine wpAnyH_take (i := 9) (oi := { dst := some 57, op := Op.load 40 (Operand.tmp 56), type := 40, pos := "laws.go:356", after := #[{ on := 8, ground := Ground.data }, { on := 5, ground := Ground.guard }], guard := some (5, true) }) (v := .agg #[.int .i64 (goG b 1 0).W, .int .i64 (goG b 1 0).H, .slice Aq nq cq, .int .i64 (goG b 1 0).X, .int .i64 (goG b 1 0).Y, .bool (goG b 1 0).R]) rfl (by kernel_rfl) (by kernel_rfl) (by kernel_rfl) (fun _ _ _ h => h) (Or.inl ⟨by rfl, fun w hSw => by have hrow := rowAll hSw.2.1; obtain ⟨lc, -, -⟩ := hrow; go_simp⟩) hHeld ?_
  (try simp only [Act.put, List.setIfInBounds_toArray, List.set_cons_zero, List.set_cons_succ])
  refine wpAnyH_ready (rs := [10]) (by kernel_rfl) (by simp) ?_
  refine AllReadyH.cons rfl (fun K hK => ?_) AllReadyH.nil
  rw [if_pos (by rfl)]
  go_simp
  have K1 := impl_SameGrid (goG b 1 0).W (goG b 1 0).H (goG b 1 0).X (goG b 1 0).Y (goG b 1 0).R (goG b 1 0).C Ar nr cr (goG b 1 0).W (goG b 1 0).H (goG b 1 0).X (goG b 1 0).Y (goG b 1 0).R (goG b 1 0).C Aq nq cq _ ((SS.out.ownI 1 rfl).ri) ((SS.out.ownI 6 rfl).ri)
  rw [(show sameG ⟨(goG b 1 0).W, (goG b 1 0).H, (goG b 1 0).C, (goG b 1 0).X, (goG b 1 0).Y, (goG b 1 0).R⟩ ⟨(goG b 1 0).W, (goG b 1 0).H, (goG b 1 0).C, (goG b 1 0).X, (goG b 1 0).Y, (goG b 1 0).R⟩ = true from sameG_self _)] at K1
  refine Calls.mono K1 ?_; rintro e w13 ⟨rfl, x13⟩
  have S5 := SS.out.call x13
  clear SS K1 x13
  refine hK.out _ _ ⟨S5.row 0 rfl, S5.row 4 rfl, row_ext R4.out S5.ext⟩ (fun hHeld => ?_)
  clear hK K
  (try simp only [Act.put, List.setIfInBounds_toArray, List.set_cons_zero, List.set_cons_succ])
  refine wpAnyH_take (i := 11) (oi := { dst := some 59, op := Op.pick (Operand.tmp 53) (Operand.tmp 58) (Operand.const (Value.bool false)), type := 4, pos := "laws.go:356", after := #[{ on := 5, ground := Ground.data }, { on := 10, ground := Ground.data }], guard := none }) (v := .bool true) rfl (by kernel_rfl) (by kernel_rfl) (by kernel_rfl) (fun _ _ _ h => h) (Or.inl ⟨by rfl, fun w hSw => by go_simp⟩) hHeld ?_
  (try simp only [Act.put, List.setIfInBounds_toArray, List.set_cons_zero, List.set_cons_succ])
  refine wpAnyH_take (i := 12) (oi := { dst := some 60, op := Op.move (Operand.tmp 59), type := 4, pos := "laws.go:356", after := #[{ on := 11, ground := Ground.data }, { on := 10, ground := Ground.chain }], guard := none }) (v := .bool true) rfl (by kernel_rfl) (by kernel_rfl) (by kernel_rfl) (fun _ _ _ h => h) (Or.inl ⟨by rfl, fun w hSw => by go_simp⟩) hHeld ?_
  (try simp only [Act.put, List.setIfInBounds_toArray, List.set_cons_zero, List.set_cons_succ])
  refine wpAnyH_take (i := 13) (oi := { dst := some 61, op := Op.fieldAddr 64 (Operand.tmp 10) 3, type := 0, pos := "laws.go:356", after := #[{ on := 12, ground := Ground.guard }], guard := some (12, true) }) (v := .pointer (some ⟨b10, 3, none⟩)) rfl (by kernel_rfl) (by kernel_rfl) (by kernel_rfl) (fun _ _ _ h => h) (Or.inl ⟨by rfl, fun w hSw => by go_simp⟩) hHeld ?_
  (try simp only [Act.put, List.setIfInBounds_toArray, List.set_cons_zero, List.set_cons_succ])
  refine wpAnyH_take (i := 14) (oi := { dst := some 62, op := Op.load 40 (Operand.tmp 61), type := 40, pos := "laws.go:356", after := #[{ on := 13, ground := Ground.data }, { on := 12, ground := Ground.guard }], guard := some (12, true) }) (v := .agg #[.int .i64 (goG b 1 0).W, .int .i64 (goG b 1 0).H, .slice Aq nq cq, .int .i64 (goG b 1 0).X, .int .i64 (goG b 1 0).Y, .bool (goG b 1 0).R]) rfl (by kernel_rfl) (by kernel_rfl) (by kernel_rfl) (fun _ _ _ h => h) (Or.inl ⟨by rfl, fun w hSw => by have hrow := rowAll hSw.2.1; obtain ⟨lc, -, -⟩ := hrow; go_simp⟩) hHeld ?_
  (try simp only [Act.put, List.setIfInBounds_toArray, List.set_cons_zero, List.set_cons_succ])
  refine wpAnyH_take (i := 15) (oi := { dst := some 63, op := Op.load 40 (Operand.tmp 4), type := 40, pos := "laws.go:356", after := #[{ on := 12, ground := Ground.guard }], guard := some (12, true) }) (v := .agg (gA b (.slice Ab nb cb))) rfl (by kernel_rfl) (by kernel_rfl) (by kernel_rfl) (fun _ _ _ h => h) (yieldsIf_row (by rfl) _ _ rfl (b3 + 1) rfl _ _ _ (fun _ h => h.2.2) Tryd.underlying40 rfl (by kernel_rfl)) hHeld ?_
  (try simp only [Act.put, List.setIfInBounds_toArray, List.set_cons_zero, List.set_cons_succ])
  refine wpAnyH_ready (rs := [16]) (by kernel_rfl) (by simp) ?_
  refine AllReadyH.cons rfl (fun K hK => ?_) AllReadyH.nil
  rw [if_pos (by rfl)]
  go_simp
  refine Calls.mono (spec_GridGo b Ab nb cb 1 0 _ (RB'.out.ext S5.ext) HB.out) ?_; rintro e w14 ⟨v14, rfl, own14, x14⟩
  obtain ⟨A14, n14, c14, rfl⟩ := own14.form'
  have r14 := own14.ri
  have S6 := S5.call x14
  clear S5 own14 x14
  refine hK.out _ _ ⟨S6.row 0 rfl, S6.row 4 rfl, row_ext R4.out S6.ext⟩ (fun hHeld => ?_)
  clear hK K
  (try simp only [Act.put, List.setIfInBounds_toArray, List.set_cons_zero, List.set_cons_succ])
  refine wpAnyH_ready (rs := [17]) (by kernel_rfl) (by simp) ?_
  refine AllReadyH.cons rfl (fun K hK => ?_) AllReadyH.nil
  rw [if_pos (by rfl)]
  go_simp
  have K1 := impl_SameGrid (goG b 1 0).W (goG b 1 0).H (goG b 1 0).X (goG b 1 0).Y (goG b 1 0).R (goG b 1 0).C Aq nq cq (goG b 1 0).W (goG b 1 0).H (goG b 1 0).X (goG b 1 0).Y (goG b 1 0).R (goG b 1 0).C A14 n14 c14 _ ((S6.ownI 6 rfl).ri) r14
  rw [(show sameG ⟨(goG b 1 0).W, (goG b 1 0).H, (goG b 1 0).C, (goG b 1 0).X, (goG b 1 0).Y, (goG b 1 0).R⟩ ⟨(goG b 1 0).W, (goG b 1 0).H, (goG b 1 0).C, (goG b 1 0).X, (goG b 1 0).Y, (goG b 1 0).R⟩ = true from sameG_self _)] at K1
  refine Calls.mono K1 ?_; rintro e w15 ⟨rfl, x15⟩
  have S7 := S6.call x15
  clear S6 K1 x15 r14
  refine hK.out _ _ ⟨S7.row 0 rfl, S7.row 4 rfl, row_ext R4.out S7.ext⟩ (fun hHeld => ?_)
  clear hK K
  (try simp only [Act.put, List.setIfInBounds_toArray, List.set_cons_zero, List.set_cons_succ])
  refine wpAnyH_take (i := 18) (oi := { dst := some 66, op := Op.pick (Operand.tmp 60) (Operand.tmp 65) (Operand.const (Value.bool false)), type := 4, pos := "laws.go:356", after := #[{ on := 12, ground := Ground.data }, { on := 17, ground := Ground.data }], guard := none }) (v := .bool true) rfl (by kernel_rfl) (by kernel_rfl) (by kernel_rfl) (fun _ _ _ h => h) (Or.inl ⟨by rfl, fun w hSw => by go_simp⟩) hHeld ?_
  (try simp only [Act.put, List.setIfInBounds_toArray, List.set_cons_zero, List.set_cons_succ])
  refine wpAnyH_take (i := 19) (oi := { dst := some 67, op := Op.move (Operand.tmp 66), type := 4, pos := "laws.go:356", after := #[{ on := 18, ground := Ground.data }, { on := 17, ground := Ground.chain }], guard := none }) (v := .bool true) rfl (by kernel_rfl) (by kernel_rfl) (by kernel_rfl) (fun _ _ _ h => h) (Or.inl ⟨by rfl, fun w hSw => by go_simp⟩) hHeld ?_
  (try simp only [Act.put, List.setIfInBounds_toArray, List.set_cons_zero, List.set_cons_succ])
  refine wpAnyH_take (i := 20) (oi := { dst := some 68, op := Op.load 64 (Operand.tmp 10), type := 64, pos := "laws.go:356", after := #[{ on := 19, ground := Ground.guard }], guard := some (19, true) }) (v := .agg (paCells ⟨b.W, b.H, true, goG b 1 0⟩ (.slice Aq nq cq))) rfl (by kernel_rfl) (by kernel_rfl) (by kernel_rfl) (fun _ _ _ h => h) (yieldsIf_row (by rfl) _ _ rfl (b10) rfl _ _ _ (fun _ h => h.2.1) Tryd.underlying64 rfl (by kernel_rfl)) hHeld ?_
  (try simp only [Act.put, List.setIfInBounds_toArray, List.set_cons_zero, List.set_cons_succ])
  refine wpAnyH_ready (rs := [21]) (by kernel_rfl) (by simp) ?_
  refine AllReadyH.cons rfl (fun K hK => ?_) AllReadyH.nil
  rw [if_pos (by rfl)]
  go_simp
  have K1 := impl_PaintOk b.W b.H (goG b 1 0).W (goG b 1 0).H (goG b 1 0).X (goG b 1 0).Y true (goG b 1 0).R (goG b 1 0).C Aq nq cq _ ((S7.ownI 6 rfl).ri)
  rw [show paintOk b.W b.H true ⟨(goG b 1 0).W, (goG b 1 0).H, (goG b 1 0).C, (goG b 1 0).X, (goG b 1 0).Y, (goG b 1 0).R⟩ = true from HSH.out] at K1
  refine Calls.mono K1 ?_; rintro e w16 ⟨rfl, x16⟩
  have S8 := S7.call x16
  clear S7 K1 x16
  refine hK.out _ _ ⟨S8.row 0 rfl, S8.row 4 rfl, row_ext R4.out S8.ext⟩ (fun hHeld => ?_)
  clear hK K
  (try simp only [Act.put, List.setIfInBounds_toArray, List.set_cons_zero, List.set_cons_succ])
  refine wpAnyH_take (i := 22) (oi := { dst := some 70, op := Op.pick (Operand.tmp 67) (Operand.tmp 69) (Operand.const (Value.bool false)), type := 4, pos := "laws.go:356", after := #[{ on := 19, ground := Ground.data }, { on := 21, ground := Ground.data }], guard := none }) (v := .bool true) rfl (by kernel_rfl) (by kernel_rfl) (by kernel_rfl) (fun _ _ _ h => h) (Or.inl ⟨by rfl, fun w hSw => by go_simp⟩) hHeld ?_
  (try simp only [Act.put, List.setIfInBounds_toArray, List.set_cons_zero, List.set_cons_succ])
  refine wpAnyH_ready (rs := [23]) (by kernel_rfl) (by simp) ?_
  refine AllReadyH.cons rfl (fun K hK => ?_) AllReadyH.nil
  rw [if_pos (by rfl)]
  go_simp
  refine hK.out _ _ ⟨S8.row 0 rfl, S8.row 4 rfl, row_ext R4.out S8.ext⟩ (fun hHeld => ?_)
  clear hK K
  (try simp only [Act.put, List.setIfInBounds_toArray, List.set_cons_zero, List.set_cons_succ])
  refine wpAnyH_done (by kernel_rfl) ?_ _
  go_wp2_with fail
  go_ret
  exact ⟨rfl, X2.trans S8.ext⟩
end Go.Proofs.YtohjjhoobikioaaDoor
/-! FnPaint: the given card, out of the walk. -/
namespace Go.Proofs.YtohjjhoobikioaaDoor.fnPaint
open Go.ChangeShapes Go.WideShapes Go.ChangeAt Go.RowKit
open Go.ChangeMaps (open_string shut_string)
set_option linter.unusedVariables false

set_option maxRecDepth 100000 in
theorem laid_met (os : Os) : laidMet Tryd.prog Rows.fnPaintRow.laid ((laidWorld os).forCall (fun _ _ => 0) ⟨#[], #[.slice none 0 0], []⟩).memory :=
  laidMet_of_run' 8 (by kernel_rfl) (by kernel_rfl)
set_option maxRecDepth 100000 in
theorem reads (os : Os) {H : Type} (enc : TypeId × Value → H) : ∃ places, DataW.whole enc Tryd.prog ((laidWorld os).forCall (fun _ _ => 0) ⟨#[], #[.slice none 0 0], []⟩).memory Tryd.f12.params.toList Rows.fnPaintSpec.vars false (#[.slice none 0 0] : Array Value).toList 8 = some ([.nil], [], places) :=
  ⟨[], by kernel_rfl⟩
set_option maxRecDepth 100000 in
theorem lifted (os : Os) (started : os.Started) (H : Type) (enc : TypeId × Value → H) (F : Stop.Interp) :
    ReturnsInHanded {} Tryd.checked os 12 .any ((OpenSpec.ofChange Rows.fnPaintSpec).preRow enc Tryd.prog Tryd.f12 Rows.fnPaintRow.domain false Rows.fnPaintRow.laid) (((OpenSpec.ofChange Rows.fnPaintSpec).at F).post enc Tryd.prog Tryd.f12 false true false false) := by
  obtain ⟨places, hx⟩ := reads os enc
  refine returnsInHanded_of_row (C := Tryd.checked) (s := OpenSpec.ofChange Rows.fnPaintSpec) ownKnob_door started (by kernel_rfl) Tryd.func12
    (witness_row_at (enc := enc) (C := Tryd.checked) false (laidWorld os) #[.slice none 0 0] rfl (by kernel_rfl) (by kernel_rfl) (by kernel_rfl)
      (OpenSpec.preRow_of_cond 8 hx (by kernel_rfl) (fun k hk => by cases hk) (by kernel_rfl) (laid_met os))) ?_
  intro W base args ds gs before hval0 hW _ _ _ hL _ _
  have hval : ∀ (j : Nat) t v, Tryd.f12.params[j]? = some t → args[j]? = some v → Value.okWide Tryd.prog W .any base t v := hval0
  have hW' := hW
  obtain ⟨p, q, hA0, hV, rfl, hfz, hnd⟩ := hW
  have hA : DataW.TrodAll enc Tryd.prog W 0 (fun _ => true) true Tryd.f12.params.toList args.toList ds p := hA0
  rw [Tryd.params12] at hA hval
  obtain ⟨v0, vs0, d0, ds0, p0, q0, hargs, rfl, rfl, h0, r0⟩ := trodAll_cons hA
  obtain ⟨rfl, rfl, rfl⟩ := trodAll_nil r0
  obtain rfl : args = #[v0] := by cases args; simp_all
  obtain ⟨rfl, rfl⟩ := trodVars_none hV
  have k0 := h0
  have lt0 : ∀ x ∈ p0, x.block < W.heap.size := by obtain ⟨m, hm⟩ := k0; exact DataW.trod_lt m _ _ _ hm
  obtain ⟨a0, n0, c0, z0, rfl, w0⟩ := open_bytes_in (hval 0 38 v0 rfl rfl) h0
  clear hA0 hval0
  refine (law_FnPaint a0 n0 c0 z0 W (tabOf hL) w0).mono fun e W' ⟨he, bel⟩ => ?_
  subst he
  exact ⟨_, rfl, _, _, _, [], _, [], hW', trodAll_mk1 (shut_bool Tryd.underlying4 _), (trodAll_cons_mk (Below.trod laidOut_prog (by kernel_rfl) (of_decide_eq_true (by kernel_rfl)) k0 bel lt0) trodAll_mk0), rfl, Below.frame bel _, fun h => by cases h⟩

theorem said : Rows.FnPaintSaid :=
  OpenClaim.holds_of_cond 12 Tryd.f12 rfl rfl rfl rfl rfl rfl rfl ⟨rfl, rfl, rfl, rfl, rfl⟩ rfl rfl rfl rfl rfl (by kernel_rfl) Tryd.func12 (by kernel_rfl)
    (of_decide_eq_true (by kernel_rfl)) (by unfold Func.isWrapper; first | (rw [if_pos (by decide +kernel)]; kernel_rfl) | (rw [if_neg (by decide +kernel)]; exact ⟨rfl, rfl⟩))
    (fun os started H enc _ F => by rw [OpenClaim.pre_eq_preRow]; exact lifted os started H enc F)

theorem plain (f : FuncId) (fn : Func) (hf : Tryd.pinned.checked.prog.funcNamed "loop.example/g00600/laws.FnPaint" = some f) (hfn : Tryd.pinned.checked.prog.funcs[f]? = some fn) :
    false = Tryd.pinned.checked.prog.looks [] ∧ ∀ (j : Nat) t, fn.params[j]? = some t → Tryd.pinned.checked.prog.wantsStandIn t = false := by
  obtain rfl : f = 12 := Option.some.inj ((show Tryd.prog.funcNamed "loop.example/g00600/laws.FnPaint" = some 12 by kernel_rfl).symm.trans hf) |>.symm
  obtain rfl : fn = Tryd.f12 := (Option.some.inj (Tryd.func12.symm.trans hfn)).symm
  refine ⟨by kernel_rfl, fun j t ht => ?_⟩
  rw [Tryd.params12] at ht
  have hm := Array.mem_of_getElem? ht
  simp only [List.mem_toArray, List.mem_cons, List.not_mem_nil, or_false] at hm
  subst hm
  exact (show Tryd.prog.wantsStandIn 38 = false by kernel_rfl)

/-- the card -/
theorem card : Rows.FnPaintCardSaid :=
  Claim7.holds_tied_plain_at .later [] _ _ _ _ said (fun _ h => by cases h) (by kernel_rfl) (fun _ h => by cases h) fnPaint_row_tie rfl ⟨rfl, rfl⟩ (by kernel_rfl) rfl plain (by kernel_rfl)
#print axioms card
end Go.Proofs.YtohjjhoobikioaaDoor.fnPaint
