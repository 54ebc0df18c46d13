/-
  FnExactPromptOf: the law's walk.
-/
import Derived.Test.YtohjjhoobikioaaPrompt
import Derived.Test.YtohjjhoobikioaaCvTo
import Derived.Test.YtohjjhoobikioaaCvEq
import Derived.Test.YtohjjhoobikioaaCvSz
import Derived.Test.YtohjjhoobikioaaCvR
namespace Go.Proofs.Ytohjjhoobikioaa
open Go.RowKit

theorem keepEd {wb w' w1 : World} {b c : Nat} {x : SEd} {p0 p1 p2 p3 p4 p5 q0 q1 q2 q3 q4 q5 : Value} (h : BoxEd w' b x p0 p1 p2 p3 p4 p5 ∧ BoxEd w' c x q0 q1 q2 q3 q4 q5 ∧ Ext wb w') (e : Ext w' w1) : BoxEd w1 b x p0 p1 p2 p3 p4 p5 ∧ BoxEd w1 c x q0 q1 q2 q3 q4 q5 ∧ Ext wb w1 := ⟨h.1.ext e, h.2.1.ext e, h.2.2.trans e⟩
set_option linter.unusedSimpArgs false in
set_option maxRecDepth 100000 in
set_option maxHeartbeats 8000000 in
theorem law_FnExactPromptOf (x : SEd) (p0 p1 p2 p3 p4 p5 : Value) (s : ByteArray) (W : World) (_ : rngEd x) (h0 : Rd W p0 (Dv.ints x.Line.Text)) (h1 : Rd W p1 (.sl 1 (x.Ring.Pieces.flatMap dPiece))) (h2 : Rd W p2 (.sl 2 (x.Undo.Lines.flatMap dLine))) (h3 : Rd W p3 (Dv.ints x.Own.Text)) (h4 : Rd W p4 (Dv.ints x.Query)) (h5 : Rd W p5 (Dv.ints x.Back.Text)) (hss : s.size ≤ maxLen) :
    Calls Try.prog 3 #[.agg #[.bool x.Vi, .int .i64 x.Mode, p0, .int .i64 x.Line.At, .int .i64 x.Count, .int .i64 x.Op, .int .i64 x.OpCount, .int .i64 x.Wait, .int .i64 x.FindR, .int .i64 x.FindHow, .int .i64 x.Last, p1, p2, .int .i64 x.Nav, p3, .int .i64 x.Own.At, p4, .int .i64 x.Hit, p5, .int .i64 x.Back.At], .string s] W fun e w' => e = .returned (.bool true) ∧ Ext W w' := by
  unfold maxLen at hss
  have S := (St.refl W).alloc #[.bool x.Vi, .int .i64 x.Mode, p0, .int .i64 x.Line.At, .int .i64 x.Count, .int .i64 x.Op, .int .i64 x.OpCount, .int .i64 x.Wait, .int .i64 x.FindR, .int .i64 x.FindHow, .int .i64 x.Last, p1, p2, .int .i64 x.Nav, p3, .int .i64 x.Own.At, p4, .int .i64 x.Hit, p5, .int .i64 x.Back.At] 32
  by_cases hbig : 1048576 < s.size
  · go_enter Try.func3, Try.ntmps3
    go_wp2_with fail
    go_ret
    exact ⟨rfl, S.ext⟩
  go_enter Try.func3, Try.ntmps3
  go_wp2_with ((with_reducible refine wpList_load_row rfl 32 _ rfl W.heap.size ?_ 32 #[.bool x.Vi, .int .i64 x.Mode, p0, .int .i64 x.Line.At, .int .i64 x.Count, .int .i64 x.Op, .int .i64 x.OpCount, .int .i64 x.Wait, .int .i64 x.FindR, .int .i64 x.FindHow, .int .i64 x.Last, p1, p2, .int .i64 x.Nav, p3, .int .i64 x.Own.At, p4, .int .i64 x.Hit, p5, .int .i64 x.Back.At] (0, 0) _ (S.row 0 rfl) Try.underlying32 rfl ?_ ?_); go_must (exact rfl); go_must (kernel_rfl))
  as_aux_lemma =>
    refine Calls.mono (laws_szEd x p0 p1 p2 p3 p4 p5 1048576 _ (h0.ext S.ext) (h1.ext S.ext) (h2.ext S.ext) (h3.ext S.ext) (h4.ext S.ext) (h5.ext S.ext) (by omega) (by omega)) ?_; rintro e w1 ⟨(rfl | ⟨r, rfl, hr0, hr1⟩), x1⟩
    · go_wp2_with fail
      go_ret
      exact ⟨rfl, (S.call x1).ext⟩
    have hsz : sizeEd x ≤ 1048576 := by omega
    have hq : x.Query.length ≤ 1048576 := by
      have e : sizeEd x = _ := rfl
      unfold sizeEd at hsz; omega
    have S1 := S.call x1
    clear S x1 hr1
    as_aux_lemma =>
      go_wp2_with ((with_reducible refine wpList_load_row rfl 32 _ rfl W.heap.size ?_ 32 #[.bool x.Vi, .int .i64 x.Mode, p0, .int .i64 x.Line.At, .int .i64 x.Count, .int .i64 x.Op, .int .i64 x.OpCount, .int .i64 x.Wait, .int .i64 x.FindR, .int .i64 x.FindHow, .int .i64 x.Last, p1, p2, .int .i64 x.Nav, p3, .int .i64 x.Own.At, p4, .int .i64 x.Hit, p5, .int .i64 x.Back.At] (0, 0) _ (S1.row 0 rfl) Try.underlying32 rfl ?_ ?_); go_must (exact rfl); go_must (kernel_rfl))
      refine Calls.mono (laws_toEd x p0 p1 p2 p3 p4 p5 _ (h0.ext S1.ext) (h1.ext S1.ext) (h2.ext S1.ext) (h3.ext S1.ext) (h4.ext S1.ext) (h5.ext S1.ext) hsz) ?_; rintro e w2 ⟨u0, u1, u2, u3, u4, u5, rfl, T2⟩
      obtain ⟨aA0, an0, ac0, rfl⟩ := (T2.rd 5 rfl).isl
      obtain ⟨aA1, an1, ac1, rfl⟩ := (T2.rd 4 rfl).isl
      obtain ⟨aA2, an2, ac2, rfl⟩ := (T2.rd 3 rfl).isl
      obtain ⟨aA3, an3, ac3, rfl⟩ := (T2.rd 2 rfl).isl
      obtain ⟨aA4, an4, ac4, rfl⟩ := (T2.rd 1 rfl).isl
      obtain ⟨aA5, an5, ac5, rfl⟩ := (T2.rd 0 rfl).isl
      go_wp2_with fail
      refine Calls.mono (spec_PromptOf x _ _ _ _ _ _ s _ (T2.rd 1 rfl) (by omega)) ?_; rintro e w3 ⟨rfl, x3⟩
      have S3 := S1.call (T2.ext.trans x3)
      clear S1 T2 x3
      generalize hps : promptOf x s = ps at *
      have HPS := Lib.hid hps; clear hps
      as_aux_lemma =>
        go_wp2_with ((with_reducible refine wpList_load_row rfl 32 _ rfl W.heap.size ?_ 32 #[.bool x.Vi, .int .i64 x.Mode, p0, .int .i64 x.Line.At, .int .i64 x.Count, .int .i64 x.Op, .int .i64 x.OpCount, .int .i64 x.Wait, .int .i64 x.FindR, .int .i64 x.FindHow, .int .i64 x.Last, p1, p2, .int .i64 x.Nav, p3, .int .i64 x.Own.At, p4, .int .i64 x.Hit, p5, .int .i64 x.Back.At] (0, 0) _ (S3.row 0 rfl) Try.underlying32 rfl ?_ ?_); go_must (exact rfl); go_must (kernel_rfl))
        refine Calls.mono (laws_toEd x p0 p1 p2 p3 p4 p5 _ (h0.ext S3.ext) (h1.ext S3.ext) (h2.ext S3.ext) (h3.ext S3.ext) (h4.ext S3.ext) (h5.ext S3.ext) hsz) ?_; rintro e w4 ⟨u0, u1, u2, u3, u4, u5, rfl, T4⟩
        obtain ⟨bA0, bn0, bc0, rfl⟩ := (T4.rd 5 rfl).isl
        obtain ⟨bA1, bn1, bc1, rfl⟩ := (T4.rd 4 rfl).isl
        obtain ⟨bA2, bn2, bc2, rfl⟩ := (T4.rd 3 rfl).isl
        obtain ⟨bA3, bn3, bc3, rfl⟩ := (T4.rd 2 rfl).isl
        obtain ⟨bA4, bn4, bc4, rfl⟩ := (T4.rd 1 rfl).isl
        obtain ⟨bA5, bn5, bc5, rfl⟩ := (T4.rd 0 rfl).isl
        have S4 := (S3.joined T4).alloc #[.bool false, .int .i64 0, .slice none 0 0, .int .i64 0, .int .i64 0, .int .i64 0, .int .i64 0, .int .i64 0, .int .i64 0, .int .i64 0, .int .i64 0, .slice none 0 0, .slice none 0 0, .int .i64 0, .slice none 0 0, .int .i64 0, .slice none 0 0, .int .i64 0, .slice none 0 0, .int .i64 0] 43
        clear S3 T4
        go_wp2_with ((with_reducible refine wp_setA (k := 0) (u := .agg #[.bool x.Vi, .int .i64 x.Mode, .slice bA0 bn0 bc0, .int .i64 x.Line.At, .int .i64 x.Count, .int .i64 x.Op, .int .i64 x.OpCount, .int .i64 x.Wait, .int .i64 x.FindR, .int .i64 x.FindHow, .int .i64 x.Last, .slice bA1 bn1 bc1, .slice bA2 bn2 bc2, .int .i64 x.Nav, .slice bA3 bn3 bc3, .int .i64 x.Own.At, .slice bA4 bn4 bc4, .int .i64 x.Hit, .slice bA5 bn5 bc5, .int .i64 x.Back.At]) (#[.bool x.Vi, .int .i64 x.Mode, .slice bA0 bn0 bc0, .int .i64 x.Line.At, .int .i64 x.Count, .int .i64 x.Op, .int .i64 x.OpCount, .int .i64 x.Wait, .int .i64 x.FindR, .int .i64 x.FindHow, .int .i64 x.Last, .slice bA1 bn1 bc1, .slice bA2 bn2 bc2, .int .i64 x.Nav, .slice bA3 bn3 bc3, .int .i64 x.Own.At, .slice bA4 bn4 bc4, .int .i64 x.Hit, .slice bA5 bn5 bc5, .int .i64 x.Back.At]) S4 0 rfl ?_ ?_ ?_ ?_ ?_ ?_ ?_); go_must (exact rfl); go_must (exact rfl); go_must (kernel_rfl); go_must (kernel_rfl); go_must (exact Nat.le_of_ble_eq_true (by kernel_rfl)); go_must (kernel_rfl))
        intro w5 S5
        have S5 : St W w5 [row w4.heap.size 43 #[.bool x.Vi, .int .i64 x.Mode, .slice bA0 bn0 bc0, .int .i64 x.Line.At, .int .i64 x.Count, .int .i64 x.Op, .int .i64 x.OpCount, .int .i64 x.Wait, .int .i64 x.FindR, .int .i64 x.FindHow, .int .i64 x.Last, .slice bA1 bn1 bc1, .slice bA2 bn2 bc2, .int .i64 x.Nav, .slice bA3 bn3 bc3, .int .i64 x.Own.At, .slice bA4 bn4 bc4, .int .i64 x.Hit, .slice bA5 bn5 bc5, .int .i64 x.Back.At], own (.slice bA5 bn5 bc5) (Dv.ints x.Back.Text), own (.slice bA4 bn4 bc4) (Dv.ints x.Query), own (.slice bA3 bn3 bc3) (Dv.ints x.Own.Text), own (.slice bA2 bn2 bc2) (.sl 2 (x.Undo.Lines.flatMap dLine)), own (.slice bA1 bn1 bc1) (.sl 1 (x.Ring.Pieces.flatMap dPiece)), own (.slice bA0 bn0 bc0) (Dv.ints x.Line.Text), row W.heap.size 32 #[.bool x.Vi, .int .i64 x.Mode, p0, .int .i64 x.Line.At, .int .i64 x.Count, .int .i64 x.Op, .int .i64 x.OpCount, .int .i64 x.Wait, .int .i64 x.FindR, .int .i64 x.FindHow, .int .i64 x.Last, p1, p2, .int .i64 x.Nav, p3, .int .i64 x.Own.At, p4, .int .i64 x.Hit, p5, .int .i64 x.Back.At]] := S5
        clear S4
        generalize w4.heap.size = b4 at *
        as_aux_lemma =>
          go_wp2_with ((with_reducible refine wpList_load_row rfl 43 _ rfl b4 ?_ 43 #[.bool x.Vi, .int .i64 x.Mode, .slice bA0 bn0 bc0, .int .i64 x.Line.At, .int .i64 x.Count, .int .i64 x.Op, .int .i64 x.OpCount, .int .i64 x.Wait, .int .i64 x.FindR, .int .i64 x.FindHow, .int .i64 x.Last, .slice bA1 bn1 bc1, .slice bA2 bn2 bc2, .int .i64 x.Nav, .slice bA3 bn3 bc3, .int .i64 x.Own.At, .slice bA4 bn4 bc4, .int .i64 x.Hit, .slice bA5 bn5 bc5, .int .i64 x.Back.At] (0, 0) _ (S5.row 0 rfl) Try.underlying43 rfl ?_ ?_); go_must (exact rfl); go_must (kernel_rfl))
          refine Calls.mono (impl_PromptOf x _ _ _ _ _ _ s _ (S5.rd 2 rfl) (by omega)) ?_; rintro e w6 ⟨rfl, x6⟩
          rw [HPS.out]
          have S6 := S5.call x6
          clear S5 x6
          have SS := Lib.hid S6; clear S6
          as_aux_lemma =>
            go_wp2_with fail
            as_aux_lemma =>
              refine wp_region_held_drew (S := fun w' => w'.heap[b4]? = some (.cells #[.bool x.Vi, .int .i64 x.Mode, .slice bA0 bn0 bc0, .int .i64 x.Line.At, .int .i64 x.Count, .int .i64 x.Op, .int .i64 x.OpCount, .int .i64 x.Wait, .int .i64 x.FindR, .int .i64 x.FindHow, .int .i64 x.Last, .slice bA1 bn1 bc1, .slice bA2 bn2 bc2, .int .i64 x.Nav, .slice bA3 bn3 bc3, .int .i64 x.Own.At, .slice bA4 bn4 bc4, .int .i64 x.Hit, .slice bA5 bn5 bc5, .int .i64 x.Back.At] 43 (0, 0)) ∧ w'.heap[W.heap.size]? = some (.cells #[.bool x.Vi, .int .i64 x.Mode, p0, .int .i64 x.Line.At, .int .i64 x.Count, .int .i64 x.Op, .int .i64 x.OpCount, .int .i64 x.Wait, .int .i64 x.FindR, .int .i64 x.FindHow, .int .i64 x.Last, p1, p2, .int .i64 x.Nav, p3, .int .i64 x.Own.At, p4, .int .i64 x.Hit, p5, .int .i64 x.Back.At] 32 (0, 0)) ∧ Ext w6 w') (by kernel_rfl) ⟨SS.out.drew.row 0 rfl, SS.out.drew.row 7 rfl, (Ext.refl w6).drew⟩ (fun hHeld => ?_)
              refine wpAnyH_take (i := 0) (v := .agg #[.bool x.Vi, .int .i64 x.Mode, .slice bA0 bn0 bc0, .int .i64 x.Line.At, .int .i64 x.Count, .int .i64 x.Op, .int .i64 x.OpCount, .int .i64 x.Wait, .int .i64 x.FindR, .int .i64 x.FindHow, .int .i64 x.Last, .slice bA1 bn1 bc1, .slice bA2 bn2 bc2, .int .i64 x.Nav, .slice bA3 bn3 bc3, .int .i64 x.Own.At, .slice bA4 bn4 bc4, .int .i64 x.Hit, .slice bA5 bn5 bc5, .int .i64 x.Back.At]) rfl (by kernel_rfl) (by kernel_rfl) (by kernel_rfl) (fun _ _ _ h => h) (yieldsIf_row (by rfl) _ _ rfl b4 rfl _ _ _ (fun _ h => h.1) Try.underlying43 rfl (by kernel_rfl)) hHeld ?_
              (try simp only [Act.put, List.setIfInBounds_toArray, List.set_cons_zero, List.set_cons_succ])
              refine wpAnyH_take (i := 1) (v := .agg #[.bool x.Vi, .int .i64 x.Mode, p0, .int .i64 x.Line.At, .int .i64 x.Count, .int .i64 x.Op, .int .i64 x.OpCount, .int .i64 x.Wait, .int .i64 x.FindR, .int .i64 x.FindHow, .int .i64 x.Last, p1, p2, .int .i64 x.Nav, p3, .int .i64 x.Own.At, p4, .int .i64 x.Hit, p5, .int .i64 x.Back.At]) rfl (by kernel_rfl) (by kernel_rfl) (by kernel_rfl) (fun _ _ _ h => h) (yieldsIf_row (by rfl) _ _ rfl W.heap.size rfl _ _ _ (fun _ h => h.2.1) Try.underlying32 rfl (by kernel_rfl)) hHeld ?_
              (try simp only [Act.put, List.setIfInBounds_toArray, List.set_cons_zero, List.set_cons_succ])
              refine wpAnyH_ready (rs := [2]) (by kernel_rfl) (by simp) ?_
              refine AllReadyH.cons rfl (fun K hK => ?_) AllReadyH.nil
              rw [if_pos (by rfl)]
              go_simp
              have y7 := SS.out.ext.trans hHeld.2.2
              refine Calls.mono (laws_toEd x p0 p1 p2 p3 p4 p5 _ (h0.ext y7) (h1.ext y7) (h2.ext y7) (h3.ext y7) (h4.ext y7) (h5.ext y7) hsz) ?_; rintro e w7 ⟨u0, u1, u2, u3, u4, u5, rfl, T7⟩
              have hHeld2 := And.intro (row_ext hHeld.1 T7.ext) (And.intro (row_ext hHeld.2.1 T7.ext) (hHeld.2.2.trans T7.ext))
              refine hK.out _ _ hHeld2 (fun _ => ?_)
              clear hK K
              (try simp only [Act.put, List.setIfInBounds_toArray, List.set_cons_zero, List.set_cons_succ])
              as_aux_lemma =>
                refine wpAnyH_ready (rs := [3]) (by kernel_rfl) (by simp) ?_
                refine AllReadyH.cons rfl (fun K hK => ?_) AllReadyH.nil
                rw [if_pos (by rfl)]
                go_simp
                have y8 := hHeld2.2.2
                refine Calls.mono (laws_eqEd x (.slice bA0 bn0 bc0) (.slice bA1 bn1 bc1) (.slice bA2 bn2 bc2) (.slice bA3 bn3 bc3) (.slice bA4 bn4 bc4) (.slice bA5 bn5 bc5) u0 u1 u2 u3 u4 u5 _ ((SS.out.call y8).rd 6 rfl) ((SS.out.call y8).rd 5 rfl) ((SS.out.call y8).rd 4 rfl) ((SS.out.call y8).rd 3 rfl) ((SS.out.call y8).rd 2 rfl) ((SS.out.call y8).rd 1 rfl) (T7.rd 5 rfl) (T7.rd 4 rfl) (T7.rd 3 rfl) (T7.rd 2 rfl) (T7.rd 1 rfl) (T7.rd 0 rfl)) ?_; rintro e w8 ⟨rfl, x8⟩
                have hHeld3 := And.intro (row_ext hHeld2.1 x8) (And.intro (row_ext hHeld2.2.1 x8) (hHeld2.2.2.trans x8))
                refine hK.out _ _ hHeld3 (fun _ => ?_)
                clear hK K
                (try simp only [Act.put, List.setIfInBounds_toArray, List.set_cons_zero, List.set_cons_succ])
                refine wpAnyH_ready (rs := [4]) (by kernel_rfl) (by simp) ?_
                refine AllReadyH.cons rfl (fun K hK => ?_) AllReadyH.nil
                rw [if_pos (by rfl)]
                go_simp
                refine hK.out _ _ hHeld3 (fun _ => ?_)
                clear hK K
                (try simp only [Act.put, List.setIfInBounds_toArray, List.set_cons_zero, List.set_cons_succ])
                refine wpAnyH_done (by kernel_rfl) ?_ _
                have S8 := SS.out.call (y8.trans x8)
                as_aux_lemma =>
                  go_wp2_with fail
                  go_ret
                  exact ⟨rfl, S8.ext⟩
end Go.Proofs.Ytohjjhoobikioaa

