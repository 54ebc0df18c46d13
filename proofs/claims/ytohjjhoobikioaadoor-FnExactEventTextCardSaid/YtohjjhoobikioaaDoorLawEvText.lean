/-
  FnExactEventText: the law's walk.
-/
import Derived.Test.YtohjjhoobikioaaDoorEv11
import Derived.Test.YtohjjhoobikioaaDoorEvHelp
namespace Go.Proofs.YtohjjhoobikioaaDoor
open Go.RowKit

theorem EBox.ext {w w' : World} {b : Nat} {k a b' : Int} {v : Value} (h : EBox w b k a b' v) (x : Ext w w') : EBox w' b k a b' v := ⟨x.cell h.1, x.cell h.2.1, x.cell h.2.2.1, x.cell h.2.2.2⟩
theorem keepE2 {wb w' w1 : World} {b c : Nat} {k a b' k2 a2 b2 : Int} {v v2 : Value} (h : EBox w' b k a b' v ∧ EBox w' c k2 a2 b2 v2 ∧ Ext wb w') (x : Ext w' w1) : EBox w1 b k a b' v ∧ EBox w1 c k2 a2 b2 v2 ∧ Ext wb w1 := ⟨h.1.ext x, h.2.1.ext x, h.2.2.trans x⟩

set_option maxRecDepth 100000 in
set_option maxHeartbeats 4000000 in
theorem law_FnExactEventText (kind a b : Int) (l : List Int) (A : Option Addr) (n c : Nat) (w : World) (ht : Tab w) (h : RI w A n c l) :
    Calls Tryd.prog 3 #[.agg #[.int .i64 kind, .int .i64 a, .int .i64 b, .slice A n c]] w fun e w' => e = .returned (.bool true) ∧ Ext w w' := by
  have hn := h.nmax
  have S := (St.refl w).alloc #[.int .i64 kind, .int .i64 a, .int .i64 b, .slice A n c] 24
  have HL := Lib.hid h.len
  go_enter Tryd.func3, Tryd.ntmps3
  go_wp2_with fail
  refine Calls.mono (laws_szEvent kind a b A n c 1048576 _ (by omega) (by omega) hn) ?_; rintro e w1 ⟨rfl, x1⟩
  have S1 := S.call x1
  clear S x1
  rcases szN_cases 1048576 n with ⟨h1, e1⟩ | ⟨h1, e1⟩ <;> rw [e1] <;> clear e1
  · go_wp2_with fail
    go_ret
    exact ⟨rfl, S1.ext⟩
  obtain ⟨p0, p1, p2, p3⟩ := S1.eb 0 rfl
  go_wp2_with fail
  refine Calls.mono (laws_toEvent kind a b l A n c _ (h.ext S1.ext) (by omega)) ?_; rintro e w2 ⟨v2, rfl, own2, x2⟩; obtain ⟨A2, c2, rfl, r2⟩ := own2.form
  have S2 := S1.call x2
  have hl : l.length ≤ 1048576 := by have := HL.out; omega
  clear S1 x2 own2 p0 p1 p2 p3
  go_wp2_with fail
  refine Calls.mono (spec_EventText kind a b A2 _ c2 l _ r2 hl) ?_; rintro e w3 ⟨rfl, x3⟩
  have S3 := S2.call x3
  clear S2 x3 r2
  obtain ⟨p0, p1, p2, p3⟩ := S3.eb 0 rfl
  go_wp2_with fail
  refine Calls.mono (laws_toEvent kind a b l A n c _ (h.ext S3.ext) (by omega)) ?_; rintro e w4 ⟨v4, rfl, own4, x4⟩; obtain ⟨A4, c4, rfl, -⟩ := own4.form
  have S4 := (S3.newI own4 x4).alloc #[.int .i64 kind, .int .i64 a, .int .i64 b, .slice A4 l.length c4] 27
  clear S3 x4 own4 p0 p1 p2 p3
  go_wp2_with fail
  refine Calls.mono (impl_EventText kind a b A4 _ c4 l _ (ht.ext S4.ext) ((S4.ownI 1 rfl).get rfl) hl) ?_; rintro e w5 ⟨rfl, x5⟩
  have S5 := S4.call x5
  clear S4 x5
  generalize w4.heap.size = b4 at *
  obtain ⟨s, hs⟩ : ∃ s : ByteArray, s = ⟨(eventText kind a b l).toArray⟩ := ⟨_, rfl⟩
  rw [← hs]
  clear hs
  have SS := Lib.hid S5
  clear S5
  go_wp2_with fail
  have B0 := And.intro (SS.out.drew.eb 0 rfl) (And.intro (SS.out.drew.eb 2 rfl) (Ext.refl w5).drew)
  go_region_held3 (fun w' => EBox w' b4 kind a b (.slice A4 l.length c4) ∧ EBox w' w.heap.size kind a b (.slice A n c) ∧ Ext w5 w')
    ((first | with_reducible assumption | (refine keepE2 ?_ (by assumption); assumption)))
    (first
      | (go_at_call 15; (refine (laws_toEvent kind a b l A n c _ (h.ext (SS.out.ext.trans (And.right (And.right (by assumption))))) (by omega)).mono ?_); rintro e w6 ⟨v6, rfl, own6, x6⟩; obtain ⟨A6, c6, rfl, r6⟩ := own6.form)
      | (go_at_call 17; have y6 : Ext w5 _ := And.right (And.right (by assumption)); (refine (laws_eqEvent kind a b l A4 A6 _ c4 _ c6 _ (((SS.out.call y6).ownI 1 rfl).get rfl) r6).mono ?_); rintro e w7 ⟨rfl, x7⟩; have S7 := SS.out.call (y6.trans x7)))
  go_wp2_with fail
  go_ret
  exact ⟨rfl, S7.ext⟩
end Go.Proofs.YtohjjhoobikioaaDoor
