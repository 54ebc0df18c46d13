/-
  FnExactScriptText: the law's walk.
-/
import Derived.Test.YtohjjhoobikioaaDoorSc
import Derived.Test.YtohjjhoobikioaaDoorCvTo
import Derived.Test.YtohjjhoobikioaaDoorCvEq
import Derived.Test.YtohjjhoobikioaaDoorCvSz
namespace Go.Proofs.YtohjjhoobikioaaDoor
open Go.RowKit

set_option maxRecDepth 100000 in
set_option maxHeartbeats 4000000 in
theorem law_FnExactScriptText (l : List SEvent) (v : Value) (W : World) (ht : Tab W) (_ : ∀ z ∈ l, rngEvent z) (h : Rd W v (.sl 4 (l.flatMap dEvent))) :
    Calls Tryd.prog 4 #[v] W fun e w' => e = .returned (.bool true) ∧ Ext W w' := by
  have HT := Lib.hid ht; clear ht
  go_enter Tryd.func4, Tryd.ntmps4
  go_wp2_with fail
  refine Calls.mono (cv_szEventS l v 1048576 _ h (by omega) (by omega)) ?_; rintro e w1 ⟨(rfl | ⟨r, rfl, a1, b1⟩), x1⟩
  · go_wp2_with fail
    go_ret
    exact ⟨rfl, x1⟩
  have hsz : l.length + (l.map sizeEvent).sum ≤ 1048576 := by omega
  clear b1
  go_wp2_with fail
  refine Calls.mono (cv_toEventS l v _ (h.ext x1) hsz) ?_; rintro e w2 ⟨u2, rfl, T2⟩
  go_wp2_with fail
  refine Calls.mono (spec_ScriptText l u2 _ (T2.rd 0 rfl) hsz) ?_; rintro e w3 ⟨rfl, x3⟩
  have X3 := x1.trans (T2.ext.trans x3)
  clear x1 T2 x3
  go_wp2_with fail
  refine Calls.mono (cv_toEventS l v _ (h.ext X3) hsz) ?_; rintro e w4 ⟨u4, rfl, T4⟩
  go_wp2_with fail
  refine Calls.mono (impl_ScriptText l u4 _ (HT.out.ext (X3.trans T4.ext)) (T4.rd 0 rfl) hsz) ?_; rintro e w5 ⟨rfl, x5⟩
  have S5 := (St.of X3).joined T4
  have S6 := S5.call x5
  clear X3 T4 x5 S5
  generalize scriptText l [] = t at *
  go_wp2_with fail
  refine Calls.mono (cv_toEventS l v _ (h.ext S6.ext) hsz) ?_; rintro e w7 ⟨u7, rfl, T7⟩
  go_wp2_with fail
  refine Calls.mono (cv_eqEventS l u4 u7 _ ((S6.rd 0 rfl).ext T7.ext) (T7.rd 0 rfl)) ?_; rintro e w8 ⟨rfl, x8⟩
  go_wp2_with fail
  go_ret
  exact ⟨rfl, (S6.ext.trans T7.ext).trans x8⟩
end Go.Proofs.YtohjjhoobikioaaDoor
