/-
  Diff of both packages, for all arguments.
-/
import Derived.Test.YtohjjhoobikioaaDoorDiffS
namespace Go.Proofs.YtohjjhoobikioaaDoor
open Go.RowKit

def diffOk (g a : Gr) : Bool := gridOk g && gridOk a && decide (g.W = a.W) && decide (g.H = a.H) && !a.R
def diffD (g a : Gr) : List UInt8 := if diffOk g a = true then diffB g a else []
theorem diffOk_iff {g a : Gr} : diffOk g a = true ↔ gridOk g = true ∧ gridOk a = true ∧ g.W = a.W ∧ g.H = a.H ∧ a.R = false := by
  simp only [diffOk, Bool.and_eq_true, decide_eq_true_eq, Bool.not_eq_true', and_assoc]
theorem diffB_len {g a : Gr} (hg : gridOk g = true) (ha : gridOk a = true) (hw : g.W = a.W) (hh : g.H = a.H) : (diffB g a).length ≤ 1600024 := by
  obtain ⟨d1, d2, d3, d4, d5, d6⟩ := gridOk_d ha
  obtain ⟨-, -, -, q⟩ := rowsDiff_ok ha hg hw hh a.H.toNat (by omega)
  have := emitStep_len (rowsDiff a g a.H.toNat).1 a.X a.Y
  simp only [diffB, List.length_append]
  omega
theorem diffD_len (g a : Gr) : (diffD g a).length ≤ 1600024 := by
  unfold diffD; split
  · rename_i h
    obtain ⟨h1, h2, h3, h4, -⟩ := diffOk_iff.1 h
    exact diffB_len h1 h2 h3 h4
  · simp

theorem impl_Diff (g a : Gr) (A : Option Addr) (n c : Nat) (A' : Option Addr) (n' c' : Nat) (w : World) (ht : Tab w) (hC : RI w A n c g.C) (hC' : RI w A' n' c' a.C) :
    Calls Tryd.prog 24 #[.agg #[.int .i64 g.W, .int .i64 g.H, .slice A n c, .int .i64 g.X, .int .i64 g.Y, .bool g.R], .agg #[.int .i64 a.W, .int .i64 a.H, .slice A' n' c', .int .i64 a.X, .int .i64 a.Y, .bool a.R]] w fun e w' =>
      ∃ v, e = .returned (.tuple #[v, .bool (diffOk g a)]) ∧ OwnB w' w.heap.size v (diffD g a) ∧ Ext w w' := by
  by_cases h : diffOk g a = true
  · obtain ⟨h1, h2, h3, h4, h5⟩ := diffOk_iff.1 h
    unfold diffD
    rw [if_pos h, h]
    obtain ⟨W', H', C', X', Y', R'⟩ := a
    simp only at h5
    subst h5
    exact impl_Diff_yes g A n c W' H' X' Y' C' A' n' c' w ht hC hC' h1 h2 h3 h4
  · have e : diffOk g a = false := by simpa using h
    unfold diffD
    rw [if_neg h, e]
    refine (impl_Diff_no g a A n c A' n' c' w hC hC' (fun q => h (diffOk_iff.2 q))).mono ?_
    rintro r w1 ⟨rfl, x1⟩
    exact ⟨_, rfl, OwnB.nil _ _, x1⟩
theorem spec_Diff (g a : Gr) (A : Option Addr) (n c : Nat) (A' : Option Addr) (n' c' : Nat) (w : World) (hC : RI w A n c g.C) (hC' : RI w A' n' c' a.C) :
    Calls Tryd.prog 27 #[.agg #[.int .i64 g.W, .int .i64 g.H, .slice A n c, .int .i64 g.X, .int .i64 g.Y, .bool g.R], .agg #[.int .i64 a.W, .int .i64 a.H, .slice A' n' c', .int .i64 a.X, .int .i64 a.Y, .bool a.R]] w fun e w' =>
      ∃ v, e = .returned (.tuple #[v, .bool (diffOk g a)]) ∧ OwnB w' w.heap.size v (diffD g a) ∧ Ext w w' := by
  by_cases h : diffOk g a = true
  · obtain ⟨h1, h2, h3, h4, h5⟩ := diffOk_iff.1 h
    unfold diffD
    rw [if_pos h, h]
    obtain ⟨W', H', C', X', Y', R'⟩ := a
    simp only at h5
    subst h5
    exact spec_Diff_yes g A n c W' H' X' Y' C' A' n' c' w hC hC' h1 h2 h3 h4
  · have e : diffOk g a = false := by simpa using h
    unfold diffD
    rw [if_neg h, e]
    refine (spec_Diff_no g a A n c A' n' c' w hC hC' (fun q => h (diffOk_iff.2 q))).mono ?_
    rintro r w1 ⟨rfl, x1⟩
    exact ⟨_, rfl, OwnB.nil _ _, x1⟩
theorem OwnB.rb {w : World} {B : Nat} {l : List UInt8} {A : Option Addr} {n c : Nat} (h : OwnB w B (.slice A n c) l) : RB w A n c l := by
  obtain ⟨A', c', e, r⟩ := h.form
  injection e with e1 e2 e3
  subst e1; subst e2; subst e3
  exact r
theorem OwnB.form' {w : World} {B : Nat} {v : Value} {l : List UInt8} (h : OwnB w B v l) : ∃ A n c, v = .slice A n c := by
  obtain ⟨A, c, e, -⟩ := h.form
  exact ⟨A, _, c, e⟩
end Go.Proofs.YtohjjhoobikioaaDoor
