/- The statement of this claim is proved in the last of these texts: by an abstract evaluator that is sound, and by what the functions compute. -/
import Derived.Test.YtnmneoekpikpkaaGreatDoorPkFnViChange10
import Derived.Test.YtnmneoekpikpkaaGreatDoorCards
import Derived.Test.YtnmneoekpikpkaaGreatDoorTie
import Derived.ProofKit
import Derived.OpenShut
import Derived.Deep.DeepHandedRow
import Derived.Stop.LaidErr
import Derived.Shelf.Vars
namespace Go.Proofs.YtnmneoekpikpkaaGreatDoor
open Go.RowKit
set_option linter.unusedSimpArgs false
set_option linter.unusedVariables false
set_option maxHeartbeats 8000000
set_option maxRecDepth 10000
theorem EX_iMotionTo_w (t : List Int) (i : Option Nat) (a : Nat) (ha : a ≤ t.length) (ht : t.length ≤ 2000) : ∃ b : Nat, a ≤ b ∧ b ≤ t.length ∧ M_iMotionTo [.lst i (ints t), V.v (.int .i64 ((a : Int))), V.v (.int .i64 119), V.v (.int .i64 1)] [] [] = some ⟨.tup [V.v (.int .i64 ((b : Int))), V.v (.bool false), V.v (.bool true)], [], []⟩ := by
  obtain ⟨b, h1, h2, e⟩ := EX_iViWordOn t a false ha ht
  have e2 := E_irepeated_w t false a b e
  have m1 : max 0 (min (a : Int) t.length) = a := by omega
  have m2 : max (1 : Int) (min 1 999) = 1 := by decide
  have q : inR 119 65 90 = false := by decide
  refine ⟨b, h1, h2, ?_⟩
  generalize hE : M_iMotionTo _ _ _ = R
  unfold M_iMotionTo at hE
  simp [Tryz.func132, Tryz.f132, E_iwithin, E_iisUpper, m1, m2, q, e2] at hE
  exact hE.symm
theorem VI.ok99 {t : List Int} {a : Int} {r : List TPiece} {ul : List TLine} (h : VI t a r ul) : (vE t a r ul 0 99).ok = true := by
  have q1 := h.line
  have q3 : modeB true 2 t a 99 0 0 = true := by
    have := h.end_
    simp [modeB, this]; decide
  have q4 := h.ring
  have q5 := h.undo.1
  simp only [TEd.ok, edOk, vE, zEd, q1, q3, q4, q5]
  rfl
theorem VI.set99 {t : List Int} {a : Int} {r : List TPiece} {ul : List TLine} (h : VI t a r ul) : SetI (vE t a r ul 0 99) :=
  ⟨EdB.of h.ok99, rfl, h.line, h.undo.1, by have := h.undo.2; show ul.length ≤ 19; omega⟩
theorem E_ibegun_c (e : TEd) (hb : EdB e) (n : Int) (ho : e.Op = 0) : M_ibegun [.agg [V.v (.bool e.Vi), V.v (.int .i64 e.Mode), .lst (some 0) (ints e.Line.Text), V.v (.int .i64 e.Line.At), V.v (.int .i64 e.Count), V.v (.int .i64 e.Op), V.v (.int .i64 e.OpCount), V.v (.int .i64 e.Wait), V.v (.int .i64 e.FindR), V.v (.int .i64 e.FindHow), V.v (.int .i64 e.Last), .lst (some 1) (dPieces e.Ring.Pieces), .lst (some 2) (dLines e.Undo.Lines), V.v (.int .i64 e.Nav), .lst (some 3) (ints e.Own.Text), V.v (.int .i64 e.Own.At), .lst (some 4) (ints e.Query), V.v (.int .i64 e.Hit), .lst (some 5) (ints e.Back.Text), V.v (.int .i64 e.Back.At)], V.v (.int .i64 99), V.v (.int .i64 n)] [] [] = some ⟨.tup [.agg [V.v (.bool e.Vi), V.v (.int .i64 e.Mode), .own 0, V.v (.int .i64 e.Line.At), V.v (.int .i64 0), V.v (.int .i64 99), V.v (.int .i64 e.Count), V.v (.int .i64 e.Wait), V.v (.int .i64 e.FindR), V.v (.int .i64 e.FindHow), V.v (.int .i64 e.Last), .own 1, .own 2, V.v (.int .i64 e.Nav), .own 3, V.v (.int .i64 e.Own.At), .own 4, V.v (.int .i64 e.Hit), .own 5, V.v (.int .i64 e.Back.At)], V.v (.int .i64 0), V.v (.bool true)], [], [(0, ints e.Line.Text), (1, dPieces e.Ring.Pieces), (2, dLines e.Undo.Lines), (3, ints e.Own.Text), (4, ints e.Query), (5, ints e.Back.Text)]⟩ := by
  have e1 := E_icopyEd e hb
  have e2 := E_iHowOf 99 (by decide)
  have e3 := E_iisAmong_op 99
  rw [show opC 99 = true from by decide] at e3
  simp only [ho] at e1 ⊢
  unfold M_ibegun
  have q : inR 99 49 57 = false := by decide
  simp [Tryz.func131, Tryz.f131, e1, e2, e3, E_iin, q, ho]
theorem E_icommand_w (e e' : TEd) (hb : EdB e) (f act op : Int) (l : List ByteArray) (ho : e.Op = op) (hop : op = 99 ∨ op = 100) (a b : Nat) (ha : e.Line.At = a) (hm : M_iMotionTo [.lst (some 0) (ints e.Line.Text), V.v (.int .i64 ((a : Int))), V.v (.int .i64 119), V.v (.int .i64 1)] [] [] = some ⟨.tup [V.v (.int .i64 ((b : Int))), V.v (.bool false), V.v (.bool true)], [], []⟩) (hab : a ≤ b) (hbl : b ≤ e.Line.Text.length)
    (h : M_ichange [.agg [V.v (.bool e.Vi), V.v (.int .i64 e.Mode), .lst (some 0) (ints e.Line.Text), V.v (.int .i64 e.Line.At), V.v (.int .i64 e.Count), V.v (.int .i64 e.Op), V.v (.int .i64 e.OpCount), V.v (.int .i64 e.Wait), V.v (.int .i64 e.FindR), V.v (.int .i64 e.FindHow), V.v (.int .i64 e.Last), .lst (some 1) (dPieces e.Ring.Pieces), .lst (some 2) (dLines e.Undo.Lines), V.v (.int .i64 e.Nav), .lst (some 3) (ints e.Own.Text), V.v (.int .i64 e.Own.At), .lst (some 4) (ints e.Query), V.v (.int .i64 e.Hit), .lst (some 5) (ints e.Back.Text), V.v (.int .i64 e.Back.At)], V.v (.int .i64 op), V.v (.int .i64 ((a : Int))), V.v (.int .i64 ((b : Int)))] [] [] = some ⟨.tup [.agg [V.v (.bool e'.Vi), V.v (.int .i64 e'.Mode), .own 0, V.v (.int .i64 e'.Line.At), V.v (.int .i64 e'.Count), V.v (.int .i64 e'.Op), V.v (.int .i64 e'.OpCount), V.v (.int .i64 e'.Wait), V.v (.int .i64 e'.FindR), V.v (.int .i64 e'.FindHow), V.v (.int .i64 e'.Last), .own 1, .own 2, V.v (.int .i64 e'.Nav), .own 3, V.v (.int .i64 e'.Own.At), .own 4, V.v (.int .i64 e'.Hit), .own 5, V.v (.int .i64 e'.Back.At)], V.v (.int .i64 act)], [], [(0, ints e'.Line.Text), (1, dPieces e'.Ring.Pieces), (2, dLines e'.Undo.Lines), (3, ints e'.Own.Text), (4, ints e'.Query), (5, ints e'.Back.Text)]⟩) :
    M_icommand [.agg [V.v (.bool e.Vi), V.v (.int .i64 e.Mode), .lst (some 0) (ints e.Line.Text), V.v (.int .i64 e.Line.At), V.v (.int .i64 e.Count), V.v (.int .i64 e.Op), V.v (.int .i64 e.OpCount), V.v (.int .i64 e.Wait), V.v (.int .i64 e.FindR), V.v (.int .i64 e.FindHow), V.v (.int .i64 e.Last), .lst (some 1) (dPieces e.Ring.Pieces), .lst (some 2) (dLines e.Undo.Lines), V.v (.int .i64 e.Nav), .lst (some 3) (ints e.Own.Text), V.v (.int .i64 e.Own.At), .lst (some 4) (ints e.Query), V.v (.int .i64 e.Hit), .lst (some 5) (ints e.Back.Text), V.v (.int .i64 e.Back.At)], .agg [V.v (.int .i64 f), .lst (some 6) (strs l)], V.v (.int .i64 119), V.v (.int .i64 1)] [] [] = some ⟨.tup [.agg [V.v (.bool e'.Vi), V.v (.int .i64 e'.Mode), .own 0, V.v (.int .i64 e'.Line.At), V.v (.int .i64 e'.Count), V.v (.int .i64 e'.Op), V.v (.int .i64 e'.OpCount), V.v (.int .i64 e'.Wait), V.v (.int .i64 e'.FindR), V.v (.int .i64 e'.FindHow), V.v (.int .i64 e'.Last), .own 1, .own 2, V.v (.int .i64 e'.Nav), .own 3, V.v (.int .i64 e'.Own.At), .own 4, V.v (.int .i64 e'.Hit), .own 5, V.v (.int .i64 e'.Back.At)], V.v (.int .i64 act)], [], [(0, ints e'.Line.Text), (1, dPieces e'.Ring.Pieces), (2, dLines e'.Undo.Lines), (3, ints e'.Own.Text), (4, ints e'.Query), (5, ints e'.Back.Text)]⟩ := by
  have hl := hb.line
  have hne : ¬ op = 0 := by omega
  have hnw : ¬ (119 : Int) = op := by omega
  have e1 := E_ibegun_no e hb 119 1 (by decide) (by decide) (by decide) (by decide) (.inl (by rw [ho]; exact hne))
  have e3 := E_iSpan e.Line.Text (some 0) a b hab (by omega)
  have e4 : M_imove [.agg [V.v (.bool e.Vi), V.v (.int .i64 e.Mode), .lst (some 0) (ints e.Line.Text), V.v (.int .i64 e.Line.At), V.v (.int .i64 e.Count), V.v (.int .i64 e.Op), V.v (.int .i64 e.OpCount), V.v (.int .i64 e.Wait), V.v (.int .i64 e.FindR), V.v (.int .i64 e.FindHow), V.v (.int .i64 e.Last), .lst (some 1) (dPieces e.Ring.Pieces), .lst (some 2) (dLines e.Undo.Lines), V.v (.int .i64 e.Nav), .lst (some 3) (ints e.Own.Text), V.v (.int .i64 e.Own.At), .lst (some 4) (ints e.Query), V.v (.int .i64 e.Hit), .lst (some 5) (ints e.Back.Text), V.v (.int .i64 e.Back.At)], V.v (.int .i64 ((b : Int))), V.v (.bool false)] [] [] = some ⟨.tup [.agg [V.v (.bool e'.Vi), V.v (.int .i64 e'.Mode), .own 0, V.v (.int .i64 e'.Line.At), V.v (.int .i64 e'.Count), V.v (.int .i64 e'.Op), V.v (.int .i64 e'.OpCount), V.v (.int .i64 e'.Wait), V.v (.int .i64 e'.FindR), V.v (.int .i64 e'.FindHow), V.v (.int .i64 e'.Last), .own 1, .own 2, V.v (.int .i64 e'.Nav), .own 3, V.v (.int .i64 e'.Own.At), .own 4, V.v (.int .i64 e'.Hit), .own 5, V.v (.int .i64 e'.Back.At)], V.v (.int .i64 act)], [], [(0, ints e'.Line.Text), (1, dPieces e'.Ring.Pieces), (2, dLines e'.Undo.Lines), (3, ints e'.Own.Text), (4, ints e'.Query), (5, ints e'.Back.Text)]⟩ := by
    simp only [ho, ha] at h ⊢
    generalize hE : M_imove _ _ _ = R
    unfold M_imove at hE
    simp [Tryz.func133, Tryz.f133, e3, h, hne] at hE
    exact hE.symm
  simp only [ho, ha] at e1 e4 ⊢
  generalize hE : M_icommand _ _ _ = R
  unfold M_icommand at hE
  simp [Tryz.func92, Tryz.f92, e1, hm, e4, hne, hnw] at hE
  exact hE.symm
section
variable {f : Int} {l : List ByteArray} (hh : HistI f l) {t : List Int} {a : Int} {r : List TPiece} {ul : List TLine} (h : VI t a r ul)
include hh h
theorem key_c : KeyTo f l 99 (vE t a r ul 0 0) (vE t a r ul 0 99) 0 :=
  E_iEdKey_rune _ _ (h.ok 0 0 (by omega) (.inl rfl)) rfl rfl f 0 99 1 l hh (by decide) (by rfl) (E_icommand_begun _ _ f 0 99 1 l (E_ibegun_c _ (h.set 0 0 (by omega) (.inl rfl)).b 1 rfl))
theorem key_w (hu : ul.length ≤ 11) (A : Nat) (hA : a = A) (hAl : A ≤ t.length) : ∃ (b : Nat) (r1 r2 : List TPiece) (ul1 ul2 : List TLine) (a2 act : Int), A ≤ b ∧ b ≤ t.length ∧ ringOk r1 = true ∧ undoOk ul1 = true ∧ ul1.length ≤ ul.length + 1 ∧ VI (t.take A ++ t.drop b) a2 r2 ul2 ∧
    KeyTo f l 119 (vE t a r ul 0 99) (nE (t.take A ++ t.drop b) A r1 ul1 0) 0 ∧ KeyTo f l 119 (vE t a r ul 0 100) (vE (t.take A ++ t.drop b) a2 r2 ul2 0 0) act := by
  have hl : t.length ≤ 400 := by have := h.text; simp only [textOk, Bool.and_eq_true, decide_eq_true_eq] at this; exact this.1
  obtain ⟨b, b1, b2, em⟩ := EX_iMotionTo_w t (some 0) A hAl (by omega)
  have hs := h.set99
  obtain ⟨ul1, r1, e1, u1, u2, u3⟩ := EX_ichange_c (vE t a r ul 0 99) hs h.ring A b b1 b2
  have kc : KeyTo f l 119 (vE t a r ul 0 99) (nE (t.take A ++ t.drop b) A r1 ul1 0) 0 :=
    E_iEdKey_rune _ _ h.ok99 rfl rfl f 0 119 1 l hh (by decide) (by rfl) (E_icommand_w (vE t a r ul 0 99) (nE (t.take A ++ t.drop b) A r1 ul1 0) hs.b f 0 99 l rfl (.inl rfl) A b hA em b1 b2 e1)
  have hs2 := h.set 0 100 (by omega) (.inr rfl)
  have hul : (vE t a r ul 0 99).Undo.Lines.length = ul.length := rfl
  by_cases hb : A = b
  · subst hb
    have e2 := E_ichange_no (vE t a r ul 0 100) hs2.b A
    have hV : VI (t.take A ++ t.drop A) a r ul := by rw [List.take_append_drop]; exact h
    refine ⟨A, r1, r, ul1, ul, a, 1, b1, b2, u3, u1, by omega, hV, kc, ?_⟩
    have k2 : KeyTo f l 119 (vE t a r ul 0 100) (vE t a r ul 0 0) 1 :=
      E_iEdKey_rune _ _ (h.ok 0 100 (by omega) (.inr rfl)) rfl rfl f 1 119 1 l hh (by decide) (by rfl) (E_icommand_w (vE t a r ul 0 100) (vE t a r ul 0 0) hs2.b f 1 100 l rfl (.inr rfl) A A hA em b1 b2 e2)
    rw [List.take_append_drop]
    exact k2
  · have ht : t ≠ [] := fun e => by subst e; simp at b2; omega
    obtain ⟨b', r', ul', a', ⟨c1, c2, c3, c4⟩, u, v, w, e2⟩ := cut_n h hu 0 100 (by omega) (.inr rfl) A (b - A) hA (by omega) ht
    have hb' : b' = b := by omega
    subst hb'
    refine ⟨b', r1, r', ul1, ul', a', 0, b1, b2, u3, u1, by omega, v, kc, ?_⟩
    exact E_iEdKey_rune _ _ (h.ok 0 100 (by omega) (.inr rfl)) rfl rfl f 0 119 1 l hh (by decide) (by rfl) (E_icommand_w (vE t a r ul 0 100) _ hs2.b f 0 100 l rfl (.inr rfl) A b' hA em b1 b2 e2)
end
end Go.Proofs.YtnmneoekpikpkaaGreatDoor
namespace Go.Proofs.YtnmneoekpikpkaaGreatDoor
open Go.RowKit
set_option linter.unusedSimpArgs false
set_option linter.unusedVariables false
set_option maxHeartbeats 16000000
set_option maxRecDepth 100000
theorem tk_c : M_iTextKey [V.v (.string (⟨#[99]⟩))] [] [] = some ⟨.tup [.agg [V.v (.int .i64 1), V.v (.int .i64 99)], V.v (.bool true)], [], []⟩ := E_iTextKey_rune ⟨#[99]⟩ 99 (reads_one (c := 99) (by decide) (by decide)) (by decide) (by decide) (by decide) (by decide) (by decide)
theorem tk_w : M_iTextKey [V.v (.string (⟨#[119]⟩))] [] [] = some ⟨.tup [.agg [V.v (.int .i64 1), V.v (.int .i64 119)], V.v (.bool true)], [], []⟩ := E_iTextKey_rune ⟨#[119]⟩ 119 (reads_one (c := 119) (by decide) (by decide)) (by decide) (by decide) (by decide) (by decide) (by decide)
theorem tk_z : M_iTextKey [V.v (.string (⟨#[122]⟩))] [] [] = some ⟨.tup [.agg [V.v (.int .i64 1), V.v (.int .i64 122)], V.v (.bool true)], [], []⟩ := E_iTextKey_rune ⟨#[122]⟩ 122 (reads_one (c := 122) (by decide) (by decide)) (by decide) (by decide) (by decide) (by decide) (by decide)
theorem tk_esc : M_iTextKey [V.v (.string (⟨#[69, 83, 67]⟩))] [] [] = some ⟨.tup [.agg [V.v (.int .i64 7), V.v (.int .i64 0)], V.v (.bool true)], [], []⟩ :=
  E_iTextKey_name ⟨#[69, 83, 67]⟩ 3 (by omega) (by decide) (by decide)
theorem typed_cw {f : Int} {l : List ByteArray} (hh : HistI f l) (e0 e1 e2 e3 e4 : TEd) (ok : e0.ok = true) (a1 a2 a3 a4 : Int)
    (k1 : KeyTo f l 99 e0 e1 a1) (k2 : KeyTo f l 119 e1 e2 a2) (k3 : KeyTo f l 122 e2 e3 a3) (k4 : M_iEdKey [.agg [V.v (.bool e3.Vi), V.v (.int .i64 e3.Mode), .lst (some 0) (ints e3.Line.Text), V.v (.int .i64 e3.Line.At), V.v (.int .i64 e3.Count), V.v (.int .i64 e3.Op), V.v (.int .i64 e3.OpCount), V.v (.int .i64 e3.Wait), V.v (.int .i64 e3.FindR), V.v (.int .i64 e3.FindHow), V.v (.int .i64 e3.Last), .lst (some 1) (dPieces e3.Ring.Pieces), .lst (some 2) (dLines e3.Undo.Lines), V.v (.int .i64 e3.Nav), .lst (some 3) (ints e3.Own.Text), V.v (.int .i64 e3.Own.At), .lst (some 4) (ints e3.Query), V.v (.int .i64 e3.Hit), .lst (some 5) (ints e3.Back.Text), V.v (.int .i64 e3.Back.At)], .agg [V.v (.int .i64 f), .lst (some 6) (strs l)], .agg [V.v (.int .i64 7), V.v (.int .i64 0)]] [] [] = some ⟨.tup [.agg [V.v (.bool e4.Vi), V.v (.int .i64 e4.Mode), .own 0, V.v (.int .i64 e4.Line.At), V.v (.int .i64 e4.Count), V.v (.int .i64 e4.Op), V.v (.int .i64 e4.OpCount), V.v (.int .i64 e4.Wait), V.v (.int .i64 e4.FindR), V.v (.int .i64 e4.FindHow), V.v (.int .i64 e4.Last), .own 1, .own 2, V.v (.int .i64 e4.Nav), .own 3, V.v (.int .i64 e4.Own.At), .own 4, V.v (.int .i64 e4.Hit), .own 5, V.v (.int .i64 e4.Back.At)], V.v (.int .i64 a4)], [], [(0, ints e4.Line.Text), (1, dPieces e4.Ring.Pieces), (2, dLines e4.Undo.Lines), (3, ints e4.Own.Text), (4, ints e4.Query), (5, ints e4.Back.Text)]⟩) :
    M_iEdTyped [.agg [V.v (.bool e0.Vi), V.v (.int .i64 e0.Mode), .lst (some 0) (ints e0.Line.Text), V.v (.int .i64 e0.Line.At), V.v (.int .i64 e0.Count), V.v (.int .i64 e0.Op), V.v (.int .i64 e0.OpCount), V.v (.int .i64 e0.Wait), V.v (.int .i64 e0.FindR), V.v (.int .i64 e0.FindHow), V.v (.int .i64 e0.Last), .lst (some 1) (dPieces e0.Ring.Pieces), .lst (some 2) (dLines e0.Undo.Lines), V.v (.int .i64 e0.Nav), .lst (some 3) (ints e0.Own.Text), V.v (.int .i64 e0.Own.At), .lst (some 4) (ints e0.Query), V.v (.int .i64 e0.Hit), .lst (some 5) (ints e0.Back.Text), V.v (.int .i64 e0.Back.At)], .agg [V.v (.int .i64 f), .lst (some 6) (strs l)], V.v (.string (⟨#[99, 32, 119, 32, 122, 32, 69, 83, 67]⟩))] [] [] = some ⟨.tup [.agg [V.v (.bool e4.Vi), V.v (.int .i64 e4.Mode), .own 0, V.v (.int .i64 e4.Line.At), V.v (.int .i64 e4.Count), V.v (.int .i64 e4.Op), V.v (.int .i64 e4.OpCount), V.v (.int .i64 e4.Wait), V.v (.int .i64 e4.FindR), V.v (.int .i64 e4.FindHow), V.v (.int .i64 e4.Last), .own 1, .own 2, V.v (.int .i64 e4.Nav), .own 3, V.v (.int .i64 e4.Own.At), .own 4, V.v (.int .i64 e4.Hit), .own 5, V.v (.int .i64 e4.Back.At)], .own 6], [], [(0, ints e4.Line.Text), (1, dPieces e4.Ring.Pieces), (2, dLines e4.Undo.Lines), (3, ints e4.Own.Text), (4, ints e4.Query), (5, ints e4.Back.Text), (6, ints [a1, a2, a3, a4])]⟩ := by
  refine E_iEdTyped e0 e4 f l ⟨#[99, 32, 119, 32, 122, 32, 69, 83, 67]⟩ [⟨#[99]⟩, ⟨#[119]⟩, ⟨#[122]⟩, ⟨#[69, 83, 67]⟩] [⟨1, 99⟩, ⟨1, 119⟩, ⟨1, 122⟩, ⟨7, 0⟩] [a1, a2, a3, a4] (by decide) (by decide +kernel) rfl (by decide) (fun j hj => ?_) ?_
  · match j, hj with
    | 0, _ => exact tk_c
    | 1, _ => exact tk_w
    | 2, _ => exact tk_z
    | 3, _ => exact tk_esc
    | n + 4, h => exact absurd h (by simp)
  · refine E_iEdKeys e0 ok f l hh [⟨1, 99⟩, ⟨1, 119⟩, ⟨1, 122⟩, ⟨7, 0⟩] (by decide) (fun k hk => ?_) (fun j => match j with | 0 => e0 | 1 => e1 | 2 => e2 | 3 => e3 | _ => e4) (fun j => match j with | 0 => a1 | 1 => a2 | 2 => a3 | _ => a4) rfl (fun j hj => ?_)
    · simp only [List.mem_cons, List.not_mem_nil, or_false] at hk
      rcases hk with rfl | rfl | rfl | rfl
      · exact E_iKeyOk_rune 99 (by decide)
      · exact E_iKeyOk_rune 119 (by decide)
      · exact E_iKeyOk_rune 122 (by decide)
      · exact E_iKeyOk_name 7 (by decide)
    · match j, hj with
      | 0, _ => exact k1
      | 1, _ => exact k2
      | 2, _ => exact k3
      | 3, _ => exact k4
      | n + 4, h => exact absurd h (by simp)
theorem E_lFnViChange (b : List UInt8) (hok : okR [.l (byts b)] = true) : M_lFnViChange [.lst (some 0) (byts b)] [] [] = some ⟨V.v (.bool true), [], []⟩ := by
  by_cases h1 : 1048576 < b.length
  · have h1' : (1048576 : Int) < b.length := by omega
    unfold M_lFnViChange
    simp [Tryz.func6, Tryz.f6, h1, h1']
  have h1' : ¬ (1048576 : Int) < b.length := by omega
  obtain ⟨t, a, r, f, l, hM, hV, hh, ht16⟩ := EX_sMakeVi b (by omega)
  obtain ⟨A, hA⟩ := Int.eq_ofNat_of_zero_le hV.at0
  have hAl : A ≤ t.length := by
    rcases hV.at_ with h | ⟨h, h2⟩
    · omega
    · subst h; simp; omega
  have ok0 := hV.ok 0 0 (by omega) (.inl rfl)
  obtain ⟨b', r1, r2, ul1, ul2, a2, act, b1, b2, u1, u2, u3, hV2, kcw, kdw⟩ := key_w hh hV (by simp) A hA hAl
  have htt : t.all typed = true := by have := hV.text; simp only [textOk, Bool.and_eq_true] at this; exact this.2
  have hXl : (t.take A ++ t.drop b').length = A + (t.length - b') := by simp; omega
  have hXo := hV2.text
  have hXA : (t.take A ++ t.drop b').take A = t.take A := by
    rw [List.take_append_of_le_length (by simp; omega), List.take_of_length_le (by simp; omega)]
  have hXD : (t.take A ++ t.drop b').drop A = t.drop b' := by
    rw [List.drop_append, List.drop_eq_nil_of_le (by simp; omega), List.nil_append]
    have : (t.take A).length = A := by simp; omega
    rw [this, Nat.sub_self]; rfl
  obtain ⟨ul3, kz, w1, w2⟩ := EX_key_z hh (t.take A ++ t.drop b') A r1 ul1 ⟨hXo, by omega⟩ (by omega) u1 ⟨u2, by simp at u3; omega⟩ 122 (by decide)
  rw [hXA, hXD] at kz
  have hYt : (t.take A ++ [122] ++ t.drop b').all typed = true := by
    refine List.all_eq_true.2 fun x hx => ?_
    rcases List.mem_append.1 hx with hx | hx
    · rcases List.mem_append.1 hx with hx | hx
      · exact List.all_eq_true.1 htt x (List.mem_of_mem_take hx)
      · rw [List.mem_singleton.1 hx]; decide
    · exact List.all_eq_true.1 htt x (List.mem_of_mem_drop hx)
  have hYl : (t.take A ++ [122] ++ t.drop b').length = A + 1 + (t.length - b') := by simp; omega
  have hYo : textOk (t.take A ++ [122] ++ t.drop b') = true := by
    simp only [textOk, hYt, Bool.and_true, decide_eq_true_eq]; omega
  have hYline : lineOk (t.take A ++ [122] ++ t.drop b') ((A : Int) + 1) = true := by
    unfold lineOk
    rw [hYo, inR_iff.2 (by omega)]; rfl
  have ke := key_esc hh (t.take A ++ [122] ++ t.drop b') ((A : Int) + 1) r1 ul3 hYline u1 w1 1 (by omega)
  have m1 : max ((A : Int) + 1 - 1) 0 = A := by omega
  rw [m1] at ke
  have hV3 : VI (t.take A ++ [122] ++ t.drop b') A r1 ul3 := ⟨hYo, by omega, .inl (by omega), u1, w1, by simp at u3; omega⟩
  have da := typed_cw hh _ _ _ _ _ ok0 0 0 0 0 (key_c hh hV) kcw kz ke
  have db := typed2 hh _ _ _ ok0 ⟨#[100, 32, 119]⟩ ⟨#[100]⟩ ⟨#[119]⟩ 100 119 0 act (by decide) (by decide +kernel) tk_d tk_w (by decide) (by decide) (key_d hh hV) kdw
  have ea := E_iEdOk' _ (hV3.ok 0 0 (by omega) (.inl rfl))
  have eb := E_iEdOk' _ (hV2.ok 0 0 (by omega) (.inl rfl))
  unfold M_lFnViChange
  by_cases ht : t = []
  · subst ht
    have hA0 : A = 0 := by simpa using hAl
    subst hA0
    have s1 := E_lsameInts [122] (by simp)
    simp only [List.take_nil, List.nil_append, List.drop_nil, List.append_nil] at hM da db ea eb
    simp only [vE, zEd, ints_nil, ints_cons, show dPieces [] = [] from rfl, show dLines [] = [] from rfl] at hM da db ea eb s1
    subst hA
    simp only [Int.natCast_zero] at hM da db ea eb
    simp [Tryz.func6, Tryz.f6, h1, h1', hM, da, db, ea, eb, s1]
  · have hYA : (t.take A ++ [122] ++ t.drop b').take A = t.take A := by
      rw [List.append_assoc, List.take_append_of_le_length (by simp; omega), List.take_of_length_le (by simp; omega)]
    have hYD : (t.take A ++ [122] ++ t.drop b').drop (A + 1) = t.drop b' := by
      have hl : (t.take A ++ [122]).length = A + 1 := by simp; omega
      rw [List.drop_append, List.drop_eq_nil_of_le (by omega), List.nil_append, hl, Nat.sub_self]; rfl
    have hYg : (t.take A ++ [122] ++ t.drop b')[A]? = some 122 := by
      have hl : (t.take A).length = A := by simp; omega
      rw [List.append_assoc, List.getElem?_append_right (by omega), hl, Nat.sub_self]; rfl
    have s1 := E_lsameInts (t.take A) (by simp; omega)
    have s2 := E_lsameInts (t.drop b') (by simp; omega)
    have hn0 : ¬ (t.length : Int) = 0 := by have := List.length_pos_iff.2 ht; omega
    have w3 := w64 ((A : Int) + 1) (by omega)
    have w4 := w64 (((t.take A ++ t.drop b').length : Int) + 1) (by omega)
    have q1 : ((t.take A ++ [122] ++ t.drop b').length : Int) = ((t.take A ++ t.drop b').length : Int) + 1 := by omega
    have q2 : A < (t.take A ++ [122] ++ t.drop b').length := by omega
    have q3 : (A : Int) ≤ (t.take A ++ [122] ++ t.drop b').length := by omega
    have q4 : (A : Int) + 1 ≤ (t.take A ++ [122] ++ t.drop b').length := by omega
    have q5 : (A : Int) ≤ (t.take A ++ t.drop b').length := by omega
    have q6 : (A : Int) ≤ t.length := by omega
    subst hA
    simp only [vE, zEd, ints_nil, ints_cons, show dPieces [] = [] from rfl, show dLines [] = [] from rfl] at hM da db ea eb
    generalize hY : t.take A ++ [122] ++ t.drop b' = Y at *
    generalize hX : t.take A ++ t.drop b' = X at *
    have q10 : 0 ≤ (A : Int) + 1 := by omega
    have q11 : (t.drop b').take (X.length - A) = t.drop b' := List.take_of_length_le (by simp; omega)
    have q12 : X.length + 1 - (A + 1) = X.length - A := by omega
    have hYv : Y[A] = 122 := by rw [List.getElem?_eq_getElem q2] at hYg; injection hYg
    have q7 : (A : Int) < (X.length : Int) + 1 := by omega
    have q8 : (A : Int) ≤ (X.length : Int) + 1 := by omega
    have q9 : (A : Int) + 1 ≤ (X.length : Int) + 1 := by omega
    simp [Tryz.func6, Tryz.f6, h1, h1', hM, da, db, ea, eb, s1, s2, w3, w4, q1, q2, q3, q4, q5, q6, q7, q8, q9, q10, q11, q12, hn0, ht, hYA, hYD, hYv, hXD]
end Go.Proofs.YtnmneoekpikpkaaGreatDoor
namespace Go.Proofs.YtnmneoekpikpkaaGreatDoor
open Go.ChangeShapes Go.WideShapes Go.ChangeAt Go.RowKit
theorem ownKnob_door : ownKnob Tryz.prog.godebug = none := by kernel_rfl
theorem zwOf {W : World} (h : W.ShapedOpen Tryz.prog) : ZW W := ⟨trivial, Tryz.laysM146.s1_3 W h⟩
def lay (cs : Array Value) : Obj → Obj
  | .cells _ t frozen => .cells cs t frozen
  | o => o
noncomputable def laidWorld (os : Os) : World :=
  { World.holding Tryz.prog os ⟨#[], #[], []⟩ with heap := ((World.holding Tryz.prog os ⟨#[], #[], []⟩).heap.modify 2 (lay #[.int .u8 128, .int .u8 191, .int .u8 160, .int .u8 191, .int .u8 128, .int .u8 159, .int .u8 144, .int .u8 191, .int .u8 128, .int .u8 143, .int .u8 0, .int .u8 0, .int .u8 0, .int .u8 0, .int .u8 0, .int .u8 0, .int .u8 0, .int .u8 0, .int .u8 0, .int .u8 0, .int .u8 0, .int .u8 0, .int .u8 0, .int .u8 0, .int .u8 0, .int .u8 0, .int .u8 0, .int .u8 0, .int .u8 0, .int .u8 0, .int .u8 0, .int .u8 0])).modify 1 (lay (List.replicate 128 (Value.int .u8 240) ++ List.replicate 66 (Value.int .u8 241) ++ List.replicate 30 (Value.int .u8 2) ++ List.replicate 1 (Value.int .u8 19) ++ List.replicate 12 (Value.int .u8 3) ++ List.replicate 1 (Value.int .u8 35) ++ List.replicate 2 (Value.int .u8 3) ++ List.replicate 1 (Value.int .u8 52) ++ List.replicate 3 (Value.int .u8 4) ++ List.replicate 1 (Value.int .u8 68) ++ List.replicate 11 (Value.int .u8 241)).toArray) }
end Go.Proofs.YtnmneoekpikpkaaGreatDoor
namespace Go.Proofs.YtnmneoekpikpkaaGreatDoor.fnViChange
open Go.ChangeShapes Go.WideShapes Go.ChangeAt Go.RowKit
open Go.ChangeMaps (open_string shut_string)
set_option linter.unusedVariables false
theorem law_FnViChange (l0 : List UInt8) (p0 : Value) (W : World) (hz : ZW W) (g0 : okR [.l (byts l0)] = true) (z0 : RdD (heapOf W) (.l (byts l0)) p0) :
    Calls Tryz.prog 6 #[p0] W fun e W' => e = .returned (.bool true) ∧ Ext W W' :=
  S_lFnViChange.top_v hz (us := [p0]) (ls := [p0]) (E_lFnViChange l0 g0)
    ⟨_, _, rfl, top_arg_l rfl z0, rfl⟩
set_option maxRecDepth 100000 in
theorem laid_met (os : Os) : laidMet Tryz.prog Rows.fnViChangeRow.laid ((laidWorld os).forCall (fun _ _ => 0) ⟨#[], #[.slice none 0 0], []⟩).memory :=
  laidMet_of_run' 8 (by kernel_rfl) (by kernel_rfl)
set_option maxRecDepth 100000 in
theorem reads (os : Os) {H : Type} (enc : TypeId × Value → H) : ∃ places, DataW.whole enc Tryz.prog ((laidWorld os).forCall (fun _ _ => 0) ⟨#[], #[.slice none 0 0], []⟩).memory Tryz.f6.params.toList Rows.fnViChangeSpec.vars false (#[.slice none 0 0] : Array Value).toList 8 = some ([.nil], [], places) :=
  ⟨[], by kernel_rfl⟩
set_option maxRecDepth 100000 in
theorem lifted (os : Os) (started : os.Started) (H : Type) (enc : TypeId × Value → H) (F : Stop.Interp) :
    ReturnsInHanded {} Tryz.checked os 6 .any ((OpenSpec.ofChange Rows.fnViChangeSpec).preRow enc Tryz.prog Tryz.f6 Rows.fnViChangeRow.domain false Rows.fnViChangeRow.laid) (((OpenSpec.ofChange Rows.fnViChangeSpec).at F).post enc Tryz.prog Tryz.f6 false true false false) := by
  obtain ⟨places, hx⟩ := reads os enc
  refine returnsInHanded_of_row (C := Tryz.checked) (s := OpenSpec.ofChange Rows.fnViChangeSpec) ownKnob_door started (by kernel_rfl) Tryz.func6
    (witness_row_at (enc := enc) (C := Tryz.checked) false (laidWorld os) #[.slice none 0 0] rfl (by kernel_rfl) (by kernel_rfl) (by kernel_rfl)
      (OpenSpec.preRow_of_cond 8 hx (by kernel_rfl) (fun k hk => by cases hk) (by kernel_rfl) (laid_met os))) ?_
  intro W base args ds gs before hval0 hW _ _ _ hL hsh _
  have hval : ∀ (j : Nat) t v, Tryz.f6.params[j]? = some t → args[j]? = some v → Value.okWide Tryz.prog W .any base t v := hval0
  have hW' := hW
  obtain ⟨p, q, hA0, hV, rfl, hfz, hnd⟩ := hW
  have hA : DataW.TrodAll enc Tryz.prog W 0 (fun _ => true) true Tryz.f6.params.toList args.toList ds p := hA0
  rw [Tryz.params6] at hA hval
  obtain ⟨v0, vs0, d0, ds0, pp0, q0, hargs, rfl, rfl, h0, r0⟩ := trodAll_cons hA
  obtain ⟨rfl, rfl, rfl⟩ := trodAll_nil r0
  obtain rfl : args = #[v0] := by cases args; simp_all
  obtain ⟨rfl, rfl⟩ := trodVars_none hV
  have k0 := h0
  have lt0 : ∀ x ∈ pp0, x.block < W.heap.size := by obtain ⟨m, hm⟩ := k0; exact DataW.trod_lt m _ _ _ hm
  obtain ⟨l0, g0, z0⟩ := open_bytes_top (hval 0 22 v0 rfl rfl) h0
  clear hA0 hval0
  refine (law_FnViChange l0 v0 W (zwOf hsh) g0 z0).mono fun e W' ⟨he, bel⟩ => ?_
  subst he
  exact ⟨_, rfl, _, _, _, [], _, [], hW', trodAll_mk1 (shut_bool Tryz.underlying4 _), (trodAll_cons_mk (Below.trod laidOut_prog (by kernel_rfl) (of_decide_eq_true (by kernel_rfl)) k0 bel lt0) trodAll_mk0), rfl, Below.frame bel _, fun h => by cases h⟩
theorem said : Rows.FnViChangeSaid :=
  OpenClaim.holds_of_cond 6 Tryz.f6 rfl rfl rfl rfl rfl rfl rfl ⟨rfl, rfl, rfl, rfl, rfl⟩ rfl rfl rfl rfl rfl (by kernel_rfl) Tryz.func6 (by kernel_rfl)
    (of_decide_eq_true (by kernel_rfl)) (by unfold Func.isWrapper; first | (rw [if_pos (by decide +kernel)]; kernel_rfl) | (rw [if_neg (by decide +kernel)]; exact ⟨rfl, rfl⟩))
    (fun os started H enc _ F => by rw [OpenClaim.pre_eq_preRow]; exact lifted os started H enc F)
theorem plain (f : FuncId) (fn : Func) (hf : Tryz.pinned.checked.prog.funcNamed "loop.example/g00600/laws.FnViChange" = some f) (hfn : Tryz.pinned.checked.prog.funcs[f]? = some fn) :
    false = Tryz.pinned.checked.prog.looks [] ∧ ∀ (j : Nat) t, fn.params[j]? = some t → Tryz.pinned.checked.prog.wantsStandIn t = false := by
  obtain rfl : f = 6 := Option.some.inj ((show Tryz.prog.funcNamed "loop.example/g00600/laws.FnViChange" = some 6 by kernel_rfl).symm.trans hf) |>.symm
  obtain rfl : fn = Tryz.f6 := (Option.some.inj (Tryz.func6.symm.trans hfn)).symm
  refine ⟨by kernel_rfl, fun j t ht => ?_⟩
  rw [Tryz.params6] at ht
  have hm := Array.mem_of_getElem? ht
  simp only [List.mem_toArray, List.mem_cons, List.not_mem_nil, or_false] at hm
  subst hm
  exact (show Tryz.prog.wantsStandIn 22 = false by kernel_rfl)
theorem card : Rows.FnViChangeCardSaid :=
  Claim7.holds_tied_plain_at .later [] _ _ _ _ said (fun _ h => by cases h) (by kernel_rfl) (fun _ h => by cases h) fnViChange_row_tie rfl ⟨rfl, rfl⟩ (by kernel_rfl) rfl plain (by kernel_rfl)
#print axioms card
end Go.Proofs.YtnmneoekpikpkaaGreatDoor.fnViChange
