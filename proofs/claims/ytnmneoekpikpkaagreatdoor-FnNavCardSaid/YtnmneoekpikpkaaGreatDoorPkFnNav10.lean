/- The statement of this claim is proved in the last of these texts: by an abstract evaluator that is sound, and by what the functions compute. -/
import Derived.Test.YtnmneoekpikpkaaGreatDoorPkFnNav9
import Derived.Test.YtnmneoekpikpkaaGreatDoorRows
import Derived.Test.YtnmneoekpikpkaaGreatDoorChecked
import Derived.ProofKit
import Derived.OpenShut
import Derived.Handy
import Derived.ShutString
import Derived.ChangeOld
import Derived.Deep.Slices
import Derived.Test.YtnmneoekpikpkaaGreatDoorCards
import Derived.Test.YtnmneoekpikpkaaGreatDoorTie
import Derived.Deep.DeepHandedRow
import Derived.Stop.LaidErr
import Derived.Shelf.Vars
namespace Go.Proofs.YtnmneoekpikpkaaGreatDoor
open Go.RowKit
set_option linter.unusedSimpArgs false
set_option linter.unusedVariables false
set_option maxHeartbeats 8000000
set_option maxRecDepth 10000
theorem E_iEdOk' (e : TEd) (ok : e.ok = true) : M_iEdOk [.agg [V.v (.bool e.Vi), V.v (.int .i64 e.Mode), .lst (some 0) (ints e.Line.Text), V.v (.int .i64 e.Line.At), V.v (.int .i64 e.Count), V.v (.int .i64 e.Op), V.v (.int .i64 e.OpCount), V.v (.int .i64 e.Wait), V.v (.int .i64 e.FindR), V.v (.int .i64 e.FindHow), V.v (.int .i64 e.Last), .lst (some 1) (dPieces e.Ring.Pieces), .lst (some 2) (dLines e.Undo.Lines), V.v (.int .i64 e.Nav), .lst (some 3) (ints e.Own.Text), V.v (.int .i64 e.Own.At), .lst (some 4) (ints e.Query), V.v (.int .i64 e.Hit), .lst (some 5) (ints e.Back.Text), V.v (.int .i64 e.Back.At)]] [] [] = some ⟨V.v (.bool true), [], []⟩ := by
  have hsm := TEd.sm_of ok
  have hE := E_iEdOk e.Vi e.Mode e.Line.Text e.Line.At e.Count e.Op e.OpCount e.Wait e.FindR e.FindHow e.Last e.Ring.Pieces e.Undo.Lines e.Nav e.Own.Text e.Own.At e.Query e.Hit e.Back.Text e.Back.At hsm.h1 hsm.h2 hsm.h3 hsm.h4 hsm.h5 hsm.h6
  rw [hE]
  have : edOk e.Vi e.Mode e.Line.Text e.Line.At e.Count e.Op e.OpCount e.Wait e.FindR e.FindHow e.Last e.Ring.Pieces e.Undo.Lines e.Nav e.Own.Text e.Own.At e.Query e.Hit e.Back.Text e.Back.At = true := ok
  rw [this]
theorem EdB.of {e : TEd} (ok : e.ok = true) : EdB e := by
  simp only [TEd.ok, edOk, Bool.and_eq_true, decide_eq_true_eq] at ok
  obtain ⟨a1, a2, a3, a4, a5, a6, a7, a8, a9, a10, a11, a12, a13, a14, a15, a16⟩ := ok
  have len : ∀ {l : List Int} {a : Int}, lineOk l a = true → l.length ≤ 400 := fun h => by
    simp only [lineOk, textOk, Bool.and_eq_true, decide_eq_true_eq] at h; exact h.1.1
  simp only [ringOk, undoOk, Bool.and_eq_true, decide_eq_true_eq] at a9 a10
  refine ⟨by have := len a1; omega, by have := len a2; omega, by have := len a3; omega, by omega, ⟨by omega, fun p hp => ?_⟩, by omega, fun p hp => ?_⟩
  · have := List.all_eq_true.1 a9.1 p hp
    simp only [pieceB, textOk, Bool.and_eq_true, decide_eq_true_eq] at this; omega
  · have := List.all_eq_true.1 a10.1 p hp
    simp only [lineB] at this
    have := len this; omega
theorem E_iKeyOk_name (k : Int) (h : 4 ≤ k ∧ k ≤ 16) : M_iKeyOk [.agg [V.v (.int .i64 k), V.v (.int .i64 0)]] [] [] = some ⟨V.v (.bool true), [], []⟩ := by
  have q : inR k 4 16 = true := inR_iff.2 h
  have q1 : ¬ k = 1 := by omega
  have q2 : ¬ k = 2 := by omega
  have q3 : ¬ k = 3 := by omega
  unfold M_iKeyOk
  simp [Tryz.func47, Tryz.f47, E_iin, q, q1, q2, q3]
theorem E_icanKey (e : TEd) (ok : e.ok = true) (f : Int) (l : List ByteArray) (h : HistI f l) (k : Int) (hk : 4 ≤ k ∧ k ≤ 16) : M_icanKey [.agg [V.v (.bool e.Vi), V.v (.int .i64 e.Mode), .lst (some 0) (ints e.Line.Text), V.v (.int .i64 e.Line.At), V.v (.int .i64 e.Count), V.v (.int .i64 e.Op), V.v (.int .i64 e.OpCount), V.v (.int .i64 e.Wait), V.v (.int .i64 e.FindR), V.v (.int .i64 e.FindHow), V.v (.int .i64 e.Last), .lst (some 1) (dPieces e.Ring.Pieces), .lst (some 2) (dLines e.Undo.Lines), V.v (.int .i64 e.Nav), .lst (some 3) (ints e.Own.Text), V.v (.int .i64 e.Own.At), .lst (some 4) (ints e.Query), V.v (.int .i64 e.Hit), .lst (some 5) (ints e.Back.Text), V.v (.int .i64 e.Back.At)], .agg [V.v (.int .i64 f), .lst (some 6) (strs l)], .agg [V.v (.int .i64 k), V.v (.int .i64 0)]] [] [] = some ⟨V.v (.bool true), [], []⟩ := by
  have e1 := E_iEdOk' e ok
  have e2 := E_iHistOk f l h
  have e3 := E_iKeyOk_name k hk
  unfold M_icanKey
  simp [Tryz.func79, Tryz.f79, e1, e2, e3]
theorem E_iinCommand0 (t : List Int) (a mode : Int) (h : ¬ mode = 2) : M_iinCommand [.agg [.lst (some 0) (ints t), V.v (.int .i64 a)], V.v (.int .i64 mode)] [] [] = some ⟨.agg [.lst (some 0) (ints t), V.v (.int .i64 a)], [], []⟩ := by
  unfold M_iinCommand
  simp [Tryz.func125, Tryz.f125, h]
theorem E_iLineOf (s : ByteArray) (t : List Int) (h : Reads s.data.toList t []) (ht : textOk t = true) (hs : s.size ≤ 65536) : M_iLineOf [V.v (.string s)] [] [] = some ⟨.tup [.agg [.own 0, V.v (.int .i64 ((t.length : Int)))], V.v (.bool true)], [], [(0, ints t)]⟩ := by
  have e1 := E_iRunesOf s t [] h hs
  have hl : t.length ≤ 400 := by simp only [textOk, Bool.and_eq_true, decide_eq_true_eq] at ht; exact ht.1
  have e2 := E_iLineOk t t.length (by omega)
  have q : lineOk t t.length = true := by
    unfold lineOk
    rw [ht, inR_iff.2 (by omega)]; rfl
  rw [q] at e2
  unfold M_iLineOf
  simp [Tryz.func153, Tryz.f153, e1, e2]
theorem E_iEdStep_up (e : TEd) (ok : e.ok = true) (hm : e.Mode = 0) (hn : e.Nav = 0) (f : Int) (l : List ByteArray) (h : HistI f l) (hl : l ≠ []) (t : List Int) (hr : Reads (l[l.length - 1]'(by have := List.length_pos_iff.2 hl; omega)).data.toList t []) (ht : textOk t = true) :
    M_iEdStep [.agg [V.v (.bool e.Vi), V.v (.int .i64 e.Mode), .lst (some 0) (ints e.Line.Text), V.v (.int .i64 e.Line.At), V.v (.int .i64 e.Count), V.v (.int .i64 e.Op), V.v (.int .i64 e.OpCount), V.v (.int .i64 e.Wait), V.v (.int .i64 e.FindR), V.v (.int .i64 e.FindHow), V.v (.int .i64 e.Last), .lst (some 1) (dPieces e.Ring.Pieces), .lst (some 2) (dLines e.Undo.Lines), V.v (.int .i64 e.Nav), .lst (some 3) (ints e.Own.Text), V.v (.int .i64 e.Own.At), .lst (some 4) (ints e.Query), V.v (.int .i64 e.Hit), .lst (some 5) (ints e.Back.Text), V.v (.int .i64 e.Back.At)], .agg [V.v (.int .i64 f), .lst (some 6) (strs l)], V.v (.int .i64 ((-1)))] [] [] = some ⟨.tup [.agg [V.v (.bool e.Vi), V.v (.int .i64 e.Mode), .own 0, V.v (.int .i64 (t.length : Int)), V.v (.int .i64 0), V.v (.int .i64 0), V.v (.int .i64 0), V.v (.int .i64 0), V.v (.int .i64 e.FindR), V.v (.int .i64 e.FindHow), V.v (.int .i64 0), .own 1, .own 2, V.v (.int .i64 (f + l.length - 1)), .own 3, V.v (.int .i64 e.Line.At), .own 4, V.v (.int .i64 e.Hit), .own 5, V.v (.int .i64 e.Back.At)], V.v (.bool true)], [], [(0, ints t), (1, dPieces e.Ring.Pieces), (2, []), (3, ints e.Line.Text), (4, ints e.Query), (5, ints e.Back.Text)]⟩ := by
  have hlen : 0 < l.length := List.length_pos_iff.2 hl
  have h1 := h.first
  have h2 := h.len
  have hs := h.each _ (List.getElem_mem (l := l) (n := l.length - 1) (by omega))
  have e1 := E_iEdOk' e ok
  have e2 := E_isettled e (EdB.of ok) 0
  have e3 := E_iHistLast f l h
  have e4 := E_iHistGet f l h (l.length - 1) (by omega)
  have e5 := E_iLineOf _ t hr ht (by omega)
  have e6 := E_icopyLine e.Line.Text (some 0) e.Line.At (by have := (EdB.of ok).line; omega)
  have c1 : (((l.length - 1 : Nat) : Int)) = (l.length : Int) - 1 := by omega
  have c2 : f + ((l.length : Int) - 1) = f + l.length - 1 := by omega
  rw [c1, c2] at e4
  unfold histLast at e3
  rw [if_neg hl] at e3
  have w1 := w64 (f + l.length - 1 + 1) (by omega)
  have w2 := w64 (f + l.length - 1 + 1 + -1) (by omega)
  have c3 : f + (l.length : Int) - 1 + 1 + -1 = f + l.length - 1 := by omega
  have c4 : f + (l.length : Int) - 1 + 1 = f + l.length := by omega
  have c5 : f + (l.length : Int) + -1 = f + l.length - 1 := by omega
  rw [c3] at w2
  rw [c4] at w1
  simp only [hm, hn] at e1 e2 ⊢
  generalize hE : M_iEdStep _ _ _ = R
  unfold M_iEdStep at hE
  simp [Tryz.func143, Tryz.f143, e1, e2, e3, e4, e5, e6, hm, hn, w1, w2, c3, c4, c5] at hE
  exact hE.symm
theorem reads_nil : Reads (⟨#[]⟩ : ByteArray).data.toList [] [] := ⟨rfl, (fun _ h => nomatch h), rfl⟩
theorem E_iEdStep_none (e : TEd) (ok : e.ok = true) (hm : e.Mode = 0) (hn : e.Nav = 0) (f : Int) (h : HistI f []) :
    M_iEdStep [.agg [V.v (.bool e.Vi), V.v (.int .i64 e.Mode), .lst (some 0) (ints e.Line.Text), V.v (.int .i64 e.Line.At), V.v (.int .i64 e.Count), V.v (.int .i64 e.Op), V.v (.int .i64 e.OpCount), V.v (.int .i64 e.Wait), V.v (.int .i64 e.FindR), V.v (.int .i64 e.FindHow), V.v (.int .i64 e.Last), .lst (some 1) (dPieces e.Ring.Pieces), .lst (some 2) (dLines e.Undo.Lines), V.v (.int .i64 e.Nav), .lst (some 3) (ints e.Own.Text), V.v (.int .i64 e.Own.At), .lst (some 4) (ints e.Query), V.v (.int .i64 e.Hit), .lst (some 5) (ints e.Back.Text), V.v (.int .i64 e.Back.At)], .agg [V.v (.int .i64 f), .lst (some 6) []], V.v (.int .i64 ((-1)))] [] [] = some ⟨.tup [.agg [V.v (.bool false), V.v (.int .i64 0), .own 0, V.v (.int .i64 0), V.v (.int .i64 0), V.v (.int .i64 0), V.v (.int .i64 0), V.v (.int .i64 0), V.v (.int .i64 0), V.v (.int .i64 0), V.v (.int .i64 0), .own 1, .own 2, V.v (.int .i64 0), .own 3, V.v (.int .i64 0), .own 4, V.v (.int .i64 0), .own 5, V.v (.int .i64 0)], V.v (.bool false)], [], [(0, []), (1, []), (2, []), (3, []), (4, []), (5, [])]⟩ := by
  have h1 := h.first
  have e1 := E_iEdOk' e ok
  have e2 := E_isettled e (EdB.of ok) 0
  have e3 := E_iHistLast f [] h
  have e4 := E_iHistGet_no f [] h 0 (by omega)
  have e5 := E_iLineOf _ [] reads_nil (by decide) (by decide)
  simp only [show strs [] = [] from rfl, show ints [] = [] from rfl, histLast, if_true, List.length_nil, Int.natCast_zero] at e3 e4 e5
  simp only [hm, hn] at e1 e2 ⊢
  generalize hE : M_iEdStep _ _ _ = R
  unfold M_iEdStep at hE
  simp [Tryz.func143, Tryz.f143, e1, e2, e3, e4, e5, hm, hn] at hE
  exact hE.symm
theorem E_iEdStep_down (e : TEd) (ok : e.ok = true) (hm : e.Mode = 0) (f : Int) (l : List ByteArray) (h : HistI f l) (hl : l ≠ []) (hn : e.Nav = f + l.length - 1) :
    M_iEdStep [.agg [V.v (.bool e.Vi), V.v (.int .i64 e.Mode), .lst (some 0) (ints e.Line.Text), V.v (.int .i64 e.Line.At), V.v (.int .i64 e.Count), V.v (.int .i64 e.Op), V.v (.int .i64 e.OpCount), V.v (.int .i64 e.Wait), V.v (.int .i64 e.FindR), V.v (.int .i64 e.FindHow), V.v (.int .i64 e.Last), .lst (some 1) (dPieces e.Ring.Pieces), .lst (some 2) (dLines e.Undo.Lines), V.v (.int .i64 e.Nav), .lst (some 3) (ints e.Own.Text), V.v (.int .i64 e.Own.At), .lst (some 4) (ints e.Query), V.v (.int .i64 e.Hit), .lst (some 5) (ints e.Back.Text), V.v (.int .i64 e.Back.At)], .agg [V.v (.int .i64 f), .lst (some 6) (strs l)], V.v (.int .i64 1)] [] [] = some ⟨.tup [.agg [V.v (.bool e.Vi), V.v (.int .i64 e.Mode), .own 0, V.v (.int .i64 e.Own.At), V.v (.int .i64 0), V.v (.int .i64 0), V.v (.int .i64 0), V.v (.int .i64 0), V.v (.int .i64 e.FindR), V.v (.int .i64 e.FindHow), V.v (.int .i64 0), .own 1, .own 2, V.v (.int .i64 0), .own 3, V.v (.int .i64 0), .own 4, V.v (.int .i64 e.Hit), .own 5, V.v (.int .i64 e.Back.At)], V.v (.bool true)], [], [(0, ints e.Own.Text), (1, dPieces e.Ring.Pieces), (2, []), (3, []), (4, ints e.Query), (5, ints e.Back.Text)]⟩ := by
  have hlen : 0 < l.length := List.length_pos_iff.2 hl
  have h1 := h.first
  have h2 := h.len
  have e1 := E_iEdOk' e ok
  have e2 := E_isettled e (EdB.of ok) 0
  have e3 := E_iHistLast f l h
  have e6 := E_icopyLine e.Own.Text (some 0) e.Own.At (by have := (EdB.of ok).own; omega)
  have e7 := E_iinCommand0 e.Own.Text e.Own.At 0 (by omega)
  unfold histLast at e3
  rw [if_neg hl] at e3
  have w1 := w64 (f + l.length - 1 + 1) (by omega)
  have c4 : f + (l.length : Int) - 1 + 1 = f + l.length := by omega
  rw [c4] at w1
  have q : ¬ f + (l.length : Int) - 1 = 0 := by omega
  simp only [hm, hn] at e1 e2 ⊢
  generalize hE : M_iEdStep _ _ _ = R
  unfold M_iEdStep at hE
  simp [Tryz.func143, Tryz.f143, e1, e2, e3, e6, e7, hm, hn, w1, c4, q] at hE
  exact hE.symm
theorem E_istep_ok (e e' : TEd) (f by_ : Int) (l : List ByteArray) (h : M_iEdStep [.agg [V.v (.bool e.Vi), V.v (.int .i64 e.Mode), .lst (some 0) (ints e.Line.Text), V.v (.int .i64 e.Line.At), V.v (.int .i64 e.Count), V.v (.int .i64 e.Op), V.v (.int .i64 e.OpCount), V.v (.int .i64 e.Wait), V.v (.int .i64 e.FindR), V.v (.int .i64 e.FindHow), V.v (.int .i64 e.Last), .lst (some 1) (dPieces e.Ring.Pieces), .lst (some 2) (dLines e.Undo.Lines), V.v (.int .i64 e.Nav), .lst (some 3) (ints e.Own.Text), V.v (.int .i64 e.Own.At), .lst (some 4) (ints e.Query), V.v (.int .i64 e.Hit), .lst (some 5) (ints e.Back.Text), V.v (.int .i64 e.Back.At)], .agg [V.v (.int .i64 f), .lst (some 6) (strs l)], V.v (.int .i64 by_)] [] [] = some ⟨.tup [.agg [V.v (.bool e'.Vi), V.v (.int .i64 e'.Mode), .own 0, V.v (.int .i64 e'.Line.At), V.v (.int .i64 e'.Count), V.v (.int .i64 e'.Op), V.v (.int .i64 e'.OpCount), V.v (.int .i64 e'.Wait), V.v (.int .i64 e'.FindR), V.v (.int .i64 e'.FindHow), V.v (.int .i64 e'.Last), .own 1, .own 2, V.v (.int .i64 e'.Nav), .own 3, V.v (.int .i64 e'.Own.At), .own 4, V.v (.int .i64 e'.Hit), .own 5, V.v (.int .i64 e'.Back.At)], V.v (.bool true)], [], [(0, ints e'.Line.Text), (1, dPieces e'.Ring.Pieces), (2, dLines e'.Undo.Lines), (3, ints e'.Own.Text), (4, ints e'.Query), (5, ints e'.Back.Text)]⟩) :
    M_istep [.agg [V.v (.bool e.Vi), V.v (.int .i64 e.Mode), .lst (some 0) (ints e.Line.Text), V.v (.int .i64 e.Line.At), V.v (.int .i64 e.Count), V.v (.int .i64 e.Op), V.v (.int .i64 e.OpCount), V.v (.int .i64 e.Wait), V.v (.int .i64 e.FindR), V.v (.int .i64 e.FindHow), V.v (.int .i64 e.Last), .lst (some 1) (dPieces e.Ring.Pieces), .lst (some 2) (dLines e.Undo.Lines), V.v (.int .i64 e.Nav), .lst (some 3) (ints e.Own.Text), V.v (.int .i64 e.Own.At), .lst (some 4) (ints e.Query), V.v (.int .i64 e.Hit), .lst (some 5) (ints e.Back.Text), V.v (.int .i64 e.Back.At)], .agg [V.v (.int .i64 f), .lst (some 6) (strs l)], V.v (.int .i64 by_)] [] [] = some ⟨.tup [.agg [V.v (.bool e'.Vi), V.v (.int .i64 e'.Mode), .own 0, V.v (.int .i64 e'.Line.At), V.v (.int .i64 e'.Count), V.v (.int .i64 e'.Op), V.v (.int .i64 e'.OpCount), V.v (.int .i64 e'.Wait), V.v (.int .i64 e'.FindR), V.v (.int .i64 e'.FindHow), V.v (.int .i64 e'.Last), .own 1, .own 2, V.v (.int .i64 e'.Nav), .own 3, V.v (.int .i64 e'.Own.At), .own 4, V.v (.int .i64 e'.Hit), .own 5, V.v (.int .i64 e'.Back.At)], V.v (.int .i64 0)], [], [(0, ints e'.Line.Text), (1, dPieces e'.Ring.Pieces), (2, dLines e'.Undo.Lines), (3, ints e'.Own.Text), (4, ints e'.Query), (5, ints e'.Back.Text)]⟩ := by
  unfold M_istep
  simp [Tryz.func107, Tryz.f107, h]
theorem E_istep_no (e : TEd) (hb : EdB e) (f by_ : Int) (l : List ByteArray) (h : M_iEdStep [.agg [V.v (.bool e.Vi), V.v (.int .i64 e.Mode), .lst (some 0) (ints e.Line.Text), V.v (.int .i64 e.Line.At), V.v (.int .i64 e.Count), V.v (.int .i64 e.Op), V.v (.int .i64 e.OpCount), V.v (.int .i64 e.Wait), V.v (.int .i64 e.FindR), V.v (.int .i64 e.FindHow), V.v (.int .i64 e.Last), .lst (some 1) (dPieces e.Ring.Pieces), .lst (some 2) (dLines e.Undo.Lines), V.v (.int .i64 e.Nav), .lst (some 3) (ints e.Own.Text), V.v (.int .i64 e.Own.At), .lst (some 4) (ints e.Query), V.v (.int .i64 e.Hit), .lst (some 5) (ints e.Back.Text), V.v (.int .i64 e.Back.At)], .agg [V.v (.int .i64 f), .lst (some 6) (strs l)], V.v (.int .i64 by_)] [] [] = some ⟨.tup [.agg [V.v (.bool false), V.v (.int .i64 0), .own 0, V.v (.int .i64 0), V.v (.int .i64 0), V.v (.int .i64 0), V.v (.int .i64 0), V.v (.int .i64 0), V.v (.int .i64 0), V.v (.int .i64 0), V.v (.int .i64 0), .own 1, .own 2, V.v (.int .i64 0), .own 3, V.v (.int .i64 0), .own 4, V.v (.int .i64 0), .own 5, V.v (.int .i64 0)], V.v (.bool false)], [], [(0, []), (1, []), (2, []), (3, []), (4, []), (5, [])]⟩) :
    M_istep [.agg [V.v (.bool e.Vi), V.v (.int .i64 e.Mode), .lst (some 0) (ints e.Line.Text), V.v (.int .i64 e.Line.At), V.v (.int .i64 e.Count), V.v (.int .i64 e.Op), V.v (.int .i64 e.OpCount), V.v (.int .i64 e.Wait), V.v (.int .i64 e.FindR), V.v (.int .i64 e.FindHow), V.v (.int .i64 e.Last), .lst (some 1) (dPieces e.Ring.Pieces), .lst (some 2) (dLines e.Undo.Lines), V.v (.int .i64 e.Nav), .lst (some 3) (ints e.Own.Text), V.v (.int .i64 e.Own.At), .lst (some 4) (ints e.Query), V.v (.int .i64 e.Hit), .lst (some 5) (ints e.Back.Text), V.v (.int .i64 e.Back.At)], .agg [V.v (.int .i64 f), .lst (some 6) (strs l)], V.v (.int .i64 by_)] [] [] = some ⟨.tup [.agg [V.v (.bool e.Vi), V.v (.int .i64 e.Mode), .own 0, V.v (.int .i64 e.Line.At), V.v (.int .i64 0), V.v (.int .i64 0), V.v (.int .i64 0), V.v (.int .i64 0), V.v (.int .i64 e.FindR), V.v (.int .i64 e.FindHow), V.v (.int .i64 0), .own 1, .own 2, V.v (.int .i64 e.Nav), .own 3, V.v (.int .i64 e.Own.At), .own 4, V.v (.int .i64 e.Hit), .own 5, V.v (.int .i64 e.Back.At)], V.v (.int .i64 1)], [], [(0, ints e.Line.Text), (1, dPieces e.Ring.Pieces), (2, dLines e.Undo.Lines), (3, ints e.Own.Text), (4, ints e.Query), (5, ints e.Back.Text)]⟩ := by
  have e1 := E_ibell e hb
  unfold M_istep
  simp [Tryz.func107, Tryz.f107, h, e1]
theorem E_iplain_up (e e' : TEd) (f act : Int) (l : List ByteArray) (h : M_istep [.agg [V.v (.bool e.Vi), V.v (.int .i64 e.Mode), .lst (some 0) (ints e.Line.Text), V.v (.int .i64 e.Line.At), V.v (.int .i64 e.Count), V.v (.int .i64 e.Op), V.v (.int .i64 e.OpCount), V.v (.int .i64 e.Wait), V.v (.int .i64 e.FindR), V.v (.int .i64 e.FindHow), V.v (.int .i64 e.Last), .lst (some 1) (dPieces e.Ring.Pieces), .lst (some 2) (dLines e.Undo.Lines), V.v (.int .i64 e.Nav), .lst (some 3) (ints e.Own.Text), V.v (.int .i64 e.Own.At), .lst (some 4) (ints e.Query), V.v (.int .i64 e.Hit), .lst (some 5) (ints e.Back.Text), V.v (.int .i64 e.Back.At)], .agg [V.v (.int .i64 f), .lst (some 6) (strs l)], V.v (.int .i64 ((-1)))] [] [] = some ⟨.tup [.agg [V.v (.bool e'.Vi), V.v (.int .i64 e'.Mode), .own 0, V.v (.int .i64 e'.Line.At), V.v (.int .i64 e'.Count), V.v (.int .i64 e'.Op), V.v (.int .i64 e'.OpCount), V.v (.int .i64 e'.Wait), V.v (.int .i64 e'.FindR), V.v (.int .i64 e'.FindHow), V.v (.int .i64 e'.Last), .own 1, .own 2, V.v (.int .i64 e'.Nav), .own 3, V.v (.int .i64 e'.Own.At), .own 4, V.v (.int .i64 e'.Hit), .own 5, V.v (.int .i64 e'.Back.At)], V.v (.int .i64 act)], [], [(0, ints e'.Line.Text), (1, dPieces e'.Ring.Pieces), (2, dLines e'.Undo.Lines), (3, ints e'.Own.Text), (4, ints e'.Query), (5, ints e'.Back.Text)]⟩) :
    M_iplain [.agg [V.v (.bool e.Vi), V.v (.int .i64 e.Mode), .lst (some 0) (ints e.Line.Text), V.v (.int .i64 e.Line.At), V.v (.int .i64 e.Count), V.v (.int .i64 e.Op), V.v (.int .i64 e.OpCount), V.v (.int .i64 e.Wait), V.v (.int .i64 e.FindR), V.v (.int .i64 e.FindHow), V.v (.int .i64 e.Last), .lst (some 1) (dPieces e.Ring.Pieces), .lst (some 2) (dLines e.Undo.Lines), V.v (.int .i64 e.Nav), .lst (some 3) (ints e.Own.Text), V.v (.int .i64 e.Own.At), .lst (some 4) (ints e.Query), V.v (.int .i64 e.Hit), .lst (some 5) (ints e.Back.Text), V.v (.int .i64 e.Back.At)], .agg [V.v (.int .i64 f), .lst (some 6) (strs l)], .agg [V.v (.int .i64 8), V.v (.int .i64 0)]] [] [] = some ⟨.tup [.agg [V.v (.bool e'.Vi), V.v (.int .i64 e'.Mode), .own 0, V.v (.int .i64 e'.Line.At), V.v (.int .i64 e'.Count), V.v (.int .i64 e'.Op), V.v (.int .i64 e'.OpCount), V.v (.int .i64 e'.Wait), V.v (.int .i64 e'.FindR), V.v (.int .i64 e'.FindHow), V.v (.int .i64 e'.Last), .own 1, .own 2, V.v (.int .i64 e'.Nav), .own 3, V.v (.int .i64 e'.Own.At), .own 4, V.v (.int .i64 e'.Hit), .own 5, V.v (.int .i64 e'.Back.At)], V.v (.int .i64 act), V.v (.bool true)], [], [(0, ints e'.Line.Text), (1, dPieces e'.Ring.Pieces), (2, dLines e'.Undo.Lines), (3, ints e'.Own.Text), (4, ints e'.Query), (5, ints e'.Back.Text)]⟩ := by
  unfold M_iplain
  simp [Tryz.func80, Tryz.f80, h]
theorem E_iplain_down (e e' : TEd) (f act : Int) (l : List ByteArray) (h : M_istep [.agg [V.v (.bool e.Vi), V.v (.int .i64 e.Mode), .lst (some 0) (ints e.Line.Text), V.v (.int .i64 e.Line.At), V.v (.int .i64 e.Count), V.v (.int .i64 e.Op), V.v (.int .i64 e.OpCount), V.v (.int .i64 e.Wait), V.v (.int .i64 e.FindR), V.v (.int .i64 e.FindHow), V.v (.int .i64 e.Last), .lst (some 1) (dPieces e.Ring.Pieces), .lst (some 2) (dLines e.Undo.Lines), V.v (.int .i64 e.Nav), .lst (some 3) (ints e.Own.Text), V.v (.int .i64 e.Own.At), .lst (some 4) (ints e.Query), V.v (.int .i64 e.Hit), .lst (some 5) (ints e.Back.Text), V.v (.int .i64 e.Back.At)], .agg [V.v (.int .i64 f), .lst (some 6) (strs l)], V.v (.int .i64 1)] [] [] = some ⟨.tup [.agg [V.v (.bool e'.Vi), V.v (.int .i64 e'.Mode), .own 0, V.v (.int .i64 e'.Line.At), V.v (.int .i64 e'.Count), V.v (.int .i64 e'.Op), V.v (.int .i64 e'.OpCount), V.v (.int .i64 e'.Wait), V.v (.int .i64 e'.FindR), V.v (.int .i64 e'.FindHow), V.v (.int .i64 e'.Last), .own 1, .own 2, V.v (.int .i64 e'.Nav), .own 3, V.v (.int .i64 e'.Own.At), .own 4, V.v (.int .i64 e'.Hit), .own 5, V.v (.int .i64 e'.Back.At)], V.v (.int .i64 act)], [], [(0, ints e'.Line.Text), (1, dPieces e'.Ring.Pieces), (2, dLines e'.Undo.Lines), (3, ints e'.Own.Text), (4, ints e'.Query), (5, ints e'.Back.Text)]⟩) :
    M_iplain [.agg [V.v (.bool e.Vi), V.v (.int .i64 e.Mode), .lst (some 0) (ints e.Line.Text), V.v (.int .i64 e.Line.At), V.v (.int .i64 e.Count), V.v (.int .i64 e.Op), V.v (.int .i64 e.OpCount), V.v (.int .i64 e.Wait), V.v (.int .i64 e.FindR), V.v (.int .i64 e.FindHow), V.v (.int .i64 e.Last), .lst (some 1) (dPieces e.Ring.Pieces), .lst (some 2) (dLines e.Undo.Lines), V.v (.int .i64 e.Nav), .lst (some 3) (ints e.Own.Text), V.v (.int .i64 e.Own.At), .lst (some 4) (ints e.Query), V.v (.int .i64 e.Hit), .lst (some 5) (ints e.Back.Text), V.v (.int .i64 e.Back.At)], .agg [V.v (.int .i64 f), .lst (some 6) (strs l)], .agg [V.v (.int .i64 9), V.v (.int .i64 0)]] [] [] = some ⟨.tup [.agg [V.v (.bool e'.Vi), V.v (.int .i64 e'.Mode), .own 0, V.v (.int .i64 e'.Line.At), V.v (.int .i64 e'.Count), V.v (.int .i64 e'.Op), V.v (.int .i64 e'.OpCount), V.v (.int .i64 e'.Wait), V.v (.int .i64 e'.FindR), V.v (.int .i64 e'.FindHow), V.v (.int .i64 e'.Last), .own 1, .own 2, V.v (.int .i64 e'.Nav), .own 3, V.v (.int .i64 e'.Own.At), .own 4, V.v (.int .i64 e'.Hit), .own 5, V.v (.int .i64 e'.Back.At)], V.v (.int .i64 act), V.v (.bool true)], [], [(0, ints e'.Line.Text), (1, dPieces e'.Ring.Pieces), (2, dLines e'.Undo.Lines), (3, ints e'.Own.Text), (4, ints e'.Query), (5, ints e'.Back.Text)]⟩ := by
  unfold M_iplain
  simp [Tryz.func80, Tryz.f80, h]
theorem E_iEdKey_plain (e e' : TEd) (ok : e.ok = true) (hm : e.Mode = 0) (f act : Int) (l : List ByteArray) (hh : HistI f l) (k : Int) (hk : 4 ≤ k ∧ k ≤ 16) (h : M_iplain [.agg [V.v (.bool e.Vi), V.v (.int .i64 e.Mode), .lst (some 0) (ints e.Line.Text), V.v (.int .i64 e.Line.At), V.v (.int .i64 e.Count), V.v (.int .i64 e.Op), V.v (.int .i64 e.OpCount), V.v (.int .i64 e.Wait), V.v (.int .i64 e.FindR), V.v (.int .i64 e.FindHow), V.v (.int .i64 e.Last), .lst (some 1) (dPieces e.Ring.Pieces), .lst (some 2) (dLines e.Undo.Lines), V.v (.int .i64 e.Nav), .lst (some 3) (ints e.Own.Text), V.v (.int .i64 e.Own.At), .lst (some 4) (ints e.Query), V.v (.int .i64 e.Hit), .lst (some 5) (ints e.Back.Text), V.v (.int .i64 e.Back.At)], .agg [V.v (.int .i64 f), .lst (some 6) (strs l)], .agg [V.v (.int .i64 k), V.v (.int .i64 0)]] [] [] = some ⟨.tup [.agg [V.v (.bool e'.Vi), V.v (.int .i64 e'.Mode), .own 0, V.v (.int .i64 e'.Line.At), V.v (.int .i64 e'.Count), V.v (.int .i64 e'.Op), V.v (.int .i64 e'.OpCount), V.v (.int .i64 e'.Wait), V.v (.int .i64 e'.FindR), V.v (.int .i64 e'.FindHow), V.v (.int .i64 e'.Last), .own 1, .own 2, V.v (.int .i64 e'.Nav), .own 3, V.v (.int .i64 e'.Own.At), .own 4, V.v (.int .i64 e'.Hit), .own 5, V.v (.int .i64 e'.Back.At)], V.v (.int .i64 act), V.v (.bool true)], [], [(0, ints e'.Line.Text), (1, dPieces e'.Ring.Pieces), (2, dLines e'.Undo.Lines), (3, ints e'.Own.Text), (4, ints e'.Query), (5, ints e'.Back.Text)]⟩) :
    M_iEdKey [.agg [V.v (.bool e.Vi), V.v (.int .i64 e.Mode), .lst (some 0) (ints e.Line.Text), V.v (.int .i64 e.Line.At), V.v (.int .i64 e.Count), V.v (.int .i64 e.Op), V.v (.int .i64 e.OpCount), V.v (.int .i64 e.Wait), V.v (.int .i64 e.FindR), V.v (.int .i64 e.FindHow), V.v (.int .i64 e.Last), .lst (some 1) (dPieces e.Ring.Pieces), .lst (some 2) (dLines e.Undo.Lines), V.v (.int .i64 e.Nav), .lst (some 3) (ints e.Own.Text), V.v (.int .i64 e.Own.At), .lst (some 4) (ints e.Query), V.v (.int .i64 e.Hit), .lst (some 5) (ints e.Back.Text), V.v (.int .i64 e.Back.At)], .agg [V.v (.int .i64 f), .lst (some 6) (strs l)], .agg [V.v (.int .i64 k), V.v (.int .i64 0)]] [] [] = some ⟨.tup [.agg [V.v (.bool e'.Vi), V.v (.int .i64 e'.Mode), .own 0, V.v (.int .i64 e'.Line.At), V.v (.int .i64 e'.Count), V.v (.int .i64 e'.Op), V.v (.int .i64 e'.OpCount), V.v (.int .i64 e'.Wait), V.v (.int .i64 e'.FindR), V.v (.int .i64 e'.FindHow), V.v (.int .i64 e'.Last), .own 1, .own 2, V.v (.int .i64 e'.Nav), .own 3, V.v (.int .i64 e'.Own.At), .own 4, V.v (.int .i64 e'.Hit), .own 5, V.v (.int .i64 e'.Back.At)], V.v (.int .i64 act)], [], [(0, ints e'.Line.Text), (1, dPieces e'.Ring.Pieces), (2, dLines e'.Undo.Lines), (3, ints e'.Own.Text), (4, ints e'.Query), (5, ints e'.Back.Text)]⟩ := by
  have e1 := E_icanKey e ok f l hh k hk
  have e2 : M_iEmacsKey [.agg [V.v (.bool e.Vi), V.v (.int .i64 e.Mode), .lst (some 0) (ints e.Line.Text), V.v (.int .i64 e.Line.At), V.v (.int .i64 e.Count), V.v (.int .i64 e.Op), V.v (.int .i64 e.OpCount), V.v (.int .i64 e.Wait), V.v (.int .i64 e.FindR), V.v (.int .i64 e.FindHow), V.v (.int .i64 e.Last), .lst (some 1) (dPieces e.Ring.Pieces), .lst (some 2) (dLines e.Undo.Lines), V.v (.int .i64 e.Nav), .lst (some 3) (ints e.Own.Text), V.v (.int .i64 e.Own.At), .lst (some 4) (ints e.Query), V.v (.int .i64 e.Hit), .lst (some 5) (ints e.Back.Text), V.v (.int .i64 e.Back.At)], .agg [V.v (.int .i64 f), .lst (some 6) (strs l)], .agg [V.v (.int .i64 k), V.v (.int .i64 0)]] [] [] = some ⟨.tup [.agg [V.v (.bool e'.Vi), V.v (.int .i64 e'.Mode), .own 0, V.v (.int .i64 e'.Line.At), V.v (.int .i64 e'.Count), V.v (.int .i64 e'.Op), V.v (.int .i64 e'.OpCount), V.v (.int .i64 e'.Wait), V.v (.int .i64 e'.FindR), V.v (.int .i64 e'.FindHow), V.v (.int .i64 e'.Last), .own 1, .own 2, V.v (.int .i64 e'.Nav), .own 3, V.v (.int .i64 e'.Own.At), .own 4, V.v (.int .i64 e'.Hit), .own 5, V.v (.int .i64 e'.Back.At)], V.v (.int .i64 act)], [], [(0, ints e'.Line.Text), (1, dPieces e'.Ring.Pieces), (2, dLines e'.Undo.Lines), (3, ints e'.Own.Text), (4, ints e'.Query), (5, ints e'.Back.Text)]⟩ := by
    unfold M_iEmacsKey
    simp only [hm] at e1 h ⊢
    simp [Tryz.func70, Tryz.f70, e1, h]
  unfold M_iEdKey
  simp only [hm] at e2 ⊢
  simp [Tryz.func49, Tryz.f49, e2]
end Go.Proofs.YtnmneoekpikpkaaGreatDoor
namespace Go.Proofs.YtnmneoekpikpkaaGreatDoor
open Go.RowKit
set_option linter.unusedSimpArgs false
set_option linter.unusedVariables false
set_option maxHeartbeats 8000000
set_option maxRecDepth 10000
theorem rowsS_strs (l : List ByteArray) : rowsS l = strs l := rfl
theorem E_split (s sep : ByteArray) (L : List ByteArray) (h1 : 1 ≤ sep.size) (h2 : s.size < 4294967281) (h : splitOf s sep = L) : M_strings_Split [V.v (.string s), V.v (.string sep)] [] [] = some ⟨.own 0, [], [(0, strs L)]⟩ := by
  show (if 1 ≤ sep.size ∧ s.size < 4294967281 then some (⟨.own 0, [], [(0, rowsS (splitOf s sep))]⟩ : Res) else none) = _
  rw [if_pos ⟨h1, h2⟩, h, rowsS_strs]
theorem toList_ne {a b : ByteArray} (h : ¬ a = b) : ¬ a.toList = b.toList := fun e => h (by
  rw [ByteArray.toList_eq, ByteArray.toList_eq] at e
  cases a; cases b
  simp only at e
  rw [ByteArray.mk.injEq]
  exact Array.toList_inj.1 e)
def keyNames : List ByteArray := [⟨#[69, 78, 84, 69, 82]⟩, ⟨#[66, 65, 67, 75]⟩, ⟨#[84, 65, 66]⟩, ⟨#[69, 83, 67]⟩, ⟨#[85, 80]⟩, ⟨#[68, 79, 87, 78]⟩, ⟨#[82, 73, 71, 72, 84]⟩, ⟨#[76, 69, 70, 84]⟩, ⟨#[72, 79, 77, 69]⟩, ⟨#[69, 78, 68]⟩, ⟨#[68, 69, 76, 69, 84, 69]⟩, ⟨#[77, 66, 65, 67, 75]⟩, ⟨#[66, 65, 68]⟩]
theorem split_names : splitOf ⟨List.toArray (69 :: 78 :: 84 :: 69 :: 82 :: 32 :: 66 :: 65 :: 67 :: 75 :: 32 :: 84 :: 65 :: 66 :: 32 :: 69 :: 83 :: 67 :: 32 :: 85 :: 80 :: 32 :: 68 :: 79 :: 87 :: 78 :: 32 :: 82 :: 73 :: 71 :: 72 :: 84 :: 32 :: 76 :: 69 :: 70 :: 84 :: 32 :: 72 :: 79 :: 77 :: 69 :: 32 :: 69 :: 78 :: 68 :: 32 :: 68 :: 69 :: 76 :: 69 :: 84 :: 69 :: 32 :: 77 :: 66 :: 65 :: 67 :: 75 :: 32 :: 66 :: 65 :: 68 :: [])⟩ ⟨#[32]⟩ = keyNames := by decide +kernel
theorem E_names : M_strings_Split [V.v (.string (⟨List.toArray (69 :: 78 :: 84 :: 69 :: 82 :: 32 :: 66 :: 65 :: 67 :: 75 :: 32 :: 84 :: 65 :: 66 :: 32 :: 69 :: 83 :: 67 :: 32 :: 85 :: 80 :: 32 :: 68 :: 79 :: 87 :: 78 :: 32 :: 82 :: 73 :: 71 :: 72 :: 84 :: 32 :: 76 :: 69 :: 70 :: 84 :: 32 :: 72 :: 79 :: 77 :: 69 :: 32 :: 69 :: 78 :: 68 :: 32 :: 68 :: 69 :: 76 :: 69 :: 84 :: 69 :: 32 :: 77 :: 66 :: 65 :: 67 :: 75 :: 32 :: 66 :: 65 :: 68 :: [])⟩)), V.v (.string (⟨#[32]⟩))] [] [] = some ⟨.own 0, [], [(0, strs keyNames)]⟩ := E_split _ _ _ (by decide) (by decide) split_names
theorem E_iParts (s : ByteArray) (L : List ByteArray) (h2 : s.size < 4294967281) (h : splitOf s ⟨#[32]⟩ = L) : M_iParts [V.v (.string s)] [] [] = some ⟨.own 0, [], [(0, strs L)]⟩ := by
  have e := E_split s ⟨#[32]⟩ L (by decide) h2 h
  unfold M_iParts
  simp [Tryz.func24, Tryz.f24, e]
theorem keyNames_len : keyNames.length = 13 := rfl
theorem E_iTextKey_name (s : ByteArray) (k : Nat) (hk : k < 13) (h1 : keyNames[k]? = some s) (h2 : ∀ j, j < k → ¬ keyNames[j]? = some s) :
    M_iTextKey [V.v (.string s)] [] [] = some ⟨.tup [.agg [V.v (.int .i64 (4 + (k : Int))), V.v (.int .i64 0)], V.v (.bool true)], [], []⟩ := by
  have e := E_names
  have hl := keyNames_len
  have w := w64 (4 + (k : Int)) (by omega)
  have hkl : k < keyNames.length := by omega
  generalize keyNames = L at *
  rw [List.getElem?_eq_getElem hkl] at h1
  injection h1 with h1
  unfold M_iTextKey
  simp [Tryz.func25, Tryz.f25, e, hl]
  rw [loopV_go (fun j => .on ⟨[(11, V.v (.int .i64 ((j : Int)))), (10, V.v (.int .i64 13)), (9, .own 2000000000), (2, .ref 2 0), (0, V.v (.string s))], [(2, [V.v (.int .i64 0), V.v (.int .i64 0)])], [(2000000000, strs L)], []⟩) k ?_ ?_]
  · have g : (k : Int) < 13 := by omega
    simp [hkl, hl, h1, w, g, strs_get hkl]
  · simp
  · intro j hj
    have hjl : j < L.length := by omega
    have hw := w64 ((j : Int) + 1) (by omega)
    have g : (j : Int) < 13 := by omega
    have g2 : ¬ L[j] = s := fun e => h2 j hj (by rw [List.getElem?_eq_getElem hjl, e])
    simp [hjl, hw, hl, g, toList_ne g2, strs_get hjl]
theorem E_UP : M_iTextKey [V.v (.string (⟨#[85, 80]⟩))] [] [] = some ⟨.tup [.agg [V.v (.int .i64 8), V.v (.int .i64 0)], V.v (.bool true)], [], []⟩ :=
  E_iTextKey_name ⟨#[85, 80]⟩ 4 (by omega) (by decide) (by decide)
theorem E_DOWN : M_iTextKey [V.v (.string (⟨#[68, 79, 87, 78]⟩))] [] [] = some ⟨.tup [.agg [V.v (.int .i64 9), V.v (.int .i64 0)], V.v (.bool true)], [], []⟩ :=
  E_iTextKey_name ⟨#[68, 79, 87, 78]⟩ 5 (by omega) (by decide) (by decide)
theorem E_iEdKeys_one (e e' : TEd) (ok : e.ok = true) (f act : Int) (l : List ByteArray) (hh : HistI f l) (k : Int) (hk : 4 ≤ k ∧ k ≤ 16) (h : M_iEdKey [.agg [V.v (.bool e.Vi), V.v (.int .i64 e.Mode), .lst (some 0) (ints e.Line.Text), V.v (.int .i64 e.Line.At), V.v (.int .i64 e.Count), V.v (.int .i64 e.Op), V.v (.int .i64 e.OpCount), V.v (.int .i64 e.Wait), V.v (.int .i64 e.FindR), V.v (.int .i64 e.FindHow), V.v (.int .i64 e.Last), .lst (some 1) (dPieces e.Ring.Pieces), .lst (some 2) (dLines e.Undo.Lines), V.v (.int .i64 e.Nav), .lst (some 3) (ints e.Own.Text), V.v (.int .i64 e.Own.At), .lst (some 4) (ints e.Query), V.v (.int .i64 e.Hit), .lst (some 5) (ints e.Back.Text), V.v (.int .i64 e.Back.At)], .agg [V.v (.int .i64 f), .lst (some 6) (strs l)], .agg [V.v (.int .i64 k), V.v (.int .i64 0)]] [] [] = some ⟨.tup [.agg [V.v (.bool e'.Vi), V.v (.int .i64 e'.Mode), .own 0, V.v (.int .i64 e'.Line.At), V.v (.int .i64 e'.Count), V.v (.int .i64 e'.Op), V.v (.int .i64 e'.OpCount), V.v (.int .i64 e'.Wait), V.v (.int .i64 e'.FindR), V.v (.int .i64 e'.FindHow), V.v (.int .i64 e'.Last), .own 1, .own 2, V.v (.int .i64 e'.Nav), .own 3, V.v (.int .i64 e'.Own.At), .own 4, V.v (.int .i64 e'.Hit), .own 5, V.v (.int .i64 e'.Back.At)], V.v (.int .i64 act)], [], [(0, ints e'.Line.Text), (1, dPieces e'.Ring.Pieces), (2, dLines e'.Undo.Lines), (3, ints e'.Own.Text), (4, ints e'.Query), (5, ints e'.Back.Text)]⟩) :
    M_iEdKeys [.agg [V.v (.bool e.Vi), V.v (.int .i64 e.Mode), .lst (some 0) (ints e.Line.Text), V.v (.int .i64 e.Line.At), V.v (.int .i64 e.Count), V.v (.int .i64 e.Op), V.v (.int .i64 e.OpCount), V.v (.int .i64 e.Wait), V.v (.int .i64 e.FindR), V.v (.int .i64 e.FindHow), V.v (.int .i64 e.Last), .lst (some 1) (dPieces e.Ring.Pieces), .lst (some 2) (dLines e.Undo.Lines), V.v (.int .i64 e.Nav), .lst (some 3) (ints e.Own.Text), V.v (.int .i64 e.Own.At), .lst (some 4) (ints e.Query), V.v (.int .i64 e.Hit), .lst (some 5) (ints e.Back.Text), V.v (.int .i64 e.Back.At)], .agg [V.v (.int .i64 f), .lst (some 6) (strs l)], .lst (some 7) [[D.a (.int .i64 k), D.a (.int .i64 0)]]] [] [] = some ⟨.tup [.agg [V.v (.bool e'.Vi), V.v (.int .i64 e'.Mode), .own 0, V.v (.int .i64 e'.Line.At), V.v (.int .i64 e'.Count), V.v (.int .i64 e'.Op), V.v (.int .i64 e'.OpCount), V.v (.int .i64 e'.Wait), V.v (.int .i64 e'.FindR), V.v (.int .i64 e'.FindHow), V.v (.int .i64 e'.Last), .own 1, .own 2, V.v (.int .i64 e'.Nav), .own 3, V.v (.int .i64 e'.Own.At), .own 4, V.v (.int .i64 e'.Hit), .own 5, V.v (.int .i64 e'.Back.At)], .own 6], [], [(0, ints e'.Line.Text), (1, dPieces e'.Ring.Pieces), (2, dLines e'.Undo.Lines), (3, ints e'.Own.Text), (4, ints e'.Query), (5, ints e'.Back.Text), (6, [[D.a (.int .i64 act)]])]⟩ := by
  have e1 := E_iEdOk' e ok
  have e2 := E_iHistOk f l hh
  have e3 := E_iKeyOk_name k hk
  have e4 := E_icopyEd e (EdB.of ok)
  generalize hE : M_iEdKeys _ _ _ = R
  unfold M_iEdKeys at hE
  simp [Tryz.func26, Tryz.f26, e1, e2] at hE
  rw [loopV_unf] at hE
  simp [e3] at hE
  rw [loopV_unf] at hE
  simp [e4] at hE
  rw [loopV_unf] at hE
  simp [h] at hE
  rw [loopV_unf] at hE
  simp at hE
  exact hE.symm
end Go.Proofs.YtnmneoekpikpkaaGreatDoor
namespace Go.Proofs.YtnmneoekpikpkaaGreatDoor
noncomputable def M_lFnNav : Mean := evFun Tryz.prog [(8, false, M_sMakeEmacs), (10, false, M_iEdTyped), (11, false, M_iEdOk), (12, false, M_lsameInts), (14, false, M_iHistLast), (13, false, M_iHistGet), (15, false, M_iLineText)] ⟨[], [], [(9, [], []), (11, [], [])], []⟩ 4
theorem S_lFnNav : Sound Tryz.prog 4 M_lFnNav := sound _ (cons_sound S_sMakeEmacs (cons_sound S_iEdTyped (cons_sound S_iEdOk (cons_sound S_lsameInts (cons_sound S_iHistLast (cons_sound S_iHistGet (cons_sound S_iLineText none_sound))))))) hmix Tryz.func4 (eqOf (by kernel_rfl))
noncomputable def M_lFnViLine : Mean := evFun Tryz.prog [(17, false, M_sMakeVi), (10, false, M_iEdTyped), (11, false, M_iEdOk), (12, false, M_lsameInts)] ⟨[], [], [], []⟩ 7
theorem S_lFnViLine : Sound Tryz.prog 7 M_lFnViLine := sound _ (cons_sound S_sMakeVi (cons_sound S_iEdTyped (cons_sound S_iEdOk (cons_sound S_lsameInts none_sound)))) hmix Tryz.func7 (eqOf (by kernel_rfl))
end Go.Proofs.YtnmneoekpikpkaaGreatDoor
namespace Go.Proofs.YtnmneoekpikpkaaGreatDoor
open Go.ChangeShapes Go.WideShapes Go.ChangeAt Go.RowKit Go.Deep
theorem ownKnob_none : ownKnob Tryz.prog.godebug = none := by kernel_rfl
theorem laidOut_prog : laidOutB Tryz.prog = true := by kernel_rfl
theorem int_range {x : Int} (w : (Lit.int .i64 x).wf = true) : -9223372036854775808 ≤ x ∧ x ≤ 9223372036854775807 := by
  simpa [Lit.wf, IntKind.min, IntKind.max, IntKind.signed, IntKind.bits] using w
end Go.Proofs.YtnmneoekpikpkaaGreatDoor
namespace Go.Proofs.YtnmneoekpikpkaaGreatDoor
open Go.ChangeShapes Go.WideShapes Go.ChangeAt Go.RowKit Go.Deep
set_option linter.unusedSimpArgs false
set_option linter.unusedVariables false
def wfV : Value → Bool
  | .int k n => (Lit.int k n).wf
  | .string s => decide (s.size ≤ 9223372036854775807)
  | _ => true
mutual
def okD : D → Bool
  | .a v => wfV v
  | .l rows => decide (rows.length ≤ 9223372036854775807) && okT rows
  | .gone => false
def okR : List D → Bool
  | [] => true
  | d :: r => okD d && okR r
def okT : List (List D) → Bool
  | [] => true
  | r :: rows => okR r && okT rows
end
mutual
theorem okD_bn : ∀ (d : D), okD d = true → bnD 9223372036854775807 d = true
  | .a _, _ => rfl
  | .l rows, h => by
    have h : (decide (rows.length ≤ 9223372036854775807) && okT rows) = true := h
    rw [Bool.and_eq_true] at h
    show (decide (rows.length ≤ 9223372036854775807) && bnT 9223372036854775807 rows) = true
    rw [h.1, okT_bn rows h.2]; rfl
  | .gone, h => by cases h
theorem okR_bn : ∀ (r : List D), okR r = true → bnR 9223372036854775807 r = true
  | [], _ => rfl
  | d :: r, h => by
    have h : (okD d && okR r) = true := h
    rw [Bool.and_eq_true] at h
    show (bnD _ d && bnR _ r) = true
    rw [okD_bn d h.1, okR_bn r h.2]; rfl
theorem okT_bn : ∀ (rows : List (List D)), okT rows = true → bnT 9223372036854775807 rows = true
  | [], _ => rfl
  | r :: rows, h => by
    have h : (okR r && okT rows) = true := h
    rw [Bool.and_eq_true] at h
    show (bnR _ r && bnT _ rows) = true
    rw [okR_bn r h.1, okT_bn rows h.2]; rfl
end
theorem okR_app : ∀ {r q : List D}, okR r = true → okR q = true → okR (r ++ q) = true
  | [], q, _, k => k
  | d :: r, q, h, k => by
    have h : (okD d && okR r) = true := h
    rw [Bool.and_eq_true] at h
    show (okD d && okR (r ++ q)) = true
    rw [h.1, okR_app h.2 k]; rfl
theorem okR_cons {d : D} {r : List D} (h : okR (d :: r) = true) : okD d = true ∧ okR r = true := by
  have h : (okD d && okR r) = true := h
  rwa [Bool.and_eq_true] at h
theorem okD_lg {rows : List (List D)} (h : okD (.l rows) = true) : lgL rows = true := okD_bn _ h
theorem okD_int {n : Int} (h : okD (.a (.int .i64 n)) = true) : R64 n := int_range h
theorem okD_str {s : ByteArray} (h : okD (.a (.string s)) = true) : s.size ≤ 9223372036854775807 := of_decide_eq_true h
theorem okT_of : ∀ {rows : List (List D)}, (∀ r ∈ rows, okR r = true) → okT rows = true
  | [], _ => rfl
  | r :: rows, h => by
    show (okR r && okT rows) = true
    rw [h r (by simp), okT_of fun q hq => h q (by simp [hq])]; rfl
inductive RdR (G : Nat → Obj → Prop) : List Value → List D → Prop
  | nil : RdR G [] []
  | cons {v : Value} {d : D} {vs : List Value} {ds : List D} : RdD G d v → RdR G vs ds → RdR G (v :: vs) (d :: ds)
theorem RdR.app {G : Nat → Obj → Prop} : ∀ {us vs : List Value} {ds es : List D}, RdR G us ds → RdR G vs es → RdR G (us ++ vs) (ds ++ es)
  | _, _, _, _, .nil, h => h
  | _, _, _, _, .cons a b, h => .cons a (b.app h)
theorem RdR.part {G : Nat → Obj → Prop} {cs : List Value} (o c : Nat) {ds es : List D} (h : RdR G ((cs.drop o).take c) ds) (k : RdR G (cs.drop (o + c)) es) : RdR G (cs.drop o) (ds ++ es) := by
  have := h.app k
  rwa [← List.drop_drop, List.take_append_drop] at this
theorem RdR.one {G : Nat → Obj → Prop} {v : Value} {d : D} (h : RdR G [v] [d]) : RdD G d v := by cases h; assumption
theorem RdR.uncons {G : Nat → Obj → Prop} {cs : List Value} {d : D} {ds : List D} (h : RdR G cs (d :: ds)) : ∃ v vs, cs = v :: vs ∧ RdD G d v ∧ RdR G vs ds := by cases h with | cons a b => exact ⟨_, _, rfl, a, b⟩
theorem RdR.unnil {G : Nat → Obj → Prop} {cs : List Value} (h : RdR G cs []) : cs = [] := by cases h; rfl
theorem RdR.get {G : Nat → Obj → Prop} : ∀ {vs : List Value} {ds : List D} {i : Nat} {d : D}, RdR G vs ds → ds[i]? = some d → ∃ u, vs[i]? = some u ∧ RdD G d u
  | _, _, i, d, .nil, e => by simp at e
  | _, _, 0, d, .cons a _, e => by simp at e; subst e; exact ⟨_, rfl, a⟩
  | _, _, i + 1, d, .cons _ b, e => by simpa using b.get (i := i) (by simpa using e)
theorem cell_heap {W : World} {b o : Nat} {u : Value} (h : W.cell? ⟨b, o, none⟩ = some u) : ∃ cs T fr, W.heap[b]? = some (.cells cs T fr) ∧ cs[o]? = some u := by
  unfold World.cell? at h
  split at h
  · rename_i cs T fr e
    exact ⟨cs, T, fr, e, by simpa using h⟩
  · cases h
theorem rows_len_flat {α : Type} (C : Codec α) (l : List α) : (C.rows l).flatten.length = l.length * C.k := by
  have := flat_len (k := C.k) (C.rows l) (fun r hr => by obtain ⟨x, _, rfl⟩ := List.mem_map.1 hr; exact C.len x)
  rw [this, C.rows_len]
section
variable {H : Type} {enc : TypeId × Value → H} {W : World} {fuel : Nat} {cs : List Value} {x : DataW H × List MemPlace}
set_option maxRecDepth 100000 in
theorem opn_slice {t e : TypeId} {α : Type} [Inhabited α] (C : Codec α) (h0 : 0 < C.k) (ht : Tryz.prog.underlying t = some (.slice e)) (hc : Tryz.prog.cellsOf e = C.k)
    (he : ∀ {fuel cs x}, DataW.trod enc Tryz.prog W 0 (fun _ => true) true fuel e cs = some x → ∃ a : α, okR (C.enc a) = true ∧ RdR (heapOf W) cs (C.enc a))
    (h : DataW.trod enc Tryz.prog W 0 (fun _ => true) true fuel t cs = some x) : ∃ l : List α, okD (.l (C.rows l)) = true ∧ RdR (heapOf W) cs [.l (C.rows l)] := by
  rcases open_slice ht h with ⟨rfl, _⟩ | ⟨a, len, cap, m, n, D', Pl, rfl, hb, hl, hm, hmm, rfl, hx⟩
  · exact ⟨[], rfl, .cons (.nil none 0 (by omega) (fun _ => rfl)) .nil⟩
  have hlm : len ≤ m := by rw [hmm]; split <;> omega
  rw [hc] at hx
  obtain ⟨g, hg⟩ := choose_lt (α := α) (p := fun i y => okR (C.enc y) = true ∧ ∀ j d, (C.enc y)[j]? = some d → ∃ u, W.cell? (a.add (i * C.k + j)) = some u ∧ RdD (heapOf W) d u) (n := m) (fun i hi => by
    obtain ⟨cs', h1, h2⟩ := hx i hi
    obtain ⟨_, hlen, hcell⟩ := World.cells?_some h1
    obtain ⟨y, hp, hy⟩ := he h2
    refine ⟨y, hp, fun j d e => ?_⟩
    obtain ⟨u, e1, e2⟩ := hy.get e
    have hj : j < C.k := by rw [← C.len y]; exact (List.getElem?_eq_some_iff.1 e).1
    refine ⟨u, ?_, e2⟩
    rw [← e1, ← hcell j hj, add_add])
  have hlen : (C.rows ((List.range len).map g)).length = len := by rw [C.rows_len]; simp
  unfold maxLen at hm
  refine ⟨(List.range len).map g, ?_, .cons ?_ .nil⟩
  · show (decide _ && okT _) = true
    rw [hlen, decide_eq_true (by omega), Bool.true_and]
    refine okT_of fun r hr => ?_
    obtain ⟨z, hz, rfl⟩ := List.mem_map.1 hr
    obtain ⟨i, hi, rfl⟩ := List.mem_map.1 hz
    exact (hg i (by have := List.mem_range.1 hi; omega)).1
  have hu : ∀ r ∈ C.rows ((List.range len).map g), r.length = C.k := fun r hr => by obtain ⟨z, _, rfl⟩ := List.mem_map.1 hr; exact C.len z
  have key : ∀ i d, (C.rows ((List.range len).map g)).flatten[i]? = some d → ∃ u, W.cell? (a.add i) = some u ∧ RdD (heapOf W) d u := by
    intro i d e
    have hi : i < len * C.k := by
      have := (List.getElem?_eq_some_iff.1 e).1
      rw [rows_len_flat, List.length_map, List.length_range] at this; exact this
    have e1 : i / C.k * C.k + i % C.k = i := by rw [Nat.mul_comm]; exact Nat.div_add_mod i C.k
    have h1 : i / C.k < len := Nat.div_lt_of_lt_mul (by rw [Nat.mul_comm]; exact hi)
    have hlt : i % C.k < (C.enc (g (i / C.k))).length := by rw [C.len]; exact Nat.mod_lt _ h0
    have e2 := flat_get (k := C.k) (C.rows ((List.range len).map g)) (i / C.k) (i % C.k) (C.enc (g (i / C.k))) _ hu (by
      unfold Codec.rows
      rw [List.getElem?_map, List.getElem?_map, List.getElem?_range h1]; rfl) (List.getElem?_eq_getElem hlt)
    rw [e1, e] at e2
    obtain ⟨u, h2, h3⟩ := (hg (i / C.k) (by omega)).2 (i % C.k) d (by rw [List.getElem?_eq_getElem hlt]; exact e2.symm)
    rw [e1] at h2
    exact ⟨u, h2, h3⟩
  rcases Nat.eq_zero_or_pos len with h1 | h1
  · subst h1
    exact .nil _ _ (by omega) (fun h => nomatch h)
  have hpos : 0 < (C.rows ((List.range len).map g)).flatten.length := by rw [rows_len_flat, List.length_map, List.length_range]; exact Nat.mul_pos h1 h0
  obtain ⟨b, o, spot⟩ := a
  obtain ⟨u0, h2, -⟩ := key 0 _ (List.getElem?_eq_getElem hpos)
  have hs : spot = none := by simpa [Addr.add] using World.cell?_spot h2
  subst hs
  rw [Addr.add_lit] at h2
  obtain ⟨hcs, T, fr, hh, -⟩ := cell_heap h2
  refine .l _ len cap b o C.k T fr hcs (fun i => (W.cell? ⟨b, o + i, none⟩).getD undef) hlen h1 hl (by omega) h0 hu hh (fun i d e => ?_) (fun i d e => ?_)
  · obtain ⟨u, h3, -⟩ := key i d e
    rw [Addr.add_lit] at h3
    rw [h3]
    obtain ⟨cs2, T2, fr2, hh2, h4⟩ := cell_heap h3
    rw [hh] at hh2
    injection hh2 with hh2; injection hh2 with q1 q2 q3
    rw [q1]; exact h4
  · obtain ⟨u, h3, h4⟩ := key i d e
    rw [Addr.add_lit] at h3
    rw [h3]; exact h4
set_option maxRecDepth 100000 in
theorem opn_int (h : DataW.trod enc Tryz.prog W 0 (fun _ => true) true fuel 3 cs = some x) : ∃ a : Int, okR [.a (.int .i64 a)] = true ∧ RdR (heapOf W) cs [.a (.int .i64 a)] := by
  obtain ⟨n, rfl, _, wf⟩ := DataW.trod_int Tryz.underlying3 h
  exact ⟨n, by show (_ && true) = true; rw [Bool.and_true]; exact wf, .cons (.a _) .nil⟩
set_option maxRecDepth 100000 in
theorem opn_bool (h : DataW.trod enc Tryz.prog W 0 (fun _ => true) true fuel 4 cs = some x) : ∃ a : Bool, okR [.a (.bool a)] = true ∧ RdR (heapOf W) cs [.a (.bool a)] := by
  obtain ⟨n, rfl, _⟩ := DataW.trod_bool Tryz.underlying4 h
  exact ⟨n, rfl, .cons (.a _) .nil⟩
set_option maxRecDepth 100000 in
theorem opn_string (h : DataW.trod enc Tryz.prog W 0 (fun _ => true) true fuel 9 cs = some x) : ∃ a : ByteArray, okR [.a (.string a)] = true ∧ RdR (heapOf W) cs [.a (.string a)] := by
  obtain ⟨s, rfl, _, wf⟩ := DataW.trod_string Tryz.underlying9 h
  exact ⟨s, by show (decide _ && true) = true; rw [Bool.and_true]; unfold maxLen at wf; exact decide_eq_true (by omega), .cons (.a _) .nil⟩
theorem cop_int : Tryz.prog.cellsOf 3 = 1 := by kernel_rfl
theorem cop_bool : Tryz.prog.cellsOf 4 = 1 := by kernel_rfl
theorem cop_string : Tryz.prog.cellsOf 9 = 1 := by kernel_rfl
theorem cop_ints : Tryz.prog.cellsOf 23 = 1 := by kernel_rfl
theorem opn_ints (h : DataW.trod enc Tryz.prog W 0 (fun _ => true) true fuel 23 cs = some x) : ∃ l : List Int, okR [.l (ints l)] = true ∧ RdR (heapOf W) cs [.l (ints l)] := by
  obtain ⟨l, a, b⟩ := opn_slice c_ints (by decide) Tryz.underlying23 cop_int opn_int h
  exact ⟨l, by show (_ && true) = true; rw [Bool.and_true]; exact a, b⟩
set_option maxRecDepth 100000 in
theorem open_ints_top {base : Nat} {v : Value} {d : DataW H} {ps : List MemPlace} (hv : Value.okWide Tryz.prog W .any base 23 v) (h : DataW.Trod enc Tryz.prog W 0 (fun _ => true) true 23 v d ps) :
    ∃ l : List Int, okR [.l (ints l)] = true ∧ RdD (heapOf W) (.l (ints l)) v := by
  obtain ⟨a0, len, cap, rfl⟩ := okWide_slice Tryz.underlying23 hv
  obtain ⟨f, hf⟩ := h
  obtain ⟨l, g, r⟩ := opn_ints hf
  exact ⟨l, g, r.one⟩
theorem cop_u8 : Tryz.prog.cellsOf 5 = 1 := by kernel_rfl
theorem cop_bytes : Tryz.prog.cellsOf 22 = 1 := by kernel_rfl
theorem u8_rng {x : Int} (w : (Lit.int .u8 x).wf = true) : 0 ≤ x ∧ x ≤ 255 := by
  simpa [Lit.wf, IntKind.min, IntKind.max, IntKind.signed, IntKind.bits] using w
set_option maxRecDepth 100000 in
theorem opn_byte (h : DataW.trod enc Tryz.prog W 0 (fun _ => true) true fuel 5 cs = some x) : ∃ a : UInt8, okR (c_byts.enc a) = true ∧ RdR (heapOf W) cs (c_byts.enc a) := by
  obtain ⟨n, rfl, _, wf⟩ := DataW.trod_int Tryz.underlying5 h
  obtain ⟨h0, h1⟩ := u8_rng wf
  have e : c_byts.enc (UInt8.ofNat n.toNat) = [.a (.int .u8 n)] := by
    show [D.a (.int .u8 ((UInt8.ofNat n.toNat).toNat : Int))] = _
    congr 3; simp; omega
  refine ⟨UInt8.ofNat n.toNat, ?_, ?_⟩
  · rw [e]; show (_ && true) = true; rw [Bool.and_true]; exact wf
  · rw [e]; exact .cons (.a _) .nil
theorem opn_bytes (h : DataW.trod enc Tryz.prog W 0 (fun _ => true) true fuel 22 cs = some x) : ∃ l : List UInt8, okR [.l (byts l)] = true ∧ RdR (heapOf W) cs [.l (byts l)] := by
  obtain ⟨l, a, b⟩ := opn_slice c_byts (by decide) Tryz.underlying22 cop_u8 opn_byte h
  exact ⟨l, by show (_ && true) = true; rw [Bool.and_true]; exact a, b⟩
set_option maxRecDepth 100000 in
theorem open_bytes_top {base : Nat} {v : Value} {d : DataW H} {ps : List MemPlace} (hv : Value.okWide Tryz.prog W .any base 22 v) (h : DataW.Trod enc Tryz.prog W 0 (fun _ => true) true 22 v d ps) :
    ∃ l : List UInt8, okR [.l (byts l)] = true ∧ RdD (heapOf W) (.l (byts l)) v := by
  obtain ⟨a0, len, cap, rfl⟩ := okWide_slice Tryz.underlying22 hv
  obtain ⟨f, hf⟩ := h
  obtain ⟨l, g, r⟩ := opn_bytes hf
  exact ⟨l, g, r.one⟩
theorem cop_strs : Tryz.prog.cellsOf 34 = 1 := by kernel_rfl
theorem opn_strs (h : DataW.trod enc Tryz.prog W 0 (fun _ => true) true fuel 34 cs = some x) : ∃ l : List ByteArray, okR [.l (strs l)] = true ∧ RdR (heapOf W) cs [.l (strs l)] := by
  obtain ⟨l, a, b⟩ := opn_slice c_strs (by decide) Tryz.underlying34 cop_string opn_string h
  exact ⟨l, by show (_ && true) = true; rw [Bool.and_true]; exact a, b⟩
set_option maxRecDepth 100000 in
theorem open_strs_top {base : Nat} {v : Value} {d : DataW H} {ps : List MemPlace} (hv : Value.okWide Tryz.prog W .any base 34 v) (h : DataW.Trod enc Tryz.prog W 0 (fun _ => true) true 34 v d ps) :
    ∃ l : List ByteArray, okR [.l (strs l)] = true ∧ RdD (heapOf W) (.l (strs l)) v := by
  obtain ⟨a0, len, cap, rfl⟩ := okWide_slice Tryz.underlying34 hv
  obtain ⟨f, hf⟩ := h
  obtain ⟨l, g, r⟩ := opn_strs hf
  exact ⟨l, g, r.one⟩
end
end Go.Proofs.YtnmneoekpikpkaaGreatDoor
namespace Go.Proofs.YtnmneoekpikpkaaGreatDoor
open Go.ChangeShapes Go.WideShapes Go.ChangeAt Go.RowKit Go.Deep
set_option linter.unusedSimpArgs false
set_option linter.unusedVariables false
section
variable {H : Type} {enc : TypeId × Value → H} {W : World} {fuel : Nat} {cs : List Value} {x : DataW H × List MemPlace}
end
end Go.Proofs.YtnmneoekpikpkaaGreatDoor
namespace Go.Proofs.YtnmneoekpikpkaaGreatDoor
open Go.RowKit
set_option linter.unusedSimpArgs false
set_option linter.unusedVariables false
set_option maxHeartbeats 16000000
set_option maxRecDepth 100000
theorem E_iEdTyped_one (e e' : TEd) (f act k : Int) (l : List ByteArray) (s : ByteArray) (hs : s.size < 4294967281) (hp : splitOf s ⟨#[32]⟩ = [s]) (ht : M_iTextKey [V.v (.string s)] [] [] = some ⟨.tup [.agg [V.v (.int .i64 k), V.v (.int .i64 0)], V.v (.bool true)], [], []⟩)
    (h : M_iEdKeys [.agg [V.v (.bool e.Vi), V.v (.int .i64 e.Mode), .lst (some 0) (ints e.Line.Text), V.v (.int .i64 e.Line.At), V.v (.int .i64 e.Count), V.v (.int .i64 e.Op), V.v (.int .i64 e.OpCount), V.v (.int .i64 e.Wait), V.v (.int .i64 e.FindR), V.v (.int .i64 e.FindHow), V.v (.int .i64 e.Last), .lst (some 1) (dPieces e.Ring.Pieces), .lst (some 2) (dLines e.Undo.Lines), V.v (.int .i64 e.Nav), .lst (some 3) (ints e.Own.Text), V.v (.int .i64 e.Own.At), .lst (some 4) (ints e.Query), V.v (.int .i64 e.Hit), .lst (some 5) (ints e.Back.Text), V.v (.int .i64 e.Back.At)], .agg [V.v (.int .i64 f), .lst (some 6) (strs l)], .lst (some 7) [[D.a (.int .i64 k), D.a (.int .i64 0)]]] [] [] = some ⟨.tup [.agg [V.v (.bool e'.Vi), V.v (.int .i64 e'.Mode), .own 0, V.v (.int .i64 e'.Line.At), V.v (.int .i64 e'.Count), V.v (.int .i64 e'.Op), V.v (.int .i64 e'.OpCount), V.v (.int .i64 e'.Wait), V.v (.int .i64 e'.FindR), V.v (.int .i64 e'.FindHow), V.v (.int .i64 e'.Last), .own 1, .own 2, V.v (.int .i64 e'.Nav), .own 3, V.v (.int .i64 e'.Own.At), .own 4, V.v (.int .i64 e'.Hit), .own 5, V.v (.int .i64 e'.Back.At)], .own 6], [], [(0, ints e'.Line.Text), (1, dPieces e'.Ring.Pieces), (2, dLines e'.Undo.Lines), (3, ints e'.Own.Text), (4, ints e'.Query), (5, ints e'.Back.Text), (6, [[D.a (.int .i64 act)]])]⟩) :
    M_iEdTyped [.agg [V.v (.bool e.Vi), V.v (.int .i64 e.Mode), .lst (some 0) (ints e.Line.Text), V.v (.int .i64 e.Line.At), V.v (.int .i64 e.Count), V.v (.int .i64 e.Op), V.v (.int .i64 e.OpCount), V.v (.int .i64 e.Wait), V.v (.int .i64 e.FindR), V.v (.int .i64 e.FindHow), V.v (.int .i64 e.Last), .lst (some 1) (dPieces e.Ring.Pieces), .lst (some 2) (dLines e.Undo.Lines), V.v (.int .i64 e.Nav), .lst (some 3) (ints e.Own.Text), V.v (.int .i64 e.Own.At), .lst (some 4) (ints e.Query), V.v (.int .i64 e.Hit), .lst (some 5) (ints e.Back.Text), V.v (.int .i64 e.Back.At)], .agg [V.v (.int .i64 f), .lst (some 6) (strs l)], V.v (.string s)] [] [] = some ⟨.tup [.agg [V.v (.bool e'.Vi), V.v (.int .i64 e'.Mode), .own 0, V.v (.int .i64 e'.Line.At), V.v (.int .i64 e'.Count), V.v (.int .i64 e'.Op), V.v (.int .i64 e'.OpCount), V.v (.int .i64 e'.Wait), V.v (.int .i64 e'.FindR), V.v (.int .i64 e'.FindHow), V.v (.int .i64 e'.Last), .own 1, .own 2, V.v (.int .i64 e'.Nav), .own 3, V.v (.int .i64 e'.Own.At), .own 4, V.v (.int .i64 e'.Hit), .own 5, V.v (.int .i64 e'.Back.At)], .own 6], [], [(0, ints e'.Line.Text), (1, dPieces e'.Ring.Pieces), (2, dLines e'.Undo.Lines), (3, ints e'.Own.Text), (4, ints e'.Query), (5, ints e'.Back.Text), (6, [[D.a (.int .i64 act)]])]⟩ := by
  have e1 := E_iParts s [s] hs hp
  simp only [show strs [s] = [[.a (.string s)]] from rfl] at e1
  generalize hE : M_iEdTyped _ _ _ = R
  unfold M_iEdTyped at hE
  simp [Tryz.func10, Tryz.f10, e1] at hE
  rw [loopV_unf] at hE
  simp [ht] at hE
  rw [loopV_unf] at hE
  simp [h] at hE
  exact hE.symm
theorem E_iLineText (t : List Int) (a : Int) (h : lineOk t a = true) : M_iLineText [.agg [.lst (some 0) (ints t), V.v (.int .i64 a)]] [] [] = some ⟨V.v (.string (⟨(textOf t).toArray⟩)), [], []⟩ := by
  have hl : t.length ≤ 400 := by simp only [lineOk, textOk, Bool.and_eq_true, decide_eq_true_eq] at h; exact h.1.1
  have e1 := E_iLineOk t a (by omega)
  have e2 := E_iTextOf t (by omega)
  rw [h] at e1
  unfold M_iLineText
  simp [Tryz.func15, Tryz.f15, e1, e2]
theorem E_lsameInts (a : List Int) (h : a.length ≤ 1000000) : M_lsameInts [.lst (some 0) (ints a), .lst (some 1) (ints a)] [] [] = some ⟨V.v (.bool true), [], []⟩ := by
  unfold M_lsameInts
  simp [Tryz.func12, Tryz.f12]
  rw [loopV_go (fun j => .on ⟨[(13, V.v (.int .i64 ((j : Int)))), (12, V.v (.int .i64 ((a.length : Int)))), (1, .lst (some 1) (ints a)), (0, .lst (some 0) (ints a))], [], [], []⟩) a.length ?_ ?_]
  · simp
  · simp
  · intro j hj
    have hw := w64 ((j : Int) + 1) (by omega)
    simp [hj, hw, ints_get hj]
theorem reads_eq {s : ByteArray} {t : List Int} (h : Reads s.data.toList t []) : (⟨(textOf t).toArray⟩ : ByteArray) = s := by
  have := h.1
  rw [List.append_nil] at this
  cases s with | mk d =>
  simp only at this
  rw [← this]
def edN (t : List Int) (a : Nat) (r : List TPiece) (last : Int) : TEd := { zEd with Line := ⟨t, a⟩, Ring := ⟨r⟩, Last := last }
def edB (t : List Int) (a : Nat) (r : List TPiece) (u : List Int) (nav : Int) : TEd := { zEd with Line := ⟨u, u.length⟩, Ring := ⟨r⟩, Nav := nav, Own := ⟨t, a⟩ }
theorem edN_ok {t : List Int} {a : Nat} {r : List TPiece} {last : Int} (h1 : t.all typed = true) (h2 : t.length ≤ 16) (h3 : a ≤ t.length) (h4 : ringOk r = true) (h5 : 0 ≤ last ∧ last ≤ 3) : (edN t a r last).ok = true := by
  have q1 : lineOk t a = true := by
    simp only [lineOk, textOk, h1, Bool.and_true, Bool.and_eq_true, decide_eq_true_eq]
    exact ⟨by omega, inR_iff.2 (by omega)⟩
  have q2 : inR last 0 3 = true := inR_iff.2 h5
  have q5 : modeB false 0 t a 0 0 0 = true := by simp [modeB]
  simp only [TEd.ok, edOk, edN, zEd, q1, q2, h4, q5]
  rfl
theorem edB_ok {t : List Int} {a : Nat} {r : List TPiece} {u : List Int} {nav : Int} (h1 : t.all typed = true) (h2 : t.length ≤ 16) (h3 : a ≤ t.length) (h4 : ringOk r = true) (h5 : 1 ≤ nav ∧ nav ≤ 1000000060) (h6 : textOk u = true) : (edB t a r u nav).ok = true := by
  have q1 : lineOk t a = true := by
    simp only [lineOk, textOk, h1, Bool.and_true, Bool.and_eq_true, decide_eq_true_eq]
    exact ⟨by omega, inR_iff.2 (by omega)⟩
  have q2 : lineOk u u.length = true := by
    unfold lineOk
    rw [h6, inR_iff.2 (by omega)]; rfl
  have q3 : inR nav 0 1000000060 = true := inR_iff.2 (by omega)
  have q4 : (nav != 0) = true := by simp; omega
  have q5 : modeB false 0 u u.length 0 0 0 = true := by simp [modeB]
  simp only [TEd.ok, edOk, edB, zEd, q1, q2, q3, q4, h4, q5, Bool.true_or]
  rfl
theorem E_lFnNav (b : List UInt8) (hok : okR [.l (byts b)] = true) : M_lFnNav [.lst (some 0) (byts b)] [] [] = some ⟨V.v (.bool true), [], []⟩ := by
  by_cases h1 : 1048576 < b.length
  · have h1' : (1048576 : Int) < b.length := by omega
    unfold M_lFnNav
    simp [Tryz.func4, Tryz.f4, h1, h1']
  have h1' : ¬ (1048576 : Int) < b.length := by omega
  obtain ⟨t, a, r, last, f, l, hM, p1, p2, p3, p4, p5, hh, hc⟩ := EX_sMakeEmacs b (by omega)
  have ok := edN_ok p1 p2 p3 p4 p5
  have hf := hh.first
  have hl60 := hh.len
  unfold M_lFnNav
  by_cases hl : l = []
  · subst hl
    have s1 := E_iEdStep_none (edN t a r last) ok rfl rfl f hh
    have s2 := E_istep_no (edN t a r last) (EdB.of ok) f (-1) [] s1
    have s3 := E_iplain_up (edN t a r last) { edN t a r last with Last := 0 } f 1 [] s2
    have s4 := E_iEdKey_plain (edN t a r last) { edN t a r last with Last := 0 } ok rfl f 1 [] hh 8 (by omega) s3
    have s5 := E_iEdKeys_one (edN t a r last) { edN t a r last with Last := 0 } ok f 1 [] hh 8 (by omega) s4
    have s6 := E_iEdTyped_one (edN t a r last) { edN t a r last with Last := 0 } f 1 8 [] ⟨#[85, 80]⟩ (by decide) (by decide +kernel) E_UP s5
    have ok2 : ({ edN t a r last with Last := 0 } : TEd).ok = true := edN_ok (last := 0) p1 p2 p3 p4 (by omega)
    have s7 := E_iEdOk' _ ok2
    have s8 := E_lsameInts t (by omega)
    simp only [edN, zEd, show strs [] = [] from rfl, show ints [] = [] from rfl, show dLines [] = [] from rfl] at hM s6 s7
    simp [Tryz.func4, Tryz.f4, h1, h1', hM, s6, s7, s8]
  · have hlen : 0 < l.length := List.length_pos_iff.2 hl
    have hn : l.length - 1 < l.length := by omega
    obtain ⟨u, hu, hu2, -, -⟩ := hc l[l.length - 1] (List.getElem_mem hn)
    have hul : u.length ≤ 400 := by simp only [textOk, Bool.and_eq_true, decide_eq_true_eq] at hu2; exact hu2.1
    have s1 := E_iEdStep_up (edN t a r last) ok rfl rfl f l hh hl u hu hu2
    have s2 := E_istep_ok (edN t a r last) (edB t a r u (f + l.length - 1)) f (-1) l s1
    have s3 := E_iplain_up (edN t a r last) (edB t a r u (f + l.length - 1)) f 0 l s2
    have s4 := E_iEdKey_plain (edN t a r last) (edB t a r u (f + l.length - 1)) ok rfl f 0 l hh 8 (by omega) s3
    have s5 := E_iEdKeys_one (edN t a r last) (edB t a r u (f + l.length - 1)) ok f 0 l hh 8 (by omega) s4
    have s6 := E_iEdTyped_one (edN t a r last) (edB t a r u (f + l.length - 1)) f 0 8 l ⟨#[85, 80]⟩ (by decide) (by decide +kernel) E_UP s5
    have okB := edB_ok (nav := f + l.length - 1) p1 p2 p3 p4 (by omega) hu2
    have s7 := E_iEdOk' _ okB
    have d1 := E_iEdStep_down (edB t a r u (f + l.length - 1)) okB rfl f l hh hl rfl
    have d2 := E_istep_ok (edB t a r u (f + l.length - 1)) (edN t a r 0) f 1 l d1
    have d3 := E_iplain_down (edB t a r u (f + l.length - 1)) (edN t a r 0) f 0 l d2
    have d4 := E_iEdKey_plain (edB t a r u (f + l.length - 1)) (edN t a r 0) okB rfl f 0 l hh 9 (by omega) d3
    have d5 := E_iEdKeys_one (edB t a r u (f + l.length - 1)) (edN t a r 0) okB f 0 l hh 9 (by omega) d4
    have d6 := E_iEdTyped_one (edB t a r u (f + l.length - 1)) (edN t a r 0) f 0 9 l ⟨#[68, 79, 87, 78]⟩ (by decide) (by decide +kernel) E_DOWN d5
    have s8 := E_lsameInts t (by omega)
    have s9 := E_iLineText u u.length (by unfold lineOk; rw [hu2, inR_iff.2 (by omega)]; rfl)
    rw [reads_eq hu] at s9
    have g1 := E_iHistLast f l hh
    have g2 := E_iHistGet f l hh (l.length - 1) hn
    have c1 : (((l.length - 1 : Nat) : Int)) = (l.length : Int) - 1 := by omega
    have c2 : f + ((l.length : Int) - 1) = f + l.length - 1 := by omega
    rw [c1, c2] at g2
    unfold histLast at g1
    rw [if_neg hl] at g1
    simp only [edN, edB, zEd, show strs [] = [] from rfl, show ints [] = [] from rfl, show dLines [] = [] from rfl] at hM s6 s7 d6
    simp [Tryz.func4, Tryz.f4, h1, h1', hM, s6, s7, s8, s9, d6, g1, g2, hl]
end Go.Proofs.YtnmneoekpikpkaaGreatDoor
namespace Go.Proofs.YtnmneoekpikpkaaGreatDoor
open Go.ChangeShapes Go.WideShapes Go.ChangeAt Go.RowKit
theorem ownKnob_door : ownKnob Tryz.prog.godebug = none := by kernel_rfl
theorem zwOf {W : World} (h : W.ShapedOpen Tryz.prog) : ZW W := ⟨trivial, Tryz.laysM146.s1_3 W h⟩
def lay (cs : Array Value) : Obj → Obj
  | .cells _ t frozen => .cells cs t frozen
  | o => o
noncomputable def laidWorld (os : Os) : World :=
  { World.holding Tryz.prog os ⟨#[], #[], []⟩ with heap := ((World.holding Tryz.prog os ⟨#[], #[], []⟩).heap.modify 2 (lay #[.int .u8 128, .int .u8 191, .int .u8 160, .int .u8 191, .int .u8 128, .int .u8 159, .int .u8 144, .int .u8 191, .int .u8 128, .int .u8 143, .int .u8 0, .int .u8 0, .int .u8 0, .int .u8 0, .int .u8 0, .int .u8 0, .int .u8 0, .int .u8 0, .int .u8 0, .int .u8 0, .int .u8 0, .int .u8 0, .int .u8 0, .int .u8 0, .int .u8 0, .int .u8 0, .int .u8 0, .int .u8 0, .int .u8 0, .int .u8 0, .int .u8 0, .int .u8 0])).modify 1 (lay (List.replicate 128 (Value.int .u8 240) ++ List.replicate 66 (Value.int .u8 241) ++ List.replicate 30 (Value.int .u8 2) ++ List.replicate 1 (Value.int .u8 19) ++ List.replicate 12 (Value.int .u8 3) ++ List.replicate 1 (Value.int .u8 35) ++ List.replicate 2 (Value.int .u8 3) ++ List.replicate 1 (Value.int .u8 52) ++ List.replicate 3 (Value.int .u8 4) ++ List.replicate 1 (Value.int .u8 68) ++ List.replicate 11 (Value.int .u8 241)).toArray) }
end Go.Proofs.YtnmneoekpikpkaaGreatDoor
namespace Go.Proofs.YtnmneoekpikpkaaGreatDoor.fnNav
open Go.ChangeShapes Go.WideShapes Go.ChangeAt Go.RowKit
open Go.ChangeMaps (open_string shut_string)
set_option linter.unusedVariables false
theorem law_FnNav (l0 : List UInt8) (p0 : Value) (W : World) (hz : ZW W) (g0 : okR [.l (byts l0)] = true) (z0 : RdD (heapOf W) (.l (byts l0)) p0) :
    Calls Tryz.prog 4 #[p0] W fun e W' => e = .returned (.bool true) ∧ Ext W W' :=
  S_lFnNav.top_v hz (us := [p0]) (ls := [p0]) (E_lFnNav l0 g0)
    ⟨_, _, rfl, top_arg_l rfl z0, rfl⟩
set_option maxRecDepth 100000 in
theorem laid_met (os : Os) : laidMet Tryz.prog Rows.fnNavRow.laid ((laidWorld os).forCall (fun _ _ => 0) ⟨#[], #[.slice none 0 0], []⟩).memory :=
  laidMet_of_run' 8 (by kernel_rfl) (by kernel_rfl)
set_option maxRecDepth 100000 in
theorem reads (os : Os) {H : Type} (enc : TypeId × Value → H) : ∃ places, DataW.whole enc Tryz.prog ((laidWorld os).forCall (fun _ _ => 0) ⟨#[], #[.slice none 0 0], []⟩).memory Tryz.f4.params.toList Rows.fnNavSpec.vars false (#[.slice none 0 0] : Array Value).toList 8 = some ([.nil], [], places) :=
  ⟨[], by kernel_rfl⟩
set_option maxRecDepth 100000 in
theorem lifted (os : Os) (started : os.Started) (H : Type) (enc : TypeId × Value → H) (F : Stop.Interp) :
    ReturnsInHanded {} Tryz.checked os 4 .any ((OpenSpec.ofChange Rows.fnNavSpec).preRow enc Tryz.prog Tryz.f4 Rows.fnNavRow.domain false Rows.fnNavRow.laid) (((OpenSpec.ofChange Rows.fnNavSpec).at F).post enc Tryz.prog Tryz.f4 false true false false) := by
  obtain ⟨places, hx⟩ := reads os enc
  refine returnsInHanded_of_row (C := Tryz.checked) (s := OpenSpec.ofChange Rows.fnNavSpec) ownKnob_door started (by kernel_rfl) Tryz.func4
    (witness_row_at (enc := enc) (C := Tryz.checked) false (laidWorld os) #[.slice none 0 0] rfl (by kernel_rfl) (by kernel_rfl) (by kernel_rfl)
      (OpenSpec.preRow_of_cond 8 hx (by kernel_rfl) (fun k hk => by cases hk) (by kernel_rfl) (laid_met os))) ?_
  intro W base args ds gs before hval0 hW _ _ _ hL hsh _
  have hval : ∀ (j : Nat) t v, Tryz.f4.params[j]? = some t → args[j]? = some v → Value.okWide Tryz.prog W .any base t v := hval0
  have hW' := hW
  obtain ⟨p, q, hA0, hV, rfl, hfz, hnd⟩ := hW
  have hA : DataW.TrodAll enc Tryz.prog W 0 (fun _ => true) true Tryz.f4.params.toList args.toList ds p := hA0
  rw [Tryz.params4] at hA hval
  obtain ⟨v0, vs0, d0, ds0, pp0, q0, hargs, rfl, rfl, h0, r0⟩ := trodAll_cons hA
  obtain ⟨rfl, rfl, rfl⟩ := trodAll_nil r0
  obtain rfl : args = #[v0] := by cases args; simp_all
  obtain ⟨rfl, rfl⟩ := trodVars_none hV
  have k0 := h0
  have lt0 : ∀ x ∈ pp0, x.block < W.heap.size := by obtain ⟨m, hm⟩ := k0; exact DataW.trod_lt m _ _ _ hm
  obtain ⟨l0, g0, z0⟩ := open_bytes_top (hval 0 22 v0 rfl rfl) h0
  clear hA0 hval0
  refine (law_FnNav l0 v0 W (zwOf hsh) g0 z0).mono fun e W' ⟨he, bel⟩ => ?_
  subst he
  exact ⟨_, rfl, _, _, _, [], _, [], hW', trodAll_mk1 (shut_bool Tryz.underlying4 _), (trodAll_cons_mk (Below.trod laidOut_prog (by kernel_rfl) (of_decide_eq_true (by kernel_rfl)) k0 bel lt0) trodAll_mk0), rfl, Below.frame bel _, fun h => by cases h⟩
theorem said : Rows.FnNavSaid :=
  OpenClaim.holds_of_cond 4 Tryz.f4 rfl rfl rfl rfl rfl rfl rfl ⟨rfl, rfl, rfl, rfl, rfl⟩ rfl rfl rfl rfl rfl (by kernel_rfl) Tryz.func4 (by kernel_rfl)
    (of_decide_eq_true (by kernel_rfl)) (by unfold Func.isWrapper; first | (rw [if_pos (by decide +kernel)]; kernel_rfl) | (rw [if_neg (by decide +kernel)]; exact ⟨rfl, rfl⟩))
    (fun os started H enc _ F => by rw [OpenClaim.pre_eq_preRow]; exact lifted os started H enc F)
theorem plain (f : FuncId) (fn : Func) (hf : Tryz.pinned.checked.prog.funcNamed "loop.example/g00600/laws.FnNav" = some f) (hfn : Tryz.pinned.checked.prog.funcs[f]? = some fn) :
    false = Tryz.pinned.checked.prog.looks [] ∧ ∀ (j : Nat) t, fn.params[j]? = some t → Tryz.pinned.checked.prog.wantsStandIn t = false := by
  obtain rfl : f = 4 := Option.some.inj ((show Tryz.prog.funcNamed "loop.example/g00600/laws.FnNav" = some 4 by kernel_rfl).symm.trans hf) |>.symm
  obtain rfl : fn = Tryz.f4 := (Option.some.inj (Tryz.func4.symm.trans hfn)).symm
  refine ⟨by kernel_rfl, fun j t ht => ?_⟩
  rw [Tryz.params4] at ht
  have hm := Array.mem_of_getElem? ht
  simp only [List.mem_toArray, List.mem_cons, List.not_mem_nil, or_false] at hm
  subst hm
  exact (show Tryz.prog.wantsStandIn 22 = false by kernel_rfl)
theorem card : Rows.FnNavCardSaid :=
  Claim7.holds_tied_plain_at .later [] _ _ _ _ said (fun _ h => by cases h) (by kernel_rfl) (fun _ h => by cases h) fnNav_row_tie rfl ⟨rfl, rfl⟩ (by kernel_rfl) rfl plain (by kernel_rfl)
#print axioms card
end Go.Proofs.YtnmneoekpikpkaaGreatDoor.fnNav
