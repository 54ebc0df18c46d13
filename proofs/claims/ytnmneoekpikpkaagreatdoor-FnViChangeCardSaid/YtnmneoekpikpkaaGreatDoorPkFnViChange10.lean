/- Part 10 of a proof in several texts (an abstract evaluator, what the functions compute). -/
import Derived.Test.YtnmneoekpikpkaaGreatDoorPkFnViChange9
import Derived.Test.YtnmneoekpikpkaaGreatDoorRows
import Derived.Test.YtnmneoekpikpkaaGreatDoorChecked
import Derived.ProofKit
import Derived.OpenShut
import Derived.Handy
import Derived.ShutString
import Derived.ChangeOld
import Derived.Deep.Slices
namespace Go.Proofs.YtnmneoekpikpkaaGreatDoor
open Go.RowKit
set_option linter.unusedSimpArgs false
set_option linter.unusedVariables false
set_option maxHeartbeats 8000000
set_option maxRecDepth 10000
theorem E_iLinePut0 (u : List Int) (hu : textOk u = true) : M_iLinePut [.agg [.lst (some 0) [], V.v (.int .i64 0)], .lst (some 1) (ints u)] [] [] = some ⟨.tup [.agg [.own 0, V.v (.int .i64 ((u.length : Int)))], V.v (.bool true)], [], [(0, ints u)]⟩ := by
  have hl : u.length ≤ 400 := by simp only [textOk, Bool.and_eq_true, decide_eq_true_eq] at hu; exact hu.1
  have e1 := E_iLineOk [] 0 (by simp)
  rw [show lineOk [] 0 = true from by decide] at e1
  have e2 := E_icopyInts [] (some 0) (by simp)
  have e3 := E_iLineOk u u.length (by omega)
  rw [show lineOk u u.length = true from by unfold lineOk; rw [hu, inR_iff.2 (by omega)]; rfl] at e3
  simp only [ints_nil] at e1 e2
  have q1 : ¬ (400 : Int) < u.length := by omega
  have q2 : u.length * 8 ≤ 140737488355328 := by omega
  have q3 : u.length ≤ 4611686018427387904 := by omega
  have w := w64 (u.length : Int) (by omega)
  generalize hE : M_iLinePut _ _ _ = R
  unfold M_iLinePut at hE
  simp [Tryz.func141, Tryz.f141, e1, e2, e3, q1, q2, q3, w] at hE
  exact hE.symm
theorem E_itimes1 (u : List Int) (hu : u.length ≤ 400) : M_itimes [.lst (some 0) (ints u), V.v (.int .i64 1)] [] [] = some ⟨.own 0, [], [(0, ints u)]⟩ := by
  have q2 : u.length * 8 ≤ 140737488355328 := by omega
  have q3 : u.length ≤ 4611686018427387904 := by omega
  generalize hE : M_itimes _ _ _ = R
  unfold M_itimes at hE
  simp [Tryz.func102, Tryz.f102] at hE
  rw [loopV_unf] at hE
  simp [q2, q3] at hE
  rw [loopV_unf] at hE
  simp at hE
  exact hE.symm
theorem EX_ipaste (e : TEd) (h : SetI e) (hr : ringOk e.Ring.Pieces = true) (h0 : e.Line = ⟨[], 0⟩) (p : TPiece) (l : List TPiece) (hp : e.Ring.Pieces = p :: l) : ∃ ul, M_ipaste [.agg [V.v (.bool e.Vi), V.v (.int .i64 e.Mode), .lst (some 0) (ints e.Line.Text), V.v (.int .i64 e.Line.At), V.v (.int .i64 e.Count), V.v (.int .i64 e.Op), V.v (.int .i64 e.OpCount), V.v (.int .i64 e.Wait), V.v (.int .i64 e.FindR), V.v (.int .i64 e.FindHow), V.v (.int .i64 e.Last), .lst (some 1) (dPieces e.Ring.Pieces), .lst (some 2) (dLines e.Undo.Lines), V.v (.int .i64 e.Nav), .lst (some 3) (ints e.Own.Text), V.v (.int .i64 e.Own.At), .lst (some 4) (ints e.Query), V.v (.int .i64 e.Hit), .lst (some 5) (ints e.Back.Text), V.v (.int .i64 e.Back.At)], V.v (.int .i64 0), V.v (.int .i64 1)] [] [] =
      some ⟨.tup [.agg [V.v (.bool e.Vi), V.v (.int .i64 e.Mode), .own 0, V.v (.int .i64 ((p.Text.length : Int) - 1)), V.v (.int .i64 0), V.v (.int .i64 0), V.v (.int .i64 0), V.v (.int .i64 0), V.v (.int .i64 e.FindR), V.v (.int .i64 e.FindHow), V.v (.int .i64 0), .own 1, .own 2, V.v (.int .i64 e.Nav), .own 3, V.v (.int .i64 e.Own.At), .own 4, V.v (.int .i64 e.Hit), .own 5, V.v (.int .i64 e.Back.At)], V.v (.int .i64 0)], [], [(0, ints p.Text), (1, dPieces e.Ring.Pieces), (2, dLines ul), (3, ints e.Own.Text), (4, ints e.Query), (5, ints e.Back.Text)]⟩ ∧ undoOk ul = true ∧ ul.length ≤ e.Undo.Lines.length + 1 := by
  obtain ⟨p1, p2⟩ := piece_len hr
  have hpp := p2 p (by rw [hp]; simp)
  have hto : textOk p.Text = true := by simp only [textOk, Bool.and_eq_true, decide_eq_true_eq]; exact hpp.2
  have e1 := E_iRingTop e.Ring.Pieces hr
  rw [hp] at e1
  simp only [List.head?_cons, Option.map_some, Option.getD_some] at e1
  have e2 := E_itimes1 p.Text hpp.2.1
  have e3 := E_igoTo [] (some 0) 0 0 (by simp)
  have e4 := E_iLinePut0 p.Text hto
  have e5 := E_igoTo p.Text (some 0) p.Text.length ((p.Text.length : Int) - 1) (by omega)
  have m1 : max 0 (min ((p.Text.length : Int) - 1) p.Text.length) = (p.Text.length : Int) - 1 := by omega
  rw [m1] at e5
  simp only [ints_nil, show max (0 : Int) (min 0 (([] : List Int).length : Int)) = 0 from by decide] at e3
  have hn : ¬ p.Text = [] := fun e => by rw [e] at hpp; simp at hpp
  have w := w64 ((p.Text.length : Int) - 1) (by omega)
  obtain ⟨ul, e6, u⟩ := EX_iput e h p.Text ((p.Text.length : Int) - 1) hpp.2.1 (by omega)
  have hc : clipAt p.Text ((p.Text.length : Int) - 1) = (p.Text.length : Int) - 1 := by
    unfold clipAt
    have : atEnd p.Text ((p.Text.length : Int) - 1) = false := by simp [atEnd]; omega
    rw [this]; rfl
  rw [hc] at e6
  refine ⟨ul, ?_, u⟩
  have h0t : e.Line.Text = [] := by rw [h0]
  have h0a : e.Line.At = 0 := by rw [h0]
  simp only [hp, h0t, h0a, ints_nil] at e6 ⊢
  generalize hE : M_ipaste _ _ _ = R
  unfold M_ipaste at hE
  simp [Tryz.func134, Tryz.f134, e1, e2, e3, e4, e5, e6, hn, w] at hE
  exact hE.symm
theorem E_ipaste_no (e : TEd) (hb : EdB e) (h0 : e.Line = ⟨[], 0⟩) (hp : e.Ring.Pieces = []) : M_ipaste [.agg [V.v (.bool e.Vi), V.v (.int .i64 e.Mode), .lst (some 0) (ints e.Line.Text), V.v (.int .i64 e.Line.At), V.v (.int .i64 e.Count), V.v (.int .i64 e.Op), V.v (.int .i64 e.OpCount), V.v (.int .i64 e.Wait), V.v (.int .i64 e.FindR), V.v (.int .i64 e.FindHow), V.v (.int .i64 e.Last), .lst (some 1) (dPieces e.Ring.Pieces), .lst (some 2) (dLines e.Undo.Lines), V.v (.int .i64 e.Nav), .lst (some 3) (ints e.Own.Text), V.v (.int .i64 e.Own.At), .lst (some 4) (ints e.Query), V.v (.int .i64 e.Hit), .lst (some 5) (ints e.Back.Text), V.v (.int .i64 e.Back.At)], V.v (.int .i64 0), V.v (.int .i64 1)] [] [] = some ⟨.tup [.agg [V.v (.bool e.Vi), V.v (.int .i64 e.Mode), .own 0, V.v (.int .i64 e.Line.At), V.v (.int .i64 0), V.v (.int .i64 0), V.v (.int .i64 0), V.v (.int .i64 0), V.v (.int .i64 e.FindR), V.v (.int .i64 e.FindHow), V.v (.int .i64 0), .own 1, .own 2, V.v (.int .i64 e.Nav), .own 3, V.v (.int .i64 e.Own.At), .own 4, V.v (.int .i64 e.Hit), .own 5, V.v (.int .i64 e.Back.At)], V.v (.int .i64 1)], [], [(0, ints e.Line.Text), (1, dPieces e.Ring.Pieces), (2, dLines e.Undo.Lines), (3, ints e.Own.Text), (4, ints e.Query), (5, ints e.Back.Text)]⟩ := by
  have e0 := E_ibell e hb
  have e1 := E_iRingTop [] (by decide)
  have e2 := E_itimes1 [] (by simp)
  have e3 := E_igoTo [] (some 0) 0 0 (by simp)
  have e4 := E_iLinePut0 [] (by decide)
  simp only [ints_nil, show max (0 : Int) (min 0 (([] : List Int).length : Int)) = 0 from by decide, show dPieces [] = [] from rfl, List.head?_nil, Option.map_none, Option.getD_none, List.length_nil, Int.natCast_zero] at e1 e2 e3 e4
  have h0t : e.Line.Text = [] := by rw [h0]
  have h0a : e.Line.At = 0 := by rw [h0]
  simp only [hp, h0t, h0a, ints_nil, show dPieces [] = [] from rfl] at e0 ⊢
  generalize hE : M_ipaste _ _ _ = R
  unfold M_ipaste at hE
  simp [Tryz.func134, Tryz.f134, e0, e1, e2, e3, e4] at hE
  exact hE.symm
theorem E_iwithin (a n : Int) : M_iwithin [V.v (.int .i64 a), V.v (.int .i64 n)] [] [] = some ⟨V.v (.int .i64 (max 0 (min a n))), [], []⟩ := by
  unfold M_iwithin
  simp [Tryz.func114, Tryz.f114]
theorem E_iisUpper (r : Int) : M_iisUpper [V.v (.int .i64 r)] [] [] = some ⟨V.v (.bool (inR r 65 90)), [], []⟩ := by
  unfold M_iisUpper
  simp [Tryz.func148, Tryz.f148, E_iin]
theorem E_iMotionTo_l (t : List Int) (i : Option Nat) (a : Nat) (n : Int) (ha : a ≤ t.length) (ht : t.length ≤ 2000) (hn : 1 ≤ n ∧ n ≤ 999) : M_iMotionTo [.lst i (ints t), V.v (.int .i64 ((a : Int))), V.v (.int .i64 108), V.v (.int .i64 n)] [] [] = some ⟨.tup [V.v (.int .i64 (min ((a : Int) + n) t.length)), V.v (.bool false), V.v (.bool true)], [], []⟩ := by
  have m1 : max 0 (min (a : Int) t.length) = a := by omega
  have m2 : max 1 (min n 999) = n := by omega
  have w := w64 ((a : Int) + n) (by omega)
  unfold M_iMotionTo
  simp [Tryz.func132, Tryz.f132, E_iwithin, E_iisUpper, m1, m2, w]
theorem E_iMotionTo_no (t : List Int) (i : Option Nat) (a : Nat) (r n : Int) (h : r = 120 ∨ r = 80) : M_iMotionTo [.lst i (ints t), V.v (.int .i64 ((a : Int))), V.v (.int .i64 r), V.v (.int .i64 n)] [] [] = some ⟨.tup [V.v (.int .i64 0), V.v (.bool false), V.v (.bool false)], [], []⟩ := by
  unfold M_iMotionTo
  rcases h with rfl | rfl <;> simp [Tryz.func132, Tryz.f132, E_iwithin, E_iisUpper]
theorem E_iSpan (t : List Int) (i : Option Nat) (a b : Nat) (h : a ≤ b) (hb : b ≤ t.length) : M_iSpan [.lst i (ints t), V.v (.int .i64 ((a : Int))), V.v (.int .i64 ((b : Int))), V.v (.bool false)] [] [] = some ⟨.tup [V.v (.int .i64 ((a : Int))), V.v (.int .i64 ((b : Int)))], [], []⟩ := by
  have m1 : max 0 (min (a : Int) t.length) = a := by omega
  have m2 : max 0 (min (b : Int) t.length) = b := by omega
  have m3 : min (a : Int) b = a := by omega
  have m4 : max (a : Int) b = b := by omega
  unfold M_iSpan
  simp [Tryz.func161, Tryz.f161, E_iwithin, m1, m2, m3, m4]
theorem E_iHowOf (r : Int) (h : ¬ r = 102 ∧ ¬ r = 70 ∧ ¬ r = 116 ∧ ¬ r = 84) : M_iHowOf [V.v (.int .i64 r)] [] [] = some ⟨V.v (.int .i64 ((-1))), [], []⟩ := by
  unfold M_iHowOf
  simp [Tryz.func126, Tryz.f126, h.1, h.2.1, h.2.2.1, h.2.2.2]
theorem E_ibegun_digit (e : TEd) (hb : EdB e) (n : Int) (hc : e.Count = 0) : M_ibegun [.agg [V.v (.bool e.Vi), V.v (.int .i64 e.Mode), .lst (some 0) (ints e.Line.Text), V.v (.int .i64 e.Line.At), V.v (.int .i64 e.Count), V.v (.int .i64 e.Op), V.v (.int .i64 e.OpCount), V.v (.int .i64 e.Wait), V.v (.int .i64 e.FindR), V.v (.int .i64 e.FindHow), V.v (.int .i64 e.Last), .lst (some 1) (dPieces e.Ring.Pieces), .lst (some 2) (dLines e.Undo.Lines), V.v (.int .i64 e.Nav), .lst (some 3) (ints e.Own.Text), V.v (.int .i64 e.Own.At), .lst (some 4) (ints e.Query), V.v (.int .i64 e.Hit), .lst (some 5) (ints e.Back.Text), V.v (.int .i64 e.Back.At)], V.v (.int .i64 51), V.v (.int .i64 n)] [] [] = some ⟨.tup [.agg [V.v (.bool e.Vi), V.v (.int .i64 e.Mode), .own 0, V.v (.int .i64 e.Line.At), V.v (.int .i64 3), V.v (.int .i64 e.Op), V.v (.int .i64 e.OpCount), V.v (.int .i64 e.Wait), V.v (.int .i64 e.FindR), V.v (.int .i64 e.FindHow), V.v (.int .i64 e.Last), .own 1, .own 2, V.v (.int .i64 e.Nav), .own 3, V.v (.int .i64 e.Own.At), .own 4, V.v (.int .i64 e.Hit), .own 5, V.v (.int .i64 e.Back.At)], V.v (.int .i64 0), V.v (.bool true)], [], [(0, ints e.Line.Text), (1, dPieces e.Ring.Pieces), (2, dLines e.Undo.Lines), (3, ints e.Own.Text), (4, ints e.Query), (5, ints e.Back.Text)]⟩ := by
  have e1 := E_icopyEd e hb
  simp only [hc] at e1 ⊢
  unfold M_ibegun
  have q : inR 51 49 57 = true := by decide
  simp [Tryz.func131, Tryz.f131, e1, E_iin, q, hc]
  decide
theorem E_ibegun_op (e : TEd) (hb : EdB e) (n : Int) (ho : e.Op = 0) : M_ibegun [.agg [V.v (.bool e.Vi), V.v (.int .i64 e.Mode), .lst (some 0) (ints e.Line.Text), V.v (.int .i64 e.Line.At), V.v (.int .i64 e.Count), V.v (.int .i64 e.Op), V.v (.int .i64 e.OpCount), V.v (.int .i64 e.Wait), V.v (.int .i64 e.FindR), V.v (.int .i64 e.FindHow), V.v (.int .i64 e.Last), .lst (some 1) (dPieces e.Ring.Pieces), .lst (some 2) (dLines e.Undo.Lines), V.v (.int .i64 e.Nav), .lst (some 3) (ints e.Own.Text), V.v (.int .i64 e.Own.At), .lst (some 4) (ints e.Query), V.v (.int .i64 e.Hit), .lst (some 5) (ints e.Back.Text), V.v (.int .i64 e.Back.At)], V.v (.int .i64 100), V.v (.int .i64 n)] [] [] = some ⟨.tup [.agg [V.v (.bool e.Vi), V.v (.int .i64 e.Mode), .own 0, V.v (.int .i64 e.Line.At), V.v (.int .i64 0), V.v (.int .i64 100), V.v (.int .i64 e.Count), V.v (.int .i64 e.Wait), V.v (.int .i64 e.FindR), V.v (.int .i64 e.FindHow), V.v (.int .i64 e.Last), .own 1, .own 2, V.v (.int .i64 e.Nav), .own 3, V.v (.int .i64 e.Own.At), .own 4, V.v (.int .i64 e.Hit), .own 5, V.v (.int .i64 e.Back.At)], V.v (.int .i64 0), V.v (.bool true)], [], [(0, ints e.Line.Text), (1, dPieces e.Ring.Pieces), (2, dLines e.Undo.Lines), (3, ints e.Own.Text), (4, ints e.Query), (5, ints e.Back.Text)]⟩ := by
  have e1 := E_icopyEd e hb
  have e2 := E_iHowOf 100 (by decide)
  have e3 := E_iisAmong_op 100
  rw [show opC 100 = true from by decide] at e3
  simp only [ho] at e1 ⊢
  unfold M_ibegun
  have q : inR 100 49 57 = false := by decide
  simp [Tryz.func131, Tryz.f131, e1, e2, e3, E_iin, q, ho]
theorem E_ibegun_no (e : TEd) (hb : EdB e) (r n : Int) (h1 : inR r 49 57 = false) (h2 : ¬ r = 48) (h3 : ¬ r = 102 ∧ ¬ r = 70 ∧ ¬ r = 116 ∧ ¬ r = 84) (h4 : ¬ r = 59 ∧ ¬ r = 44) (h5 : ¬ e.Op = 0 ∨ opC r = false) : M_ibegun [.agg [V.v (.bool e.Vi), V.v (.int .i64 e.Mode), .lst (some 0) (ints e.Line.Text), V.v (.int .i64 e.Line.At), V.v (.int .i64 e.Count), V.v (.int .i64 e.Op), V.v (.int .i64 e.OpCount), V.v (.int .i64 e.Wait), V.v (.int .i64 e.FindR), V.v (.int .i64 e.FindHow), V.v (.int .i64 e.Last), .lst (some 1) (dPieces e.Ring.Pieces), .lst (some 2) (dLines e.Undo.Lines), V.v (.int .i64 e.Nav), .lst (some 3) (ints e.Own.Text), V.v (.int .i64 e.Own.At), .lst (some 4) (ints e.Query), V.v (.int .i64 e.Hit), .lst (some 5) (ints e.Back.Text), V.v (.int .i64 e.Back.At)], V.v (.int .i64 r), V.v (.int .i64 n)] [] [] = some ⟨.tup [.agg [V.v (.bool false), V.v (.int .i64 0), .own 0, V.v (.int .i64 0), V.v (.int .i64 0), V.v (.int .i64 0), V.v (.int .i64 0), V.v (.int .i64 0), V.v (.int .i64 0), V.v (.int .i64 0), V.v (.int .i64 0), .own 1, .own 2, V.v (.int .i64 0), .own 3, V.v (.int .i64 0), .own 4, V.v (.int .i64 0), .own 5, V.v (.int .i64 0)], V.v (.int .i64 0), V.v (.bool false)], [], [(0, []), (1, []), (2, []), (3, []), (4, []), (5, [])]⟩ := by
  have e1 := E_icopyEd e hb
  have e2 := E_iHowOf r h3
  have e3 := E_iisAmong_op r
  unfold M_ibegun
  by_cases ho : e.Op = 0
  · have h6 : opC r = false := h5.elim (fun h => absurd ho h) _root_.id
    rw [h6] at e3
    simp only [ho] at e1 ⊢
    simp [Tryz.func131, Tryz.f131, e1, e2, e3, E_iin, h1, h2, h4.1, h4.2, ho]
  · simp [Tryz.func131, Tryz.f131, e1, e2, e3, E_iin, h1, h2, h4.1, h4.2, ho]
theorem E_icommand_begun (e e' : TEd) (f act r n : Int) (l : List ByteArray) (h : M_ibegun [.agg [V.v (.bool e.Vi), V.v (.int .i64 e.Mode), .lst (some 0) (ints e.Line.Text), V.v (.int .i64 e.Line.At), V.v (.int .i64 e.Count), V.v (.int .i64 e.Op), V.v (.int .i64 e.OpCount), V.v (.int .i64 e.Wait), V.v (.int .i64 e.FindR), V.v (.int .i64 e.FindHow), V.v (.int .i64 e.Last), .lst (some 1) (dPieces e.Ring.Pieces), .lst (some 2) (dLines e.Undo.Lines), V.v (.int .i64 e.Nav), .lst (some 3) (ints e.Own.Text), V.v (.int .i64 e.Own.At), .lst (some 4) (ints e.Query), V.v (.int .i64 e.Hit), .lst (some 5) (ints e.Back.Text), V.v (.int .i64 e.Back.At)], V.v (.int .i64 r), V.v (.int .i64 n)] [] [] = some ⟨.tup [.agg [V.v (.bool e'.Vi), V.v (.int .i64 e'.Mode), .own 0, V.v (.int .i64 e'.Line.At), V.v (.int .i64 e'.Count), V.v (.int .i64 e'.Op), V.v (.int .i64 e'.OpCount), V.v (.int .i64 e'.Wait), V.v (.int .i64 e'.FindR), V.v (.int .i64 e'.FindHow), V.v (.int .i64 e'.Last), .own 1, .own 2, V.v (.int .i64 e'.Nav), .own 3, V.v (.int .i64 e'.Own.At), .own 4, V.v (.int .i64 e'.Hit), .own 5, V.v (.int .i64 e'.Back.At)], V.v (.int .i64 act), V.v (.bool true)], [], [(0, ints e'.Line.Text), (1, dPieces e'.Ring.Pieces), (2, dLines e'.Undo.Lines), (3, ints e'.Own.Text), (4, ints e'.Query), (5, ints e'.Back.Text)]⟩) :
    M_icommand [.agg [V.v (.bool e.Vi), V.v (.int .i64 e.Mode), .lst (some 0) (ints e.Line.Text), V.v (.int .i64 e.Line.At), V.v (.int .i64 e.Count), V.v (.int .i64 e.Op), V.v (.int .i64 e.OpCount), V.v (.int .i64 e.Wait), V.v (.int .i64 e.FindR), V.v (.int .i64 e.FindHow), V.v (.int .i64 e.Last), .lst (some 1) (dPieces e.Ring.Pieces), .lst (some 2) (dLines e.Undo.Lines), V.v (.int .i64 e.Nav), .lst (some 3) (ints e.Own.Text), V.v (.int .i64 e.Own.At), .lst (some 4) (ints e.Query), V.v (.int .i64 e.Hit), .lst (some 5) (ints e.Back.Text), V.v (.int .i64 e.Back.At)], .agg [V.v (.int .i64 f), .lst (some 6) (strs l)], V.v (.int .i64 r), V.v (.int .i64 n)] [] [] = some ⟨.tup [.agg [V.v (.bool e'.Vi), V.v (.int .i64 e'.Mode), .own 0, V.v (.int .i64 e'.Line.At), V.v (.int .i64 e'.Count), V.v (.int .i64 e'.Op), V.v (.int .i64 e'.OpCount), V.v (.int .i64 e'.Wait), V.v (.int .i64 e'.FindR), V.v (.int .i64 e'.FindHow), V.v (.int .i64 e'.Last), .own 1, .own 2, V.v (.int .i64 e'.Nav), .own 3, V.v (.int .i64 e'.Own.At), .own 4, V.v (.int .i64 e'.Hit), .own 5, V.v (.int .i64 e'.Back.At)], V.v (.int .i64 act)], [], [(0, ints e'.Line.Text), (1, dPieces e'.Ring.Pieces), (2, dLines e'.Undo.Lines), (3, ints e'.Own.Text), (4, ints e'.Query), (5, ints e'.Back.Text)]⟩ := by
  unfold M_icommand
  simp [Tryz.func92, Tryz.f92, h]
theorem E_icommand_op (e e' : TEd) (hb : EdB e) (f act n : Int) (l : List ByteArray) (ho : e.Op = 100) (h : M_ichange [.agg [V.v (.bool e.Vi), V.v (.int .i64 e.Mode), .lst (some 0) (ints e.Line.Text), V.v (.int .i64 e.Line.At), V.v (.int .i64 e.Count), V.v (.int .i64 e.Op), V.v (.int .i64 e.OpCount), V.v (.int .i64 e.Wait), V.v (.int .i64 e.FindR), V.v (.int .i64 e.FindHow), V.v (.int .i64 e.Last), .lst (some 1) (dPieces e.Ring.Pieces), .lst (some 2) (dLines e.Undo.Lines), V.v (.int .i64 e.Nav), .lst (some 3) (ints e.Own.Text), V.v (.int .i64 e.Own.At), .lst (some 4) (ints e.Query), V.v (.int .i64 e.Hit), .lst (some 5) (ints e.Back.Text), V.v (.int .i64 e.Back.At)], V.v (.int .i64 100), V.v (.int .i64 0), V.v (.int .i64 ((e.Line.Text.length : Int)))] [] [] = some ⟨.tup [.agg [V.v (.bool e'.Vi), V.v (.int .i64 e'.Mode), .own 0, V.v (.int .i64 e'.Line.At), V.v (.int .i64 e'.Count), V.v (.int .i64 e'.Op), V.v (.int .i64 e'.OpCount), V.v (.int .i64 e'.Wait), V.v (.int .i64 e'.FindR), V.v (.int .i64 e'.FindHow), V.v (.int .i64 e'.Last), .own 1, .own 2, V.v (.int .i64 e'.Nav), .own 3, V.v (.int .i64 e'.Own.At), .own 4, V.v (.int .i64 e'.Hit), .own 5, V.v (.int .i64 e'.Back.At)], V.v (.int .i64 act)], [], [(0, ints e'.Line.Text), (1, dPieces e'.Ring.Pieces), (2, dLines e'.Undo.Lines), (3, ints e'.Own.Text), (4, ints e'.Query), (5, ints e'.Back.Text)]⟩) :
    M_icommand [.agg [V.v (.bool e.Vi), V.v (.int .i64 e.Mode), .lst (some 0) (ints e.Line.Text), V.v (.int .i64 e.Line.At), V.v (.int .i64 e.Count), V.v (.int .i64 e.Op), V.v (.int .i64 e.OpCount), V.v (.int .i64 e.Wait), V.v (.int .i64 e.FindR), V.v (.int .i64 e.FindHow), V.v (.int .i64 e.Last), .lst (some 1) (dPieces e.Ring.Pieces), .lst (some 2) (dLines e.Undo.Lines), V.v (.int .i64 e.Nav), .lst (some 3) (ints e.Own.Text), V.v (.int .i64 e.Own.At), .lst (some 4) (ints e.Query), V.v (.int .i64 e.Hit), .lst (some 5) (ints e.Back.Text), V.v (.int .i64 e.Back.At)], .agg [V.v (.int .i64 f), .lst (some 6) (strs l)], V.v (.int .i64 100), V.v (.int .i64 n)] [] [] = some ⟨.tup [.agg [V.v (.bool e'.Vi), V.v (.int .i64 e'.Mode), .own 0, V.v (.int .i64 e'.Line.At), V.v (.int .i64 e'.Count), V.v (.int .i64 e'.Op), V.v (.int .i64 e'.OpCount), V.v (.int .i64 e'.Wait), V.v (.int .i64 e'.FindR), V.v (.int .i64 e'.FindHow), V.v (.int .i64 e'.Last), .own 1, .own 2, V.v (.int .i64 e'.Nav), .own 3, V.v (.int .i64 e'.Own.At), .own 4, V.v (.int .i64 e'.Hit), .own 5, V.v (.int .i64 e'.Back.At)], V.v (.int .i64 act)], [], [(0, ints e'.Line.Text), (1, dPieces e'.Ring.Pieces), (2, dLines e'.Undo.Lines), (3, ints e'.Own.Text), (4, ints e'.Query), (5, ints e'.Back.Text)]⟩ := by
  have e1 := E_ibegun_no e hb 100 n (by decide) (by decide) (by decide) (by decide) (.inl (by rw [ho]; decide))
  simp only [ho] at e1 h ⊢
  generalize hE : M_icommand _ _ _ = R
  unfold M_icommand at hE
  simp [Tryz.func92, Tryz.f92, e1, h, ho] at hE
  exact hE.symm
theorem E_icommand_l (e e' : TEd) (hb : EdB e) (f act n : Int) (l : List ByteArray) (ho : e.Op = 100) (a b : Nat) (ha : e.Line.At = a) (hb2 : min ((a : Int) + n) e.Line.Text.length = b) (hab : a ≤ b) (hal : a ≤ e.Line.Text.length) (hn : 1 ≤ n ∧ n ≤ 999) (h : M_ichange [.agg [V.v (.bool e.Vi), V.v (.int .i64 e.Mode), .lst (some 0) (ints e.Line.Text), V.v (.int .i64 e.Line.At), V.v (.int .i64 e.Count), V.v (.int .i64 e.Op), V.v (.int .i64 e.OpCount), V.v (.int .i64 e.Wait), V.v (.int .i64 e.FindR), V.v (.int .i64 e.FindHow), V.v (.int .i64 e.Last), .lst (some 1) (dPieces e.Ring.Pieces), .lst (some 2) (dLines e.Undo.Lines), V.v (.int .i64 e.Nav), .lst (some 3) (ints e.Own.Text), V.v (.int .i64 e.Own.At), .lst (some 4) (ints e.Query), V.v (.int .i64 e.Hit), .lst (some 5) (ints e.Back.Text), V.v (.int .i64 e.Back.At)], V.v (.int .i64 100), V.v (.int .i64 ((a : Int))), V.v (.int .i64 ((b : Int)))] [] [] = some ⟨.tup [.agg [V.v (.bool e'.Vi), V.v (.int .i64 e'.Mode), .own 0, V.v (.int .i64 e'.Line.At), V.v (.int .i64 e'.Count), V.v (.int .i64 e'.Op), V.v (.int .i64 e'.OpCount), V.v (.int .i64 e'.Wait), V.v (.int .i64 e'.FindR), V.v (.int .i64 e'.FindHow), V.v (.int .i64 e'.Last), .own 1, .own 2, V.v (.int .i64 e'.Nav), .own 3, V.v (.int .i64 e'.Own.At), .own 4, V.v (.int .i64 e'.Hit), .own 5, V.v (.int .i64 e'.Back.At)], V.v (.int .i64 act)], [], [(0, ints e'.Line.Text), (1, dPieces e'.Ring.Pieces), (2, dLines e'.Undo.Lines), (3, ints e'.Own.Text), (4, ints e'.Query), (5, ints e'.Back.Text)]⟩) :
    M_icommand [.agg [V.v (.bool e.Vi), V.v (.int .i64 e.Mode), .lst (some 0) (ints e.Line.Text), V.v (.int .i64 e.Line.At), V.v (.int .i64 e.Count), V.v (.int .i64 e.Op), V.v (.int .i64 e.OpCount), V.v (.int .i64 e.Wait), V.v (.int .i64 e.FindR), V.v (.int .i64 e.FindHow), V.v (.int .i64 e.Last), .lst (some 1) (dPieces e.Ring.Pieces), .lst (some 2) (dLines e.Undo.Lines), V.v (.int .i64 e.Nav), .lst (some 3) (ints e.Own.Text), V.v (.int .i64 e.Own.At), .lst (some 4) (ints e.Query), V.v (.int .i64 e.Hit), .lst (some 5) (ints e.Back.Text), V.v (.int .i64 e.Back.At)], .agg [V.v (.int .i64 f), .lst (some 6) (strs l)], V.v (.int .i64 108), V.v (.int .i64 n)] [] [] = some ⟨.tup [.agg [V.v (.bool e'.Vi), V.v (.int .i64 e'.Mode), .own 0, V.v (.int .i64 e'.Line.At), V.v (.int .i64 e'.Count), V.v (.int .i64 e'.Op), V.v (.int .i64 e'.OpCount), V.v (.int .i64 e'.Wait), V.v (.int .i64 e'.FindR), V.v (.int .i64 e'.FindHow), V.v (.int .i64 e'.Last), .own 1, .own 2, V.v (.int .i64 e'.Nav), .own 3, V.v (.int .i64 e'.Own.At), .own 4, V.v (.int .i64 e'.Hit), .own 5, V.v (.int .i64 e'.Back.At)], V.v (.int .i64 act)], [], [(0, ints e'.Line.Text), (1, dPieces e'.Ring.Pieces), (2, dLines e'.Undo.Lines), (3, ints e'.Own.Text), (4, ints e'.Query), (5, ints e'.Back.Text)]⟩ := by
  have hl := hb.line
  have e1 := E_ibegun_no e hb 108 n (by decide) (by decide) (by decide) (by decide) (.inl (by rw [ho]; decide))
  have e2 := E_iMotionTo_l e.Line.Text (some 0) a n (by omega) (by omega) hn
  rw [hb2] at e2
  have e3 := E_iSpan e.Line.Text (some 0) a b hab (by omega)
  have e4 : M_imove [.agg [V.v (.bool e.Vi), V.v (.int .i64 e.Mode), .lst (some 0) (ints e.Line.Text), V.v (.int .i64 e.Line.At), V.v (.int .i64 e.Count), V.v (.int .i64 e.Op), V.v (.int .i64 e.OpCount), V.v (.int .i64 e.Wait), V.v (.int .i64 e.FindR), V.v (.int .i64 e.FindHow), V.v (.int .i64 e.Last), .lst (some 1) (dPieces e.Ring.Pieces), .lst (some 2) (dLines e.Undo.Lines), V.v (.int .i64 e.Nav), .lst (some 3) (ints e.Own.Text), V.v (.int .i64 e.Own.At), .lst (some 4) (ints e.Query), V.v (.int .i64 e.Hit), .lst (some 5) (ints e.Back.Text), V.v (.int .i64 e.Back.At)], V.v (.int .i64 ((b : Int))), V.v (.bool false)] [] [] = some ⟨.tup [.agg [V.v (.bool e'.Vi), V.v (.int .i64 e'.Mode), .own 0, V.v (.int .i64 e'.Line.At), V.v (.int .i64 e'.Count), V.v (.int .i64 e'.Op), V.v (.int .i64 e'.OpCount), V.v (.int .i64 e'.Wait), V.v (.int .i64 e'.FindR), V.v (.int .i64 e'.FindHow), V.v (.int .i64 e'.Last), .own 1, .own 2, V.v (.int .i64 e'.Nav), .own 3, V.v (.int .i64 e'.Own.At), .own 4, V.v (.int .i64 e'.Hit), .own 5, V.v (.int .i64 e'.Back.At)], V.v (.int .i64 act)], [], [(0, ints e'.Line.Text), (1, dPieces e'.Ring.Pieces), (2, dLines e'.Undo.Lines), (3, ints e'.Own.Text), (4, ints e'.Query), (5, ints e'.Back.Text)]⟩ := by
    simp only [ho, ha] at h ⊢
    generalize hE : M_imove _ _ _ = R
    unfold M_imove at hE
    simp [Tryz.func133, Tryz.f133, e3, h] at hE
    exact hE.symm
  simp only [ho, ha] at e1 e4 ⊢
  generalize hE : M_icommand _ _ _ = R
  unfold M_icommand at hE
  simp [Tryz.func92, Tryz.f92, e1, e2, e4] at hE
  exact hE.symm
theorem E_icommand_x (e e' : TEd) (hb : EdB e) (f act n : Int) (l : List ByteArray) (ho : e.Op = 0) (a b : Nat) (ha : e.Line.At = a) (hb2 : min ((a : Int) + n) e.Line.Text.length = b) (hal : a ≤ e.Line.Text.length) (hn : 1 ≤ n ∧ n ≤ 999) (h : M_ichange [.agg [V.v (.bool e.Vi), V.v (.int .i64 e.Mode), .lst (some 0) (ints e.Line.Text), V.v (.int .i64 e.Line.At), V.v (.int .i64 e.Count), V.v (.int .i64 e.Op), V.v (.int .i64 e.OpCount), V.v (.int .i64 e.Wait), V.v (.int .i64 e.FindR), V.v (.int .i64 e.FindHow), V.v (.int .i64 e.Last), .lst (some 1) (dPieces e.Ring.Pieces), .lst (some 2) (dLines e.Undo.Lines), V.v (.int .i64 e.Nav), .lst (some 3) (ints e.Own.Text), V.v (.int .i64 e.Own.At), .lst (some 4) (ints e.Query), V.v (.int .i64 e.Hit), .lst (some 5) (ints e.Back.Text), V.v (.int .i64 e.Back.At)], V.v (.int .i64 100), V.v (.int .i64 ((a : Int))), V.v (.int .i64 ((b : Int)))] [] [] = some ⟨.tup [.agg [V.v (.bool e'.Vi), V.v (.int .i64 e'.Mode), .own 0, V.v (.int .i64 e'.Line.At), V.v (.int .i64 e'.Count), V.v (.int .i64 e'.Op), V.v (.int .i64 e'.OpCount), V.v (.int .i64 e'.Wait), V.v (.int .i64 e'.FindR), V.v (.int .i64 e'.FindHow), V.v (.int .i64 e'.Last), .own 1, .own 2, V.v (.int .i64 e'.Nav), .own 3, V.v (.int .i64 e'.Own.At), .own 4, V.v (.int .i64 e'.Hit), .own 5, V.v (.int .i64 e'.Back.At)], V.v (.int .i64 act)], [], [(0, ints e'.Line.Text), (1, dPieces e'.Ring.Pieces), (2, dLines e'.Undo.Lines), (3, ints e'.Own.Text), (4, ints e'.Query), (5, ints e'.Back.Text)]⟩) :
    M_icommand [.agg [V.v (.bool e.Vi), V.v (.int .i64 e.Mode), .lst (some 0) (ints e.Line.Text), V.v (.int .i64 e.Line.At), V.v (.int .i64 e.Count), V.v (.int .i64 e.Op), V.v (.int .i64 e.OpCount), V.v (.int .i64 e.Wait), V.v (.int .i64 e.FindR), V.v (.int .i64 e.FindHow), V.v (.int .i64 e.Last), .lst (some 1) (dPieces e.Ring.Pieces), .lst (some 2) (dLines e.Undo.Lines), V.v (.int .i64 e.Nav), .lst (some 3) (ints e.Own.Text), V.v (.int .i64 e.Own.At), .lst (some 4) (ints e.Query), V.v (.int .i64 e.Hit), .lst (some 5) (ints e.Back.Text), V.v (.int .i64 e.Back.At)], .agg [V.v (.int .i64 f), .lst (some 6) (strs l)], V.v (.int .i64 120), V.v (.int .i64 n)] [] [] = some ⟨.tup [.agg [V.v (.bool e'.Vi), V.v (.int .i64 e'.Mode), .own 0, V.v (.int .i64 e'.Line.At), V.v (.int .i64 e'.Count), V.v (.int .i64 e'.Op), V.v (.int .i64 e'.OpCount), V.v (.int .i64 e'.Wait), V.v (.int .i64 e'.FindR), V.v (.int .i64 e'.FindHow), V.v (.int .i64 e'.Last), .own 1, .own 2, V.v (.int .i64 e'.Nav), .own 3, V.v (.int .i64 e'.Own.At), .own 4, V.v (.int .i64 e'.Hit), .own 5, V.v (.int .i64 e'.Back.At)], V.v (.int .i64 act)], [], [(0, ints e'.Line.Text), (1, dPieces e'.Ring.Pieces), (2, dLines e'.Undo.Lines), (3, ints e'.Own.Text), (4, ints e'.Query), (5, ints e'.Back.Text)]⟩ := by
  have hl := hb.line
  have e1 := E_ibegun_no e hb 120 n (by decide) (by decide) (by decide) (by decide) (.inr (by decide))
  have e2 := E_iMotionTo_no e.Line.Text (some 0) a 120 n (.inl rfl)
  have w := w64 ((a : Int) + n) (by omega)
  simp only [ho, ha] at e1 h ⊢
  generalize hE : M_icommand _ _ _ = R
  unfold M_icommand at hE
  simp [Tryz.func92, Tryz.f92, e1, e2, h, w, hb2] at hE
  exact hE.symm
theorem E_icommand_P (e e' : TEd) (hb : EdB e) (f act : Int) (l : List ByteArray) (ho : e.Op = 0) (h0 : e.Line.At = 0) (h : M_ipaste [.agg [V.v (.bool e.Vi), V.v (.int .i64 e.Mode), .lst (some 0) (ints e.Line.Text), V.v (.int .i64 e.Line.At), V.v (.int .i64 e.Count), V.v (.int .i64 e.Op), V.v (.int .i64 e.OpCount), V.v (.int .i64 e.Wait), V.v (.int .i64 e.FindR), V.v (.int .i64 e.FindHow), V.v (.int .i64 e.Last), .lst (some 1) (dPieces e.Ring.Pieces), .lst (some 2) (dLines e.Undo.Lines), V.v (.int .i64 e.Nav), .lst (some 3) (ints e.Own.Text), V.v (.int .i64 e.Own.At), .lst (some 4) (ints e.Query), V.v (.int .i64 e.Hit), .lst (some 5) (ints e.Back.Text), V.v (.int .i64 e.Back.At)], V.v (.int .i64 0), V.v (.int .i64 1)] [] [] = some ⟨.tup [.agg [V.v (.bool e'.Vi), V.v (.int .i64 e'.Mode), .own 0, V.v (.int .i64 e'.Line.At), V.v (.int .i64 e'.Count), V.v (.int .i64 e'.Op), V.v (.int .i64 e'.OpCount), V.v (.int .i64 e'.Wait), V.v (.int .i64 e'.FindR), V.v (.int .i64 e'.FindHow), V.v (.int .i64 e'.Last), .own 1, .own 2, V.v (.int .i64 e'.Nav), .own 3, V.v (.int .i64 e'.Own.At), .own 4, V.v (.int .i64 e'.Hit), .own 5, V.v (.int .i64 e'.Back.At)], V.v (.int .i64 act)], [], [(0, ints e'.Line.Text), (1, dPieces e'.Ring.Pieces), (2, dLines e'.Undo.Lines), (3, ints e'.Own.Text), (4, ints e'.Query), (5, ints e'.Back.Text)]⟩) :
    M_icommand [.agg [V.v (.bool e.Vi), V.v (.int .i64 e.Mode), .lst (some 0) (ints e.Line.Text), V.v (.int .i64 e.Line.At), V.v (.int .i64 e.Count), V.v (.int .i64 e.Op), V.v (.int .i64 e.OpCount), V.v (.int .i64 e.Wait), V.v (.int .i64 e.FindR), V.v (.int .i64 e.FindHow), V.v (.int .i64 e.Last), .lst (some 1) (dPieces e.Ring.Pieces), .lst (some 2) (dLines e.Undo.Lines), V.v (.int .i64 e.Nav), .lst (some 3) (ints e.Own.Text), V.v (.int .i64 e.Own.At), .lst (some 4) (ints e.Query), V.v (.int .i64 e.Hit), .lst (some 5) (ints e.Back.Text), V.v (.int .i64 e.Back.At)], .agg [V.v (.int .i64 f), .lst (some 6) (strs l)], V.v (.int .i64 80), V.v (.int .i64 1)] [] [] = some ⟨.tup [.agg [V.v (.bool e'.Vi), V.v (.int .i64 e'.Mode), .own 0, V.v (.int .i64 e'.Line.At), V.v (.int .i64 e'.Count), V.v (.int .i64 e'.Op), V.v (.int .i64 e'.OpCount), V.v (.int .i64 e'.Wait), V.v (.int .i64 e'.FindR), V.v (.int .i64 e'.FindHow), V.v (.int .i64 e'.Last), .own 1, .own 2, V.v (.int .i64 e'.Nav), .own 3, V.v (.int .i64 e'.Own.At), .own 4, V.v (.int .i64 e'.Hit), .own 5, V.v (.int .i64 e'.Back.At)], V.v (.int .i64 act)], [], [(0, ints e'.Line.Text), (1, dPieces e'.Ring.Pieces), (2, dLines e'.Undo.Lines), (3, ints e'.Own.Text), (4, ints e'.Query), (5, ints e'.Back.Text)]⟩ := by
  have e1 := E_ibegun_no e hb 80 1 (by decide) (by decide) (by decide) (by decide) (.inr (by decide))
  have e2 := E_iMotionTo_no e.Line.Text (some 0) 0 80 1 (.inr rfl)
  simp only [Int.natCast_zero] at e2
  simp only [ho, h0] at e1 h ⊢
  generalize hE : M_icommand _ _ _ = R
  unfold M_icommand at hE
  simp [Tryz.func92, Tryz.f92, e1, e2, h] at hE
  exact hE.symm
theorem E_iKeyOk_rune (r : Int) (h : printable r = true) : M_iKeyOk [.agg [V.v (.int .i64 1), V.v (.int .i64 r)]] [] [] = some ⟨V.v (.bool true), [], []⟩ := by
  unfold M_iKeyOk
  simp [Tryz.func47, Tryz.f47, E_iPrintable, h]
theorem E_iEdKey_rune (e e' : TEd) (ok : e.ok = true) (hm : e.Mode = 2) (hw : e.Wait = 0) (f act r n : Int) (l : List ByteArray) (hh : HistI f l) (hr : printable r = true) (hn : min (max e.Count 1 * max e.OpCount 1) 999 = n) (h : M_icommand [.agg [V.v (.bool e.Vi), V.v (.int .i64 e.Mode), .lst (some 0) (ints e.Line.Text), V.v (.int .i64 e.Line.At), V.v (.int .i64 e.Count), V.v (.int .i64 e.Op), V.v (.int .i64 e.OpCount), V.v (.int .i64 e.Wait), V.v (.int .i64 e.FindR), V.v (.int .i64 e.FindHow), V.v (.int .i64 e.Last), .lst (some 1) (dPieces e.Ring.Pieces), .lst (some 2) (dLines e.Undo.Lines), V.v (.int .i64 e.Nav), .lst (some 3) (ints e.Own.Text), V.v (.int .i64 e.Own.At), .lst (some 4) (ints e.Query), V.v (.int .i64 e.Hit), .lst (some 5) (ints e.Back.Text), V.v (.int .i64 e.Back.At)], .agg [V.v (.int .i64 f), .lst (some 6) (strs l)], V.v (.int .i64 r), V.v (.int .i64 n)] [] [] = some ⟨.tup [.agg [V.v (.bool e'.Vi), V.v (.int .i64 e'.Mode), .own 0, V.v (.int .i64 e'.Line.At), V.v (.int .i64 e'.Count), V.v (.int .i64 e'.Op), V.v (.int .i64 e'.OpCount), V.v (.int .i64 e'.Wait), V.v (.int .i64 e'.FindR), V.v (.int .i64 e'.FindHow), V.v (.int .i64 e'.Last), .own 1, .own 2, V.v (.int .i64 e'.Nav), .own 3, V.v (.int .i64 e'.Own.At), .own 4, V.v (.int .i64 e'.Hit), .own 5, V.v (.int .i64 e'.Back.At)], V.v (.int .i64 act)], [], [(0, ints e'.Line.Text), (1, dPieces e'.Ring.Pieces), (2, dLines e'.Undo.Lines), (3, ints e'.Own.Text), (4, ints e'.Query), (5, ints e'.Back.Text)]⟩) :
    M_iEdKey [.agg [V.v (.bool e.Vi), V.v (.int .i64 e.Mode), .lst (some 0) (ints e.Line.Text), V.v (.int .i64 e.Line.At), V.v (.int .i64 e.Count), V.v (.int .i64 e.Op), V.v (.int .i64 e.OpCount), V.v (.int .i64 e.Wait), V.v (.int .i64 e.FindR), V.v (.int .i64 e.FindHow), V.v (.int .i64 e.Last), .lst (some 1) (dPieces e.Ring.Pieces), .lst (some 2) (dLines e.Undo.Lines), V.v (.int .i64 e.Nav), .lst (some 3) (ints e.Own.Text), V.v (.int .i64 e.Own.At), .lst (some 4) (ints e.Query), V.v (.int .i64 e.Hit), .lst (some 5) (ints e.Back.Text), V.v (.int .i64 e.Back.At)], .agg [V.v (.int .i64 f), .lst (some 6) (strs l)], .agg [V.v (.int .i64 1), V.v (.int .i64 r)]] [] [] = some ⟨.tup [.agg [V.v (.bool e'.Vi), V.v (.int .i64 e'.Mode), .own 0, V.v (.int .i64 e'.Line.At), V.v (.int .i64 e'.Count), V.v (.int .i64 e'.Op), V.v (.int .i64 e'.OpCount), V.v (.int .i64 e'.Wait), V.v (.int .i64 e'.FindR), V.v (.int .i64 e'.FindHow), V.v (.int .i64 e'.Last), .own 1, .own 2, V.v (.int .i64 e'.Nav), .own 3, V.v (.int .i64 e'.Own.At), .own 4, V.v (.int .i64 e'.Hit), .own 5, V.v (.int .i64 e'.Back.At)], V.v (.int .i64 act)], [], [(0, ints e'.Line.Text), (1, dPieces e'.Ring.Pieces), (2, dLines e'.Undo.Lines), (3, ints e'.Own.Text), (4, ints e'.Query), (5, ints e'.Back.Text)]⟩ := by
  have c1 : 0 ≤ e.Count ∧ e.Count ≤ 999 ∧ 0 ≤ e.OpCount ∧ e.OpCount ≤ 999 := by
    have ok := ok
    simp only [TEd.ok, edOk, Bool.and_eq_true] at ok
    have a4 := inR_of ok.2.2.2.1
    have a5 := inR_of ok.2.2.2.2.1
    omega
  have hmul : max e.Count 1 * max e.OpCount 1 ≤ 999 * 999 := Int.mul_le_mul (by omega) (by omega) (by omega) (by omega)
  have hmul0 : 0 ≤ max e.Count 1 * max e.OpCount 1 := Int.mul_nonneg (by omega) (by omega)
  have w := w64 (max e.Count 1 * max e.OpCount 1) (by omega)
  have e1 := E_iEdOk' e ok
  have e2 := E_iHistOk f l hh
  have e3 := E_iKeyOk_rune r hr
  have e4 : M_icanKey [.agg [V.v (.bool e.Vi), V.v (.int .i64 e.Mode), .lst (some 0) (ints e.Line.Text), V.v (.int .i64 e.Line.At), V.v (.int .i64 e.Count), V.v (.int .i64 e.Op), V.v (.int .i64 e.OpCount), V.v (.int .i64 e.Wait), V.v (.int .i64 e.FindR), V.v (.int .i64 e.FindHow), V.v (.int .i64 e.Last), .lst (some 1) (dPieces e.Ring.Pieces), .lst (some 2) (dLines e.Undo.Lines), V.v (.int .i64 e.Nav), .lst (some 3) (ints e.Own.Text), V.v (.int .i64 e.Own.At), .lst (some 4) (ints e.Query), V.v (.int .i64 e.Hit), .lst (some 5) (ints e.Back.Text), V.v (.int .i64 e.Back.At)], .agg [V.v (.int .i64 f), .lst (some 6) (strs l)], .agg [V.v (.int .i64 1), V.v (.int .i64 r)]] [] [] = some ⟨V.v (.bool true), [], []⟩ := by
    unfold M_icanKey
    simp [Tryz.func79, Tryz.f79, e1, e2, e3]
  have e5 : M_iViKey [.agg [V.v (.bool e.Vi), V.v (.int .i64 e.Mode), .lst (some 0) (ints e.Line.Text), V.v (.int .i64 e.Line.At), V.v (.int .i64 e.Count), V.v (.int .i64 e.Op), V.v (.int .i64 e.OpCount), V.v (.int .i64 e.Wait), V.v (.int .i64 e.FindR), V.v (.int .i64 e.FindHow), V.v (.int .i64 e.Last), .lst (some 1) (dPieces e.Ring.Pieces), .lst (some 2) (dLines e.Undo.Lines), V.v (.int .i64 e.Nav), .lst (some 3) (ints e.Own.Text), V.v (.int .i64 e.Own.At), .lst (some 4) (ints e.Query), V.v (.int .i64 e.Hit), .lst (some 5) (ints e.Back.Text), V.v (.int .i64 e.Back.At)], .agg [V.v (.int .i64 f), .lst (some 6) (strs l)], .agg [V.v (.int .i64 1), V.v (.int .i64 r)]] [] [] = some ⟨.tup [.agg [V.v (.bool e'.Vi), V.v (.int .i64 e'.Mode), .own 0, V.v (.int .i64 e'.Line.At), V.v (.int .i64 e'.Count), V.v (.int .i64 e'.Op), V.v (.int .i64 e'.OpCount), V.v (.int .i64 e'.Wait), V.v (.int .i64 e'.FindR), V.v (.int .i64 e'.FindHow), V.v (.int .i64 e'.Last), .own 1, .own 2, V.v (.int .i64 e'.Nav), .own 3, V.v (.int .i64 e'.Own.At), .own 4, V.v (.int .i64 e'.Hit), .own 5, V.v (.int .i64 e'.Back.At)], V.v (.int .i64 act)], [], [(0, ints e'.Line.Text), (1, dPieces e'.Ring.Pieces), (2, dLines e'.Undo.Lines), (3, ints e'.Own.Text), (4, ints e'.Query), (5, ints e'.Back.Text)]⟩ := by
    simp only [hm, hw] at e4 h ⊢
    generalize hE : M_iViKey _ _ _ = R
    unfold M_iViKey at hE
    simp [Tryz.func72, Tryz.f72, e4, h, w, hn] at hE
    exact hE.symm
  simp only [hm, hw] at e5 ⊢
  generalize hE : M_iEdKey _ _ _ = R
  unfold M_iEdKey at hE
  simp [Tryz.func49, Tryz.f49, e5] at hE
  exact hE.symm
end Go.Proofs.YtnmneoekpikpkaaGreatDoor
namespace Go.Proofs.YtnmneoekpikpkaaGreatDoor
open Go.RowKit
set_option linter.unusedSimpArgs false
set_option linter.unusedVariables false
set_option maxHeartbeats 8000000
set_option maxRecDepth 10000
theorem rowsS_strs (l : List ByteArray) : rowsS l = strs l := rfl
theorem E_split (s sep : ByteArray) (L : List ByteArray) (h1 : 1 ≤ sep.size) (h2 : s.size < 4294967281) (h : splitOf s sep = L) : M_strings_Split [V.v (.string s), V.v (.string sep)] [] [] = some ⟨.own 0, [], [(0, strs L)]⟩ := by
  show (if 1 ≤ sep.size ∧ s.size < 4294967281 then some (⟨.own 0, [], [(0, rowsS (splitOf s sep))]⟩ : Res) else none) = _
  rw [if_pos ⟨h1, h2⟩, h, rowsS_strs]
theorem toList_ne {a b : ByteArray} (h : ¬ a = b) : ¬ a.toList = b.toList := fun e => h (by
  rw [ByteArray.toList_eq, ByteArray.toList_eq] at e
  cases a; cases b
  simp only at e
  rw [ByteArray.mk.injEq]
  exact Array.toList_inj.1 e)
def keyNames : List ByteArray := [⟨#[69, 78, 84, 69, 82]⟩, ⟨#[66, 65, 67, 75]⟩, ⟨#[84, 65, 66]⟩, ⟨#[69, 83, 67]⟩, ⟨#[85, 80]⟩, ⟨#[68, 79, 87, 78]⟩, ⟨#[82, 73, 71, 72, 84]⟩, ⟨#[76, 69, 70, 84]⟩, ⟨#[72, 79, 77, 69]⟩, ⟨#[69, 78, 68]⟩, ⟨#[68, 69, 76, 69, 84, 69]⟩, ⟨#[77, 66, 65, 67, 75]⟩, ⟨#[66, 65, 68]⟩]
theorem split_names : splitOf ⟨List.toArray (69 :: 78 :: 84 :: 69 :: 82 :: 32 :: 66 :: 65 :: 67 :: 75 :: 32 :: 84 :: 65 :: 66 :: 32 :: 69 :: 83 :: 67 :: 32 :: 85 :: 80 :: 32 :: 68 :: 79 :: 87 :: 78 :: 32 :: 82 :: 73 :: 71 :: 72 :: 84 :: 32 :: 76 :: 69 :: 70 :: 84 :: 32 :: 72 :: 79 :: 77 :: 69 :: 32 :: 69 :: 78 :: 68 :: 32 :: 68 :: 69 :: 76 :: 69 :: 84 :: 69 :: 32 :: 77 :: 66 :: 65 :: 67 :: 75 :: 32 :: 66 :: 65 :: 68 :: [])⟩ ⟨#[32]⟩ = keyNames := by decide +kernel
theorem E_names : M_strings_Split [V.v (.string (⟨List.toArray (69 :: 78 :: 84 :: 69 :: 82 :: 32 :: 66 :: 65 :: 67 :: 75 :: 32 :: 84 :: 65 :: 66 :: 32 :: 69 :: 83 :: 67 :: 32 :: 85 :: 80 :: 32 :: 68 :: 79 :: 87 :: 78 :: 32 :: 82 :: 73 :: 71 :: 72 :: 84 :: 32 :: 76 :: 69 :: 70 :: 84 :: 32 :: 72 :: 79 :: 77 :: 69 :: 32 :: 69 :: 78 :: 68 :: 32 :: 68 :: 69 :: 76 :: 69 :: 84 :: 69 :: 32 :: 77 :: 66 :: 65 :: 67 :: 75 :: 32 :: 66 :: 65 :: 68 :: [])⟩)), V.v (.string (⟨#[32]⟩))] [] [] = some ⟨.own 0, [], [(0, strs keyNames)]⟩ := E_split _ _ _ (by decide) (by decide) split_names
theorem E_iParts (s : ByteArray) (L : List ByteArray) (h2 : s.size < 4294967281) (h : splitOf s ⟨#[32]⟩ = L) : M_iParts [V.v (.string s)] [] [] = some ⟨.own 0, [], [(0, strs L)]⟩ := by
  have e := E_split s ⟨#[32]⟩ L (by decide) h2 h
  unfold M_iParts
  simp [Tryz.func24, Tryz.f24, e]
theorem keyNames_len : keyNames.length = 13 := rfl
theorem E_iTextKey_name (s : ByteArray) (k : Nat) (hk : k < 13) (h1 : keyNames[k]? = some s) (h2 : ∀ j, j < k → ¬ keyNames[j]? = some s) :
    M_iTextKey [V.v (.string s)] [] [] = some ⟨.tup [.agg [V.v (.int .i64 (4 + (k : Int))), V.v (.int .i64 0)], V.v (.bool true)], [], []⟩ := by
  have e := E_names
  have hl := keyNames_len
  have w := w64 (4 + (k : Int)) (by omega)
  have hkl : k < keyNames.length := by omega
  generalize keyNames = L at *
  rw [List.getElem?_eq_getElem hkl] at h1
  injection h1 with h1
  unfold M_iTextKey
  simp [Tryz.func25, Tryz.f25, e, hl]
  rw [loopV_go (fun j => .on ⟨[(11, V.v (.int .i64 ((j : Int)))), (10, V.v (.int .i64 13)), (9, .own 2000000000), (2, .ref 2 0), (0, V.v (.string s))], [(2, [V.v (.int .i64 0), V.v (.int .i64 0)])], [(2000000000, strs L)], []⟩) k ?_ ?_]
  · have g : (k : Int) < 13 := by omega
    simp [hkl, hl, h1, w, g, strs_get hkl]
  · simp
  · intro j hj
    have hjl : j < L.length := by omega
    have hw := w64 ((j : Int) + 1) (by omega)
    have g : (j : Int) < 13 := by omega
    have g2 : ¬ L[j] = s := fun e => h2 j hj (by rw [List.getElem?_eq_getElem hjl, e])
    simp [hjl, hw, hl, g, toList_ne g2, strs_get hjl]
theorem E_UP : M_iTextKey [V.v (.string (⟨#[85, 80]⟩))] [] [] = some ⟨.tup [.agg [V.v (.int .i64 8), V.v (.int .i64 0)], V.v (.bool true)], [], []⟩ :=
  E_iTextKey_name ⟨#[85, 80]⟩ 4 (by omega) (by decide) (by decide)
theorem E_DOWN : M_iTextKey [V.v (.string (⟨#[68, 79, 87, 78]⟩))] [] [] = some ⟨.tup [.agg [V.v (.int .i64 9), V.v (.int .i64 0)], V.v (.bool true)], [], []⟩ :=
  E_iTextKey_name ⟨#[68, 79, 87, 78]⟩ 5 (by omega) (by decide) (by decide)
theorem E_iEdKeys_one (e e' : TEd) (ok : e.ok = true) (f act : Int) (l : List ByteArray) (hh : HistI f l) (k : Int) (hk : 4 ≤ k ∧ k ≤ 16) (h : M_iEdKey [.agg [V.v (.bool e.Vi), V.v (.int .i64 e.Mode), .lst (some 0) (ints e.Line.Text), V.v (.int .i64 e.Line.At), V.v (.int .i64 e.Count), V.v (.int .i64 e.Op), V.v (.int .i64 e.OpCount), V.v (.int .i64 e.Wait), V.v (.int .i64 e.FindR), V.v (.int .i64 e.FindHow), V.v (.int .i64 e.Last), .lst (some 1) (dPieces e.Ring.Pieces), .lst (some 2) (dLines e.Undo.Lines), V.v (.int .i64 e.Nav), .lst (some 3) (ints e.Own.Text), V.v (.int .i64 e.Own.At), .lst (some 4) (ints e.Query), V.v (.int .i64 e.Hit), .lst (some 5) (ints e.Back.Text), V.v (.int .i64 e.Back.At)], .agg [V.v (.int .i64 f), .lst (some 6) (strs l)], .agg [V.v (.int .i64 k), V.v (.int .i64 0)]] [] [] = some ⟨.tup [.agg [V.v (.bool e'.Vi), V.v (.int .i64 e'.Mode), .own 0, V.v (.int .i64 e'.Line.At), V.v (.int .i64 e'.Count), V.v (.int .i64 e'.Op), V.v (.int .i64 e'.OpCount), V.v (.int .i64 e'.Wait), V.v (.int .i64 e'.FindR), V.v (.int .i64 e'.FindHow), V.v (.int .i64 e'.Last), .own 1, .own 2, V.v (.int .i64 e'.Nav), .own 3, V.v (.int .i64 e'.Own.At), .own 4, V.v (.int .i64 e'.Hit), .own 5, V.v (.int .i64 e'.Back.At)], V.v (.int .i64 act)], [], [(0, ints e'.Line.Text), (1, dPieces e'.Ring.Pieces), (2, dLines e'.Undo.Lines), (3, ints e'.Own.Text), (4, ints e'.Query), (5, ints e'.Back.Text)]⟩) :
    M_iEdKeys [.agg [V.v (.bool e.Vi), V.v (.int .i64 e.Mode), .lst (some 0) (ints e.Line.Text), V.v (.int .i64 e.Line.At), V.v (.int .i64 e.Count), V.v (.int .i64 e.Op), V.v (.int .i64 e.OpCount), V.v (.int .i64 e.Wait), V.v (.int .i64 e.FindR), V.v (.int .i64 e.FindHow), V.v (.int .i64 e.Last), .lst (some 1) (dPieces e.Ring.Pieces), .lst (some 2) (dLines e.Undo.Lines), V.v (.int .i64 e.Nav), .lst (some 3) (ints e.Own.Text), V.v (.int .i64 e.Own.At), .lst (some 4) (ints e.Query), V.v (.int .i64 e.Hit), .lst (some 5) (ints e.Back.Text), V.v (.int .i64 e.Back.At)], .agg [V.v (.int .i64 f), .lst (some 6) (strs l)], .lst (some 7) [[D.a (.int .i64 k), D.a (.int .i64 0)]]] [] [] = some ⟨.tup [.agg [V.v (.bool e'.Vi), V.v (.int .i64 e'.Mode), .own 0, V.v (.int .i64 e'.Line.At), V.v (.int .i64 e'.Count), V.v (.int .i64 e'.Op), V.v (.int .i64 e'.OpCount), V.v (.int .i64 e'.Wait), V.v (.int .i64 e'.FindR), V.v (.int .i64 e'.FindHow), V.v (.int .i64 e'.Last), .own 1, .own 2, V.v (.int .i64 e'.Nav), .own 3, V.v (.int .i64 e'.Own.At), .own 4, V.v (.int .i64 e'.Hit), .own 5, V.v (.int .i64 e'.Back.At)], .own 6], [], [(0, ints e'.Line.Text), (1, dPieces e'.Ring.Pieces), (2, dLines e'.Undo.Lines), (3, ints e'.Own.Text), (4, ints e'.Query), (5, ints e'.Back.Text), (6, [[D.a (.int .i64 act)]])]⟩ := by
  have e1 := E_iEdOk' e ok
  have e2 := E_iHistOk f l hh
  have e3 := E_iKeyOk_name k hk
  have e4 := E_icopyEd e (EdB.of ok)
  generalize hE : M_iEdKeys _ _ _ = R
  unfold M_iEdKeys at hE
  simp [Tryz.func26, Tryz.f26, e1, e2] at hE
  rw [loopV_unf] at hE
  simp [e3] at hE
  rw [loopV_unf] at hE
  simp [e4] at hE
  rw [loopV_unf] at hE
  simp [h] at hE
  rw [loopV_unf] at hE
  simp at hE
  exact hE.symm
end Go.Proofs.YtnmneoekpikpkaaGreatDoor
namespace Go.Proofs.YtnmneoekpikpkaaGreatDoor
open Go.RowKit
set_option linter.unusedSimpArgs false
set_option linter.unusedVariables false
set_option maxHeartbeats 8000000
set_option maxRecDepth 10000
theorem E_iKeyText_rune (s : ByteArray) (r : Int) (h : Reads s.data.toList [r] []) (hp : printable r = true) (h32 : ¬ r = 32) : M_iKeyText [.agg [V.v (.int .i64 1), V.v (.int .i64 r)]] [] [] = some ⟨V.v (.string s), [], []⟩ := by
  have e1 := E_iKeyOk_rune r hp
  have e2 := E_iTextOf [r] (by simp)
  have e3 : (⟨(textOf [r]).toArray⟩ : ByteArray) = s := by
    have := h.1
    rw [List.append_nil] at this
    cases s with | mk d =>
    simp only at this
    rw [← this]
  rw [e3] at e2
  simp only [ints_cons, ints_nil] at e2
  unfold M_iKeyText
  simp [Tryz.func46, Tryz.f46, e1, e2, h32]
theorem E_iTextKey_rune (s : ByteArray) (r : Int) (h : Reads s.data.toList [r] []) (hs : s.size ≤ 100) (hp : printable r = true) (h32 : ¬ r = 32) (h2 : ∀ j, j < 13 → ¬ keyNames[j]? = some s) (h3 : ¬ s = ⟨#[83, 80, 67]⟩) :
    M_iTextKey [V.v (.string s)] [] [] = some ⟨.tup [.agg [V.v (.int .i64 1), V.v (.int .i64 r)], V.v (.bool true)], [], []⟩ := by
  have e := E_names
  have hl := keyNames_len
  have e1 := E_iRunesOf s [r] [] h (by omega)
  have e2 := E_iKeyText_rune s r h hp h32
  simp only [List.isEmpty_nil, if_true, ints_cons, ints_nil] at e1
  generalize keyNames = L at *
  unfold M_iTextKey
  simp [Tryz.func25, Tryz.f25, e, hl]
  rw [loopV_go (fun j => .on ⟨[(11, V.v (.int .i64 ((j : Int)))), (10, V.v (.int .i64 13)), (9, .own 2000000000), (2, .ref 2 0), (0, V.v (.string s))], [(2, [V.v (.int .i64 0), V.v (.int .i64 0)])], [(2000000000, strs L)], []⟩) 13 ?_ ?_]
  · have h3' : ¬ s.toList = [83, 80, 67] := fun e => toList_ne h3 (by rw [e, ByteArray.toList_eq])
    simp [e1, e2, h3']
  · simp
  · intro j hj
    have hjl : j < L.length := by omega
    have hw := w64 ((j : Int) + 1) (by omega)
    have g : (j : Int) < 13 := by omega
    have g2 : ¬ L[j] = s := fun e => h2 j hj (by rw [List.getElem?_eq_getElem hjl, e])
    simp [hjl, hw, hl, g, toList_ne g2, strs_get hjl]
theorem E_iEdKeys (e : TEd) (ok : e.ok = true) (f : Int) (l : List ByteArray) (hh : HistI f l) (ks : List TKey) (hk1 : ks.length ≤ 10) (hk : ∀ k ∈ ks, M_iKeyOk [.agg [V.v (.int .i64 k.Kind), V.v (.int .i64 k.R)]] [] [] = some ⟨V.v (.bool true), [], []⟩) (es : Nat → TEd) (acts : Nat → Int) (h0 : es 0 = e)
    (hs : ∀ j, (hj : j < ks.length) → M_iEdKey [.agg [V.v (.bool ((es j).Vi)), V.v (.int .i64 ((es j).Mode)), .lst (some 0) (ints ((es j).Line.Text)), V.v (.int .i64 ((es j).Line.At)), V.v (.int .i64 ((es j).Count)), V.v (.int .i64 ((es j).Op)), V.v (.int .i64 ((es j).OpCount)), V.v (.int .i64 ((es j).Wait)), V.v (.int .i64 ((es j).FindR)), V.v (.int .i64 ((es j).FindHow)), V.v (.int .i64 ((es j).Last)), .lst (some 1) (dPieces ((es j).Ring.Pieces)), .lst (some 2) (dLines ((es j).Undo.Lines)), V.v (.int .i64 ((es j).Nav)), .lst (some 3) (ints ((es j).Own.Text)), V.v (.int .i64 ((es j).Own.At)), .lst (some 4) (ints ((es j).Query)), V.v (.int .i64 ((es j).Hit)), .lst (some 5) (ints ((es j).Back.Text)), V.v (.int .i64 ((es j).Back.At))], .agg [V.v (.int .i64 f), .lst (some 6) (strs l)], .agg [V.v (.int .i64 (ks[j].Kind)), V.v (.int .i64 (ks[j].R))]] [] [] = some ⟨.tup [.agg [V.v (.bool ((es (j + 1)).Vi)), V.v (.int .i64 ((es (j + 1)).Mode)), .own 0, V.v (.int .i64 ((es (j + 1)).Line.At)), V.v (.int .i64 ((es (j + 1)).Count)), V.v (.int .i64 ((es (j + 1)).Op)), V.v (.int .i64 ((es (j + 1)).OpCount)), V.v (.int .i64 ((es (j + 1)).Wait)), V.v (.int .i64 ((es (j + 1)).FindR)), V.v (.int .i64 ((es (j + 1)).FindHow)), V.v (.int .i64 ((es (j + 1)).Last)), .own 1, .own 2, V.v (.int .i64 ((es (j + 1)).Nav)), .own 3, V.v (.int .i64 ((es (j + 1)).Own.At)), .own 4, V.v (.int .i64 ((es (j + 1)).Hit)), .own 5, V.v (.int .i64 ((es (j + 1)).Back.At))], V.v (.int .i64 (acts j))], [], [(0, ints ((es (j + 1)).Line.Text)), (1, dPieces ((es (j + 1)).Ring.Pieces)), (2, dLines ((es (j + 1)).Undo.Lines)), (3, ints ((es (j + 1)).Own.Text)), (4, ints ((es (j + 1)).Query)), (5, ints ((es (j + 1)).Back.Text))]⟩) :
    M_iEdKeys [.agg [V.v (.bool e.Vi), V.v (.int .i64 e.Mode), .lst (some 0) (ints e.Line.Text), V.v (.int .i64 e.Line.At), V.v (.int .i64 e.Count), V.v (.int .i64 e.Op), V.v (.int .i64 e.OpCount), V.v (.int .i64 e.Wait), V.v (.int .i64 e.FindR), V.v (.int .i64 e.FindHow), V.v (.int .i64 e.Last), .lst (some 1) (dPieces e.Ring.Pieces), .lst (some 2) (dLines e.Undo.Lines), V.v (.int .i64 e.Nav), .lst (some 3) (ints e.Own.Text), V.v (.int .i64 e.Own.At), .lst (some 4) (ints e.Query), V.v (.int .i64 e.Hit), .lst (some 5) (ints e.Back.Text), V.v (.int .i64 e.Back.At)], .agg [V.v (.int .i64 f), .lst (some 6) (strs l)], .lst (some 7) (dKeys ks)] [] [] = some ⟨.tup [.agg [V.v (.bool ((es ks.length).Vi)), V.v (.int .i64 ((es ks.length).Mode)), .own 0, V.v (.int .i64 ((es ks.length).Line.At)), V.v (.int .i64 ((es ks.length).Count)), V.v (.int .i64 ((es ks.length).Op)), V.v (.int .i64 ((es ks.length).OpCount)), V.v (.int .i64 ((es ks.length).Wait)), V.v (.int .i64 ((es ks.length).FindR)), V.v (.int .i64 ((es ks.length).FindHow)), V.v (.int .i64 ((es ks.length).Last)), .own 1, .own 2, V.v (.int .i64 ((es ks.length).Nav)), .own 3, V.v (.int .i64 ((es ks.length).Own.At)), .own 4, V.v (.int .i64 ((es ks.length).Hit)), .own 5, V.v (.int .i64 ((es ks.length).Back.At))], .own 6], [], [(0, ints ((es ks.length).Line.Text)), (1, dPieces ((es ks.length).Ring.Pieces)), (2, dLines ((es ks.length).Undo.Lines)), (3, ints ((es ks.length).Own.Text)), (4, ints ((es ks.length).Query)), (5, ints ((es ks.length).Back.Text)), (6, ints ((List.range ks.length).map acts))]⟩ := by
  have e1 := E_iEdOk' e ok
  have e2 := E_iHistOk f l hh
  have e4 := E_icopyEd e (EdB.of ok)
  generalize hE : M_iEdKeys _ _ _ = R
  unfold M_iEdKeys at hE
  simp [Tryz.func26, Tryz.f26, e1, e2] at hE
  rw [loopV_go (fun j => .on ⟨[(27, V.v (.int .i64 ((j : Int)))), (26, V.v (.int .i64 ((ks.length : Int)))), (25, .lst (some 7) (dKeys ks)), (6, .ref 6 0), (4, .ref 4 0), (3, .ref 3 0), (2, .lst (some 7) (dKeys ks))], [(6, [V.v (.bool false), V.v (.int .i64 0), .own 2000000000, V.v (.int .i64 0), V.v (.int .i64 0), V.v (.int .i64 0), V.v (.int .i64 0), V.v (.int .i64 0), V.v (.int .i64 0), V.v (.int .i64 0), V.v (.int .i64 0), .own 2000000001, .own 2000000002, V.v (.int .i64 0), .own 2000000003, V.v (.int .i64 0), .own 2000000004, V.v (.int .i64 0), .own 2000000005, V.v (.int .i64 0)]), (4, [V.v (.int .i64 f), .lst (some 6) (strs l)]), (3, [V.v (.bool e.Vi), V.v (.int .i64 e.Mode), .lst (some 0) (ints e.Line.Text), V.v (.int .i64 e.Line.At), V.v (.int .i64 e.Count), V.v (.int .i64 e.Op), V.v (.int .i64 e.OpCount), V.v (.int .i64 e.Wait), V.v (.int .i64 e.FindR), V.v (.int .i64 e.FindHow), V.v (.int .i64 e.Last), .lst (some 1) (dPieces e.Ring.Pieces), .lst (some 2) (dLines e.Undo.Lines), V.v (.int .i64 e.Nav), .lst (some 3) (ints e.Own.Text), V.v (.int .i64 e.Own.At), .lst (some 4) (ints e.Query), V.v (.int .i64 e.Hit), .lst (some 5) (ints e.Back.Text), V.v (.int .i64 e.Back.At)])], [(2000000005, []), (2000000004, []), (2000000003, []), (2000000002, []), (2000000001, []), (2000000000, [])], []⟩) ks.length ?_ ?_] at hE
  · simp [e4] at hE
    rw [loopV_go (fun j => .on ⟨[(40, V.v (.int .i64 ((j : Int)))), (39, V.v (.int .i64 ((ks.length : Int)))), (38, .lst (some 7) (dKeys ks)), (11, .own 2000000000), (10, .ref 10 0), (6, .ref 6 0), (4, .ref 4 0)], [(10, [V.v (.bool ((es j).Vi)), V.v (.int .i64 ((es j).Mode)), .own 2000000001, V.v (.int .i64 ((es j).Line.At)), V.v (.int .i64 ((es j).Count)), V.v (.int .i64 ((es j).Op)), V.v (.int .i64 ((es j).OpCount)), V.v (.int .i64 ((es j).Wait)), V.v (.int .i64 ((es j).FindR)), V.v (.int .i64 ((es j).FindHow)), V.v (.int .i64 ((es j).Last)), .own 2000000002, .own 2000000003, V.v (.int .i64 ((es j).Nav)), .own 2000000004, V.v (.int .i64 ((es j).Own.At)), .own 2000000005, V.v (.int .i64 ((es j).Hit)), .own 2000000006, V.v (.int .i64 ((es j).Back.At))]), (6, [V.v (.bool false), V.v (.int .i64 0), .own 2000000007, V.v (.int .i64 0), V.v (.int .i64 0), V.v (.int .i64 0), V.v (.int .i64 0), V.v (.int .i64 0), V.v (.int .i64 0), V.v (.int .i64 0), V.v (.int .i64 0), .own 2000000008, .own 2000000009, V.v (.int .i64 0), .own 2000000010, V.v (.int .i64 0), .own 2000000011, V.v (.int .i64 0), .own 2000000012, V.v (.int .i64 0)]), (4, [V.v (.int .i64 f), .lst (some 6) (strs l)])], [(2000000012, []), (2000000011, []), (2000000010, []), (2000000009, []), (2000000008, []), (2000000007, []), (2000000006, ints (es j).Back.Text), (2000000005, ints (es j).Query), (2000000004, ints (es j).Own.Text), (2000000003, dLines (es j).Undo.Lines), (2000000002, dPieces (es j).Ring.Pieces), (2000000001, ints (es j).Line.Text), (2000000000, ints ((List.range j).map acts))], []⟩) ks.length ?_ ?_] at hE
    · simp at hE
      exact hE.symm
    · simp [h0, ints_nil]
    · intro j hj
      have hw := w64 ((j : Int) + 1) (by omega)
      have e5 := hs j hj
      have g1 : (j + 1) * 8 ≤ 140737488355328 := by omega
      have g2 : j + 1 ≤ 4611686018427387904 := by omega
      have g3 : j ≤ 4611686018427387903 := by omega
      have g6 : ints ((List.range (j + 1)).map acts) = ints ((List.range j).map acts) ++ [[D.a (.int .i64 (acts j))]] := by rw [List.range_succ, List.map_append, ints_app]; rfl
      simp [hj, hw, dKeys_get hj, e5, g1, g2, g3, g6]
  · simp
  · intro j hj
    have hw := w64 ((j : Int) + 1) (by omega)
    have e5 := hk ks[j] (List.getElem_mem hj)
    simp [hj, hw, dKeys_get hj, e5]
theorem E_iEdTyped (e e' : TEd) (f : Int) (l : List ByteArray) (s : ByteArray) (ps : List ByteArray) (ks : List TKey) (acl : List Int) (hs : s.size < 4294967281) (hp : splitOf s ⟨#[32]⟩ = ps) (hl : ps.length = ks.length) (hl2 : ks.length ≤ 10)
    (ht : ∀ j, (hj : j < ks.length) → M_iTextKey [V.v (.string (ps[j]'(by omega)))] [] [] = some ⟨.tup [.agg [V.v (.int .i64 (ks[j].Kind)), V.v (.int .i64 (ks[j].R))], V.v (.bool true)], [], []⟩)
    (h : M_iEdKeys [.agg [V.v (.bool e.Vi), V.v (.int .i64 e.Mode), .lst (some 0) (ints e.Line.Text), V.v (.int .i64 e.Line.At), V.v (.int .i64 e.Count), V.v (.int .i64 e.Op), V.v (.int .i64 e.OpCount), V.v (.int .i64 e.Wait), V.v (.int .i64 e.FindR), V.v (.int .i64 e.FindHow), V.v (.int .i64 e.Last), .lst (some 1) (dPieces e.Ring.Pieces), .lst (some 2) (dLines e.Undo.Lines), V.v (.int .i64 e.Nav), .lst (some 3) (ints e.Own.Text), V.v (.int .i64 e.Own.At), .lst (some 4) (ints e.Query), V.v (.int .i64 e.Hit), .lst (some 5) (ints e.Back.Text), V.v (.int .i64 e.Back.At)], .agg [V.v (.int .i64 f), .lst (some 6) (strs l)], .lst (some 7) (dKeys ks)] [] [] = some ⟨.tup [.agg [V.v (.bool e'.Vi), V.v (.int .i64 e'.Mode), .own 0, V.v (.int .i64 e'.Line.At), V.v (.int .i64 e'.Count), V.v (.int .i64 e'.Op), V.v (.int .i64 e'.OpCount), V.v (.int .i64 e'.Wait), V.v (.int .i64 e'.FindR), V.v (.int .i64 e'.FindHow), V.v (.int .i64 e'.Last), .own 1, .own 2, V.v (.int .i64 e'.Nav), .own 3, V.v (.int .i64 e'.Own.At), .own 4, V.v (.int .i64 e'.Hit), .own 5, V.v (.int .i64 e'.Back.At)], .own 6], [], [(0, ints e'.Line.Text), (1, dPieces e'.Ring.Pieces), (2, dLines e'.Undo.Lines), (3, ints e'.Own.Text), (4, ints e'.Query), (5, ints e'.Back.Text), (6, ints acl)]⟩) :
    M_iEdTyped [.agg [V.v (.bool e.Vi), V.v (.int .i64 e.Mode), .lst (some 0) (ints e.Line.Text), V.v (.int .i64 e.Line.At), V.v (.int .i64 e.Count), V.v (.int .i64 e.Op), V.v (.int .i64 e.OpCount), V.v (.int .i64 e.Wait), V.v (.int .i64 e.FindR), V.v (.int .i64 e.FindHow), V.v (.int .i64 e.Last), .lst (some 1) (dPieces e.Ring.Pieces), .lst (some 2) (dLines e.Undo.Lines), V.v (.int .i64 e.Nav), .lst (some 3) (ints e.Own.Text), V.v (.int .i64 e.Own.At), .lst (some 4) (ints e.Query), V.v (.int .i64 e.Hit), .lst (some 5) (ints e.Back.Text), V.v (.int .i64 e.Back.At)], .agg [V.v (.int .i64 f), .lst (some 6) (strs l)], V.v (.string s)] [] [] = some ⟨.tup [.agg [V.v (.bool e'.Vi), V.v (.int .i64 e'.Mode), .own 0, V.v (.int .i64 e'.Line.At), V.v (.int .i64 e'.Count), V.v (.int .i64 e'.Op), V.v (.int .i64 e'.OpCount), V.v (.int .i64 e'.Wait), V.v (.int .i64 e'.FindR), V.v (.int .i64 e'.FindHow), V.v (.int .i64 e'.Last), .own 1, .own 2, V.v (.int .i64 e'.Nav), .own 3, V.v (.int .i64 e'.Own.At), .own 4, V.v (.int .i64 e'.Hit), .own 5, V.v (.int .i64 e'.Back.At)], .own 6], [], [(0, ints e'.Line.Text), (1, dPieces e'.Ring.Pieces), (2, dLines e'.Undo.Lines), (3, ints e'.Own.Text), (4, ints e'.Query), (5, ints e'.Back.Text), (6, ints acl)]⟩ := by
  have e1 := E_iParts s ps hs hp
  generalize hE : M_iEdTyped _ _ _ = R
  unfold M_iEdTyped at hE
  simp [Tryz.func10, Tryz.f10, e1, hl] at hE
  rw [loopV_go (fun j => .on ⟨[(16, V.v (.int .i64 ((j : Int)))), (15, V.v (.int .i64 ((ks.length : Int)))), (14, .own 2000000000), (8, .own 2000000001), (6, .ref 6 0), (4, .ref 4 0), (3, .ref 3 0)], [(6, [V.v (.bool false), V.v (.int .i64 0), .own 2000000002, V.v (.int .i64 0), V.v (.int .i64 0), V.v (.int .i64 0), V.v (.int .i64 0), V.v (.int .i64 0), V.v (.int .i64 0), V.v (.int .i64 0), V.v (.int .i64 0), .own 2000000003, .own 2000000004, V.v (.int .i64 0), .own 2000000005, V.v (.int .i64 0), .own 2000000006, V.v (.int .i64 0), .own 2000000007, V.v (.int .i64 0)]), (4, [V.v (.int .i64 f), .lst (some 6) (strs l)]), (3, [V.v (.bool e.Vi), V.v (.int .i64 e.Mode), .lst (some 0) (ints e.Line.Text), V.v (.int .i64 e.Line.At), V.v (.int .i64 e.Count), V.v (.int .i64 e.Op), V.v (.int .i64 e.OpCount), V.v (.int .i64 e.Wait), V.v (.int .i64 e.FindR), V.v (.int .i64 e.FindHow), V.v (.int .i64 e.Last), .lst (some 1) (dPieces e.Ring.Pieces), .lst (some 2) (dLines e.Undo.Lines), V.v (.int .i64 e.Nav), .lst (some 3) (ints e.Own.Text), V.v (.int .i64 e.Own.At), .lst (some 4) (ints e.Query), V.v (.int .i64 e.Hit), .lst (some 5) (ints e.Back.Text), V.v (.int .i64 e.Back.At)])], [(2000000007, []), (2000000006, []), (2000000005, []), (2000000004, []), (2000000003, []), (2000000002, []), (2000000001, dKeys (ks.take j)), (2000000000, strs ps)], []⟩) ks.length ?_ ?_] at hE
  · simp [h] at hE
    exact hE.symm
  · simp [show dKeys [] = [] from rfl]
  · intro j hj
    have hw := w64 ((j : Int) + 1) (by omega)
    have hjp : j < ps.length := by omega
    have e5 := ht j hj
    have g1 : (j + 1) * 16 ≤ 140737488355328 := by omega
    have g2 : j + 1 ≤ 4611686018427387904 := by omega
    have g3 : j ≤ 4611686018427387903 := by omega
    have g4 : min j ks.length = j := by omega
    have g6 : dKeys (ks.take (j + 1)) = dKeys (ks.take j) ++ [[D.a (.int .i64 (ks[j].Kind)), D.a (.int .i64 (ks[j].R))]] := by rw [dKeys_snoc, ← List.take_succ_eq_append_getElem hj]
    simp [hj, hw, hl, hjp, strs_get hjp, e5, g1, g2, g3, g4, g6]
end Go.Proofs.YtnmneoekpikpkaaGreatDoor
namespace Go.Proofs.YtnmneoekpikpkaaGreatDoor
open Go.RowKit
set_option linter.unusedSimpArgs false
set_option linter.unusedVariables false
set_option maxHeartbeats 8000000
set_option maxRecDepth 10000
def vE (t : List Int) (a : Int) (r : List TPiece) (ul : List TLine) (cnt op : Int) : TEd := { zEd with Vi := true, Mode := 2, Line := ⟨t, a⟩, Count := cnt, Op := op, Ring := ⟨r⟩, Undo := ⟨ul⟩ }
structure VI (t : List Int) (a : Int) (r : List TPiece) (ul : List TLine) : Prop where
  text : textOk t = true
  at0 : 0 ≤ a
  at_ : (a < t.length) ∨ (t = [] ∧ a = 0)
  ring : ringOk r = true
  undo : undoOk ul = true ∧ ul.length ≤ 12
theorem VI.line {t : List Int} {a : Int} {r : List TPiece} {ul : List TLine} (h : VI t a r ul) : lineOk t a = true := by
  have h0 := h.at0
  have : a ≤ t.length := by rcases h.at_ with h | ⟨h, h2⟩ <;> omega
  unfold lineOk
  rw [h.text, inR_iff.2 (by omega)]; rfl
theorem VI.end_ {t : List Int} {a : Int} {r : List TPiece} {ul : List TLine} (h : VI t a r ul) : atEnd t a = false := by
  rcases h.at_ with h | ⟨h, h2⟩
  · have : ¬ a = t.length := by omega
    simp [atEnd, this]
  · subst h; subst h2; rfl
theorem VI.ok {t : List Int} {a : Int} {r : List TPiece} {ul : List TLine} (h : VI t a r ul) (cnt op : Int) (hc : 0 ≤ cnt ∧ cnt ≤ 999) (ho : op = 0 ∨ op = 100) : (vE t a r ul cnt op).ok = true := by
  have q1 := h.line
  have q2 : inR cnt 0 999 = true := inR_iff.2 hc
  have q3 : modeB true 2 t a op 0 0 = true := by
    have := h.end_
    rcases ho with rfl | rfl <;> simp [modeB, this] <;> decide
  have q4 := h.ring
  have q5 := h.undo.1
  simp only [TEd.ok, edOk, vE, zEd, q1, q2, q3, q4, q5]
  rfl
theorem VI.set {t : List Int} {a : Int} {r : List TPiece} {ul : List TLine} (h : VI t a r ul) (cnt op : Int) (hc : 0 ≤ cnt ∧ cnt ≤ 999) (ho : op = 0 ∨ op = 100) : SetI (vE t a r ul cnt op) :=
  ⟨EdB.of (h.ok cnt op hc ho), rfl, h.line, h.undo.1, by have := h.undo.2; show ul.length ≤ 19; omega⟩
abbrev KeyTo (f : Int) (l : List ByteArray) (r : Int) (e e' : TEd) (act : Int) : Prop := M_iEdKey [.agg [V.v (.bool e.Vi), V.v (.int .i64 e.Mode), .lst (some 0) (ints e.Line.Text), V.v (.int .i64 e.Line.At), V.v (.int .i64 e.Count), V.v (.int .i64 e.Op), V.v (.int .i64 e.OpCount), V.v (.int .i64 e.Wait), V.v (.int .i64 e.FindR), V.v (.int .i64 e.FindHow), V.v (.int .i64 e.Last), .lst (some 1) (dPieces e.Ring.Pieces), .lst (some 2) (dLines e.Undo.Lines), V.v (.int .i64 e.Nav), .lst (some 3) (ints e.Own.Text), V.v (.int .i64 e.Own.At), .lst (some 4) (ints e.Query), V.v (.int .i64 e.Hit), .lst (some 5) (ints e.Back.Text), V.v (.int .i64 e.Back.At)], .agg [V.v (.int .i64 f), .lst (some 6) (strs l)], .agg [V.v (.int .i64 1), V.v (.int .i64 r)]] [] [] = some ⟨.tup [.agg [V.v (.bool e'.Vi), V.v (.int .i64 e'.Mode), .own 0, V.v (.int .i64 e'.Line.At), V.v (.int .i64 e'.Count), V.v (.int .i64 e'.Op), V.v (.int .i64 e'.OpCount), V.v (.int .i64 e'.Wait), V.v (.int .i64 e'.FindR), V.v (.int .i64 e'.FindHow), V.v (.int .i64 e'.Last), .own 1, .own 2, V.v (.int .i64 e'.Nav), .own 3, V.v (.int .i64 e'.Own.At), .own 4, V.v (.int .i64 e'.Hit), .own 5, V.v (.int .i64 e'.Back.At)], V.v (.int .i64 act)], [], [(0, ints e'.Line.Text), (1, dPieces e'.Ring.Pieces), (2, dLines e'.Undo.Lines), (3, ints e'.Own.Text), (4, ints e'.Query), (5, ints e'.Back.Text)]⟩
theorem cut_n {t : List Int} {a : Int} {r : List TPiece} {ul : List TLine} (h : VI t a r ul) (hu : ul.length ≤ 11) (cnt op : Int) (hc : 0 ≤ cnt ∧ cnt ≤ 999) (ho : op = 0 ∨ op = 100) (A n : Nat) (hA : a = A) (hn : 1 ≤ n) (ht : t ≠ []) : ∃ (b : Nat) (r' : List TPiece) (ul' : List TLine) (a' : Int), (min ((A : Int) + n) t.length = b ∧ A < b ∧ b ≤ t.length ∧ (A + n ≤ t.length → b = A + n)) ∧ ul'.length ≤ ul.length + 1 ∧ VI (t.take A ++ t.drop b) a' r' ul' ∧ (A < t.length - (b - A) → a' = A) ∧
    M_ichange [.agg [V.v (.bool ((vE t a r ul cnt op).Vi)), V.v (.int .i64 ((vE t a r ul cnt op).Mode)), .lst (some 0) (ints ((vE t a r ul cnt op).Line.Text)), V.v (.int .i64 ((vE t a r ul cnt op).Line.At)), V.v (.int .i64 ((vE t a r ul cnt op).Count)), V.v (.int .i64 ((vE t a r ul cnt op).Op)), V.v (.int .i64 ((vE t a r ul cnt op).OpCount)), V.v (.int .i64 ((vE t a r ul cnt op).Wait)), V.v (.int .i64 ((vE t a r ul cnt op).FindR)), V.v (.int .i64 ((vE t a r ul cnt op).FindHow)), V.v (.int .i64 ((vE t a r ul cnt op).Last)), .lst (some 1) (dPieces ((vE t a r ul cnt op).Ring.Pieces)), .lst (some 2) (dLines ((vE t a r ul cnt op).Undo.Lines)), V.v (.int .i64 ((vE t a r ul cnt op).Nav)), .lst (some 3) (ints ((vE t a r ul cnt op).Own.Text)), V.v (.int .i64 ((vE t a r ul cnt op).Own.At)), .lst (some 4) (ints ((vE t a r ul cnt op).Query)), V.v (.int .i64 ((vE t a r ul cnt op).Hit)), .lst (some 5) (ints ((vE t a r ul cnt op).Back.Text)), V.v (.int .i64 ((vE t a r ul cnt op).Back.At))], V.v (.int .i64 100), V.v (.int .i64 ((A : Int))), V.v (.int .i64 ((b : Int)))] [] [] = some ⟨.tup [.agg [V.v (.bool ((vE (t.take A ++ t.drop b) a' r' ul' 0 0).Vi)), V.v (.int .i64 ((vE (t.take A ++ t.drop b) a' r' ul' 0 0).Mode)), .own 0, V.v (.int .i64 ((vE (t.take A ++ t.drop b) a' r' ul' 0 0).Line.At)), V.v (.int .i64 ((vE (t.take A ++ t.drop b) a' r' ul' 0 0).Count)), V.v (.int .i64 ((vE (t.take A ++ t.drop b) a' r' ul' 0 0).Op)), V.v (.int .i64 ((vE (t.take A ++ t.drop b) a' r' ul' 0 0).OpCount)), V.v (.int .i64 ((vE (t.take A ++ t.drop b) a' r' ul' 0 0).Wait)), V.v (.int .i64 ((vE (t.take A ++ t.drop b) a' r' ul' 0 0).FindR)), V.v (.int .i64 ((vE (t.take A ++ t.drop b) a' r' ul' 0 0).FindHow)), V.v (.int .i64 ((vE (t.take A ++ t.drop b) a' r' ul' 0 0).Last)), .own 1, .own 2, V.v (.int .i64 ((vE (t.take A ++ t.drop b) a' r' ul' 0 0).Nav)), .own 3, V.v (.int .i64 ((vE (t.take A ++ t.drop b) a' r' ul' 0 0).Own.At)), .own 4, V.v (.int .i64 ((vE (t.take A ++ t.drop b) a' r' ul' 0 0).Hit)), .own 5, V.v (.int .i64 ((vE (t.take A ++ t.drop b) a' r' ul' 0 0).Back.At))], V.v (.int .i64 0)], [], [(0, ints ((vE (t.take A ++ t.drop b) a' r' ul' 0 0).Line.Text)), (1, dPieces ((vE (t.take A ++ t.drop b) a' r' ul' 0 0).Ring.Pieces)), (2, dLines ((vE (t.take A ++ t.drop b) a' r' ul' 0 0).Undo.Lines)), (3, ints ((vE (t.take A ++ t.drop b) a' r' ul' 0 0).Own.Text)), (4, ints ((vE (t.take A ++ t.drop b) a' r' ul' 0 0).Query)), (5, ints ((vE (t.take A ++ t.drop b) a' r' ul' 0 0).Back.Text))]⟩ := by
  have hs := h.set cnt op hc ho
  have hal : A < t.length := by
    rcases h.at_ with h1 | h1
    · omega
    · exact absurd h1.1 ht
  obtain ⟨b, hb⟩ := Int.eq_ofNat_of_zero_le (show 0 ≤ min ((A : Int) + n) t.length by omega)
  have hb1 : A < b ∧ b ≤ t.length := by omega
  obtain ⟨ul', e1, u1, u2⟩ := EX_ichange (vE t a r ul cnt op) hs h.ring A b hb1.1 hb1.2
  have htx : t.length ≤ 400 ∧ t.all typed = true := by have := h.text; simp only [textOk, Bool.and_eq_true, decide_eq_true_eq] at this; exact this
  have hX : textOk (t.take A ++ t.drop b) = true := by
    simp only [textOk, Bool.and_eq_true, decide_eq_true_eq]
    refine ⟨by simp; omega, List.all_eq_true.2 fun x hx => ?_⟩
    rcases List.mem_append.1 hx with hx | hx
    · exact List.all_eq_true.1 htx.2 x (List.mem_of_mem_take hx)
    · exact List.all_eq_true.1 htx.2 x (List.mem_of_mem_drop hx)
  have hXl : (t.take A ++ t.drop b).length = t.length - (b - A) := by simp; omega
  have hg : textOk ((t.drop A).take (b - A)) = true := by
    simp only [textOk, Bool.and_eq_true, decide_eq_true_eq]
    exact ⟨by simp; omega, List.all_eq_true.2 fun x hx => List.all_eq_true.1 htx.2 x (List.mem_of_mem_drop (List.mem_of_mem_take hx))⟩
  have hg0 : (t.drop A).take (b - A) ≠ [] := fun e => by have := congrArg List.length e; simp at this; omega
  refine ⟨b, _, ul', clipAt (t.take A ++ t.drop b) A, ⟨hb, hb1.1, hb1.2, by omega⟩, u2, ⟨hX, ?_, ?_, ring_new h.ring hg hg0, u1, by have : (vE t a r ul cnt op).Undo.Lines.length = ul.length := rfl; omega⟩, ?_, e1⟩
  · unfold clipAt atEnd
    split
    · rename_i h1
      simp only [Bool.and_eq_true, decide_eq_true_eq, beq_iff_eq] at h1
      omega
    · omega
  · by_cases hx0 : t.take A ++ t.drop b = []
    · right
      have hA0 : A = 0 := by have := congrArg List.length hx0; rw [hXl] at this; simp at this; omega
      rw [hx0, hA0]
      exact ⟨rfl, by decide⟩
    · left
      have hpos : 0 < (t.take A ++ t.drop b).length := List.length_pos_iff.2 hx0
      unfold clipAt
      cases he : atEnd (t.take A ++ t.drop b) A
      · rw [if_neg (by simp)]
        by_cases hq : A = (t.take A ++ t.drop b).length
        · exfalso
          have : atEnd (t.take A ++ t.drop b) A = true := by
            unfold atEnd
            simp only [Bool.and_eq_true, decide_eq_true_eq, beq_iff_eq]
            constructor <;> omega
          rw [this] at he; cases he
        · omega
      · rw [if_pos rfl]; omega
  · intro hlt
    unfold clipAt
    have : atEnd (t.take A ++ t.drop b) A = false := by
      unfold atEnd
      have : ¬ (A : Int) = (t.take A ++ t.drop b).length := by omega
      simp [this]
      intros
      omega
    rw [this]; rfl
section
variable {f : Int} {l : List ByteArray} (hh : HistI f l) {t : List Int} {a : Int} {r : List TPiece} {ul : List TLine} (h : VI t a r ul)
include hh h
theorem key_d : KeyTo f l 100 (vE t a r ul 0 0) (vE t a r ul 0 100) 0 :=
  E_iEdKey_rune _ _ (h.ok 0 0 (by omega) (.inl rfl)) rfl rfl f 0 100 1 l hh (by decide) (by rfl) (E_icommand_begun _ _ f 0 100 1 l (E_ibegun_op _ (h.set 0 0 (by omega) (.inl rfl)).b 1 rfl))
theorem key_3 (op : Int) (ho : op = 0 ∨ op = 100) : KeyTo f l 51 (vE t a r ul 0 op) (vE t a r ul 3 op) 0 :=
  E_iEdKey_rune _ _ (h.ok 0 op (by omega) ho) rfl rfl f 0 51 1 l hh (by decide) (by rfl) (E_icommand_begun _ _ f 0 51 1 l (E_ibegun_digit _ (h.set 0 op (by omega) ho).b 1 rfl))
theorem key_dd (hu : ul.length ≤ 11) (ht : t ≠ []) : ∃ ul', ul'.length ≤ ul.length + 1 ∧ KeyTo f l 100 (vE t a r ul 0 100) (vE [] 0 ((({ Text := t } : TPiece) :: r).take 6) ul' 0 0) 0 ∧ VI [] 0 ((({ Text := t } : TPiece) :: r).take 6) ul' := by
  have hs := h.set 0 100 (by omega) (.inr rfl)
  have hlen : 0 < t.length := List.length_pos_iff.2 ht
  obtain ⟨ul', e1, u1, u2⟩ := EX_ichange (vE t a r ul 0 100) hs h.ring 0 t.length hlen (Nat.le_refl _)
  have c1 : List.take 0 (vE t a r ul 0 100).Line.Text ++ List.drop t.length (vE t a r ul 0 100).Line.Text = [] := by simp [vE]
  have c2 : (List.drop 0 (vE t a r ul 0 100).Line.Text).take (t.length - 0) = t := by simp [vE]
  have c3 : clipAt [] 0 = 0 := by decide
  rw [c1, c2] at e1
  simp only [Int.natCast_zero, c3] at e1
  have u3 : (vE t a r ul 0 100).Undo.Lines.length = ul.length := rfl
  refine ⟨ul', by omega, ?_, ⟨rfl, by omega, .inr ⟨rfl, rfl⟩, ring_new h.ring h.text ht, u1, by omega⟩⟩
  exact E_iEdKey_rune _ _ (h.ok 0 100 (by omega) (.inr rfl)) rfl rfl f 0 100 1 l hh (by decide) (by rfl) (E_icommand_op (vE t a r ul 0 100) (vE [] 0 ((({ Text := t } : TPiece) :: r).take 6) ul' 0 0) hs.b f 0 1 l rfl e1)
theorem key_dd0 (ht : t = []) : KeyTo f l 100 (vE t a r ul 0 100) (vE [] 0 r ul 0 0) 1 := by
  subst ht
  have ha : a = 0 := by
    rcases h.at_ with h1 | h1
    · have := h.at0; simp at h1; omega
    · exact h1.2
  subst ha
  have hs := h.set 0 100 (by omega) (.inr rfl)
  have e1 := E_ichange_no (vE [] 0 r ul 0 100) hs.b 0
  exact E_iEdKey_rune _ _ (h.ok 0 100 (by omega) (.inr rfl)) rfl rfl f 1 100 1 l hh (by decide) (by rfl) (E_icommand_op (vE [] 0 r ul 0 100) (vE [] 0 r ul 0 0) hs.b f 1 1 l rfl e1)
theorem key_x (hu : ul.length ≤ 11) (cnt : Int) (hc : cnt = 0 ∨ cnt = 3) (A n : Nat) (hA : a = A) (hn : (n : Int) = max cnt 1) (ht : t ≠ []) : ∃ (b : Nat) (r' : List TPiece) (ul' : List TLine) (a' : Int), (A < b ∧ b ≤ t.length ∧ (A + n ≤ t.length → b = A + n)) ∧ ul'.length ≤ ul.length + 1 ∧ VI (t.take A ++ t.drop b) a' r' ul' ∧ (A < t.length - (b - A) → a' = A) ∧
    KeyTo f l 120 (vE t a r ul cnt 0) (vE (t.take A ++ t.drop b) a' r' ul' 0 0) 0 := by
  obtain ⟨b, r', ul', a', ⟨c1, c2, c3, c4⟩, u, v, w, e1⟩ := cut_n h hu cnt 0 (by omega) (.inl rfl) A n hA (by omega) ht
  have hs := h.set cnt 0 (by omega) (.inl rfl)
  refine ⟨b, r', ul', a', ⟨c2, c3, c4⟩, u, v, w, ?_⟩
  refine E_iEdKey_rune _ _ (h.ok cnt 0 (by omega) (.inl rfl)) rfl rfl f 0 120 n l hh (by decide) ?_ (E_icommand_x _ _ hs.b f 0 n l rfl A b hA c1 (by show A ≤ t.length; omega) (by omega) e1)
  show min (max cnt 1 * max 0 1) 999 = (n : Int)
  rw [show max (0 : Int) 1 = 1 from rfl, Int.mul_one]
  rcases hc with rfl | rfl <;> omega
theorem key_x0 (ht : t = []) : KeyTo f l 120 (vE t a r ul 0 0) (vE [] 0 r ul 0 0) 1 := by
  subst ht
  have ha : a = 0 := by
    rcases h.at_ with h1 | h1
    · have := h.at0; simp at h1; omega
    · exact h1.2
  subst ha
  have hs := h.set 0 0 (by omega) (.inl rfl)
  have e1 := E_ichange_no (vE [] 0 r ul 0 0) hs.b 0
  exact E_iEdKey_rune _ _ (h.ok 0 0 (by omega) (.inl rfl)) rfl rfl f 1 120 1 l hh (by decide) (by rfl) (E_icommand_x (vE [] 0 r ul 0 0) (vE [] 0 r ul 0 0) hs.b f 1 1 l rfl 0 0 rfl (by rfl) (Nat.zero_le _) (by omega) e1)
theorem key_l (hu : ul.length ≤ 11) (A : Nat) (hA : a = A) (ht : t ≠ []) : ∃ (b : Nat) (r' : List TPiece) (ul' : List TLine) (a' : Int), (A < b ∧ b ≤ t.length ∧ (A + 3 ≤ t.length → b = A + 3)) ∧ VI (t.take A ++ t.drop b) a' r' ul' ∧
    KeyTo f l 108 (vE t a r ul 3 100) (vE (t.take A ++ t.drop b) a' r' ul' 0 0) 0 := by
  obtain ⟨b, r', ul', a', ⟨c1, c2, c3, c4⟩, u, v, w, e1⟩ := cut_n h hu 3 100 (by omega) (.inr rfl) A 3 hA (by omega) ht
  have hs := h.set 3 100 (by omega) (.inr rfl)
  refine ⟨b, r', ul', a', ⟨c2, c3, c4⟩, v, ?_⟩
  exact E_iEdKey_rune _ _ (h.ok 3 100 (by omega) (.inr rfl)) rfl rfl f 0 108 3 l hh (by decide) (by rfl) (E_icommand_l _ _ hs.b f 0 3 l rfl A b hA c1 (by omega) (by show A ≤ t.length; omega) (by omega) e1)
theorem key_P (hu : ul.length ≤ 11) (ht : t = []) (p : TPiece) (q : List TPiece) (hr : r = p :: q) : ∃ ul', KeyTo f l 80 (vE t a r ul 0 0) (vE p.Text ((p.Text.length : Int) - 1) r ul' 0 0) 0 ∧ VI p.Text ((p.Text.length : Int) - 1) r ul' := by
  subst ht
  have ha : a = 0 := by
    rcases h.at_ with h1 | h1
    · have := h.at0; simp at h1; omega
    · exact h1.2
  subst ha
  have hs := h.set 0 0 (by omega) (.inl rfl)
  obtain ⟨ul', e1, u1, u2⟩ := EX_ipaste (vE [] 0 r ul 0 0) hs h.ring rfl p q hr
  obtain ⟨p1, p2⟩ := piece_len h.ring
  have hpp := p2 p (by rw [hr]; simp)
  have hto : textOk p.Text = true := by simp only [textOk, Bool.and_eq_true, decide_eq_true_eq]; exact hpp.2
  refine ⟨ul', ?_, ⟨hto, by omega, .inl (by omega), h.ring, u1, by have : (vE [] 0 r ul 0 0).Undo.Lines.length = ul.length := rfl; omega⟩⟩
  exact E_iEdKey_rune _ _ (h.ok 0 0 (by omega) (.inl rfl)) rfl rfl f 0 80 1 l hh (by decide) (by rfl) (E_icommand_P (vE [] 0 r ul 0 0) (vE p.Text ((p.Text.length : Int) - 1) r ul' 0 0) hs.b f 0 l rfl rfl e1)
theorem key_P0 (ht : t = []) (hr : r = []) : KeyTo f l 80 (vE t a r ul 0 0) (vE [] 0 [] ul 0 0) 1 := by
  subst ht
  subst hr
  have ha : a = 0 := by
    rcases h.at_ with h1 | h1
    · have := h.at0; simp at h1; omega
    · exact h1.2
  subst ha
  have hs := h.set 0 0 (by omega) (.inl rfl)
  have e1 := E_ipaste_no (vE [] 0 [] ul 0 0) hs.b rfl rfl
  exact E_iEdKey_rune _ _ (h.ok 0 0 (by omega) (.inl rfl)) rfl rfl f 1 80 1 l hh (by decide) (by rfl) (E_icommand_P (vE [] 0 [] ul 0 0) (vE [] 0 [] ul 0 0) hs.b f 1 l rfl rfl e1)
theorem key_xs (hu : ul.length ≤ 11) (A : Nat) (hA : a = A) : ∃ (t' : List Int) (r' : List TPiece) (ul' : List TLine) (a' act : Int), ul'.length ≤ ul.length + 1 ∧ VI t' a' r' ul' ∧ (A + 1 ≤ t.length → t' = t.take A ++ t.drop (A + 1)) ∧ (A + 1 < t.length → a' = A) ∧ KeyTo f l 120 (vE t a r ul 0 0) (vE t' a' r' ul' 0 0) act := by
  by_cases ht : t = []
  · have e := key_x0 hh h ht
    have h2 := h
    subst ht
    have ha : a = 0 := by
      rcases h2.at_ with h1 | h1
      · have := h2.at0; simp at h1; omega
      · exact h1.2
    subst ha
    exact ⟨[], r, ul, 0, 1, by omega, h2, fun h => by simp at h, fun h => by simp at h, e⟩
  · obtain ⟨b, r', ul', a', ⟨c1, c2, c3⟩, u, v, w, e⟩ := key_x hh h hu 0 (.inl rfl) A 1 hA rfl ht
    refine ⟨_, r', ul', a', 0, u, v, fun h => by rw [c3 h], fun h => w ?_, e⟩
    have := c3 (by omega)
    omega
end
end Go.Proofs.YtnmneoekpikpkaaGreatDoor
namespace Go.Proofs.YtnmneoekpikpkaaGreatDoor
noncomputable def M_lFnNav : Mean := evFun Tryz.prog [(8, false, M_sMakeEmacs), (10, false, M_iEdTyped), (11, false, M_iEdOk), (12, false, M_lsameInts), (14, false, M_iHistLast), (13, false, M_iHistGet), (15, false, M_iLineText)] ⟨[], [], [(9, [], []), (11, [], [])], []⟩ 4
theorem S_lFnNav : Sound Tryz.prog 4 M_lFnNav := sound _ (cons_sound S_sMakeEmacs (cons_sound S_iEdTyped (cons_sound S_iEdOk (cons_sound S_lsameInts (cons_sound S_iHistLast (cons_sound S_iHistGet (cons_sound S_iLineText none_sound))))))) hmix Tryz.func4 (eqOf (by kernel_rfl))
noncomputable def M_lFnViLine : Mean := evFun Tryz.prog [(17, false, M_sMakeVi), (10, false, M_iEdTyped), (11, false, M_iEdOk), (12, false, M_lsameInts)] ⟨[], [], [], []⟩ 7
theorem S_lFnViLine : Sound Tryz.prog 7 M_lFnViLine := sound _ (cons_sound S_sMakeVi (cons_sound S_iEdTyped (cons_sound S_iEdOk (cons_sound S_lsameInts none_sound)))) hmix Tryz.func7 (eqOf (by kernel_rfl))
noncomputable def M_lFnViChange : Mean := evFun Tryz.prog [(17, false, M_sMakeVi), (10, false, M_iEdTyped), (11, false, M_iEdOk), (12, false, M_lsameInts)] ⟨[], [(12, [5, 7, 3])], [(12, [], [])], []⟩ 6
theorem S_lFnViChange : Sound Tryz.prog 6 M_lFnViChange := sound _ (cons_sound S_sMakeVi (cons_sound S_iEdTyped (cons_sound S_iEdOk (cons_sound S_lsameInts none_sound)))) hmix Tryz.func6 (eqOf (by kernel_rfl))
end Go.Proofs.YtnmneoekpikpkaaGreatDoor
namespace Go.Proofs.YtnmneoekpikpkaaGreatDoor
open Go.ChangeShapes Go.WideShapes Go.ChangeAt Go.RowKit Go.Deep
theorem ownKnob_none : ownKnob Tryz.prog.godebug = none := by kernel_rfl
theorem laidOut_prog : laidOutB Tryz.prog = true := by kernel_rfl
theorem int_range {x : Int} (w : (Lit.int .i64 x).wf = true) : -9223372036854775808 ≤ x ∧ x ≤ 9223372036854775807 := by
  simpa [Lit.wf, IntKind.min, IntKind.max, IntKind.signed, IntKind.bits] using w
end Go.Proofs.YtnmneoekpikpkaaGreatDoor
namespace Go.Proofs.YtnmneoekpikpkaaGreatDoor
open Go.ChangeShapes Go.WideShapes Go.ChangeAt Go.RowKit Go.Deep
set_option linter.unusedSimpArgs false
set_option linter.unusedVariables false
def wfV : Value → Bool
  | .int k n => (Lit.int k n).wf
  | .string s => decide (s.size ≤ 9223372036854775807)
  | _ => true
mutual
def okD : D → Bool
  | .a v => wfV v
  | .l rows => decide (rows.length ≤ 9223372036854775807) && okT rows
  | .gone => false
def okR : List D → Bool
  | [] => true
  | d :: r => okD d && okR r
def okT : List (List D) → Bool
  | [] => true
  | r :: rows => okR r && okT rows
end
mutual
theorem okD_bn : ∀ (d : D), okD d = true → bnD 9223372036854775807 d = true
  | .a _, _ => rfl
  | .l rows, h => by
    have h : (decide (rows.length ≤ 9223372036854775807) && okT rows) = true := h
    rw [Bool.and_eq_true] at h
    show (decide (rows.length ≤ 9223372036854775807) && bnT 9223372036854775807 rows) = true
    rw [h.1, okT_bn rows h.2]; rfl
  | .gone, h => by cases h
theorem okR_bn : ∀ (r : List D), okR r = true → bnR 9223372036854775807 r = true
  | [], _ => rfl
  | d :: r, h => by
    have h : (okD d && okR r) = true := h
    rw [Bool.and_eq_true] at h
    show (bnD _ d && bnR _ r) = true
    rw [okD_bn d h.1, okR_bn r h.2]; rfl
theorem okT_bn : ∀ (rows : List (List D)), okT rows = true → bnT 9223372036854775807 rows = true
  | [], _ => rfl
  | r :: rows, h => by
    have h : (okR r && okT rows) = true := h
    rw [Bool.and_eq_true] at h
    show (bnR _ r && bnT _ rows) = true
    rw [okR_bn r h.1, okT_bn rows h.2]; rfl
end
theorem okR_app : ∀ {r q : List D}, okR r = true → okR q = true → okR (r ++ q) = true
  | [], q, _, k => k
  | d :: r, q, h, k => by
    have h : (okD d && okR r) = true := h
    rw [Bool.and_eq_true] at h
    show (okD d && okR (r ++ q)) = true
    rw [h.1, okR_app h.2 k]; rfl
theorem okR_cons {d : D} {r : List D} (h : okR (d :: r) = true) : okD d = true ∧ okR r = true := by
  have h : (okD d && okR r) = true := h
  rwa [Bool.and_eq_true] at h
theorem okD_lg {rows : List (List D)} (h : okD (.l rows) = true) : lgL rows = true := okD_bn _ h
theorem okD_int {n : Int} (h : okD (.a (.int .i64 n)) = true) : R64 n := int_range h
theorem okD_str {s : ByteArray} (h : okD (.a (.string s)) = true) : s.size ≤ 9223372036854775807 := of_decide_eq_true h
theorem okT_of : ∀ {rows : List (List D)}, (∀ r ∈ rows, okR r = true) → okT rows = true
  | [], _ => rfl
  | r :: rows, h => by
    show (okR r && okT rows) = true
    rw [h r (by simp), okT_of fun q hq => h q (by simp [hq])]; rfl
inductive RdR (G : Nat → Obj → Prop) : List Value → List D → Prop
  | nil : RdR G [] []
  | cons {v : Value} {d : D} {vs : List Value} {ds : List D} : RdD G d v → RdR G vs ds → RdR G (v :: vs) (d :: ds)
theorem RdR.app {G : Nat → Obj → Prop} : ∀ {us vs : List Value} {ds es : List D}, RdR G us ds → RdR G vs es → RdR G (us ++ vs) (ds ++ es)
  | _, _, _, _, .nil, h => h
  | _, _, _, _, .cons a b, h => .cons a (b.app h)
theorem RdR.part {G : Nat → Obj → Prop} {cs : List Value} (o c : Nat) {ds es : List D} (h : RdR G ((cs.drop o).take c) ds) (k : RdR G (cs.drop (o + c)) es) : RdR G (cs.drop o) (ds ++ es) := by
  have := h.app k
  rwa [← List.drop_drop, List.take_append_drop] at this
theorem RdR.one {G : Nat → Obj → Prop} {v : Value} {d : D} (h : RdR G [v] [d]) : RdD G d v := by cases h; assumption
theorem RdR.uncons {G : Nat → Obj → Prop} {cs : List Value} {d : D} {ds : List D} (h : RdR G cs (d :: ds)) : ∃ v vs, cs = v :: vs ∧ RdD G d v ∧ RdR G vs ds := by cases h with | cons a b => exact ⟨_, _, rfl, a, b⟩
theorem RdR.unnil {G : Nat → Obj → Prop} {cs : List Value} (h : RdR G cs []) : cs = [] := by cases h; rfl
theorem RdR.get {G : Nat → Obj → Prop} : ∀ {vs : List Value} {ds : List D} {i : Nat} {d : D}, RdR G vs ds → ds[i]? = some d → ∃ u, vs[i]? = some u ∧ RdD G d u
  | _, _, i, d, .nil, e => by simp at e
  | _, _, 0, d, .cons a _, e => by simp at e; subst e; exact ⟨_, rfl, a⟩
  | _, _, i + 1, d, .cons _ b, e => by simpa using b.get (i := i) (by simpa using e)
theorem cell_heap {W : World} {b o : Nat} {u : Value} (h : W.cell? ⟨b, o, none⟩ = some u) : ∃ cs T fr, W.heap[b]? = some (.cells cs T fr) ∧ cs[o]? = some u := by
  unfold World.cell? at h
  split at h
  · rename_i cs T fr e
    exact ⟨cs, T, fr, e, by simpa using h⟩
  · cases h
theorem rows_len_flat {α : Type} (C : Codec α) (l : List α) : (C.rows l).flatten.length = l.length * C.k := by
  have := flat_len (k := C.k) (C.rows l) (fun r hr => by obtain ⟨x, _, rfl⟩ := List.mem_map.1 hr; exact C.len x)
  rw [this, C.rows_len]
section
variable {H : Type} {enc : TypeId × Value → H} {W : World} {fuel : Nat} {cs : List Value} {x : DataW H × List MemPlace}
set_option maxRecDepth 100000 in
theorem opn_slice {t e : TypeId} {α : Type} [Inhabited α] (C : Codec α) (h0 : 0 < C.k) (ht : Tryz.prog.underlying t = some (.slice e)) (hc : Tryz.prog.cellsOf e = C.k)
    (he : ∀ {fuel cs x}, DataW.trod enc Tryz.prog W 0 (fun _ => true) true fuel e cs = some x → ∃ a : α, okR (C.enc a) = true ∧ RdR (heapOf W) cs (C.enc a))
    (h : DataW.trod enc Tryz.prog W 0 (fun _ => true) true fuel t cs = some x) : ∃ l : List α, okD (.l (C.rows l)) = true ∧ RdR (heapOf W) cs [.l (C.rows l)] := by
  rcases open_slice ht h with ⟨rfl, _⟩ | ⟨a, len, cap, m, n, D', Pl, rfl, hb, hl, hm, hmm, rfl, hx⟩
  · exact ⟨[], rfl, .cons (.nil none 0 (by omega) (fun _ => rfl)) .nil⟩
  have hlm : len ≤ m := by rw [hmm]; split <;> omega
  rw [hc] at hx
  obtain ⟨g, hg⟩ := choose_lt (α := α) (p := fun i y => okR (C.enc y) = true ∧ ∀ j d, (C.enc y)[j]? = some d → ∃ u, W.cell? (a.add (i * C.k + j)) = some u ∧ RdD (heapOf W) d u) (n := m) (fun i hi => by
    obtain ⟨cs', h1, h2⟩ := hx i hi
    obtain ⟨_, hlen, hcell⟩ := World.cells?_some h1
    obtain ⟨y, hp, hy⟩ := he h2
    refine ⟨y, hp, fun j d e => ?_⟩
    obtain ⟨u, e1, e2⟩ := hy.get e
    have hj : j < C.k := by rw [← C.len y]; exact (List.getElem?_eq_some_iff.1 e).1
    refine ⟨u, ?_, e2⟩
    rw [← e1, ← hcell j hj, add_add])
  have hlen : (C.rows ((List.range len).map g)).length = len := by rw [C.rows_len]; simp
  unfold maxLen at hm
  refine ⟨(List.range len).map g, ?_, .cons ?_ .nil⟩
  · show (decide _ && okT _) = true
    rw [hlen, decide_eq_true (by omega), Bool.true_and]
    refine okT_of fun r hr => ?_
    obtain ⟨z, hz, rfl⟩ := List.mem_map.1 hr
    obtain ⟨i, hi, rfl⟩ := List.mem_map.1 hz
    exact (hg i (by have := List.mem_range.1 hi; omega)).1
  have hu : ∀ r ∈ C.rows ((List.range len).map g), r.length = C.k := fun r hr => by obtain ⟨z, _, rfl⟩ := List.mem_map.1 hr; exact C.len z
  have key : ∀ i d, (C.rows ((List.range len).map g)).flatten[i]? = some d → ∃ u, W.cell? (a.add i) = some u ∧ RdD (heapOf W) d u := by
    intro i d e
    have hi : i < len * C.k := by
      have := (List.getElem?_eq_some_iff.1 e).1
      rw [rows_len_flat, List.length_map, List.length_range] at this; exact this
    have e1 : i / C.k * C.k + i % C.k = i := by rw [Nat.mul_comm]; exact Nat.div_add_mod i C.k
    have h1 : i / C.k < len := Nat.div_lt_of_lt_mul (by rw [Nat.mul_comm]; exact hi)
    have hlt : i % C.k < (C.enc (g (i / C.k))).length := by rw [C.len]; exact Nat.mod_lt _ h0
    have e2 := flat_get (k := C.k) (C.rows ((List.range len).map g)) (i / C.k) (i % C.k) (C.enc (g (i / C.k))) _ hu (by
      unfold Codec.rows
      rw [List.getElem?_map, List.getElem?_map, List.getElem?_range h1]; rfl) (List.getElem?_eq_getElem hlt)
    rw [e1, e] at e2
    obtain ⟨u, h2, h3⟩ := (hg (i / C.k) (by omega)).2 (i % C.k) d (by rw [List.getElem?_eq_getElem hlt]; exact e2.symm)
    rw [e1] at h2
    exact ⟨u, h2, h3⟩
  rcases Nat.eq_zero_or_pos len with h1 | h1
  · subst h1
    exact .nil _ _ (by omega) (fun h => nomatch h)
  have hpos : 0 < (C.rows ((List.range len).map g)).flatten.length := by rw [rows_len_flat, List.length_map, List.length_range]; exact Nat.mul_pos h1 h0
  obtain ⟨b, o, spot⟩ := a
  obtain ⟨u0, h2, -⟩ := key 0 _ (List.getElem?_eq_getElem hpos)
  have hs : spot = none := by simpa [Addr.add] using World.cell?_spot h2
  subst hs
  rw [Addr.add_lit] at h2
  obtain ⟨hcs, T, fr, hh, -⟩ := cell_heap h2
  refine .l _ len cap b o C.k T fr hcs (fun i => (W.cell? ⟨b, o + i, none⟩).getD undef) hlen h1 hl (by omega) h0 hu hh (fun i d e => ?_) (fun i d e => ?_)
  · obtain ⟨u, h3, -⟩ := key i d e
    rw [Addr.add_lit] at h3
    rw [h3]
    obtain ⟨cs2, T2, fr2, hh2, h4⟩ := cell_heap h3
    rw [hh] at hh2
    injection hh2 with hh2; injection hh2 with q1 q2 q3
    rw [q1]; exact h4
  · obtain ⟨u, h3, h4⟩ := key i d e
    rw [Addr.add_lit] at h3
    rw [h3]; exact h4
set_option maxRecDepth 100000 in
theorem opn_int (h : DataW.trod enc Tryz.prog W 0 (fun _ => true) true fuel 3 cs = some x) : ∃ a : Int, okR [.a (.int .i64 a)] = true ∧ RdR (heapOf W) cs [.a (.int .i64 a)] := by
  obtain ⟨n, rfl, _, wf⟩ := DataW.trod_int Tryz.underlying3 h
  exact ⟨n, by show (_ && true) = true; rw [Bool.and_true]; exact wf, .cons (.a _) .nil⟩
set_option maxRecDepth 100000 in
theorem opn_bool (h : DataW.trod enc Tryz.prog W 0 (fun _ => true) true fuel 4 cs = some x) : ∃ a : Bool, okR [.a (.bool a)] = true ∧ RdR (heapOf W) cs [.a (.bool a)] := by
  obtain ⟨n, rfl, _⟩ := DataW.trod_bool Tryz.underlying4 h
  exact ⟨n, rfl, .cons (.a _) .nil⟩
set_option maxRecDepth 100000 in
theorem opn_string (h : DataW.trod enc Tryz.prog W 0 (fun _ => true) true fuel 9 cs = some x) : ∃ a : ByteArray, okR [.a (.string a)] = true ∧ RdR (heapOf W) cs [.a (.string a)] := by
  obtain ⟨s, rfl, _, wf⟩ := DataW.trod_string Tryz.underlying9 h
  exact ⟨s, by show (decide _ && true) = true; rw [Bool.and_true]; unfold maxLen at wf; exact decide_eq_true (by omega), .cons (.a _) .nil⟩
theorem cop_int : Tryz.prog.cellsOf 3 = 1 := by kernel_rfl
theorem cop_bool : Tryz.prog.cellsOf 4 = 1 := by kernel_rfl
theorem cop_string : Tryz.prog.cellsOf 9 = 1 := by kernel_rfl
theorem cop_ints : Tryz.prog.cellsOf 23 = 1 := by kernel_rfl
theorem opn_ints (h : DataW.trod enc Tryz.prog W 0 (fun _ => true) true fuel 23 cs = some x) : ∃ l : List Int, okR [.l (ints l)] = true ∧ RdR (heapOf W) cs [.l (ints l)] := by
  obtain ⟨l, a, b⟩ := opn_slice c_ints (by decide) Tryz.underlying23 cop_int opn_int h
  exact ⟨l, by show (_ && true) = true; rw [Bool.and_true]; exact a, b⟩
set_option maxRecDepth 100000 in
theorem open_ints_top {base : Nat} {v : Value} {d : DataW H} {ps : List MemPlace} (hv : Value.okWide Tryz.prog W .any base 23 v) (h : DataW.Trod enc Tryz.prog W 0 (fun _ => true) true 23 v d ps) :
    ∃ l : List Int, okR [.l (ints l)] = true ∧ RdD (heapOf W) (.l (ints l)) v := by
  obtain ⟨a0, len, cap, rfl⟩ := okWide_slice Tryz.underlying23 hv
  obtain ⟨f, hf⟩ := h
  obtain ⟨l, g, r⟩ := opn_ints hf
  exact ⟨l, g, r.one⟩
theorem cop_u8 : Tryz.prog.cellsOf 5 = 1 := by kernel_rfl
theorem cop_bytes : Tryz.prog.cellsOf 22 = 1 := by kernel_rfl
theorem u8_rng {x : Int} (w : (Lit.int .u8 x).wf = true) : 0 ≤ x ∧ x ≤ 255 := by
  simpa [Lit.wf, IntKind.min, IntKind.max, IntKind.signed, IntKind.bits] using w
set_option maxRecDepth 100000 in
theorem opn_byte (h : DataW.trod enc Tryz.prog W 0 (fun _ => true) true fuel 5 cs = some x) : ∃ a : UInt8, okR (c_byts.enc a) = true ∧ RdR (heapOf W) cs (c_byts.enc a) := by
  obtain ⟨n, rfl, _, wf⟩ := DataW.trod_int Tryz.underlying5 h
  obtain ⟨h0, h1⟩ := u8_rng wf
  have e : c_byts.enc (UInt8.ofNat n.toNat) = [.a (.int .u8 n)] := by
    show [D.a (.int .u8 ((UInt8.ofNat n.toNat).toNat : Int))] = _
    congr 3; simp; omega
  refine ⟨UInt8.ofNat n.toNat, ?_, ?_⟩
  · rw [e]; show (_ && true) = true; rw [Bool.and_true]; exact wf
  · rw [e]; exact .cons (.a _) .nil
theorem opn_bytes (h : DataW.trod enc Tryz.prog W 0 (fun _ => true) true fuel 22 cs = some x) : ∃ l : List UInt8, okR [.l (byts l)] = true ∧ RdR (heapOf W) cs [.l (byts l)] := by
  obtain ⟨l, a, b⟩ := opn_slice c_byts (by decide) Tryz.underlying22 cop_u8 opn_byte h
  exact ⟨l, by show (_ && true) = true; rw [Bool.and_true]; exact a, b⟩
set_option maxRecDepth 100000 in
theorem open_bytes_top {base : Nat} {v : Value} {d : DataW H} {ps : List MemPlace} (hv : Value.okWide Tryz.prog W .any base 22 v) (h : DataW.Trod enc Tryz.prog W 0 (fun _ => true) true 22 v d ps) :
    ∃ l : List UInt8, okR [.l (byts l)] = true ∧ RdD (heapOf W) (.l (byts l)) v := by
  obtain ⟨a0, len, cap, rfl⟩ := okWide_slice Tryz.underlying22 hv
  obtain ⟨f, hf⟩ := h
  obtain ⟨l, g, r⟩ := opn_bytes hf
  exact ⟨l, g, r.one⟩
theorem cop_strs : Tryz.prog.cellsOf 34 = 1 := by kernel_rfl
theorem opn_strs (h : DataW.trod enc Tryz.prog W 0 (fun _ => true) true fuel 34 cs = some x) : ∃ l : List ByteArray, okR [.l (strs l)] = true ∧ RdR (heapOf W) cs [.l (strs l)] := by
  obtain ⟨l, a, b⟩ := opn_slice c_strs (by decide) Tryz.underlying34 cop_string opn_string h
  exact ⟨l, by show (_ && true) = true; rw [Bool.and_true]; exact a, b⟩
set_option maxRecDepth 100000 in
theorem open_strs_top {base : Nat} {v : Value} {d : DataW H} {ps : List MemPlace} (hv : Value.okWide Tryz.prog W .any base 34 v) (h : DataW.Trod enc Tryz.prog W 0 (fun _ => true) true 34 v d ps) :
    ∃ l : List ByteArray, okR [.l (strs l)] = true ∧ RdD (heapOf W) (.l (strs l)) v := by
  obtain ⟨a0, len, cap, rfl⟩ := okWide_slice Tryz.underlying34 hv
  obtain ⟨f, hf⟩ := h
  obtain ⟨l, g, r⟩ := opn_strs hf
  exact ⟨l, g, r.one⟩
end
end Go.Proofs.YtnmneoekpikpkaaGreatDoor
namespace Go.Proofs.YtnmneoekpikpkaaGreatDoor
open Go.ChangeShapes Go.WideShapes Go.ChangeAt Go.RowKit Go.Deep
set_option linter.unusedSimpArgs false
set_option linter.unusedVariables false
section
variable {H : Type} {enc : TypeId × Value → H} {W : World} {fuel : Nat} {cs : List Value} {x : DataW H × List MemPlace}
end
end Go.Proofs.YtnmneoekpikpkaaGreatDoor
namespace Go.Proofs.YtnmneoekpikpkaaGreatDoor
open Go.RowKit
set_option linter.unusedSimpArgs false
set_option linter.unusedVariables false
set_option maxHeartbeats 16000000
set_option maxRecDepth 100000
theorem E_sl21ClipV (t : List Int) (a : Nat) (ht : t.length ≤ 400) (ha : a ≤ t.length) : M_sl21Clip [.agg [V.v (.bool true), V.v (.int .i64 2), .lst (some 0) (ints t), V.v (.int .i64 (a : Int)), V.v (.int .i64 0), V.v (.int .i64 0), V.v (.int .i64 0), V.v (.int .i64 0), V.v (.int .i64 0), V.v (.int .i64 0), V.v (.int .i64 0), .lst (some 1) ([]), .lst (some 2) ([]), V.v (.int .i64 0), .lst (some 3) ([]), V.v (.int .i64 0), .lst (some 4) ([]), V.v (.int .i64 0), .lst (some 5) ([]), V.v (.int .i64 0)]] [] [] = some ⟨.agg [V.v (.bool true), V.v (.int .i64 2), .lst (some 0) (ints t), V.v (.int .i64 (if a = t.length ∧ 0 < a then (a : Int) - 1 else (a : Int))), V.v (.int .i64 0), V.v (.int .i64 0), V.v (.int .i64 0), V.v (.int .i64 0), V.v (.int .i64 0), V.v (.int .i64 0), V.v (.int .i64 0), .lst (some 1) ([]), .lst (some 2) ([]), V.v (.int .i64 0), .lst (some 3) ([]), V.v (.int .i64 0), .lst (some 4) ([]), V.v (.int .i64 0), .lst (some 5) ([]), V.v (.int .i64 0)], [], []⟩ := by
  unfold M_sl21Clip
  by_cases h2 : a = t.length
  · by_cases h3 : 0 < a
    · have h2' : (a : Int) = t.length := by omega
      have h3' : (0 : Int) < a := by omega
      have w := w64 ((a : Int) - 1) (by omega)
      rw [if_pos ⟨h2, h3⟩]
      rw [h2'] at h3' w ⊢
      have h4 : 0 < t.length := by omega
      simp [Tryz.func38, Tryz.f38, h3', h4, w]
    · have h0 : a = 0 := by omega
      subst h0
      have h2' : (0 : Int) = t.length := by omega
      rw [if_neg (by omega)]
      simp [Tryz.func38, Tryz.f38, ← h2']
  · have h2' : ¬ (a : Int) = t.length := by omega
    rw [if_neg (by omega)]
    simp [Tryz.func38, Tryz.f38, h2']
theorem EX_sMakeVi (b : List UInt8) (hb : b.length ≤ 1048576) : ∃ (t : List Int) (a : Int) (r : List TPiece) (f : Int) (l : List ByteArray),
    M_sMakeVi [.lst (some 0) (byts b)] [] [] = some ⟨.tup [.agg [V.v (.bool ((vE t a r [] 0 0).Vi)), V.v (.int .i64 ((vE t a r [] 0 0).Mode)), .own 0, V.v (.int .i64 ((vE t a r [] 0 0).Line.At)), V.v (.int .i64 ((vE t a r [] 0 0).Count)), V.v (.int .i64 ((vE t a r [] 0 0).Op)), V.v (.int .i64 ((vE t a r [] 0 0).OpCount)), V.v (.int .i64 ((vE t a r [] 0 0).Wait)), V.v (.int .i64 ((vE t a r [] 0 0).FindR)), V.v (.int .i64 ((vE t a r [] 0 0).FindHow)), V.v (.int .i64 ((vE t a r [] 0 0).Last)), .own 1, .own 2, V.v (.int .i64 ((vE t a r [] 0 0).Nav)), .own 3, V.v (.int .i64 ((vE t a r [] 0 0).Own.At)), .own 4, V.v (.int .i64 ((vE t a r [] 0 0).Hit)), .own 5, V.v (.int .i64 ((vE t a r [] 0 0).Back.At))], .agg [V.v (.int .i64 f), .own 6]], [], [(0, ints ((vE t a r [] 0 0).Line.Text)), (1, dPieces ((vE t a r [] 0 0).Ring.Pieces)), (2, dLines ((vE t a r [] 0 0).Undo.Lines)), (3, ints ((vE t a r [] 0 0).Own.Text)), (4, ints ((vE t a r [] 0 0).Query)), (5, ints ((vE t a r [] 0 0).Back.Text)), (6, strs l)]⟩ ∧ VI t a r [] ∧ HistI f l ∧ t.length ≤ 16 := by
  obtain ⟨h0, e0⟩ := EX_sl01New b hb
  obtain ⟨t, a, i1, h1, e1, r1, r2, r3, j1⟩ := EX_sl13Draw b 0 h0 hb (by omega)
  obtain ⟨r, i2, h2, e2, r4, j2⟩ := EX_sl15Ring b i1 h1 hb j1
  obtain ⟨f, l, i4, h4, e4, r6, r7, j4⟩ := EX_sl16Draw b i2 h2 hb j2
  have e5 := E_sEdNew true
  have e6 := E_sl21ClipV t a (by omega) r3
  unfold curV at e0 e1 e2 e4
  refine ⟨t, if a = t.length ∧ 0 < a then (a : Int) - 1 else (a : Int), r, f, l, ?_, ⟨?_, ?_, ?_, r4, rfl, by simp⟩, r6, by omega⟩
  · generalize (if a = t.length ∧ 0 < a then (a : Int) - 1 else (a : Int)) = a' at *
    generalize hE : M_sMakeVi _ _ _ = R
    unfold M_sMakeVi at hE
    simp [Tryz.func17, Tryz.f17, e0, e1, e2, e4, e5, e6] at hE
    exact hE.symm
  · simp only [textOk, r1, Bool.and_true, decide_eq_true_eq]; omega
  · split <;> omega
  · by_cases ht : t = []
    · right
      subst ht
      have : a = 0 := by simpa using r3
      subst this
      exact ⟨rfl, by simp⟩
    · left
      have := List.length_pos_iff.2 ht
      split <;> omega
theorem typed2 {f : Int} {l : List ByteArray} (hh : HistI f l) (e0 e1 e2 : TEd) (ok : e0.ok = true) (s c1 c2 : ByteArray) (r1 r2 a1 a2 : Int) (hs : s.size < 4294967281) (hp : splitOf s ⟨#[32]⟩ = [c1, c2])
    (t1 : M_iTextKey [V.v (.string c1)] [] [] = some ⟨.tup [.agg [V.v (.int .i64 1), V.v (.int .i64 r1)], V.v (.bool true)], [], []⟩) (t2 : M_iTextKey [V.v (.string c2)] [] [] = some ⟨.tup [.agg [V.v (.int .i64 1), V.v (.int .i64 r2)], V.v (.bool true)], [], []⟩) (p1 : printable r1 = true) (p2 : printable r2 = true)
    (k1 : KeyTo f l r1 e0 e1 a1) (k2 : KeyTo f l r2 e1 e2 a2) :
    M_iEdTyped [.agg [V.v (.bool e0.Vi), V.v (.int .i64 e0.Mode), .lst (some 0) (ints e0.Line.Text), V.v (.int .i64 e0.Line.At), V.v (.int .i64 e0.Count), V.v (.int .i64 e0.Op), V.v (.int .i64 e0.OpCount), V.v (.int .i64 e0.Wait), V.v (.int .i64 e0.FindR), V.v (.int .i64 e0.FindHow), V.v (.int .i64 e0.Last), .lst (some 1) (dPieces e0.Ring.Pieces), .lst (some 2) (dLines e0.Undo.Lines), V.v (.int .i64 e0.Nav), .lst (some 3) (ints e0.Own.Text), V.v (.int .i64 e0.Own.At), .lst (some 4) (ints e0.Query), V.v (.int .i64 e0.Hit), .lst (some 5) (ints e0.Back.Text), V.v (.int .i64 e0.Back.At)], .agg [V.v (.int .i64 f), .lst (some 6) (strs l)], V.v (.string s)] [] [] = some ⟨.tup [.agg [V.v (.bool e2.Vi), V.v (.int .i64 e2.Mode), .own 0, V.v (.int .i64 e2.Line.At), V.v (.int .i64 e2.Count), V.v (.int .i64 e2.Op), V.v (.int .i64 e2.OpCount), V.v (.int .i64 e2.Wait), V.v (.int .i64 e2.FindR), V.v (.int .i64 e2.FindHow), V.v (.int .i64 e2.Last), .own 1, .own 2, V.v (.int .i64 e2.Nav), .own 3, V.v (.int .i64 e2.Own.At), .own 4, V.v (.int .i64 e2.Hit), .own 5, V.v (.int .i64 e2.Back.At)], .own 6], [], [(0, ints e2.Line.Text), (1, dPieces e2.Ring.Pieces), (2, dLines e2.Undo.Lines), (3, ints e2.Own.Text), (4, ints e2.Query), (5, ints e2.Back.Text), (6, ints [a1, a2])]⟩ := by
  refine E_iEdTyped e0 e2 f l s [c1, c2] [⟨1, r1⟩, ⟨1, r2⟩] [a1, a2] hs hp rfl (by simp) (fun j hj => ?_) ?_
  · match j, hj with
    | 0, _ => exact t1
    | 1, _ => exact t2
    | n + 2, h => exact absurd h (by simp)
  · refine E_iEdKeys e0 ok f l hh [⟨1, r1⟩, ⟨1, r2⟩] (by simp) (fun k hk => ?_) (fun j => match j with | 0 => e0 | 1 => e1 | _ => e2) (fun j => match j with | 0 => a1 | _ => a2) rfl (fun j hj => ?_)
    · simp only [List.mem_cons, List.not_mem_nil, or_false] at hk
      rcases hk with rfl | rfl
      · exact E_iKeyOk_rune r1 p1
      · exact E_iKeyOk_rune r2 p2
    · match j, hj with
      | 0, _ => exact k1
      | 1, _ => exact k2
      | n + 2, h => exact absurd h (by simp)
theorem typed3 {f : Int} {l : List ByteArray} (hh : HistI f l) (e0 e1 e2 e3 : TEd) (ok : e0.ok = true) (s c1 c2 c3 : ByteArray) (r1 r2 r3 a1 a2 a3 : Int) (hs : s.size < 4294967281) (hp : splitOf s ⟨#[32]⟩ = [c1, c2, c3])
    (t1 : M_iTextKey [V.v (.string c1)] [] [] = some ⟨.tup [.agg [V.v (.int .i64 1), V.v (.int .i64 r1)], V.v (.bool true)], [], []⟩) (t2 : M_iTextKey [V.v (.string c2)] [] [] = some ⟨.tup [.agg [V.v (.int .i64 1), V.v (.int .i64 r2)], V.v (.bool true)], [], []⟩) (t3 : M_iTextKey [V.v (.string c3)] [] [] = some ⟨.tup [.agg [V.v (.int .i64 1), V.v (.int .i64 r3)], V.v (.bool true)], [], []⟩) (p1 : printable r1 = true) (p2 : printable r2 = true) (p3 : printable r3 = true)
    (k1 : KeyTo f l r1 e0 e1 a1) (k2 : KeyTo f l r2 e1 e2 a2) (k3 : KeyTo f l r3 e2 e3 a3) :
    M_iEdTyped [.agg [V.v (.bool e0.Vi), V.v (.int .i64 e0.Mode), .lst (some 0) (ints e0.Line.Text), V.v (.int .i64 e0.Line.At), V.v (.int .i64 e0.Count), V.v (.int .i64 e0.Op), V.v (.int .i64 e0.OpCount), V.v (.int .i64 e0.Wait), V.v (.int .i64 e0.FindR), V.v (.int .i64 e0.FindHow), V.v (.int .i64 e0.Last), .lst (some 1) (dPieces e0.Ring.Pieces), .lst (some 2) (dLines e0.Undo.Lines), V.v (.int .i64 e0.Nav), .lst (some 3) (ints e0.Own.Text), V.v (.int .i64 e0.Own.At), .lst (some 4) (ints e0.Query), V.v (.int .i64 e0.Hit), .lst (some 5) (ints e0.Back.Text), V.v (.int .i64 e0.Back.At)], .agg [V.v (.int .i64 f), .lst (some 6) (strs l)], V.v (.string s)] [] [] = some ⟨.tup [.agg [V.v (.bool e3.Vi), V.v (.int .i64 e3.Mode), .own 0, V.v (.int .i64 e3.Line.At), V.v (.int .i64 e3.Count), V.v (.int .i64 e3.Op), V.v (.int .i64 e3.OpCount), V.v (.int .i64 e3.Wait), V.v (.int .i64 e3.FindR), V.v (.int .i64 e3.FindHow), V.v (.int .i64 e3.Last), .own 1, .own 2, V.v (.int .i64 e3.Nav), .own 3, V.v (.int .i64 e3.Own.At), .own 4, V.v (.int .i64 e3.Hit), .own 5, V.v (.int .i64 e3.Back.At)], .own 6], [], [(0, ints e3.Line.Text), (1, dPieces e3.Ring.Pieces), (2, dLines e3.Undo.Lines), (3, ints e3.Own.Text), (4, ints e3.Query), (5, ints e3.Back.Text), (6, ints [a1, a2, a3])]⟩ := by
  refine E_iEdTyped e0 e3 f l s [c1, c2, c3] [⟨1, r1⟩, ⟨1, r2⟩, ⟨1, r3⟩] [a1, a2, a3] hs hp rfl (by simp) (fun j hj => ?_) ?_
  · match j, hj with
    | 0, _ => exact t1
    | 1, _ => exact t2
    | 2, _ => exact t3
    | n + 3, h => exact absurd h (by simp)
  · refine E_iEdKeys e0 ok f l hh [⟨1, r1⟩, ⟨1, r2⟩, ⟨1, r3⟩] (by simp) (fun k hk => ?_) (fun j => match j with | 0 => e0 | 1 => e1 | 2 => e2 | _ => e3) (fun j => match j with | 0 => a1 | 1 => a2 | _ => a3) rfl (fun j hj => ?_)
    · simp only [List.mem_cons, List.not_mem_nil, or_false] at hk
      rcases hk with rfl | rfl | rfl
      · exact E_iKeyOk_rune r1 p1
      · exact E_iKeyOk_rune r2 p2
      · exact E_iKeyOk_rune r3 p3
    · match j, hj with
      | 0, _ => exact k1
      | 1, _ => exact k2
      | 2, _ => exact k3
      | n + 3, h => exact absurd h (by simp)
theorem reads_one {c : UInt8} (h1 : [c] = textOf [(c.toNat : Int)]) (h2 : runeOk (c.toNat : Int) = true) : Reads [c] [(c.toNat : Int)] [] :=
  ⟨by rw [List.append_nil]; exact h1, fun r hr => by rw [List.mem_singleton.1 hr]; exact h2, rfl⟩
theorem tk_d : M_iTextKey [V.v (.string (⟨#[100]⟩))] [] [] = some ⟨.tup [.agg [V.v (.int .i64 1), V.v (.int .i64 100)], V.v (.bool true)], [], []⟩ := E_iTextKey_rune ⟨#[100]⟩ 100 (reads_one (c := 100) (by decide) (by decide)) (by decide) (by decide) (by decide) (by decide) (by decide)
theorem tk_P : M_iTextKey [V.v (.string (⟨#[80]⟩))] [] [] = some ⟨.tup [.agg [V.v (.int .i64 1), V.v (.int .i64 80)], V.v (.bool true)], [], []⟩ := E_iTextKey_rune ⟨#[80]⟩ 80 (reads_one (c := 80) (by decide) (by decide)) (by decide) (by decide) (by decide) (by decide) (by decide)
theorem tk_3 : M_iTextKey [V.v (.string (⟨#[51]⟩))] [] [] = some ⟨.tup [.agg [V.v (.int .i64 1), V.v (.int .i64 51)], V.v (.bool true)], [], []⟩ := E_iTextKey_rune ⟨#[51]⟩ 51 (reads_one (c := 51) (by decide) (by decide)) (by decide) (by decide) (by decide) (by decide) (by decide)
theorem tk_x : M_iTextKey [V.v (.string (⟨#[120]⟩))] [] [] = some ⟨.tup [.agg [V.v (.int .i64 1), V.v (.int .i64 120)], V.v (.bool true)], [], []⟩ := E_iTextKey_rune ⟨#[120]⟩ 120 (reads_one (c := 120) (by decide) (by decide)) (by decide) (by decide) (by decide) (by decide) (by decide)
theorem tk_l : M_iTextKey [V.v (.string (⟨#[108]⟩))] [] [] = some ⟨.tup [.agg [V.v (.int .i64 1), V.v (.int .i64 108)], V.v (.bool true)], [], []⟩ := E_iTextKey_rune ⟨#[108]⟩ 108 (reads_one (c := 108) (by decide) (by decide)) (by decide) (by decide) (by decide) (by decide) (by decide)
theorem cut_again (t : List Int) (A k : Nat) (h : A ≤ t.length) : (t.take A ++ t.drop (A + k)).take A = t.take A ∧ (t.take A ++ t.drop (A + k)).drop (A + 1) = t.drop (A + k + 1) := by
  have hl : (t.take A).length = A := by simp; omega
  constructor
  · rw [List.take_append_of_le_length (by omega), List.take_of_length_le (by omega)]
  · rw [List.drop_append, List.drop_eq_nil_of_le (by omega), List.nil_append, hl, List.drop_drop]
    congr 1; omega
theorem E_lsameInts (a : List Int) (h : a.length ≤ 1000000) : M_lsameInts [.lst (some 0) (ints a), .lst (some 1) (ints a)] [] [] = some ⟨V.v (.bool true), [], []⟩ := by
  unfold M_lsameInts
  simp [Tryz.func12, Tryz.f12]
  rw [loopV_go (fun j => .on ⟨[(13, V.v (.int .i64 ((j : Int)))), (12, V.v (.int .i64 ((a.length : Int)))), (1, .lst (some 1) (ints a)), (0, .lst (some 0) (ints a))], [], [], []⟩) a.length ?_ ?_]
  · simp
  · simp
  · intro j hj
    have hw := w64 ((j : Int) + 1) (by omega)
    simp [hj, hw, ints_get hj]
end Go.Proofs.YtnmneoekpikpkaaGreatDoor
namespace Go.Proofs.YtnmneoekpikpkaaGreatDoor
open Go.RowKit
set_option linter.unusedSimpArgs false
set_option linter.unusedVariables false
set_option maxHeartbeats 8000000
set_option maxRecDepth 10000
theorem E_iisLower (r : Int) : M_iisLower [V.v (.int .i64 r)] [] [] = some ⟨V.v (.bool (inR r 97 122)), [], []⟩ := by
  unfold M_iisLower
  simp [Tryz.func65, Tryz.f65, E_iin]
theorem E_iisDigit (r : Int) : M_iisDigit [V.v (.int .i64 r)] [] [] = some ⟨V.v (.bool (inR r 48 57)), [], []⟩ := by
  unfold M_iisDigit
  simp [Tryz.func111, Tryz.f111, E_iin]
theorem EX_iClassOf (r : Int) : ∃ c : Int, M_iClassOf [V.v (.int .i64 r)] [] [] = some ⟨V.v (.int .i64 c), [], []⟩ := by
  generalize hE : M_iClassOf _ _ _ = R
  unfold M_iClassOf at hE
  by_cases h1 : r = 9
  · simp [Tryz.func115, Tryz.f115, h1] at hE; exact ⟨_, hE.symm⟩
  by_cases h2 : r = 10
  · simp [Tryz.func115, Tryz.f115, h2] at hE; exact ⟨_, hE.symm⟩
  by_cases h3 : r = 32
  · simp [Tryz.func115, Tryz.f115, h3] at hE; exact ⟨_, hE.symm⟩
  cases h4 : inR r 97 122
  case true => simp [Tryz.func115, Tryz.f115, h1, h2, h3, E_iisLower, h4] at hE; exact ⟨_, hE.symm⟩
  cases h5 : inR r 65 90
  case true => simp [Tryz.func115, Tryz.f115, h1, h2, h3, E_iisLower, h4, E_iisUpper, h5] at hE; exact ⟨_, hE.symm⟩
  cases h6 : inR r 48 57
  case true => simp [Tryz.func115, Tryz.f115, h1, h2, h3, E_iisLower, h4, E_iisUpper, h5, E_iisDigit, h6] at hE; exact ⟨_, hE.symm⟩
  by_cases h7 : r = 95
  · simp [Tryz.func115, Tryz.f115, h1, h2, h3, E_iisLower, h4, E_iisUpper, h5, E_iisDigit, h6, h7] at hE
    exact ⟨_, hE.symm⟩
  by_cases h8 : 159 < r
  · cases h9 : printable r <;> simp [Tryz.func115, Tryz.f115, h1, h2, h3, E_iisLower, h4, E_iisUpper, h5, E_iisDigit, h6, h7, h8, E_iPrintable, h9] at hE <;> exact ⟨_, hE.symm⟩
  · simp [Tryz.func115, Tryz.f115, h1, h2, h3, E_iisLower, h4, E_iisUpper, h5, E_iisDigit, h6, h7, h8] at hE
    exact ⟨_, hE.symm⟩
theorem EX_iclassAt (t : List Int) (i : Option Nat) (a : Nat) (big : Bool) (h : a < t.length) : ∃ c : Int, M_iclassAt [.lst i (ints t), V.v (.int .i64 ((a : Int))), V.v (.bool big)] [] [] = some ⟨V.v (.int .i64 c), [], []⟩ := by
  obtain ⟨c, e⟩ := EX_iClassOf t[a]
  generalize hE : M_iclassAt _ _ _ = R
  unfold M_iclassAt at hE
  cases big
  · simp [Tryz.func163, Tryz.f163, h, ints_get h, e] at hE; exact ⟨_, hE.symm⟩
  · by_cases h2 : c = 2
    · simp [Tryz.func163, Tryz.f163, h, ints_get h, e, h2] at hE; exact ⟨_, hE.symm⟩
    · simp [Tryz.func163, Tryz.f163, h, ints_get h, e, h2] at hE; exact ⟨_, hE.symm⟩
theorem stop_ex (p : Nat → Bool) : ∀ n, ∃ k, k ≤ n ∧ (∀ j, j < k → p j = true) ∧ (k = n ∨ p k = false)
  | 0 => ⟨0, Nat.le_refl _, fun j h => by omega, .inl rfl⟩
  | n + 1 => by
    obtain ⟨k, h1, h2, h3⟩ := stop_ex p n
    rcases h3 with rfl | h3
    · cases h : p k
      · exact ⟨k, by omega, h2, .inr h⟩
      · exact ⟨k + 1, Nat.le_refl _, fun j hj => by
          by_cases e : j = k
          · subst e; exact h
          · exact h2 j (by omega), .inl rfl⟩
    · exact ⟨k, by omega, h2, .inr h3⟩
theorem class_fn (t : List Int) (i : Option Nat) (big : Bool) : ∃ cf : Nat → Int, ∀ j, j < t.length → M_iclassAt [.lst i (ints t), V.v (.int .i64 ((j : Int))), V.v (.bool big)] [] [] = some ⟨V.v (.int .i64 (cf j)), [], []⟩ := by
  have : ∀ j, ∃ c : Int, j < t.length → M_iclassAt [.lst i (ints t), V.v (.int .i64 ((j : Int))), V.v (.bool big)] [] [] = some ⟨V.v (.int .i64 c), [], []⟩ := fun j => by
    by_cases h : j < t.length
    · obtain ⟨c, e⟩ := EX_iclassAt t i j big h
      exact ⟨c, fun _ => e⟩
    · exact ⟨0, fun h2 => absurd h2 h⟩
  exact ⟨fun j => (this j).choose, fun j => (this j).choose_spec⟩
theorem EX_irunEnd (t : List Int) (a : Nat) (big : Bool) (h : a < t.length) (ht : t.length ≤ 2000) : ∃ b : Nat, a ≤ b ∧ b ≤ t.length ∧ M_irunEnd [.lst (some 0) (ints t), V.v (.int .i64 ((a : Int))), V.v (.bool big)] [] [] = some ⟨V.v (.int .i64 ((b : Int))), [], []⟩ := by
  obtain ⟨cf, hc⟩ := class_fn t (some 0) big
  obtain ⟨k, h1, h2, h3⟩ := stop_ex (fun j => decide (cf (a + j) = cf a)) (t.length - a)
  refine ⟨a + k, by omega, by omega, ?_⟩
  have e0 := hc a h
  unfold M_irunEnd
  simp [Tryz.func164, Tryz.f164, e0]
  rw [loopV_go (fun j => .on ⟨[(7, V.v (.int .i64 (cf a))), (2, V.v (.bool big)), (1, V.v (.int .i64 (((a + j : Nat) : Int)))), (0, .lst (some 0) (ints t))], [], [], []⟩) k ?_ ?_]
  · rcases h3 with h3 | h3
    · have q : a + k = t.length := by omega
      have q2 : (a : Int) + k = t.length := by omega
      simp [q, q2]
    · by_cases hq : a + k < t.length
      · have e1 := hc (a + k) hq
        have h3' : ¬ cf (a + k) = cf a := of_decide_eq_false h3
        have hq2 : (a : Int) + k < t.length := by omega
        simp only [Int.natCast_add] at e1
        simp [hq, hq2, e1, h3']
      · have q : a + k = t.length := by omega
        have q2 : (a : Int) + k = t.length := by omega
        simp [q, q2]
  · simp
  · intro j hj
    have hq : a + j < t.length := by omega
    have hq2 : (a : Int) + j < t.length := by omega
    have e1 := hc (a + j) hq
    have h2' : cf (a + j) = cf a := of_decide_eq_true (h2 j hj)
    have hw := w64 ((a : Int) + (j + 1)) (by omega)
    have hs : (a : Int) + j + 1 = (a : Int) + (j + 1) := by omega
    simp only [Int.natCast_add] at e1
    simp [hq, hq2, e1, h2', hw, hs]
theorem EX_iViWordOn (t : List Int) (a : Nat) (big : Bool) (h : a ≤ t.length) (ht : t.length ≤ 2000) : ∃ b : Nat, a ≤ b ∧ b ≤ t.length ∧ M_iViWordOn [.lst (some 0) (ints t), V.v (.int .i64 ((a : Int))), V.v (.bool big)] [] [] = some ⟨V.v (.int .i64 ((b : Int))), [], []⟩ := by
  obtain ⟨cf, hc⟩ := class_fn t (some 0) big
  have m1 : max 0 (min (a : Int) t.length) = a := by omega
  have go : ∀ a1 : Nat, a ≤ a1 → a1 ≤ t.length → (∀ (f : Q → Option (Ex × Q)), True) → ∃ k : Nat, a1 + k ≤ t.length ∧ (∀ j, j < k → cf (a1 + j) = 0) ∧ (a1 + k = t.length ∨ ¬ cf (a1 + k) = 0) := fun a1 h1 h2 _ => by
    obtain ⟨k, k1, k2, k3⟩ := stop_ex (fun j => decide (cf (a1 + j) = 0)) (t.length - a1)
    exact ⟨k, by omega, fun j hj => of_decide_eq_true (k2 j hj), k3.imp (fun h => by omega) of_decide_eq_false⟩
  have fin : ∀ a1 : Nat, a ≤ a1 → a1 ≤ t.length → ∀ R : Option Res, (∀ k : Nat, a1 + k ≤ t.length → (∀ j, j < k → cf (a1 + j) = 0) → (a1 + k = t.length ∨ ¬ cf (a1 + k) = 0) → R = some ⟨V.v (.int .i64 (((a1 + k : Nat) : Int))), [], []⟩) → ∃ b : Nat, a ≤ b ∧ b ≤ t.length ∧ R = some ⟨V.v (.int .i64 ((b : Int))), [], []⟩ := fun a1 h1 h2 R hR => by
    obtain ⟨k, k1, k2, k3⟩ := go a1 h1 h2 (fun _ => trivial)
    exact ⟨a1 + k, by omega, k1, hR k k1 k2 k3⟩
  by_cases h0 : a < t.length
  · have e0 := hc a h0
    by_cases hz : cf a = 0
    · refine fin a (Nat.le_refl _) h _ fun k k1 k2 k3 => ?_
      unfold M_iViWordOn
      simp [Tryz.func157, Tryz.f157, E_iwithin, m1, h0, e0, hz]
      rw [loopV_go (fun j => .on ⟨[(2, V.v (.bool big)), (1, V.v (.int .i64 (((a + j : Nat) : Int)))), (0, .lst (some 0) (ints t))], [], [], []⟩) k ?_ ?_]
      · by_cases q : a + k = t.length
        · have q2 : (a : Int) + k = t.length := by omega
          simp [q, q2]
        · have hq : a + k < t.length := by omega
          have hq2 : (a : Int) + k < t.length := by omega
          have e1 := hc (a + k) hq
          have h3' := k3.resolve_left q
          simp only [Int.natCast_add] at e1
          simp [hq, hq2, e1, h3']
      · simp
      · intro j hj
        have hq : a + j < t.length := by omega
        have hq2 : (a : Int) + j < t.length := by omega
        have e1 := hc (a + j) hq
        have hw := w64 ((a : Int) + (j + 1)) (by omega)
        have hs : (a : Int) + j + 1 = (a : Int) + (j + 1) := by omega
        simp only [Int.natCast_add] at e1
        simp [hq, hq2, e1, k2 j hj, hw, hs]
    · obtain ⟨a1, r1, r2, e2⟩ := EX_irunEnd t a big h0 ht
      refine fin a1 r1 r2 _ fun k k1 k2 k3 => ?_
      unfold M_iViWordOn
      simp [Tryz.func157, Tryz.f157, E_iwithin, m1, h0, e0, hz, e2]
      rw [loopV_go (fun j => .on ⟨[(2, V.v (.bool big)), (1, V.v (.int .i64 (((a1 + j : Nat) : Int)))), (0, .lst (some 0) (ints t))], [], [], []⟩) k ?_ ?_]
      · by_cases q : a1 + k = t.length
        · have q2 : (a1 : Int) + k = t.length := by omega
          simp [q, q2]
        · have hq : a1 + k < t.length := by omega
          have hq2 : (a1 : Int) + k < t.length := by omega
          have e1 := hc (a1 + k) hq
          have h3' := k3.resolve_left q
          simp only [Int.natCast_add] at e1
          simp [hq, hq2, e1, h3']
      · simp
      · intro j hj
        have hq : a1 + j < t.length := by omega
        have hq2 : (a1 : Int) + j < t.length := by omega
        have e1 := hc (a1 + j) hq
        have hw := w64 ((a1 : Int) + (j + 1)) (by omega)
        have hs : (a1 : Int) + j + 1 = (a1 : Int) + (j + 1) := by omega
        simp only [Int.natCast_add] at e1
        simp [hq, hq2, e1, k2 j hj, hw, hs]
  · have ha : a = t.length := by omega
    refine ⟨a, Nat.le_refl _, h, ?_⟩
    unfold M_iViWordOn
    simp [Tryz.func157, Tryz.f157, E_iwithin, ha]
    rw [loopV_unf]
    simp
theorem E_irepeated_w (t : List Int) (big : Bool) (a b : Nat) (h : M_iViWordOn [.lst (some 0) (ints t), V.v (.int .i64 ((a : Int))), V.v (.bool big)] [] [] = some ⟨V.v (.int .i64 ((b : Int))), [], []⟩) : M_irepeated [V.v (.int .i64 ((a : Int))), V.v (.int .i64 1), .fn 156 [.ref 0 0, .ref 1 0]] [[.lst (some 0) (ints t)], [V.v (.bool big)]] [] = some ⟨V.v (.int .i64 ((b : Int))), [[.lst (some 0) (ints t)], [V.v (.bool big)]], []⟩ := by
  have e1 : M_impl_MotionTo_1 [V.v (.int .i64 ((a : Int))), .ref 0 0, .ref 1 0] [[.lst (some 0) (ints t)], [V.v (.bool big)]] [] = some ⟨V.v (.int .i64 ((b : Int))), [[.lst (some 0) (ints t)], [V.v (.bool big)]], []⟩ := by
    unfold M_impl_MotionTo_1
    simp [Tryz.func156, Tryz.f156, h, show List.range' 0 2 = [0, 1] from rfl]
  generalize hE : M_irepeated _ _ _ = R
  unfold M_irepeated at hE
  simp [Tryz.func82, Tryz.f82] at hE
  rw [loopV_unf] at hE
  simp [e1] at hE
  rw [loopV_unf] at hE
  simp [show List.range' 0 2 = [0, 1] from rfl] at hE
  exact hE.symm
end Go.Proofs.YtnmneoekpikpkaaGreatDoor
namespace Go.Proofs.YtnmneoekpikpkaaGreatDoor
open Go.RowKit
set_option linter.unusedSimpArgs false
set_option linter.unusedVariables false
set_option maxHeartbeats 8000000
set_option maxRecDepth 10000
theorem E_iLinePut (t u : List Int) (A : Nat) (hA : A ≤ t.length) (ht : textOk t = true) (hu : u.all typed = true) (hl : t.length + u.length ≤ 400) : M_iLinePut [.agg [.lst (some 0) (ints t), V.v (.int .i64 ((A : Int)))], .lst (some 1) (ints u)] [] [] = some ⟨.tup [.agg [.own 0, V.v (.int .i64 (((A : Int) + u.length)))], V.v (.bool true)], [], [(0, ints (t.take A ++ u ++ t.drop A))]⟩ := by
  have htt : t.all typed = true := by simp only [textOk, Bool.and_eq_true] at ht; exact ht.2
  have e1 := E_iLineOk t A (by omega)
  rw [show lineOk t A = true from by unfold lineOk; rw [ht, inR_iff.2 (by omega)]; rfl] at e1
  have e2 := E_icopyInts (t.take A) (some 0) (by simp; omega)
  have hX : textOk (t.take A ++ u ++ t.drop A) = true := by
    simp only [textOk, Bool.and_eq_true, decide_eq_true_eq]
    refine ⟨by simp; omega, List.all_eq_true.2 fun x hx => ?_⟩
    rcases List.mem_append.1 hx with hx | hx
    · rcases List.mem_append.1 hx with hx | hx
      · exact List.all_eq_true.1 htt x (List.mem_of_mem_take hx)
      · exact List.all_eq_true.1 hu x hx
    · exact List.all_eq_true.1 htt x (List.mem_of_mem_drop hx)
  have hXl : (t.take A ++ u ++ t.drop A).length = t.length + u.length := by simp; omega
  have e3 := E_iLineOk (t.take A ++ u ++ t.drop A) ((A : Int) + u.length) (by omega)
  rw [show lineOk (t.take A ++ u ++ t.drop A) ((A : Int) + u.length) = true from by unfold lineOk; rw [hX, inR_iff.2 (by omega)]; rfl] at e3
  have q0 : min A t.length = A := by omega
  have q1 : ¬ (400 : Int) < u.length := by omega
  have q2 : (A + u.length) * 8 ≤ 140737488355328 := by omega
  have q3 : A + u.length ≤ 4611686018427387904 := by omega
  have q4 : (A + u.length + (t.length - A)) * 8 ≤ 140737488355328 := by omega
  have q5 : A + u.length + (t.length - A) ≤ 4611686018427387904 := by omega
  have q6 : (A : Int) ≤ t.length := by omega
  have q7 : (t.drop A).take (t.length - A) = t.drop A := List.take_of_length_le (by simp)
  have q8 : (A + (u.length + (t.length - A))) * 8 ≤ 140737488355328 := by omega
  have q9 : A + (u.length + (t.length - A)) ≤ 4611686018427387904 := by omega
  have w := w64 ((A : Int) + u.length) (by omega)
  generalize hE : M_iLinePut _ _ _ = R
  unfold M_iLinePut at hE
  simp [-ints_app, ← ints_app, -List.append_assoc, Tryz.func141, Tryz.f141, e1, e2, e3, q0, q1, q2, q3, q4, q5, q6, q7, q8, q9, w, hA] at hE
  exact hE.symm
def nE (t : List Int) (a : Int) (r : List TPiece) (ul : List TLine) (last : Int) : TEd := { zEd with Vi := true, Mode := 1, Line := ⟨t, a⟩, Last := last, Ring := ⟨r⟩, Undo := ⟨ul⟩ }
theorem nE_ok {t : List Int} {a : Int} {r : List TPiece} {ul : List TLine} (h1 : lineOk t a = true) (h2 : ringOk r = true) (h3 : undoOk ul = true) (last : Int) (hl : 0 ≤ last ∧ last ≤ 3) : (nE t a r ul last).ok = true := by
  have q3 : modeB true 1 t a 0 0 0 = true := by simp [modeB]
  have q4 : inR last 0 3 = true := inR_iff.2 hl
  simp only [TEd.ok, edOk, nE, zEd, h1, h2, h3, q3, q4]
  rfl
theorem E_ityping (e : TEd) (a : Int) : M_ityping [.agg [V.v (.bool e.Vi), V.v (.int .i64 e.Mode), .lst (some 0) (ints e.Line.Text), V.v (.int .i64 e.Line.At), V.v (.int .i64 e.Count), V.v (.int .i64 e.Op), V.v (.int .i64 e.OpCount), V.v (.int .i64 e.Wait), V.v (.int .i64 e.FindR), V.v (.int .i64 e.FindHow), V.v (.int .i64 e.Last), .lst (some 1) (dPieces e.Ring.Pieces), .lst (some 2) (dLines e.Undo.Lines), V.v (.int .i64 e.Nav), .lst (some 3) (ints e.Own.Text), V.v (.int .i64 e.Own.At), .lst (some 4) (ints e.Query), V.v (.int .i64 e.Hit), .lst (some 5) (ints e.Back.Text), V.v (.int .i64 e.Back.At)], V.v (.int .i64 a)] [] [] = some ⟨.agg [V.v (.bool e.Vi), V.v (.int .i64 1), .lst (some 0) (ints e.Line.Text), V.v (.int .i64 a), V.v (.int .i64 e.Count), V.v (.int .i64 e.Op), V.v (.int .i64 e.OpCount), V.v (.int .i64 e.Wait), V.v (.int .i64 e.FindR), V.v (.int .i64 e.FindHow), V.v (.int .i64 e.Last), .lst (some 1) (dPieces e.Ring.Pieces), .lst (some 2) (dLines e.Undo.Lines), V.v (.int .i64 e.Nav), .lst (some 3) (ints e.Own.Text), V.v (.int .i64 e.Own.At), .lst (some 4) (ints e.Query), V.v (.int .i64 e.Hit), .lst (some 5) (ints e.Back.Text), V.v (.int .i64 e.Back.At)], [], []⟩ := by
  unfold M_ityping
  simp [Tryz.func155, Tryz.f155]
theorem EX_ichange_c (e : TEd) (h : SetI e) (hr : ringOk e.Ring.Pieces = true) (f to_ : Nat) (h1 : f ≤ to_) (h2 : to_ ≤ e.Line.Text.length) : ∃ (ul : List TLine) (rg : List TPiece), M_ichange [.agg [V.v (.bool e.Vi), V.v (.int .i64 e.Mode), .lst (some 0) (ints e.Line.Text), V.v (.int .i64 e.Line.At), V.v (.int .i64 e.Count), V.v (.int .i64 e.Op), V.v (.int .i64 e.OpCount), V.v (.int .i64 e.Wait), V.v (.int .i64 e.FindR), V.v (.int .i64 e.FindHow), V.v (.int .i64 e.Last), .lst (some 1) (dPieces e.Ring.Pieces), .lst (some 2) (dLines e.Undo.Lines), V.v (.int .i64 e.Nav), .lst (some 3) (ints e.Own.Text), V.v (.int .i64 e.Own.At), .lst (some 4) (ints e.Query), V.v (.int .i64 e.Hit), .lst (some 5) (ints e.Back.Text), V.v (.int .i64 e.Back.At)], V.v (.int .i64 99), V.v (.int .i64 ((f : Int))), V.v (.int .i64 ((to_ : Int)))] [] [] =
      some ⟨.tup [.agg [V.v (.bool e.Vi), V.v (.int .i64 1), .own 0, V.v (.int .i64 (f : Int)), V.v (.int .i64 0), V.v (.int .i64 0), V.v (.int .i64 0), V.v (.int .i64 0), V.v (.int .i64 e.FindR), V.v (.int .i64 e.FindHow), V.v (.int .i64 0), .own 1, .own 2, V.v (.int .i64 e.Nav), .own 3, V.v (.int .i64 e.Own.At), .own 4, V.v (.int .i64 e.Hit), .own 5, V.v (.int .i64 e.Back.At)], V.v (.int .i64 0)], [],
        [(0, ints (e.Line.Text.take f ++ e.Line.Text.drop to_)), (1, dPieces rg), (2, dLines ul), (3, ints e.Own.Text), (4, ints e.Query), (5, ints e.Back.Text)]⟩ ∧ undoOk ul = true ∧ ul.length ≤ e.Undo.Lines.length + 1 ∧ ringOk rg = true := by
  have hl : e.Line.Text.length ≤ 400 ∧ e.Line.Text.all typed = true := by have := h.line; simp only [lineOk, textOk, Bool.and_eq_true, decide_eq_true_eq] at this; exact this.1
  by_cases hft : f = to_
  · subst hft
    have e4 := E_igoTo e.Line.Text (some 0) e.Line.At f (by omega)
    have m1 : max 0 (min (f : Int) e.Line.Text.length) = f := by omega
    rw [m1] at e4
    obtain ⟨ul, e5, u⟩ := EX_iset e h e.Line.Text f (by omega) (by omega)
    have e6 := E_ityping { e with Line := ⟨e.Line.Text, clipAt e.Line.Text f⟩, Count := 0, Op := 0, OpCount := 0, Wait := 0, Last := 0, Undo := ⟨ul⟩ } f
    refine ⟨ul, e.Ring.Pieces, ?_, u.1, u.2, hr⟩
    rw [List.take_append_drop]
    generalize hE : M_ichange _ _ _ = R
    unfold M_ichange at hE
    simp [Tryz.func130, Tryz.f130, e4, e5, e6] at hE
    exact hE.symm
  have e1 := E_iLineCut e.Line.Text e.Line.At h.line f to_ (by omega) h2
  have e2 := E_icopyEd e h.b
  have hg0 : (e.Line.Text.drop f).take (to_ - f) ≠ [] := fun e => by have := congrArg List.length e; simp at this; omega
  have hgo : textOk ((e.Line.Text.drop f).take (to_ - f)) = true := by
    simp only [textOk, Bool.and_eq_true, decide_eq_true_eq]
    refine ⟨by simp; omega, List.all_eq_true.2 fun x hx => List.all_eq_true.1 hl.2 x (List.mem_of_mem_drop (List.mem_of_mem_take hx))⟩
  have e3 := E_iRingPut_new e.Ring.Pieces _ hr hgo hg0
  have hxl : (e.Line.Text.take f ++ e.Line.Text.drop to_).length = f + (e.Line.Text.length - to_) := by simp; omega
  have hrn := ring_new hr hgo hg0
  generalize (⟨(e.Line.Text.drop f).take (to_ - f)⟩ :: e.Ring.Pieces : List TPiece).take 6 = rg at *
  generalize (e.Line.Text.drop f).take (to_ - f) = gone at *
  generalize e.Line.Text.take f ++ e.Line.Text.drop to_ = X at *
  have e4 := E_igoTo X (some 0) (cutAt e.Line.At f to_) f (by omega)
  have m1 : max 0 (min (f : Int) X.length) = f := by omega
  rw [m1] at e4
  have h' : SetI { e with Ring := ⟨rg⟩ } := ⟨⟨h.b.line, h.b.own, h.b.back, h.b.query, by
    obtain ⟨p1, p2⟩ := piece_len hrn
    exact ⟨by simp only; omega, fun p hp => by have := (p2 p hp).2.1; omega⟩, h.b.undo⟩, h.mode, h.line, h.undo⟩
  obtain ⟨ul, e5, u⟩ := EX_iset _ h' X f (by omega) (by omega)
  have e6 := E_ityping { e with Line := ⟨X, clipAt X f⟩, Count := 0, Op := 0, OpCount := 0, Wait := 0, Last := 0, Ring := ⟨rg⟩, Undo := ⟨ul⟩ } f
  refine ⟨ul, rg, ?_, u.1, u.2, hrn⟩
  have n1 : ¬ (f : Int) = to_ := by omega
  generalize hE : M_ichange _ _ _ = R
  unfold M_ichange at hE
  simp [-ints_app, Tryz.func130, Tryz.f130, e1, e2, e3, e4, e5, e6, n1] at hE
  exact hE.symm
theorem EX_iset1 (t0 : List Int) (a0 : Int) (r : List TPiece) (ul : List TLine) (h1 : lineOk t0 a0 = true) (h2 : ringOk r = true) (h3 : undoOk ul = true ∧ ul.length ≤ 19) (t : List Int) (a : Int) (ht : t.length ≤ 400) : ∃ ul', M_iset [.agg [V.v (.bool ((nE t0 a0 r ul 0).Vi)), V.v (.int .i64 ((nE t0 a0 r ul 0).Mode)), .lst (some 0) (ints ((nE t0 a0 r ul 0).Line.Text)), V.v (.int .i64 ((nE t0 a0 r ul 0).Line.At)), V.v (.int .i64 ((nE t0 a0 r ul 0).Count)), V.v (.int .i64 ((nE t0 a0 r ul 0).Op)), V.v (.int .i64 ((nE t0 a0 r ul 0).OpCount)), V.v (.int .i64 ((nE t0 a0 r ul 0).Wait)), V.v (.int .i64 ((nE t0 a0 r ul 0).FindR)), V.v (.int .i64 ((nE t0 a0 r ul 0).FindHow)), V.v (.int .i64 ((nE t0 a0 r ul 0).Last)), .lst (some 1) (dPieces ((nE t0 a0 r ul 0).Ring.Pieces)), .lst (some 2) (dLines ((nE t0 a0 r ul 0).Undo.Lines)), V.v (.int .i64 ((nE t0 a0 r ul 0).Nav)), .lst (some 3) (ints ((nE t0 a0 r ul 0).Own.Text)), V.v (.int .i64 ((nE t0 a0 r ul 0).Own.At)), .lst (some 4) (ints ((nE t0 a0 r ul 0).Query)), V.v (.int .i64 ((nE t0 a0 r ul 0).Hit)), .lst (some 5) (ints ((nE t0 a0 r ul 0).Back.Text)), V.v (.int .i64 ((nE t0 a0 r ul 0).Back.At))], .agg [.lst (some 6) (ints t), V.v (.int .i64 a)], V.v (.int .i64 1)] [] [] = some ⟨.agg [V.v (.bool ((nE t a r ul' 1).Vi)), V.v (.int .i64 ((nE t a r ul' 1).Mode)), .own 0, V.v (.int .i64 ((nE t a r ul' 1).Line.At)), V.v (.int .i64 ((nE t a r ul' 1).Count)), V.v (.int .i64 ((nE t a r ul' 1).Op)), V.v (.int .i64 ((nE t a r ul' 1).OpCount)), V.v (.int .i64 ((nE t a r ul' 1).Wait)), V.v (.int .i64 ((nE t a r ul' 1).FindR)), V.v (.int .i64 ((nE t a r ul' 1).FindHow)), V.v (.int .i64 ((nE t a r ul' 1).Last)), .own 1, .own 2, V.v (.int .i64 ((nE t a r ul' 1).Nav)), .own 3, V.v (.int .i64 ((nE t a r ul' 1).Own.At)), .own 4, V.v (.int .i64 ((nE t a r ul' 1).Hit)), .own 5, V.v (.int .i64 ((nE t a r ul' 1).Back.At))], [], [(0, ints ((nE t a r ul' 1).Line.Text)), (1, dPieces ((nE t a r ul' 1).Ring.Pieces)), (2, dLines ((nE t a r ul' 1).Undo.Lines)), (3, ints ((nE t a r ul' 1).Own.Text)), (4, ints ((nE t a r ul' 1).Query)), (5, ints ((nE t a r ul' 1).Back.Text))]⟩ ∧ undoOk ul' = true ∧ ul'.length ≤ ul.length + 1 := by
  have ok := nE_ok h1 h2 h3.1 0 (by omega)
  have e1 := E_isettled (nE t0 a0 r ul 0) (EdB.of ok) 1
  have hl0 : t0.length ≤ 400 := by have := h1; simp only [lineOk, textOk, Bool.and_eq_true, decide_eq_true_eq] at this; exact this.1.1
  have e2 := E_isameInts t t0 (by omega) (by omega)
  obtain ⟨ul', e3, u1, u2⟩ := EX_iUndoPut ul t0 a0 h3.1 h3.2 h1
  have e4 := E_icopyLine t (some 0) a (by omega)
  have e5 := E_iinCommand0 t a 1 (by decide)
  simp only [nE, zEd, ints_nil] at e1 ⊢
  generalize hE : M_iset _ _ _ = R
  unfold M_iset at hE
  by_cases hs : t = t0
  · rw [decide_eq_true hs] at e2
    simp [Tryz.func117, Tryz.f117, e1, e2, e4, e5] at hE
    exact ⟨ul, hE.symm, h3.1, by omega⟩
  · rw [decide_eq_false hs] at e2
    simp [Tryz.func117, Tryz.f117, e1, e2, e3, e4, e5] at hE
    exact ⟨ul', hE.symm, u1, u2⟩
theorem EX_key_z {f : Int} {l : List ByteArray} (hh : HistI f l) (t : List Int) (A : Nat) (r : List TPiece) (ul : List TLine) (h0 : textOk t = true ∧ t.length ≤ 300) (hA : A ≤ t.length) (h2 : ringOk r = true) (h3 : undoOk ul = true ∧ ul.length ≤ 19) (c : Int) (hc : printable c = true) : ∃ ul', KeyTo f l c (nE t A r ul 0) (nE (t.take A ++ [c] ++ t.drop A) ((A : Int) + 1) r ul' 1) 0 ∧ undoOk ul' = true ∧ ul'.length ≤ ul.length + 1 := by
  have h1 : lineOk t A = true := by unfold lineOk; rw [h0.1, inR_iff.2 (by omega)]; rfl
  have ok := nE_ok h1 h2 h3.1 0 (by omega)
  have e1 := E_itimes1 [c] (by simp)
  have e2 := E_iLinePut t [c] A hA h0.1 (by simp [printable_typed hc]) (by simp; omega)
  have hXl : (t.take A ++ [c] ++ t.drop A).length = t.length + 1 := by simp; omega
  simp only [List.length_singleton] at e2
  generalize t.take A ++ [c] ++ t.drop A = X at *
  obtain ⟨ul', e3, u⟩ := EX_iset1 t A r ul h1 h2 h3 X ((A : Int) + 1) (by omega)
  refine ⟨ul', ?_, u⟩
  have e4 : M_iinsert [.agg [V.v (.bool ((nE t A r ul 0).Vi)), V.v (.int .i64 ((nE t A r ul 0).Mode)), .lst (some 0) (ints ((nE t A r ul 0).Line.Text)), V.v (.int .i64 ((nE t A r ul 0).Line.At)), V.v (.int .i64 ((nE t A r ul 0).Count)), V.v (.int .i64 ((nE t A r ul 0).Op)), V.v (.int .i64 ((nE t A r ul 0).OpCount)), V.v (.int .i64 ((nE t A r ul 0).Wait)), V.v (.int .i64 ((nE t A r ul 0).FindR)), V.v (.int .i64 ((nE t A r ul 0).FindHow)), V.v (.int .i64 ((nE t A r ul 0).Last)), .lst (some 1) (dPieces ((nE t A r ul 0).Ring.Pieces)), .lst (some 2) (dLines ((nE t A r ul 0).Undo.Lines)), V.v (.int .i64 ((nE t A r ul 0).Nav)), .lst (some 3) (ints ((nE t A r ul 0).Own.Text)), V.v (.int .i64 ((nE t A r ul 0).Own.At)), .lst (some 4) (ints ((nE t A r ul 0).Query)), V.v (.int .i64 ((nE t A r ul 0).Hit)), .lst (some 5) (ints ((nE t A r ul 0).Back.Text)), V.v (.int .i64 ((nE t A r ul 0).Back.At))], .lst (some 6) (ints [c]), V.v (.int .i64 1)] [] [] = some ⟨.tup [.agg [V.v (.bool ((nE X ((A : Int) + 1) r ul' 1).Vi)), V.v (.int .i64 ((nE X ((A : Int) + 1) r ul' 1).Mode)), .own 0, V.v (.int .i64 ((nE X ((A : Int) + 1) r ul' 1).Line.At)), V.v (.int .i64 ((nE X ((A : Int) + 1) r ul' 1).Count)), V.v (.int .i64 ((nE X ((A : Int) + 1) r ul' 1).Op)), V.v (.int .i64 ((nE X ((A : Int) + 1) r ul' 1).OpCount)), V.v (.int .i64 ((nE X ((A : Int) + 1) r ul' 1).Wait)), V.v (.int .i64 ((nE X ((A : Int) + 1) r ul' 1).FindR)), V.v (.int .i64 ((nE X ((A : Int) + 1) r ul' 1).FindHow)), V.v (.int .i64 ((nE X ((A : Int) + 1) r ul' 1).Last)), .own 1, .own 2, V.v (.int .i64 ((nE X ((A : Int) + 1) r ul' 1).Nav)), .own 3, V.v (.int .i64 ((nE X ((A : Int) + 1) r ul' 1).Own.At)), .own 4, V.v (.int .i64 ((nE X ((A : Int) + 1) r ul' 1).Hit)), .own 5, V.v (.int .i64 ((nE X ((A : Int) + 1) r ul' 1).Back.At))], V.v (.int .i64 0)], [], [(0, ints ((nE X ((A : Int) + 1) r ul' 1).Line.Text)), (1, dPieces ((nE X ((A : Int) + 1) r ul' 1).Ring.Pieces)), (2, dLines ((nE X ((A : Int) + 1) r ul' 1).Undo.Lines)), (3, ints ((nE X ((A : Int) + 1) r ul' 1).Own.Text)), (4, ints ((nE X ((A : Int) + 1) r ul' 1).Query)), (5, ints ((nE X ((A : Int) + 1) r ul' 1).Back.Text))]⟩ := by
    simp only [nE, zEd, ints_nil, ints_cons] at e2 e3 ⊢
    generalize hE : M_iinsert _ _ _ = R
    unfold M_iinsert at hE
    simp [Tryz.func101, Tryz.f101, e2, e3] at hE
    exact hE.symm
  have e5 : M_iplain [.agg [V.v (.bool ((nE t A r ul 0).Vi)), V.v (.int .i64 ((nE t A r ul 0).Mode)), .lst (some 0) (ints ((nE t A r ul 0).Line.Text)), V.v (.int .i64 ((nE t A r ul 0).Line.At)), V.v (.int .i64 ((nE t A r ul 0).Count)), V.v (.int .i64 ((nE t A r ul 0).Op)), V.v (.int .i64 ((nE t A r ul 0).OpCount)), V.v (.int .i64 ((nE t A r ul 0).Wait)), V.v (.int .i64 ((nE t A r ul 0).FindR)), V.v (.int .i64 ((nE t A r ul 0).FindHow)), V.v (.int .i64 ((nE t A r ul 0).Last)), .lst (some 1) (dPieces ((nE t A r ul 0).Ring.Pieces)), .lst (some 2) (dLines ((nE t A r ul 0).Undo.Lines)), V.v (.int .i64 ((nE t A r ul 0).Nav)), .lst (some 3) (ints ((nE t A r ul 0).Own.Text)), V.v (.int .i64 ((nE t A r ul 0).Own.At)), .lst (some 4) (ints ((nE t A r ul 0).Query)), V.v (.int .i64 ((nE t A r ul 0).Hit)), .lst (some 5) (ints ((nE t A r ul 0).Back.Text)), V.v (.int .i64 ((nE t A r ul 0).Back.At))], .agg [V.v (.int .i64 f), .lst (some 6) (strs l)], .agg [V.v (.int .i64 1), V.v (.int .i64 c)]] [] [] = some ⟨.tup [.agg [V.v (.bool ((nE X ((A : Int) + 1) r ul' 1).Vi)), V.v (.int .i64 ((nE X ((A : Int) + 1) r ul' 1).Mode)), .own 0, V.v (.int .i64 ((nE X ((A : Int) + 1) r ul' 1).Line.At)), V.v (.int .i64 ((nE X ((A : Int) + 1) r ul' 1).Count)), V.v (.int .i64 ((nE X ((A : Int) + 1) r ul' 1).Op)), V.v (.int .i64 ((nE X ((A : Int) + 1) r ul' 1).OpCount)), V.v (.int .i64 ((nE X ((A : Int) + 1) r ul' 1).Wait)), V.v (.int .i64 ((nE X ((A : Int) + 1) r ul' 1).FindR)), V.v (.int .i64 ((nE X ((A : Int) + 1) r ul' 1).FindHow)), V.v (.int .i64 ((nE X ((A : Int) + 1) r ul' 1).Last)), .own 1, .own 2, V.v (.int .i64 ((nE X ((A : Int) + 1) r ul' 1).Nav)), .own 3, V.v (.int .i64 ((nE X ((A : Int) + 1) r ul' 1).Own.At)), .own 4, V.v (.int .i64 ((nE X ((A : Int) + 1) r ul' 1).Hit)), .own 5, V.v (.int .i64 ((nE X ((A : Int) + 1) r ul' 1).Back.At))], V.v (.int .i64 0), V.v (.bool true)], [], [(0, ints ((nE X ((A : Int) + 1) r ul' 1).Line.Text)), (1, dPieces ((nE X ((A : Int) + 1) r ul' 1).Ring.Pieces)), (2, dLines ((nE X ((A : Int) + 1) r ul' 1).Undo.Lines)), (3, ints ((nE X ((A : Int) + 1) r ul' 1).Own.Text)), (4, ints ((nE X ((A : Int) + 1) r ul' 1).Query)), (5, ints ((nE X ((A : Int) + 1) r ul' 1).Back.Text))]⟩ := by
    simp only [nE, zEd, ints_nil, ints_cons] at e1 e4 ⊢
    generalize hE : M_iplain _ _ _ = R
    unfold M_iplain at hE
    have m01 : max (0 : Int) 1 = 1 := by decide
    simp [Tryz.func80, Tryz.f80, e1, e4, m01] at hE
    exact hE.symm
  have c1 := E_iEdOk' _ ok
  have c2 := E_iHistOk f l hh
  have c3 := E_iKeyOk_rune c hc
  have e6 : M_icanKey [.agg [V.v (.bool ((nE t A r ul 0).Vi)), V.v (.int .i64 ((nE t A r ul 0).Mode)), .lst (some 0) (ints ((nE t A r ul 0).Line.Text)), V.v (.int .i64 ((nE t A r ul 0).Line.At)), V.v (.int .i64 ((nE t A r ul 0).Count)), V.v (.int .i64 ((nE t A r ul 0).Op)), V.v (.int .i64 ((nE t A r ul 0).OpCount)), V.v (.int .i64 ((nE t A r ul 0).Wait)), V.v (.int .i64 ((nE t A r ul 0).FindR)), V.v (.int .i64 ((nE t A r ul 0).FindHow)), V.v (.int .i64 ((nE t A r ul 0).Last)), .lst (some 1) (dPieces ((nE t A r ul 0).Ring.Pieces)), .lst (some 2) (dLines ((nE t A r ul 0).Undo.Lines)), V.v (.int .i64 ((nE t A r ul 0).Nav)), .lst (some 3) (ints ((nE t A r ul 0).Own.Text)), V.v (.int .i64 ((nE t A r ul 0).Own.At)), .lst (some 4) (ints ((nE t A r ul 0).Query)), V.v (.int .i64 ((nE t A r ul 0).Hit)), .lst (some 5) (ints ((nE t A r ul 0).Back.Text)), V.v (.int .i64 ((nE t A r ul 0).Back.At))], .agg [V.v (.int .i64 f), .lst (some 6) (strs l)], .agg [V.v (.int .i64 1), V.v (.int .i64 c)]] [] [] = some ⟨V.v (.bool true), [], []⟩ := by
    unfold M_icanKey
    simp [Tryz.func79, Tryz.f79, c1, c2, c3]
  have e7 : M_iViKey [.agg [V.v (.bool ((nE t A r ul 0).Vi)), V.v (.int .i64 ((nE t A r ul 0).Mode)), .lst (some 0) (ints ((nE t A r ul 0).Line.Text)), V.v (.int .i64 ((nE t A r ul 0).Line.At)), V.v (.int .i64 ((nE t A r ul 0).Count)), V.v (.int .i64 ((nE t A r ul 0).Op)), V.v (.int .i64 ((nE t A r ul 0).OpCount)), V.v (.int .i64 ((nE t A r ul 0).Wait)), V.v (.int .i64 ((nE t A r ul 0).FindR)), V.v (.int .i64 ((nE t A r ul 0).FindHow)), V.v (.int .i64 ((nE t A r ul 0).Last)), .lst (some 1) (dPieces ((nE t A r ul 0).Ring.Pieces)), .lst (some 2) (dLines ((nE t A r ul 0).Undo.Lines)), V.v (.int .i64 ((nE t A r ul 0).Nav)), .lst (some 3) (ints ((nE t A r ul 0).Own.Text)), V.v (.int .i64 ((nE t A r ul 0).Own.At)), .lst (some 4) (ints ((nE t A r ul 0).Query)), V.v (.int .i64 ((nE t A r ul 0).Hit)), .lst (some 5) (ints ((nE t A r ul 0).Back.Text)), V.v (.int .i64 ((nE t A r ul 0).Back.At))], .agg [V.v (.int .i64 f), .lst (some 6) (strs l)], .agg [V.v (.int .i64 1), V.v (.int .i64 c)]] [] [] = some ⟨.tup [.agg [V.v (.bool ((nE X ((A : Int) + 1) r ul' 1).Vi)), V.v (.int .i64 ((nE X ((A : Int) + 1) r ul' 1).Mode)), .own 0, V.v (.int .i64 ((nE X ((A : Int) + 1) r ul' 1).Line.At)), V.v (.int .i64 ((nE X ((A : Int) + 1) r ul' 1).Count)), V.v (.int .i64 ((nE X ((A : Int) + 1) r ul' 1).Op)), V.v (.int .i64 ((nE X ((A : Int) + 1) r ul' 1).OpCount)), V.v (.int .i64 ((nE X ((A : Int) + 1) r ul' 1).Wait)), V.v (.int .i64 ((nE X ((A : Int) + 1) r ul' 1).FindR)), V.v (.int .i64 ((nE X ((A : Int) + 1) r ul' 1).FindHow)), V.v (.int .i64 ((nE X ((A : Int) + 1) r ul' 1).Last)), .own 1, .own 2, V.v (.int .i64 ((nE X ((A : Int) + 1) r ul' 1).Nav)), .own 3, V.v (.int .i64 ((nE X ((A : Int) + 1) r ul' 1).Own.At)), .own 4, V.v (.int .i64 ((nE X ((A : Int) + 1) r ul' 1).Hit)), .own 5, V.v (.int .i64 ((nE X ((A : Int) + 1) r ul' 1).Back.At))], V.v (.int .i64 0)], [], [(0, ints ((nE X ((A : Int) + 1) r ul' 1).Line.Text)), (1, dPieces ((nE X ((A : Int) + 1) r ul' 1).Ring.Pieces)), (2, dLines ((nE X ((A : Int) + 1) r ul' 1).Undo.Lines)), (3, ints ((nE X ((A : Int) + 1) r ul' 1).Own.Text)), (4, ints ((nE X ((A : Int) + 1) r ul' 1).Query)), (5, ints ((nE X ((A : Int) + 1) r ul' 1).Back.Text))]⟩ := by
    simp only [nE, zEd, ints_nil, ints_cons] at e5 e6 ⊢
    generalize hE : M_iViKey _ _ _ = R
    unfold M_iViKey at hE
    simp [Tryz.func72, Tryz.f72, e5, e6] at hE
    exact hE.symm
  show M_iEdKey _ _ _ = _
  simp only [nE, zEd, ints_nil] at e7 ⊢
  generalize hE : M_iEdKey _ _ _ = R
  unfold M_iEdKey at hE
  simp [Tryz.func49, Tryz.f49, e7] at hE
  exact hE.symm
theorem key_esc {f : Int} {l : List ByteArray} (hh : HistI f l) (t : List Int) (a : Int) (r : List TPiece) (ul : List TLine) (h1 : lineOk t a = true) (h2 : ringOk r = true) (h3 : undoOk ul = true) (last : Int) (hl : 0 ≤ last ∧ last ≤ 3) : M_iEdKey [.agg [V.v (.bool ((nE t a r ul last).Vi)), V.v (.int .i64 ((nE t a r ul last).Mode)), .lst (some 0) (ints ((nE t a r ul last).Line.Text)), V.v (.int .i64 ((nE t a r ul last).Line.At)), V.v (.int .i64 ((nE t a r ul last).Count)), V.v (.int .i64 ((nE t a r ul last).Op)), V.v (.int .i64 ((nE t a r ul last).OpCount)), V.v (.int .i64 ((nE t a r ul last).Wait)), V.v (.int .i64 ((nE t a r ul last).FindR)), V.v (.int .i64 ((nE t a r ul last).FindHow)), V.v (.int .i64 ((nE t a r ul last).Last)), .lst (some 1) (dPieces ((nE t a r ul last).Ring.Pieces)), .lst (some 2) (dLines ((nE t a r ul last).Undo.Lines)), V.v (.int .i64 ((nE t a r ul last).Nav)), .lst (some 3) (ints ((nE t a r ul last).Own.Text)), V.v (.int .i64 ((nE t a r ul last).Own.At)), .lst (some 4) (ints ((nE t a r ul last).Query)), V.v (.int .i64 ((nE t a r ul last).Hit)), .lst (some 5) (ints ((nE t a r ul last).Back.Text)), V.v (.int .i64 ((nE t a r ul last).Back.At))], .agg [V.v (.int .i64 f), .lst (some 6) (strs l)], .agg [V.v (.int .i64 7), V.v (.int .i64 0)]] [] [] = some ⟨.tup [.agg [V.v (.bool ((vE t (max (a - 1) 0) r ul 0 0).Vi)), V.v (.int .i64 ((vE t (max (a - 1) 0) r ul 0 0).Mode)), .own 0, V.v (.int .i64 ((vE t (max (a - 1) 0) r ul 0 0).Line.At)), V.v (.int .i64 ((vE t (max (a - 1) 0) r ul 0 0).Count)), V.v (.int .i64 ((vE t (max (a - 1) 0) r ul 0 0).Op)), V.v (.int .i64 ((vE t (max (a - 1) 0) r ul 0 0).OpCount)), V.v (.int .i64 ((vE t (max (a - 1) 0) r ul 0 0).Wait)), V.v (.int .i64 ((vE t (max (a - 1) 0) r ul 0 0).FindR)), V.v (.int .i64 ((vE t (max (a - 1) 0) r ul 0 0).FindHow)), V.v (.int .i64 ((vE t (max (a - 1) 0) r ul 0 0).Last)), .own 1, .own 2, V.v (.int .i64 ((vE t (max (a - 1) 0) r ul 0 0).Nav)), .own 3, V.v (.int .i64 ((vE t (max (a - 1) 0) r ul 0 0).Own.At)), .own 4, V.v (.int .i64 ((vE t (max (a - 1) 0) r ul 0 0).Hit)), .own 5, V.v (.int .i64 ((vE t (max (a - 1) 0) r ul 0 0).Back.At))], V.v (.int .i64 0)], [], [(0, ints ((vE t (max (a - 1) 0) r ul 0 0).Line.Text)), (1, dPieces ((vE t (max (a - 1) 0) r ul 0 0).Ring.Pieces)), (2, dLines ((vE t (max (a - 1) 0) r ul 0 0).Undo.Lines)), (3, ints ((vE t (max (a - 1) 0) r ul 0 0).Own.Text)), (4, ints ((vE t (max (a - 1) 0) r ul 0 0).Query)), (5, ints ((vE t (max (a - 1) 0) r ul 0 0).Back.Text))]⟩ := by
  have ok := nE_ok h1 h2 h3 last hl
  have ha : 0 ≤ a ∧ a ≤ 400 := by
    have := h1
    simp only [lineOk, textOk, Bool.and_eq_true, decide_eq_true_eq] at this
    have := inR_of this.2
    omega
  have w := w64 (a - 1) (by omega)
  have e6 := E_icanKey _ ok f l hh 7 (by omega)
  have e1 := E_icopyEd _ (EdB.of ok)
  have e5 : M_iplain [.agg [V.v (.bool ((nE t a r ul last).Vi)), V.v (.int .i64 ((nE t a r ul last).Mode)), .lst (some 0) (ints ((nE t a r ul last).Line.Text)), V.v (.int .i64 ((nE t a r ul last).Line.At)), V.v (.int .i64 ((nE t a r ul last).Count)), V.v (.int .i64 ((nE t a r ul last).Op)), V.v (.int .i64 ((nE t a r ul last).OpCount)), V.v (.int .i64 ((nE t a r ul last).Wait)), V.v (.int .i64 ((nE t a r ul last).FindR)), V.v (.int .i64 ((nE t a r ul last).FindHow)), V.v (.int .i64 ((nE t a r ul last).Last)), .lst (some 1) (dPieces ((nE t a r ul last).Ring.Pieces)), .lst (some 2) (dLines ((nE t a r ul last).Undo.Lines)), V.v (.int .i64 ((nE t a r ul last).Nav)), .lst (some 3) (ints ((nE t a r ul last).Own.Text)), V.v (.int .i64 ((nE t a r ul last).Own.At)), .lst (some 4) (ints ((nE t a r ul last).Query)), V.v (.int .i64 ((nE t a r ul last).Hit)), .lst (some 5) (ints ((nE t a r ul last).Back.Text)), V.v (.int .i64 ((nE t a r ul last).Back.At))], .agg [V.v (.int .i64 f), .lst (some 6) (strs l)], .agg [V.v (.int .i64 7), V.v (.int .i64 0)]] [] [] = some ⟨.tup [.agg [V.v (.bool false), V.v (.int .i64 0), .own 0, V.v (.int .i64 0), V.v (.int .i64 0), V.v (.int .i64 0), V.v (.int .i64 0), V.v (.int .i64 0), V.v (.int .i64 0), V.v (.int .i64 0), V.v (.int .i64 0), .own 1, .own 2, V.v (.int .i64 0), .own 3, V.v (.int .i64 0), .own 4, V.v (.int .i64 0), .own 5, V.v (.int .i64 0)], V.v (.int .i64 0), V.v (.bool false)], [], [(0, []), (1, []), (2, []), (3, []), (4, []), (5, [])]⟩ := by
    simp only [nE, zEd, ints_nil]
    generalize hE : M_iplain _ _ _ = R
    unfold M_iplain at hE
    simp [Tryz.func80, Tryz.f80] at hE
    exact hE.symm
  have e7 : M_iViKey [.agg [V.v (.bool ((nE t a r ul last).Vi)), V.v (.int .i64 ((nE t a r ul last).Mode)), .lst (some 0) (ints ((nE t a r ul last).Line.Text)), V.v (.int .i64 ((nE t a r ul last).Line.At)), V.v (.int .i64 ((nE t a r ul last).Count)), V.v (.int .i64 ((nE t a r ul last).Op)), V.v (.int .i64 ((nE t a r ul last).OpCount)), V.v (.int .i64 ((nE t a r ul last).Wait)), V.v (.int .i64 ((nE t a r ul last).FindR)), V.v (.int .i64 ((nE t a r ul last).FindHow)), V.v (.int .i64 ((nE t a r ul last).Last)), .lst (some 1) (dPieces ((nE t a r ul last).Ring.Pieces)), .lst (some 2) (dLines ((nE t a r ul last).Undo.Lines)), V.v (.int .i64 ((nE t a r ul last).Nav)), .lst (some 3) (ints ((nE t a r ul last).Own.Text)), V.v (.int .i64 ((nE t a r ul last).Own.At)), .lst (some 4) (ints ((nE t a r ul last).Query)), V.v (.int .i64 ((nE t a r ul last).Hit)), .lst (some 5) (ints ((nE t a r ul last).Back.Text)), V.v (.int .i64 ((nE t a r ul last).Back.At))], .agg [V.v (.int .i64 f), .lst (some 6) (strs l)], .agg [V.v (.int .i64 7), V.v (.int .i64 0)]] [] [] = some ⟨.tup [.agg [V.v (.bool ((vE t (max (a - 1) 0) r ul 0 0).Vi)), V.v (.int .i64 ((vE t (max (a - 1) 0) r ul 0 0).Mode)), .own 0, V.v (.int .i64 ((vE t (max (a - 1) 0) r ul 0 0).Line.At)), V.v (.int .i64 ((vE t (max (a - 1) 0) r ul 0 0).Count)), V.v (.int .i64 ((vE t (max (a - 1) 0) r ul 0 0).Op)), V.v (.int .i64 ((vE t (max (a - 1) 0) r ul 0 0).OpCount)), V.v (.int .i64 ((vE t (max (a - 1) 0) r ul 0 0).Wait)), V.v (.int .i64 ((vE t (max (a - 1) 0) r ul 0 0).FindR)), V.v (.int .i64 ((vE t (max (a - 1) 0) r ul 0 0).FindHow)), V.v (.int .i64 ((vE t (max (a - 1) 0) r ul 0 0).Last)), .own 1, .own 2, V.v (.int .i64 ((vE t (max (a - 1) 0) r ul 0 0).Nav)), .own 3, V.v (.int .i64 ((vE t (max (a - 1) 0) r ul 0 0).Own.At)), .own 4, V.v (.int .i64 ((vE t (max (a - 1) 0) r ul 0 0).Hit)), .own 5, V.v (.int .i64 ((vE t (max (a - 1) 0) r ul 0 0).Back.At))], V.v (.int .i64 0)], [], [(0, ints ((vE t (max (a - 1) 0) r ul 0 0).Line.Text)), (1, dPieces ((vE t (max (a - 1) 0) r ul 0 0).Ring.Pieces)), (2, dLines ((vE t (max (a - 1) 0) r ul 0 0).Undo.Lines)), (3, ints ((vE t (max (a - 1) 0) r ul 0 0).Own.Text)), (4, ints ((vE t (max (a - 1) 0) r ul 0 0).Query)), (5, ints ((vE t (max (a - 1) 0) r ul 0 0).Back.Text))]⟩ := by
    simp only [nE, vE, zEd, ints_nil] at e1 e5 e6 ⊢
    generalize hE : M_iViKey _ _ _ = R
    unfold M_iViKey at hE
    simp [Tryz.func72, Tryz.f72, e1, e5, e6, w] at hE
    exact hE.symm
  simp only [nE, vE, zEd, ints_nil] at e7 ⊢
  generalize hE : M_iEdKey _ _ _ = R
  unfold M_iEdKey at hE
  simp [Tryz.func49, Tryz.f49, e7] at hE
  exact hE.symm
end Go.Proofs.YtnmneoekpikpkaaGreatDoor
