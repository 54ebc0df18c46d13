/- Part 10 of a proof in several texts (an abstract evaluator, what the functions compute). -/
import Derived.Test.YtjhdikdopdcfcaaGreatDoorPkFnSearch9
namespace Go.Proofs.YtjhdikdopdcfcaaGreatDoor
open Go.RowKit
set_option linter.unusedSimpArgs false
set_option linter.unusedVariables false
set_option maxHeartbeats 8000000
set_option maxRecDepth 10000
def undoPut (l : List TLine) (x : TLine) : List TLine :=
  if l.getLast?.map (·.Text) = some x.Text then l else if l.length = 20 then l.drop 1 ++ [x] else l ++ [x]
theorem undo_parts {l : List TLine} (h : undoOk l = true) : l.length ≤ 20 ∧ ∀ p ∈ l, lineOk p.Text p.At = true := by
  refine ⟨?_, undo_len h⟩
  simp only [undoOk, Bool.and_eq_true, decide_eq_true_eq] at h
  omega
theorem undo_of {l : List TLine} (h : l.length ≤ 20) (hp : ∀ p ∈ l, lineOk p.Text p.At = true) : undoOk l = true := by
  simp only [undoOk, Bool.and_eq_true, decide_eq_true_eq]
  exact ⟨List.all_eq_true.2 fun p hq => by simpa [lineB] using hp p hq, by omega⟩
theorem undoPut_ok {l : List TLine} {x : TLine} (h : undoOk l = true) (hx : lineOk x.Text x.At = true) : undoOk (undoPut l x) = true := by
  obtain ⟨h1, h2⟩ := undo_parts h
  unfold undoPut
  split
  · exact h
  · split
    · refine undo_of (by simp; omega) fun p hp => ?_
      rcases List.mem_append.1 hp with hp | hp
      · exact h2 p (List.mem_of_mem_drop hp)
      · rw [List.mem_singleton.1 hp]; exact hx
    · refine undo_of (by simp; omega) fun p hp => ?_
      rcases List.mem_append.1 hp with hp | hp
      · exact h2 p hp
      · rw [List.mem_singleton.1 hp]; exact hx
theorem line_len {t : List Int} {a : Int} (h : lineOk t a = true) : t.length ≤ 400 ∧ t.all typed = true ∧ 0 ≤ a ∧ a ≤ t.length := by
  simp only [lineOk, textOk, Bool.and_eq_true, decide_eq_true_eq] at h
  have := inR_iff.1 h.2
  exact ⟨h.1.1, h.1.2, this.1, this.2⟩
theorem undo_tail {l : List TLine} (h0 : l ≠ []) {t : List Int} {a : Int} : List.take l.length (dLines l ++ [[.l (ints t), D.a (.int .i64 a)]]).tail = dLines (l.drop 1 ++ [⟨t, a⟩]) := by
  obtain ⟨x, r, rfl⟩ := List.exists_cons_of_ne_nil h0
  rw [dLines_cons, List.cons_append, List.tail_cons, show dLines r ++ [[.l (ints t), D.a (.int .i64 a)]] = dLines (r ++ [⟨t, a⟩]) from dLines_snoc r ⟨t, a⟩]
  exact List.take_of_length_le (by simp)
theorem E_iUndoPut (l : List TLine) (t : List Int) (a : Int) (h : undoOk l = true) (ht : lineOk t a = true) : M_iUndoPut [.agg [.lst (some 0) (dLines l)], .agg [.lst (some 1) (ints t), V.v (.int .i64 a)]] [] [] = some ⟨.tup [.agg [.own 0], V.v (.bool true)], [], [(0, dLines (undoPut l ⟨t, a⟩))]⟩ := by
  obtain ⟨hl, hp⟩ := undo_parts h
  have htl := (line_len ht).1
  have e1 := E_iUndoOk l (sm_lines h)
  rw [h] at e1
  have e2 := E_iLineOk t a (by omega)
  rw [ht] at e2
  have e3 := E_icopyUndo l (some 0) (by omega) (fun p hq => by have := (line_len (hp p hq)).1; omega)
  have e4 := E_icopyLine t (some 0) a (by omega)
  have e6 : dLines (l ++ [⟨t, a⟩]) = dLines l ++ [[.l (ints t), D.a (.int .i64 a)]] := (dLines_snoc l ⟨t, a⟩).symm
  have g1 : (l.length + 1) * 32 ≤ 140737488355328 := by omega
  have g2 : l.length + 1 ≤ 4611686018427387904 := by omega
  have g4 : l.length ≤ 4611686018427387903 := by omega
  generalize hE : M_iUndoPut _ _ _ = R
  unfold M_iUndoPut at hE
  unfold undoPut
  by_cases h0 : l = []
  · subst h0
    simp only [show dLines [] = [] from rfl] at hE e1 e3
    simp [Tryz.func146, Tryz.f146, e1, e2, e3, e4] at hE
    exact hE.symm
  · have hlen : 0 < l.length := List.length_pos_iff.2 h0
    have hj : l.length - 1 < l.length := by omega
    have hq := (line_len (hp l[l.length - 1] (List.getElem_mem hj))).1
    have e5 := E_isameInts l[l.length - 1].Text t (by omega) (by omega)
    have w := w64 ((l.length : Int) - 1) (by omega)
    have k1 : 0 ≤ (l.length : Int) - 1 := by omega
    have k2 : (l.length : Int) - 1 < l.length := by omega
    have k3 : ((l.length : Int) - 1).toNat = l.length - 1 := by omega
    have k4 : (0 : Int) < l.length := by omega
    have k5 : 1 ≤ (l.length : Int) := by omega
    have hlast : l.getLast?.map (·.Text) = some l[l.length - 1].Text := by rw [List.getLast?_eq_getElem?, List.getElem?_eq_getElem hj]; rfl
    simp only [hlast, Option.some.injEq]
    by_cases hs : l[l.length - 1].Text = t
    · rw [decide_eq_true hs] at e5
      rw [if_pos hs]
      simp [Tryz.func146, Tryz.f146, e1, e2, e3, e4, e5, w, k1, k2, k3, k4, k5, hj, hlen, dLines_get hj] at hE
      exact hE.symm
    · rw [decide_eq_false hs] at e5
      rw [if_neg hs]
      by_cases h20 : l.length = 20
      · rw [if_pos h20]
        have g3 : (20 : Int) < (l.length : Int) + 1 := by omega
        have g5 : (1 : Int) ≤ (l.length : Int) + 1 := by omega
        have g6 : wid 2 (dLines l ++ [[.l (ints t), D.a (.int .i64 a)]]) = true := by rw [← e6]; exact dLines_wid _
        have g7 : (1 : Int) < (l.length : Int) + 1 := by omega
        simp [Tryz.func146, Tryz.f146, e1, e2, e3, e4, e5, w, k1, k2, k3, k4, k5, hj, hlen, dLines_get hj, g1, g2, g3, g4, g5, g6, g7] at hE
        rw [← hE, undo_tail h0]
      · rw [if_neg h20, e6]
        have g3 : ¬ (20 : Int) < (l.length : Int) + 1 := by omega
        simp [Tryz.func146, Tryz.f146, e1, e2, e3, e4, e5, w, k1, k2, k3, k4, k5, hj, hlen, dLines_get hj, g1, g2, g3, g4] at hE
        exact hE.symm
theorem E_iUndoTake (l : List TLine) (h : undoOk l = true) (h0 : l ≠ []) : M_iUndoTake [.agg [.lst (some 0) (dLines l)]] [] [] = some ⟨.tup [.agg [.own 0], .agg [.own 1, V.v (.int .i64 ((l.getLast h0).At))], V.v (.bool true)], [], [(0, dLines l.dropLast), (1, ints (l.getLast h0).Text)]⟩ := by
  obtain ⟨hl, hp⟩ := undo_parts h
  have e1 := E_iUndoOk l (sm_lines h)
  rw [h] at e1
  have hlen : 0 < l.length := List.length_pos_iff.2 h0
  have hj : l.length - 1 < l.length := by omega
  have hq := (line_len (hp l[l.length - 1] (List.getElem_mem hj))).1
  have e3 := E_icopyUndo l.dropLast (some 0) (by simp; omega) (fun p hq => by have := (line_len (hp p (List.dropLast_subset _ hq))).1; omega)
  have e3' := E_icopyUndo l.dropLast none (by simp; omega) (fun p hq => by have := (line_len (hp p (List.dropLast_subset _ hq))).1; omega)
  have e4 := E_icopyLine l[l.length - 1].Text (some 0) l[l.length - 1].At (by omega)
  have w := w64 ((l.length : Int) - 1) (by omega)
  have k1 : 0 ≤ (l.length : Int) - 1 := by omega
  have k2 : (l.length : Int) - 1 < l.length := by omega
  have k3 : ((l.length : Int) - 1).toNat = l.length - 1 := by omega
  have k4 : (0 : Int) < l.length := by omega
  have k5 : 1 ≤ (l.length : Int) := by omega
  have k6 : (l.length : Int) - 1 ≤ l.length := by omega
  have k7 : ¬ l.length = 0 := by omega
  have k8 : l.take (l.length - 1) = l.dropLast := (List.dropLast_eq_take ..).symm
  rw [List.getLast_eq_getElem]
  generalize hE : M_iUndoTake _ _ _ = R
  unfold M_iUndoTake at hE
  simp [Tryz.func147, Tryz.f147, e1, e3, e3', e4, w, k1, k2, k3, k4, k5, k6, k7, k8, h0, hj, dLines_get hj] at hE
  exact hE.symm
theorem E_iUndoTake_no : M_iUndoTake [.agg [.lst (some 0) (dLines [])]] [] [] = some ⟨.tup [.agg [.own 0], .agg [.own 1, V.v (.int .i64 0)], V.v (.bool false)], [], [(0, []), (1, [])]⟩ := by
  have e1 := E_iUndoOk [] rfl
  simp only [show undoOk [] = true from rfl, show dLines [] = [] from rfl] at e1 ⊢
  unfold M_iUndoTake
  simp [Tryz.func147, Tryz.f147, e1]
def inCmdAt (mode : Int) (t : List Int) (a : Int) : Int := if mode = 2 then clipAt t a else a
theorem E_iinCommand (t : List Int) (a mode : Int) (ha : 0 ≤ a ∧ a ≤ 1000) : M_iinCommand [.agg [.lst (some 0) (ints t), V.v (.int .i64 a)], V.v (.int .i64 mode)] [] [] = some ⟨.agg [.lst (some 0) (ints t), V.v (.int .i64 (inCmdAt mode t a))], [], []⟩ := by
  unfold inCmdAt
  by_cases h : mode = 2
  · rw [if_pos h, h]; exact E_iinCommand2 t a ha
  · rw [if_neg h]; exact E_iinCommand0 t a mode h
def setUndo (e : TEd) (t : List Int) (last : Int) : List TLine := if t = e.Line.Text ∨ (last = 1 ∧ e.Last = 1) then e.Undo.Lines else undoPut e.Undo.Lines e.Line
theorem ok_parts {e : TEd} (h : e.ok = true) : lineOk e.Line.Text e.Line.At = true ∧ ringOk e.Ring.Pieces = true ∧ undoOk e.Undo.Lines = true := by
  simp only [TEd.ok, edOk, Bool.and_eq_true, decide_eq_true_eq] at h
  exact ⟨h.1, h.2.2.2.2.2.2.2.2.1, h.2.2.2.2.2.2.2.2.2.1⟩
theorem setUndo_ok {e : TEd} (ok : e.ok = true) (t : List Int) (last : Int) : undoOk (setUndo e t last) = true := by
  obtain ⟨h1, h2, h3⟩ := ok_parts ok
  unfold setUndo
  split
  · exact h3
  · exact undoPut_ok h3 h1
theorem E_iset (e : TEd) (ok : e.ok = true) (t : List Int) (a last : Int) (ht : t.length ≤ 400) (ha : 0 ≤ a ∧ a ≤ t.length) : M_iset [.agg [V.v (.bool e.Vi), V.v (.int .i64 e.Mode), .lst (some 0) (ints e.Line.Text), V.v (.int .i64 e.Line.At), V.v (.int .i64 e.Count), V.v (.int .i64 e.Op), V.v (.int .i64 e.OpCount), V.v (.int .i64 e.Wait), V.v (.int .i64 e.FindR), V.v (.int .i64 e.FindHow), V.v (.int .i64 e.Last), .lst (some 1) (dPieces e.Ring.Pieces), .lst (some 2) (dLines e.Undo.Lines), V.v (.int .i64 e.Nav), .lst (some 3) (ints e.Own.Text), V.v (.int .i64 e.Own.At), .lst (some 4) (ints e.Query), V.v (.int .i64 e.Hit), .lst (some 5) (ints e.Back.Text), V.v (.int .i64 e.Back.At)], .agg [.lst (some 6) (ints t), V.v (.int .i64 a)], V.v (.int .i64 last)] [] [] = some ⟨.agg [V.v (.bool e.Vi), V.v (.int .i64 e.Mode), .own 0, V.v (.int .i64 (inCmdAt e.Mode t a)), V.v (.int .i64 0), V.v (.int .i64 0), V.v (.int .i64 0), V.v (.int .i64 0), V.v (.int .i64 e.FindR), V.v (.int .i64 e.FindHow), V.v (.int .i64 last), .own 1, .own 2, V.v (.int .i64 e.Nav), .own 3, V.v (.int .i64 e.Own.At), .own 4, V.v (.int .i64 e.Hit), .own 5, V.v (.int .i64 e.Back.At)], [], [(0, ints t), (1, dPieces e.Ring.Pieces), (2, dLines (setUndo e t last)), (3, ints e.Own.Text), (4, ints e.Query), (5, ints e.Back.Text)]⟩ := by
  obtain ⟨h1, h2, h3⟩ := ok_parts ok
  have e1 := E_isettled e (EdB.of ok) last
  have hel := (line_len h1).1
  have e2 := E_isameInts t e.Line.Text (by omega) (by omega)
  have e3 := E_iUndoPut e.Undo.Lines e.Line.Text e.Line.At h3 h1
  have e4 := E_icopyLine t (some 0) a (by omega)
  have e5 := E_iinCommand t a e.Mode (by omega)
  generalize hE : M_iset _ _ _ = R
  unfold M_iset at hE
  unfold setUndo
  by_cases hs : t = e.Line.Text
  · rw [decide_eq_true hs] at e2
    rw [if_pos (.inl hs)]
    simp [Tryz.func112, Tryz.f112, e1, e2, e4, e5] at hE
    exact hE.symm
  · rw [decide_eq_false hs] at e2
    by_cases hl : last = 1
    · subst hl
      by_cases hl2 : e.Last = 1
      · rw [if_pos (.inr ⟨rfl, hl2⟩)]
        simp only [hl2] at e1 hE
        simp [Tryz.func112, Tryz.f112, e1, e2, e4, e5] at hE
        exact hE.symm
      · rw [if_neg (by simp [hs, hl2])]
        simp [Tryz.func112, Tryz.f112, e1, e2, e3, e4, e5, hl2] at hE
        exact hE.symm
    · rw [if_neg (by simp [hs, hl])]
      simp [Tryz.func112, Tryz.f112, e1, e2, e3, e4, e5, hl] at hE
      exact hE.symm
theorem E_iput (e : TEd) (ok : e.ok = true) (t : List Int) (a : Int) (ht : t.length ≤ 400) (ha : 0 ≤ a ∧ a ≤ t.length) : M_iput [.agg [V.v (.bool e.Vi), V.v (.int .i64 e.Mode), .lst (some 0) (ints e.Line.Text), V.v (.int .i64 e.Line.At), V.v (.int .i64 e.Count), V.v (.int .i64 e.Op), V.v (.int .i64 e.OpCount), V.v (.int .i64 e.Wait), V.v (.int .i64 e.FindR), V.v (.int .i64 e.FindHow), V.v (.int .i64 e.Last), .lst (some 1) (dPieces e.Ring.Pieces), .lst (some 2) (dLines e.Undo.Lines), V.v (.int .i64 e.Nav), .lst (some 3) (ints e.Own.Text), V.v (.int .i64 e.Own.At), .lst (some 4) (ints e.Query), V.v (.int .i64 e.Hit), .lst (some 5) (ints e.Back.Text), V.v (.int .i64 e.Back.At)], .agg [.lst (some 6) (ints t), V.v (.int .i64 a)]] [] [] = some ⟨.tup [.agg [V.v (.bool e.Vi), V.v (.int .i64 e.Mode), .own 0, V.v (.int .i64 (inCmdAt e.Mode t a)), V.v (.int .i64 0), V.v (.int .i64 0), V.v (.int .i64 0), V.v (.int .i64 0), V.v (.int .i64 e.FindR), V.v (.int .i64 e.FindHow), V.v (.int .i64 0), .own 1, .own 2, V.v (.int .i64 e.Nav), .own 3, V.v (.int .i64 e.Own.At), .own 4, V.v (.int .i64 e.Hit), .own 5, V.v (.int .i64 e.Back.At)], V.v (.int .i64 0)], [], [(0, ints t), (1, dPieces e.Ring.Pieces), (2, dLines (setUndo e t 0)), (3, ints e.Own.Text), (4, ints e.Query), (5, ints e.Back.Text)]⟩ := by
  have e1 := E_iset e ok t a 0 ht ha
  unfold M_iput
  simp [Tryz.func100, Tryz.f100, e1]
theorem E_iundo (e : TEd) (ok : e.ok = true) (h0 : e.Undo.Lines ≠ []) : M_iundo [.agg [V.v (.bool e.Vi), V.v (.int .i64 e.Mode), .lst (some 0) (ints e.Line.Text), V.v (.int .i64 e.Line.At), V.v (.int .i64 e.Count), V.v (.int .i64 e.Op), V.v (.int .i64 e.OpCount), V.v (.int .i64 e.Wait), V.v (.int .i64 e.FindR), V.v (.int .i64 e.FindHow), V.v (.int .i64 e.Last), .lst (some 1) (dPieces e.Ring.Pieces), .lst (some 2) (dLines e.Undo.Lines), V.v (.int .i64 e.Nav), .lst (some 3) (ints e.Own.Text), V.v (.int .i64 e.Own.At), .lst (some 4) (ints e.Query), V.v (.int .i64 e.Hit), .lst (some 5) (ints e.Back.Text), V.v (.int .i64 e.Back.At)]] [] [] = some ⟨.tup [.agg [V.v (.bool e.Vi), V.v (.int .i64 e.Mode), .own 0, V.v (.int .i64 (inCmdAt e.Mode (e.Undo.Lines.getLast h0).Text (e.Undo.Lines.getLast h0).At)), V.v (.int .i64 0), V.v (.int .i64 0), V.v (.int .i64 0), V.v (.int .i64 0), V.v (.int .i64 e.FindR), V.v (.int .i64 e.FindHow), V.v (.int .i64 0), .own 1, .own 2, V.v (.int .i64 e.Nav), .own 3, V.v (.int .i64 e.Own.At), .own 4, V.v (.int .i64 e.Hit), .own 5, V.v (.int .i64 e.Back.At)], V.v (.int .i64 0)], [], [(0, ints ((e.Undo.Lines.getLast h0).Text)), (1, dPieces e.Ring.Pieces), (2, dLines e.Undo.Lines.dropLast), (3, ints e.Own.Text), (4, ints e.Query), (5, ints e.Back.Text)]⟩ := by
  obtain ⟨h1, h2, h3⟩ := ok_parts ok
  have e1 := E_iUndoTake e.Undo.Lines h3 h0
  have e2 := E_isettled e (EdB.of ok) 0
  have hx := line_len ((undo_parts h3).2 _ (List.getLast_mem h0))
  have e5 := E_iinCommand (e.Undo.Lines.getLast h0).Text (e.Undo.Lines.getLast h0).At e.Mode (by omega)
  generalize e.Undo.Lines.getLast h0 = x at *
  generalize hE : M_iundo _ _ _ = R
  unfold M_iundo at hE
  simp [Tryz.func116, Tryz.f116, e1, e2, e5] at hE
  exact hE.symm
theorem E_iundo_no (e : TEd) (ok : e.ok = true) (h0 : e.Undo.Lines = []) : M_iundo [.agg [V.v (.bool e.Vi), V.v (.int .i64 e.Mode), .lst (some 0) (ints e.Line.Text), V.v (.int .i64 e.Line.At), V.v (.int .i64 e.Count), V.v (.int .i64 e.Op), V.v (.int .i64 e.OpCount), V.v (.int .i64 e.Wait), V.v (.int .i64 e.FindR), V.v (.int .i64 e.FindHow), V.v (.int .i64 e.Last), .lst (some 1) (dPieces e.Ring.Pieces), .lst (some 2) (dLines e.Undo.Lines), V.v (.int .i64 e.Nav), .lst (some 3) (ints e.Own.Text), V.v (.int .i64 e.Own.At), .lst (some 4) (ints e.Query), V.v (.int .i64 e.Hit), .lst (some 5) (ints e.Back.Text), V.v (.int .i64 e.Back.At)]] [] [] = some ⟨.tup [.agg [V.v (.bool e.Vi), V.v (.int .i64 e.Mode), .own 0, V.v (.int .i64 e.Line.At), V.v (.int .i64 0), V.v (.int .i64 0), V.v (.int .i64 0), V.v (.int .i64 0), V.v (.int .i64 e.FindR), V.v (.int .i64 e.FindHow), V.v (.int .i64 0), .own 1, .own 2, V.v (.int .i64 e.Nav), .own 3, V.v (.int .i64 e.Own.At), .own 4, V.v (.int .i64 e.Hit), .own 5, V.v (.int .i64 e.Back.At)], V.v (.int .i64 1)], [], [(0, ints e.Line.Text), (1, dPieces e.Ring.Pieces), (2, dLines e.Undo.Lines), (3, ints e.Own.Text), (4, ints e.Query), (5, ints e.Back.Text)]⟩ := by
  have e1 := E_iUndoTake_no
  have e2 := E_ibell e (EdB.of ok)
  rw [← h0] at e1
  generalize hE : M_iundo _ _ _ = R
  unfold M_iundo at hE
  simp [Tryz.func116, Tryz.f116, e1, e2] at hE
  exact hE.symm
def killHow (e : TEd) (how : Int) : Int := if e.Last = 2 then how else 0
theorem E_ikill (e : TEd) (ok : e.ok = true) (f to_ : Nat) (how : Int) (hw : 0 ≤ how ∧ how ≤ 2) (h1 : f < to_) (h2 : to_ ≤ e.Line.Text.length) : M_ikill [.agg [V.v (.bool e.Vi), V.v (.int .i64 e.Mode), .lst (some 0) (ints e.Line.Text), V.v (.int .i64 e.Line.At), V.v (.int .i64 e.Count), V.v (.int .i64 e.Op), V.v (.int .i64 e.OpCount), V.v (.int .i64 e.Wait), V.v (.int .i64 e.FindR), V.v (.int .i64 e.FindHow), V.v (.int .i64 e.Last), .lst (some 1) (dPieces e.Ring.Pieces), .lst (some 2) (dLines e.Undo.Lines), V.v (.int .i64 e.Nav), .lst (some 3) (ints e.Own.Text), V.v (.int .i64 e.Own.At), .lst (some 4) (ints e.Query), V.v (.int .i64 e.Hit), .lst (some 5) (ints e.Back.Text), V.v (.int .i64 e.Back.At)], V.v (.int .i64 ((f : Int))), V.v (.int .i64 ((to_ : Int))), V.v (.int .i64 how)] [] [] =
      some ⟨.tup [.agg [V.v (.bool e.Vi), V.v (.int .i64 e.Mode), .own 0, V.v (.int .i64 (inCmdAt e.Mode (e.Line.Text.take f ++ e.Line.Text.drop to_) (cutAt e.Line.At f to_))), V.v (.int .i64 0), V.v (.int .i64 0), V.v (.int .i64 0), V.v (.int .i64 0), V.v (.int .i64 e.FindR), V.v (.int .i64 e.FindHow), V.v (.int .i64 2), .own 1, .own 2, V.v (.int .i64 e.Nav), .own 3, V.v (.int .i64 e.Own.At), .own 4, V.v (.int .i64 e.Hit), .own 5, V.v (.int .i64 e.Back.At)], V.v (.int .i64 0)], [],
        [(0, ints (e.Line.Text.take f ++ e.Line.Text.drop to_)), (1, dPieces (ringPut e.Ring.Pieces ((e.Line.Text.drop f).take (to_ - f)) (killHow e how))), (2, dLines (setUndo e (e.Line.Text.take f ++ e.Line.Text.drop to_) 2)), (3, ints e.Own.Text), (4, ints e.Query), (5, ints e.Back.Text)]⟩ := by
  obtain ⟨o1, o2, o3⟩ := ok_parts ok
  have hl := line_len o1
  have e1 := E_iLineCut e.Line.Text e.Line.At o1 f to_ (by omega) h2
  have hg0 : (e.Line.Text.drop f).take (to_ - f) ≠ [] := fun e => by have := congrArg List.length e; simp at this; omega
  have hgo : textOk ((e.Line.Text.drop f).take (to_ - f)) = true := by
    simp only [textOk, Bool.and_eq_true, decide_eq_true_eq]
    refine ⟨by simp; omega, List.all_eq_true.2 fun x hx => List.all_eq_true.1 hl.2.1 x (List.mem_of_mem_drop (List.mem_of_mem_take hx))⟩
  have e3 := E_iRingPut e.Ring.Pieces ((e.Line.Text.drop f).take (to_ - f)) (killHow e how) o2 hgo (by unfold killHow; split <;> omega)
  have hxl : (e.Line.Text.take f ++ e.Line.Text.drop to_).length = f + (e.Line.Text.length - to_) := by simp; omega
  generalize (e.Line.Text.drop f).take (to_ - f) = gone at *
  generalize e.Line.Text.take f ++ e.Line.Text.drop to_ = X at *
  have hca : 0 ≤ cutAt e.Line.At f to_ ∧ cutAt e.Line.At f to_ ≤ X.length := by
    unfold cutAt
    split
    · omega
    · split <;> omega
  have e5 := E_iset e ok X (cutAt e.Line.At f to_) 2 (by omega) hca
  have hgn : ¬ (gone.length : Int) = 0 := by have := List.length_pos_iff.2 hg0; omega
  generalize hE : M_ikill _ _ _ = R
  unfold M_ikill at hE
  unfold killHow at *
  by_cases hk : e.Last = 2
  · rw [if_pos hk] at e3 ⊢
    simp only [hk] at e5 hE
    simp [-ints_app, Tryz.func80, Tryz.f80, e1, e3, e5, hgn, hg0] at hE
    exact hE.symm
  · rw [if_neg hk] at e3 ⊢
    simp [-ints_app, Tryz.func80, Tryz.f80, e1, e3, e5, hgn, hg0, hk] at hE
    exact hE.symm
theorem E_ikill_no (e : TEd) (ok : e.ok = true) (f : Nat) (how : Int) (h2 : f ≤ e.Line.Text.length) : M_ikill [.agg [V.v (.bool e.Vi), V.v (.int .i64 e.Mode), .lst (some 0) (ints e.Line.Text), V.v (.int .i64 e.Line.At), V.v (.int .i64 e.Count), V.v (.int .i64 e.Op), V.v (.int .i64 e.OpCount), V.v (.int .i64 e.Wait), V.v (.int .i64 e.FindR), V.v (.int .i64 e.FindHow), V.v (.int .i64 e.Last), .lst (some 1) (dPieces e.Ring.Pieces), .lst (some 2) (dLines e.Undo.Lines), V.v (.int .i64 e.Nav), .lst (some 3) (ints e.Own.Text), V.v (.int .i64 e.Own.At), .lst (some 4) (ints e.Query), V.v (.int .i64 e.Hit), .lst (some 5) (ints e.Back.Text), V.v (.int .i64 e.Back.At)], V.v (.int .i64 ((f : Int))), V.v (.int .i64 ((f : Int))), V.v (.int .i64 how)] [] [] = some ⟨.tup [.agg [V.v (.bool e.Vi), V.v (.int .i64 e.Mode), .own 0, V.v (.int .i64 e.Line.At), V.v (.int .i64 0), V.v (.int .i64 0), V.v (.int .i64 0), V.v (.int .i64 0), V.v (.int .i64 e.FindR), V.v (.int .i64 e.FindHow), V.v (.int .i64 0), .own 1, .own 2, V.v (.int .i64 e.Nav), .own 3, V.v (.int .i64 e.Own.At), .own 4, V.v (.int .i64 e.Hit), .own 5, V.v (.int .i64 e.Back.At)], V.v (.int .i64 1)], [], [(0, ints e.Line.Text), (1, dPieces e.Ring.Pieces), (2, dLines e.Undo.Lines), (3, ints e.Own.Text), (4, ints e.Query), (5, ints e.Back.Text)]⟩ := by
  obtain ⟨o1, o2, o3⟩ := ok_parts ok
  have e1 := E_iLineCut e.Line.Text e.Line.At o1 f f (by omega) h2
  have e2 := E_ibell e (EdB.of ok)
  have hz : (e.Line.Text.drop f).take (f - f) = [] := by simp
  rw [hz] at e1
  simp only [show ints [] = [] from rfl] at e1
  generalize hE : M_ikill _ _ _ = R
  unfold M_ikill at hE
  simp [-ints_app, Tryz.func80, Tryz.f80, e1, e2] at hE
  exact hE.symm
end Go.Proofs.YtjhdikdopdcfcaaGreatDoor
namespace Go.Proofs.YtjhdikdopdcfcaaGreatDoor
open Go.RowKit
set_option linter.unusedSimpArgs false
set_option linter.unusedVariables false
set_option maxHeartbeats 8000000
set_option maxRecDepth 10000
def upI (r : Int) : Int := if inR r 97 122 = true then r - 32 else r
def lowI (r : Int) : Int := if inR r 65 90 = true then r + 32 else r
theorem E_iupper (r : Int) : M_iupper [V.v (.int .i64 r)] [] [] = some ⟨V.v (.int .i64 (upI r)), [], []⟩ := by
  unfold M_iupper upI
  by_cases h : inR r 97 122 = true
  · have := inR_iff.1 h
    have w := w64 (r - 32) (by omega)
    simp [Tryz.func144, Tryz.f144, E_iisLower, h, w]
  · simp [Tryz.func144, Tryz.f144, E_iisLower, h]
theorem E_ilower (r : Int) : M_ilower [V.v (.int .i64 r)] [] [] = some ⟨V.v (.int .i64 (lowI r)), [], []⟩ := by
  unfold M_ilower lowI
  by_cases h : inR r 65 90 = true
  · have := inR_iff.1 h
    have w := w64 (r + 32) (by omega)
    simp [Tryz.func145, Tryz.f145, E_iisUpper, h, w]
  · simp [Tryz.func145, Tryz.f145, E_iisUpper, h]
def isLet (r : Int) : Bool := inR r 97 122 || inR r 65 90
def caseSt (t : List Int) (f : Nat) (how : Int) : Nat → List Int × Bool
  | 0 => (t, true)
  | j + 1 =>
    if isLet ((caseSt t f how j).1.getD (f + j) 0) = true then ((caseSt t f how j).1.set (f + j) (if how = 1 ∨ (how = 2 ∧ (caseSt t f how j).2 = true) then upI ((caseSt t f how j).1.getD (f + j) 0) else lowI ((caseSt t f how j).1.getD (f + j) 0)), false) else caseSt t f how j
theorem caseSt_len (t : List Int) (f : Nat) (how : Int) : ∀ j, (caseSt t f how j).1.length = t.length
  | 0 => rfl
  | j + 1 => by
    have ih := caseSt_len t f how j
    unfold caseSt
    split
    · simpa using ih
    · exact ih
theorem typed_let {r : Int} (h : isLet r = true) : typed (upI r) = true ∧ typed (lowI r) = true := by
  unfold isLet at h
  simp only [Bool.or_eq_true, inR_iff] at h
  have key : ∀ x : Int, 65 ≤ x → x ≤ 122 → typed x = true := fun x h1 h2 => by
    unfold typed printable runeOk inR
    simp only [Bool.or_eq_true, Bool.and_eq_true, decide_eq_true_eq, Bool.not_eq_true', Bool.and_eq_false_iff, decide_eq_false_iff_not]
    exact .inl (.inl ⟨⟨⟨⟨by omega, by omega⟩, by omega⟩, by omega⟩, by omega⟩)
  refine ⟨?_, ?_⟩
  · unfold upI
    split
    · rename_i h1; rw [inR_iff] at h1; exact key _ (by omega) (by omega)
    · exact key _ (by omega) (by omega)
  · unfold lowI
    split
    · rename_i h1; rw [inR_iff] at h1; exact key _ (by omega) (by omega)
    · exact key _ (by omega) (by omega)
theorem all_setI {l : List Int} {p : Int → Bool} (h : l.all p = true) (i : Nat) {x : Int} (hx : p x = true) : (l.set i x).all p = true := by
  refine List.all_eq_true.2 fun y hy => ?_
  rcases List.mem_or_eq_of_mem_set hy with hy | rfl
  · exact List.all_eq_true.1 h y hy
  · exact hx
theorem caseSt_typed {t : List Int} (h : t.all typed = true) (f : Nat) (how : Int) : ∀ j, (caseSt t f how j).1.all typed = true
  | 0 => h
  | j + 1 => by
    have ih := caseSt_typed h f how j
    unfold caseSt
    split
    · rename_i hl
      refine all_setI ih _ ?_
      split
      · exact (typed_let hl).1
      · exact (typed_let hl).2
    · exact ih
theorem E_iinLine (t : List Int) (a : Int) (h : lineOk t a = true) (f to_ : Nat) (h1 : f ≤ to_) (h2 : to_ ≤ t.length) (i : Option Nat) : M_iinLine [.agg [.lst (some 0) (ints t), V.v (.int .i64 a)], V.v (.int .i64 ((f : Int))), V.v (.int .i64 ((to_ : Int)))] [] [] = some ⟨V.v (.bool true), [], []⟩ := by
  have hl := line_len h
  have e1 := E_iLineOk t a (by omega)
  rw [h] at e1
  have q1 : (f : Int) ≤ to_ := by omega
  have q2 : (to_ : Int) ≤ t.length := by omega
  unfold M_iinLine
  simp [Tryz.func142, Tryz.f142, e1, q1, q2]
theorem E_iLineCase (t : List Int) (a : Int) (h : lineOk t a = true) (f to_ : Nat) (h1 : f ≤ to_) (h2 : to_ ≤ t.length) (how : Int) (hw : 0 ≤ how ∧ how ≤ 2) : M_iLineCase [.agg [.lst (some 0) (ints t), V.v (.int .i64 a)], V.v (.int .i64 ((f : Int))), V.v (.int .i64 ((to_ : Int))), V.v (.int .i64 how)] [] [] = some ⟨.tup [.agg [.own 0, V.v (.int .i64 ((to_ : Int)))], V.v (.bool true)], [], [(0, ints (caseSt t f how (to_ - f)).1)]⟩ := by
  have hl := line_len h
  have e1 := E_iinLine t a h f to_ h1 h2 none
  have e2 := E_igoTo t (some 0) a to_ (by omega)
  have m1 : max 0 (min (to_ : Int) t.length) = to_ := by omega
  rw [m1] at e2
  have q1 : inR how 0 2 = true := inR_iff.2 hw
  generalize hE : M_iLineCase _ _ _ = R
  unfold M_iLineCase at hE
  simp [Tryz.func108, Tryz.f108, e1, e2, E_iin, q1] at hE
  rw [loopV_go (fun j => .on ⟨[(12, V.v (.int .i64 (((f + j : Nat) : Int)))), (11, V.v (.bool ((caseSt t f how j).2))), (10, .ref 10 0), (8, .ref 8 0), (3, V.v (.int .i64 how)), (2, V.v (.int .i64 ((to_ : Int))))], [(10, [.own 2000000000, V.v (.int .i64 ((to_ : Int)))]), (8, [.own 2000000001, V.v (.int .i64 0)])], [(2000000001, []), (2000000000, ints (caseSt t f how j).1)], []⟩) (to_ - f) ?_ ?_] at hE
  · have q2 : (f : Int) + ((to_ - f : Nat) : Int) = to_ := by omega
    have q3 : f + (to_ - f) = to_ := by omega
    simp [q2, q3] at hE
    exact hE.symm
  · simp [caseSt]
  · intro j hj
    have hjl : f + j < (caseSt t f how j).1.length := by rw [caseSt_len]; omega
    have hq : f + j < to_ := by omega
    have hq2 : (f : Int) + j < to_ := by omega
    have hjt : f + j < t.length := by omega
    have hq3 : (f : Int) + j < t.length := by omega
    have hlen := caseSt_len t f how j
    have hw1 := w64 ((f : Int) + (j + 1)) (by omega)
    have hs : (f : Int) + j + 1 = (f : Int) + (j + 1) := by omega
    rw [caseSt]
    have hgd : (caseSt t f how j).1.getD (f + j) 0 = (caseSt t f how j).1[f + j] := by rw [List.getD_eq_getElem?_getD, List.getElem?_eq_getElem hjl]; rfl
    rw [hgd]
    generalize hX : caseSt t f how j = X at *
    obtain ⟨u, fst⟩ := X
    simp only at hjl hlen hgd ⊢
    have hgu := ints_get hjl
    generalize hr : u[f + j] = r at *
    have hset : ∀ x : Int, (ints u).set (f + j) [.a (.int .i64 x)] = ints (u.set (f + j) x) := fun x => ints_setD u (f + j) x
    have tn1 : 0 ≤ (f : Int) + j := by omega
    have tn2 : ((f : Int) + j).toNat = f + j := by omega
    unfold isLet
    by_cases c1 : inR r 97 122 = true
    · by_cases c3 : how = 1 ∨ (how = 2 ∧ fst = true)
      · rcases c3 with c3 | ⟨c3, c4⟩
        · simp [hq, hq2, hq3, hjt, hlen, hgu, hr, tn1, tn2, E_iisLower, E_iisUpper, E_iupper, E_ilower, c1, c3, hw1, hs, hset]
        · simp [hq, hq2, hq3, hjt, hlen, hgu, hr, tn1, tn2, E_iisLower, E_iisUpper, E_iupper, E_ilower, c1, c3, c4, hw1, hs, hset]
      · have c4 : ¬ how = 1 := fun e => c3 (.inl e)
        by_cases c5 : how = 2
        · have c6 : fst = false := by cases fst; rfl; exact absurd (.inr ⟨c5, rfl⟩) c3
          simp [hq, hq2, hq3, hjt, hlen, hgu, hr, tn1, tn2, E_iisLower, E_iisUpper, E_iupper, E_ilower, c1, c5, c6, hw1, hs, hset]
        · simp [hq, hq2, hq3, hjt, hlen, hgu, hr, tn1, tn2, E_iisLower, E_iisUpper, E_iupper, E_ilower, c1, c4, c5, hw1, hs, hset]
    · by_cases c2 : inR r 65 90 = true
      · by_cases c3 : how = 1 ∨ (how = 2 ∧ fst = true)
        · rcases c3 with c3 | ⟨c3, c4⟩
          · simp [hq, hq2, hq3, hjt, hlen, hgu, hr, tn1, tn2, E_iisLower, E_iisUpper, E_iupper, E_ilower, c1, c2, c3, hw1, hs, hset]
          · simp [hq, hq2, hq3, hjt, hlen, hgu, hr, tn1, tn2, E_iisLower, E_iisUpper, E_iupper, E_ilower, c1, c2, c3, c4, hw1, hs, hset]
        · have c4 : ¬ how = 1 := fun e => c3 (.inl e)
          by_cases c5 : how = 2
          · have c6 : fst = false := by cases fst; rfl; exact absurd (.inr ⟨c5, rfl⟩) c3
            simp [hq, hq2, hq3, hjt, hlen, hgu, hr, tn1, tn2, E_iisLower, E_iisUpper, E_iupper, E_ilower, c1, c2, c5, c6, hw1, hs, hset]
          · simp [hq, hq2, hq3, hjt, hlen, hgu, hr, tn1, tn2, E_iisLower, E_iisUpper, E_iupper, E_ilower, c1, c2, c4, c5, hw1, hs, hset]
      · simp [hq, hq2, hq3, hjt, hlen, hgu, hr, tn1, tn2, E_iisLower, E_iisUpper, c1, c2, hw1, hs]
def swapAt (t : List Int) (k : Nat) : List Int := (t.set (k - 1) (t.getD k 0)).set k (t.getD (k - 1) 0)
theorem E_iLineSwap (t : List Int) (a : Int) (h : lineOk t a = true) (h2 : 2 ≤ t.length) (k : Nat) (hk : (k : Int) = min a (t.length - 1)) (hk0 : 1 ≤ k) : M_iLineSwap [.agg [.lst (some 0) (ints t), V.v (.int .i64 a)]] [] [] = some ⟨.tup [.agg [.own 0, V.v (.int .i64 ((k : Int) + 1))], V.v (.bool true)], [], [(0, ints (swapAt t k))]⟩ := by
  have hl := line_len h
  have e1 := E_iLineOk t a (by omega)
  rw [h] at e1
  have e2 := E_igoTo t (some 0) a ((k : Int) + 1) (by omega)
  have m1 : max 0 (min ((k : Int) + 1) t.length) = (k : Int) + 1 := by omega
  rw [m1] at e2
  have hkl : k < t.length := by omega
  have hk1 : k - 1 < t.length := by omega
  have w1 := w64 ((t.length : Int) - 1) (by omega)
  have w2 := w64 ((k : Int) + 1) (by omega)
  have w3 := w64 ((k : Int) - 1) (by omega)
  have a0 : ¬ a = 0 := by omega
  have l2 : ¬ (t.length : Int) < 2 := by omega
  have i1 : (k : Int) < t.length := by omega
  have i2 : (k : Int) - 1 < t.length := by omega
  have i3 : 0 ≤ (k : Int) - 1 := by omega
  have i4 : ((k : Int) - 1).toNat = k - 1 := by omega
  have i5 : 1 ≤ (k : Int) := by omega
  have hset : ∀ (u : List Int) (j : Nat) (x : Int), (ints u).set j [.a (.int .i64 x)] = ints (u.set j x) := fun u j x => ints_setD u j x
  have g1 : t.getD k 0 = t[k] := by rw [List.getD_eq_getElem?_getD, List.getElem?_eq_getElem hkl]; rfl
  have g2 : t.getD (k - 1) 0 = t[k - 1] := by rw [List.getD_eq_getElem?_getD, List.getElem?_eq_getElem hk1]; rfl
  have hset2 : k < (t.set (k - 1) t[k]).length := by simpa using hkl
  have hgs := ints_get hset2
  unfold swapAt
  rw [g1, g2]
  generalize hE : M_iLineSwap _ _ _ = R
  unfold M_iLineSwap at hE
  simp [Tryz.func115, Tryz.f115, e1, e2, a0, l2, w1, w2, w3, ← hk, i1, i2, i3, i4, i5, hkl, hk1, ints_get hkl, ints_get hk1, hset] at hE
  exact hE.symm
theorem E_iLineSwap_no (t : List Int) (a : Int) (h : lineOk t a = true) (h2 : t.length < 2 ∨ a = 0) : M_iLineSwap [.agg [.lst (some 0) (ints t), V.v (.int .i64 a)]] [] [] = some ⟨.tup [.agg [.own 0, V.v (.int .i64 0)], V.v (.bool false)], [], [(0, [])]⟩ := by
  have hl := line_len h
  have e1 := E_iLineOk t a (by omega)
  rw [h] at e1
  unfold M_iLineSwap
  by_cases c : t.length < 2
  · have l2 : (t.length : Int) < 2 := by omega
    simp [Tryz.func115, Tryz.f115, e1, l2]
  · have l2 : ¬ (t.length : Int) < 2 := by omega
    have a0 : a = 0 := h2.resolve_left c
    subst a0
    simp [Tryz.func115, Tryz.f115, e1, l2]
theorem swapAt_len (t : List Int) (k : Nat) : (swapAt t k).length = t.length := by unfold swapAt; simp
theorem swapAt_typed {t : List Int} (h : t.all typed = true) {k : Nat} (hk : k < t.length) : (swapAt t k).all typed = true := by
  unfold swapAt
  have g : ∀ j, j < t.length → typed (t.getD j 0) = true := fun j hj => by
    rw [List.getD_eq_getElem?_getD, List.getElem?_eq_getElem hj]
    exact List.all_eq_true.1 h _ (List.getElem_mem hj)
  exact all_setI (all_setI h _ (g k hk)) _ (g (k - 1) (by omega))
end Go.Proofs.YtjhdikdopdcfcaaGreatDoor
namespace Go.Proofs.YtjhdikdopdcfcaaGreatDoor
open Go.RowKit
set_option linter.unusedSimpArgs false
set_option linter.unusedVariables false
def stopN (p : Nat → Bool) : Nat → Nat
  | 0 => 0
  | n + 1 => if stopN p n = n ∧ p n = true then n + 1 else stopN p n
theorem stopN_spec (p : Nat → Bool) : ∀ n, stopN p n ≤ n ∧ (∀ j, j < stopN p n → p j = true) ∧ (stopN p n = n ∨ p (stopN p n) = false)
  | 0 => ⟨Nat.le_refl _, fun j h => absurd h (Nat.not_lt_zero _), .inl rfl⟩
  | n + 1 => by
    obtain ⟨h1, h2, h3⟩ := stopN_spec p n
    unfold stopN
    by_cases h : stopN p n = n ∧ p n = true
    · rw [if_pos h]
      refine ⟨Nat.le_refl _, fun j hj => ?_, .inl rfl⟩
      by_cases e : j < stopN p n
      · exact h2 j e
      · have : j = n := by omega
        rw [this]; exact h.2
    · rw [if_neg h]
      refine ⟨by omega, h2, .inr ?_⟩
      rcases h3 with h3 | h3
      · rw [h3]
        cases e : p n
        · rfl
        · exact absurd ⟨h3, e⟩ h
      · exact h3
def clsOf (r : Int) : Int := if r = 9 ∨ r = 10 ∨ r = 32 then 0 else if inR r 97 122 = true ∨ inR r 65 90 = true ∨ inR r 48 57 = true ∨ r = 95 ∨ (159 < r ∧ printable r = true) then 1 else 2
def clsB (big : Bool) (r : Int) : Int := if big = true ∧ clsOf r = 2 then 1 else clsOf r
def clsAt (t : List Int) (big : Bool) (j : Nat) : Int := clsB big (t.getD j 0)
def wordOn (t : List Int) (a : Nat) : Nat :=
  let k := stopN (fun j => decide (¬ clsOf (t.getD (a + j) 0) = 1)) (t.length - a)
  a + k + stopN (fun j => decide (clsOf (t.getD (a + k + j) 0) = 1)) (t.length - (a + k))
def wordBack (t : List Int) (a : Nat) : Nat :=
  let k := stopN (fun j => decide (¬ clsOf (t.getD (a - j - 1) 0) = 1)) a
  a - k - stopN (fun j => decide (clsOf (t.getD (a - k - j - 1) 0) = 1)) (a - k)
def runOn (t : List Int) (big : Bool) (a : Nat) : Nat := a + stopN (fun j => decide (clsAt t big (a + j) = clsAt t big a)) (t.length - a)
def viOn (t : List Int) (big : Bool) (a : Nat) : Nat :=
  let b := if a < t.length ∧ ¬ clsAt t big a = 0 then runOn t big a else a
  b + stopN (fun j => decide (clsAt t big (b + j) = 0)) (t.length - b)
def viBack (t : List Int) (big : Bool) (a : Nat) : Nat :=
  let n := a - stopN (fun j => decide (clsAt t big (a - j - 1) = 0)) a
  n - stopN (fun j => decide (clsAt t big (n - j - 1) = clsAt t big (n - 1))) n
def viEnd (t : List Int) (big : Bool) (a : Nat) : Nat :=
  if t.length = 0 then 0 else
  let c := a + 1 + stopN (fun j => decide (clsAt t big (a + 1 + j) = 0)) (t.length - (a + 1))
  if t.length ≤ c then t.length - 1 else runOn t big c - 1
def iterN (f : Nat → Nat) : Nat → Nat → Nat
  | 0, a => a
  | n + 1, a => iterN f n (f a)
theorem iterN_succ (f : Nat → Nat) : ∀ n a, iterN f (n + 1) a = f (iterN f n a)
  | 0, a => rfl
  | n + 1, a => by show iterN f (n + 1) (f a) = _; rw [iterN_succ f n (f a)]; rfl
def findRune (t : List Int) (r how : Int) (a : Nat) : Option Nat :=
  if how = 0 then
    let k := stopN (fun j => decide (¬ t.getD (a + 1 + j) 0 = r)) (t.length - (a + 1))
    if a + 1 + k < t.length then some (a + 1 + k) else none
  else if how = 1 then
    let k := stopN (fun j => decide (¬ t.getD (a - 1 - j) 0 = r)) a
    if k < a then some (a - 1 - k) else none
  else if how = 2 then
    let k := stopN (fun j => decide (¬ t.getD (a + 2 + j) 0 = r)) (t.length - (a + 2))
    if a + 2 + k < t.length then some (a + 1 + k) else none
  else if how = 3 then
    let k := stopN (fun j => decide (¬ t.getD (a - 2 - j) 0 = r)) (a - 1)
    if k < a - 1 then some (a - 1 - k) else none
  else none
def findIt (t : List Int) (r how : Int) : Nat → Nat → Option Nat
  | 0, a => some a
  | n + 1, a => match findRune t r how a with
    | none => none
    | some p => findIt t r how n p
def howOf (r : Int) : Int := if r = 102 then 0 else if r = 70 then 1 else if r = 116 then 2 else if r = 84 then 3 else -1
def blankN (t : List Int) : Nat := stopN (fun j => decide (clsOf (t.getD j 0) = 0)) t.length
def motionTo (t : List Int) (a : Nat) (r : Int) (n : Nat) : Option (Nat × Bool) :=
  if r = 104 then some (a - n, false)
  else if r = 108 ∨ r = 32 then some (min (a + n) t.length, false)
  else if r = 119 ∨ r = 87 then some (iterN (viOn t (decide (r = 87))) n a, false)
  else if r = 98 ∨ r = 66 then some (iterN (viBack t (decide (r = 66))) n a, false)
  else if r = 101 ∨ r = 69 then some (iterN (viEnd t (decide (r = 69))) n a, decide (0 < t.length))
  else if r = 48 then some (0, false)
  else if r = 94 then some (blankN t, false)
  else if r = 36 then some (t.length - 1, decide (0 < t.length))
  else if r = 124 then some (min (n - 1) t.length, false)
  else none
def atN (e : TEd) : Nat := e.Line.At.toNat
def effN (e : TEd) : Nat := (max e.Count 1).toNat
def effV (e : TEd) : Nat := (min (max e.Count 1 * max e.OpCount 1) 999).toNat
def clipI (a : Int) (n : Nat) : Int := max 0 (min a n)
def cutLn (t : List Int) (f u : Nat) : List Int := t.take f ++ t.drop u
def idleE (e : TEd) (last : Int) : TEd := { e with Count := 0, Op := 0, OpCount := 0, Wait := 0, Last := last }
def bellE (e : TEd) : TEd × Int := (idleE e 0, 1)
def setE (e : TEd) (t : List Int) (a last : Int) : TEd := { idleE e last with Line := ⟨t, inCmdAt e.Mode t a⟩, Undo := ⟨setUndo e t last⟩ }
def putE (e : TEd) (t : List Int) (a : Int) : TEd × Int := (setE e t a 0, 0)
def goE (e : TEd) (a : Int) : TEd × Int := putE e e.Line.Text (clipI a e.Line.Text.length)
def cutE (e : TEd) (f u : Nat) : TEd × Int := if f < u then putE e (cutLn e.Line.Text f u) (cutAt e.Line.At f u) else bellE e
def killEd (e : TEd) (f u : Nat) (how : Int) : TEd × Int :=
  if f < u then ({ setE e (cutLn e.Line.Text f u) (cutAt e.Line.At f u) 2 with Ring := ⟨ringPut e.Ring.Pieces ((e.Line.Text.drop f).take (u - f)) (killHow e how)⟩ }, 0) else bellE e
def insT (t : List Int) (a : Nat) (u : List Int) : List Int := t.take a ++ u ++ t.drop a
def insE (e : TEd) (u : List Int) (last : Int) : TEd × Int :=
  if e.Line.Text.length + u.length ≤ 400 then (setE e (insT e.Line.Text (atN e) u) (e.Line.At + u.length) last, 0) else bellE e
def histAt (f : Int) (l : List ByteArray) (n : Int) : Option ByteArray := if f ≤ n ∧ n ≤ f + l.length - 1 then l[(n - f).toNat]? else none
noncomputable def runesL (b : List UInt8) : List Int := (reads_ex b.length b (Nat.le_refl _)).choose
noncomputable def runesR (b : List UInt8) : List UInt8 := (reads_ex b.length b (Nat.le_refl _)).choose_spec.choose
theorem runes_reads (b : List UInt8) : Reads b (runesL b) (runesR b) := (reads_ex b.length b (Nat.le_refl _)).choose_spec.choose_spec
noncomputable def runesOf (s : ByteArray) : List Int := if runesR s.data.toList = [] then runesL s.data.toList else []
noncomputable def lineOf (s : ByteArray) : Option (List Int) := if runesR s.data.toList = [] ∧ textOk (runesL s.data.toList) = true then some (runesL s.data.toList) else none
def stepN (e : TEd) (f : Int) (l : List ByteArray) : Int := if e.Nav = 0 then histLast f l + 1 else e.Nav
noncomputable def histStep (e : TEd) (f : Int) (l : List ByteArray) (by_ : Int) : Option TEd :=
  if by_ = 1 ∧ ¬ e.Nav = 0 ∧ e.Nav = histLast f l then some { idleE e 0 with Undo := ⟨[]⟩, Line := ⟨e.Own.Text, inCmdAt e.Mode e.Own.Text e.Own.At⟩, Nav := 0, Own := ⟨[], 0⟩ }
  else match (histAt f l (stepN e f l + by_)).bind lineOf with
    | none => none
    | some t => some { idleE e 0 with Undo := ⟨[]⟩, Line := ⟨t, if e.Mode = 2 then 0 else t.length⟩, Nav := stepN e f l + by_, Own := if e.Nav = 0 then e.Line else e.Own }
noncomputable def stepE (e : TEd) (f : Int) (l : List ByteArray) (by_ : Int) : TEd × Int := match histStep e f l by_ with
  | none => bellE e
  | some x => (x, 0)
def undoE (e : TEd) : TEd × Int := match e.Undo.Lines.getLast? with
  | none => bellE e
  | some x => ({ idleE e 0 with Line := ⟨x.Text, inCmdAt e.Mode x.Text x.At⟩, Undo := ⟨e.Undo.Lines.dropLast⟩ }, 0)
def seekE (e : TEd) : TEd × Int := ({ idleE e 0 with Mode := 3, Back := e.Line, Query := [], Hit := 0 }, 0)
def topP (l : List TPiece) : List Int := (l.head?.map (·.Text)).getD []
def yankE (e : TEd) : TEd × Int := if topP e.Ring.Pieces = [] then bellE e else insE e (topP e.Ring.Pieces) 3
def turnR (l : List TPiece) : List TPiece := l.drop 1 ++ l.take 1
def yankC (e : TEd) : Bool := decide (e.Last = 3) && (decide (¬ topP e.Ring.Pieces = []) && (decide ((topP e.Ring.Pieces).length ≤ atN e) && decide ((e.Line.Text.drop (atN e - (topP e.Ring.Pieces).length)).take (topP e.Ring.Pieces).length = topP e.Ring.Pieces)))
def yankNextE (e : TEd) : TEd × Int :=
  if yankC e = true ∧ (cutLn e.Line.Text (atN e - (topP e.Ring.Pieces).length) (atN e)).length + (topP (turnR e.Ring.Pieces)).length ≤ 400 then
    (setE { e with Ring := ⟨turnR e.Ring.Pieces⟩ } (insT (cutLn e.Line.Text (atN e - (topP e.Ring.Pieces).length) (atN e)) (atN e - (topP e.Ring.Pieces).length) (topP (turnR e.Ring.Pieces))) ((atN e - (topP e.Ring.Pieces).length : Nat) + (topP (turnR e.Ring.Pieces)).length) 3, 0)
  else bellE e
def caseE (e : TEd) (how : Int) : TEd × Int := putE e (caseSt e.Line.Text (atN e) how (wordOn e.Line.Text (atN e) - atN e)).1 (wordOn e.Line.Text (atN e))
def digitE (e : TEd) (r : Int) : TEd × Int := ({ e with Count := min (10 * e.Count + r - 48) 999 }, 0)
def metaE (e : TEd) (r : Int) : TEd × Int :=
  if inR r 48 57 = true then digitE e r
  else if r = 98 then goE e (iterN (wordBack e.Line.Text) (effN e) (atN e))
  else if r = 102 then goE e (iterN (wordOn e.Line.Text) (effN e) (atN e))
  else if r = 100 then killEd e (atN e) (iterN (wordOn e.Line.Text) (effN e) (atN e)) 1
  else if r = 121 then yankNextE e
  else if r = 117 then caseE e 1
  else if r = 108 then caseE e 0
  else if r = 99 then caseE e 2
  else bellE e
def swapE (e : TEd) : TEd × Int := if e.Line.Text.length < 2 ∨ e.Line.At = 0 then bellE e else putE e (swapAt e.Line.Text (min (atN e) (e.Line.Text.length - 1))) ((min (atN e) (e.Line.Text.length - 1) : Nat) + 1)
noncomputable def ctrlE (e : TEd) (f : Int) (l : List ByteArray) (r : Int) : TEd × Int :=
  if r = 97 then goE e 0
  else if r = 101 then goE e e.Line.Text.length
  else if r = 98 then goE e (e.Line.At - effN e)
  else if r = 102 then goE e (e.Line.At + effN e)
  else if r = 112 then stepE e f l (-1)
  else if r = 110 then stepE e f l 1
  else if r = 107 then killEd e (atN e) e.Line.Text.length 1
  else if r = 121 then yankE e
  else if r = 116 then swapE e
  else if r = 95 then undoE e
  else if r = 114 then seekE e
  else bellE e
def delE (e : TEd) : TEd × Int := cutE e (atN e) (min (atN e + effN e) e.Line.Text.length)
def plainCtrlE (e : TEd) (r : Int) : Option (TEd × Int) :=
  if r = 99 then some (e, 3)
  else if r = 108 then some (e, 5)
  else if r = 100 then some (if e.Line.Text.length = 0 then (e, 4) else delE e)
  else if r = 117 then some (killEd e 0 (atN e) 2)
  else if r = 119 then some (killEd e (viBack e.Line.Text true (atN e)) (atN e) 2)
  else none
noncomputable def plainE (e : TEd) (f : Int) (l : List ByteArray) (k r : Int) : Option (TEd × Int) :=
  if k = 1 then some (insE e (List.replicate (effN e) r) 1)
  else if k = 6 then some (insE e (List.replicate (effN e) 9) 1)
  else if k = 4 then some (e, 2)
  else if k = 2 then plainCtrlE e r
  else if k = 5 then some (cutE e (atN e - effN e) (atN e))
  else if k = 14 then some (delE e)
  else if k = 11 then some (goE e (e.Line.At - effN e))
  else if k = 10 then some (goE e (e.Line.At + effN e))
  else if k = 12 then some (goE e 0)
  else if k = 13 then some (goE e e.Line.Text.length)
  else if k = 8 then some (stepE e f l (-1))
  else if k = 9 then some (stepE e f l 1)
  else none
noncomputable def emacsE (e : TEd) (f : Int) (l : List ByteArray) (k r : Int) : TEd × Int := match plainE e f l k r with
  | some p => p
  | none =>
    if k = 3 then metaE e r
    else if k = 15 then killEd e (iterN (wordBack e.Line.Text) (effN e) (atN e)) (atN e) 2
    else if k = 2 then ctrlE e f l r
    else bellE e
theorem iteO {α : Type} {c : Prop} [Decidable c] {a b : Option α} {p : α} (h : (if c then a else b) = some p) : (c ∧ a = some p) ∨ (¬ c ∧ b = some p) := by
  by_cases hc : c
  · rw [if_pos hc] at h; exact .inl ⟨hc, h⟩
  · rw [if_neg hc] at h; exact .inr ⟨hc, h⟩
def typingE (e : TEd) (a : Nat) : TEd := { setE e e.Line.Text a 0 with Mode := 1, Line := ⟨e.Line.Text, a⟩ }
def changeE (e : TEd) (op : Int) (f u : Nat) : TEd × Int :=
  if f = u then (if op = 99 then (typingE e f, 0) else bellE e)
  else if op = 121 then putE { e with Ring := ⟨ringPut e.Ring.Pieces ((e.Line.Text.drop f).take (u - f)) 0⟩ } e.Line.Text f
  else if op = 99 then ({ setE { e with Ring := ⟨ringPut e.Ring.Pieces ((e.Line.Text.drop f).take (u - f)) 0⟩ } (cutLn e.Line.Text f u) f 0 with Mode := 1, Line := ⟨cutLn e.Line.Text f u, f⟩ }, 0)
  else putE { e with Ring := ⟨ringPut e.Ring.Pieces ((e.Line.Text.drop f).take (u - f)) 0⟩ } (cutLn e.Line.Text f u) f
def spanTo (n a u : Nat) (incl : Bool) : Nat := if incl = true ∧ max a u < n then max a u + 1 else max a u
def moveE (e : TEd) (u : Nat) (incl : Bool) : TEd × Int := if e.Op = 0 then goE e u else changeE e e.Op (min (atN e) u) (spanTo e.Line.Text.length (atN e) u incl)
def findInE (e : TEd) (r how : Int) (n : Nat) : TEd × Int := match findIt e.Line.Text r how n (atN e) with
  | none => bellE e
  | some p => moveE e p (decide (how = 0 ∨ how = 2))
def replSt (t : List Int) (f : Nat) (r : Int) : Nat → List Int
  | 0 => t
  | j + 1 => (replSt t f r j).set (f + j) r
def flipI (r : Int) : Int := if inR r 97 122 = true then r - 32 else if inR r 65 90 = true then r + 32 else r
def flipSt (t : List Int) (f : Nat) : Nat → List Int
  | 0 => t
  | j + 1 => (flipSt t f j).set (f + j) (flipI ((flipSt t f j).getD (f + j) 0))
def waitedE (e : TEd) (k r : Int) (n : Nat) : TEd × Int :=
  if ¬ k = 1 then bellE e
  else if e.Wait = 114 then (if e.Line.Text.length < atN e + n then bellE e else putE e (replSt e.Line.Text (atN e) r n) (atN e + n - 1 : Nat))
  else if findIt e.Line.Text r (howOf e.Wait) n (atN e) = none then bellE e
  else findInE { e with FindR := r, FindHow := howOf e.Wait } r (howOf e.Wait) n
def moveByE (e : TEd) (r : Int) (n : Nat) : TEd × Int := match motionTo e.Line.Text (atN e) r n with
  | none => moveE e 0 false
  | some p => moveE e p.1 p.2
noncomputable def specialE (e : TEd) (f : Int) (l : List ByteArray) (k r : Int) (n : Nat) : TEd × Int :=
  if k = 4 then (e, 2)
  else if k = 7 then (if e.Count = 0 ∧ e.Op = 0 ∧ e.OpCount = 0 ∧ e.Wait = 0 then bellE e else (idleE e e.Last, 0))
  else if k = 8 then stepE e f l (-1)
  else if k = 9 then stepE e f l 1
  else if k = 11 ∨ k = 5 then moveByE e 104 n
  else if k = 10 then moveByE e 108 n
  else if k = 12 then moveByE e 48 n
  else if k = 13 then moveByE e 36 n
  else if k = 14 then changeE e 100 (atN e) (min (atN e + n) e.Line.Text.length)
  else if k = 2 then
    if r = 99 then (e, 3)
    else if r = 108 then (e, 5)
    else if r = 100 ∧ e.Line.Text.length = 0 then (e, 4)
    else if r = 114 then seekE e
    else bellE e
  else bellE e
def repT (n : Nat) (t : List Int) : List Int := (List.replicate n t).flatten
def pasteE (e : TEd) (a n : Nat) : TEd × Int :=
  if topP e.Ring.Pieces = [] ∨ 400 < e.Line.Text.length + (topP e.Ring.Pieces).length * n then bellE e
  else putE e (insT e.Line.Text a (repT n (topP e.Ring.Pieces))) ((a + (topP e.Ring.Pieces).length * n : Nat) - 1)
def turnCaseE (e : TEd) (n : Nat) : TEd × Int :=
  if e.Line.Text.length = 0 then bellE e
  else putE e (flipSt e.Line.Text (atN e) (min (atN e + n) e.Line.Text.length - atN e)) (min (atN e + n) e.Line.Text.length : Nat)
def backHow (how : Int) : Int := if how = 0 then 1 else if how = 1 then 0 else if how = 2 then 3 else 2
def begunE (e : TEd) (r : Int) (n : Nat) : Option (TEd × Int) :=
  if inR r 49 57 = true ∨ (r = 48 ∧ ¬ e.Count = 0) then some (digitE e r)
  else if 0 ≤ howOf r then some ({ e with Wait := r }, 0)
  else if r = 59 then some (if e.FindR = 0 then bellE e else findInE e e.FindR e.FindHow n)
  else if r = 44 then some (if e.FindR = 0 then bellE e else findInE e e.FindR (backHow e.FindHow) n)
  else if e.Op = 0 ∧ opC r = true then some ({ e with Op := r, OpCount := e.Count, Count := 0 }, 0)
  else none
def beginE (e : TEd) (r : Int) : TEd × Int :=
  if r = 105 then (typingE e (atN e), 0)
  else if r = 73 then (typingE e (blankN e.Line.Text), 0)
  else if r = 97 then (typingE e (min (atN e + 1) e.Line.Text.length), 0)
  else if r = 65 then (typingE e e.Line.Text.length, 0)
  else bellE e
noncomputable def viPlainE (e : TEd) (f : Int) (l : List ByteArray) (r : Int) (n : Nat) : TEd × Int :=
  if r = 120 then changeE e 100 (atN e) (min (atN e + n) e.Line.Text.length)
  else if r = 88 then changeE e 100 (atN e - n) (atN e)
  else if r = 68 then changeE e 100 (atN e) e.Line.Text.length
  else if r = 67 then changeE e 99 (atN e) e.Line.Text.length
  else if r = 115 then changeE e 99 (atN e) (min (atN e + n) e.Line.Text.length)
  else if r = 83 then changeE e 99 0 e.Line.Text.length
  else if r = 114 then ({ e with Wait := 114 }, 0)
  else if r = 112 then pasteE e (min (atN e + 1) e.Line.Text.length) n
  else if r = 80 then pasteE e (atN e) n
  else if r = 126 then turnCaseE e n
  else if r = 117 then undoE e
  else if r = 107 ∨ r = 45 then stepE e f l (-1)
  else if r = 106 ∨ r = 43 then stepE e f l 1
  else if r = 47 then seekE e
  else beginE e r
noncomputable def commandE (e : TEd) (f : Int) (l : List ByteArray) (r : Int) (n : Nat) : TEd × Int := match begunE e r n with
  | some p => p
  | none =>
    if ¬ e.Op = 0 ∧ r = e.Op then changeE e r 0 e.Line.Text.length
    else match motionTo e.Line.Text (atN e) r n with
      | some p => moveE e p.1 p.2
      | none => if ¬ e.Op = 0 then bellE e else viPlainE e f l r n
def escE (e : TEd) : TEd × Int := ({ e with Mode := 2, Count := 0, Last := 0, Line := ⟨e.Line.Text, max (e.Line.At - 1) 0⟩ }, 0)
noncomputable def viE (e : TEd) (f : Int) (l : List ByteArray) (k r : Int) : TEd × Int :=
  if e.Mode = 1 then
    match plainE e f l k r with
    | some p => p
    | none => if k = 7 then escE e else bellE e
  else if ¬ e.Wait = 0 then waitedE e k r (effV e)
  else if ¬ k = 1 then specialE e f l k r (effV e)
  else commandE e f l r (effV e)
def leftE (e : TEd) : TEd := { e with Mode := if e.Vi = true then 2 else 0, Query := [], Hit := 0, Back := ⟨[], 0⟩, Line := ⟨e.Line.Text, inCmdAt (if e.Vi = true then 2 else 0) e.Line.Text e.Line.At⟩ }
def findBack (f : Int) (sub : List UInt8) (fr : Int) : List ByteArray → Nat → Int
  | l, 0 => 0
  | l, n + 1 => if f + n ≤ fr ∧ (l[n]?.map fun s => Lib.contains s.data.toList sub) = some true then f + n else findBack f sub fr l n
noncomputable def showHit (e : TEd) (f : Int) (l : List ByteArray) (n : Int) (q : List Int) : Option TEd :=
  if q.length ≤ 40 then
    match histAt f l n with
    | none => none
    | some s => match lineOf s with
      | none => none
      | some t =>
        if 0 ≤ Lib.index s.data.toList (textOf q) then
          some { e with Own := if e.Nav = 0 then e.Back else e.Own, Line := ⟨t, (runesOf (s.extract 0 (Lib.index s.data.toList (textOf q)).toNat)).length⟩, Query := q, Hit := n, Nav := n, Undo := ⟨[]⟩ }
        else none
  else none
noncomputable def huntE (e : TEd) (f : Int) (l : List ByteArray) (q : List Int) (fr : Int) : TEd × Int :=
  match showHit e f l (findBack f (textOf q) (if e.Hit = 0 then histLast f l else fr) l l.length) q with
  | none => (e, 1)
  | some x => (x, 0)
noncomputable def searchE (e : TEd) (f : Int) (l : List ByteArray) (k r : Int) : TEd × Int :=
  if k = 1 then huntE e f l (e.Query ++ [r]) e.Hit
  else if k = 2 ∧ r = 114 then (if e.Query = [] then (e, 1) else huntE e f l e.Query (e.Hit - 1))
  else if k = 5 then (if e.Query = [] then (e, 1) else ({ e with Query := e.Query.dropLast }, 0))
  else if k = 4 then (leftE e, 2)
  else if k = 2 ∧ (r = 103 ∨ r = 99) then (leftE { e with Line := e.Back, Nav := 0, Own := ⟨[], 0⟩ }, 1)
  else (leftE e, 0)
noncomputable def edKeyE (e : TEd) (f : Int) (l : List ByteArray) (k r : Int) : TEd × Int :=
  if e.Mode = 0 then emacsE e f l k r else if e.Mode = 3 then searchE e f l k r else viE e f l k r
def keyOk (k r : Int) : Bool :=
  if k = 1 then printable r
  else if k = 2 then decide (r = 95) || (inR r 97 122 && (decide (¬ r = 104) && (decide (¬ r = 105) && (decide (¬ r = 106) && decide (¬ r = 109)))))
  else if k = 3 then inR r 33 126
  else inR k 4 16 && decide (r = 0)
end Go.Proofs.YtjhdikdopdcfcaaGreatDoor
namespace Go.Proofs.YtjhdikdopdcfcaaGreatDoor
open Go.RowKit
set_option linter.unusedSimpArgs false
set_option linter.unusedVariables false
set_option maxHeartbeats 8000000
set_option maxRecDepth 10000
theorem E_iClassOf (r : Int) : M_iClassOf [V.v (.int .i64 r)] [] [] = some ⟨V.v (.int .i64 (clsOf r)), [], []⟩ := by
  unfold M_iClassOf clsOf
  by_cases h1 : r = 9
  · simp [Tryz.func110, Tryz.f110, h1]
  by_cases h2 : r = 10
  · simp [Tryz.func110, Tryz.f110, h2]
  by_cases h3 : r = 32
  · simp [Tryz.func110, Tryz.f110, h3]
  cases h4 : inR r 97 122
  case true => simp [Tryz.func110, Tryz.f110, h1, h2, h3, E_iisLower, h4]
  cases h5 : inR r 65 90
  case true => simp [Tryz.func110, Tryz.f110, h1, h2, h3, E_iisLower, h4, E_iisUpper, h5]
  cases h6 : inR r 48 57
  case true => simp [Tryz.func110, Tryz.f110, h1, h2, h3, E_iisLower, h4, E_iisUpper, h5, E_iisDigit, h6]
  by_cases h7 : r = 95
  · subst h7; simp [Tryz.func110, Tryz.f110, E_iisLower, h4, E_iisUpper, h5, E_iisDigit, h6]
  by_cases h8 : 159 < r
  · cases h9 : printable r <;> simp [Tryz.func110, Tryz.f110, h1, h2, h3, E_iisLower, h4, E_iisUpper, h5, E_iisDigit, h6, h7, h8, E_iPrintable, h9]
  · simp [Tryz.func110, Tryz.f110, h1, h2, h3, E_iisLower, h4, E_iisUpper, h5, E_iisDigit, h6, h7, h8]
theorem getD_at {t : List Int} {j : Nat} (h : j < t.length) : t.getD j 0 = t[j] := by rw [List.getD_eq_getElem?_getD, List.getElem?_eq_getElem h]; rfl
theorem E_iclassAt (t : List Int) (i : Option Nat) (a : Nat) (big : Bool) (h : a < t.length) : M_iclassAt [.lst i (ints t), V.v (.int .i64 ((a : Int))), V.v (.bool big)] [] [] = some ⟨V.v (.int .i64 (clsAt t big a)), [], []⟩ := by
  have e := E_iClassOf t[a]
  unfold M_iclassAt clsAt clsB
  rw [getD_at h]
  generalize clsOf t[a] = c at *
  cases big
  · simp [Tryz.func158, Tryz.f158, h, ints_get h, e]
  · by_cases h2 : c = 2
    · simp [Tryz.func158, Tryz.f158, h, ints_get h, e, h2]
    · simp [Tryz.func158, Tryz.f158, h, ints_get h, e, h2]
theorem runOn_le {t : List Int} {big : Bool} {a : Nat} (h : a ≤ t.length) : a ≤ runOn t big a ∧ runOn t big a ≤ t.length := by
  obtain ⟨h1, h2, h3⟩ := stopN_spec (fun j => decide (clsAt t big (a + j) = clsAt t big a)) (t.length - a)
  unfold runOn
  omega
theorem idx_down {t : List Int} {a : Nat} (ha : a ≤ t.length) (ht : t.length ≤ 2000) (n : Nat) (h1 : n ≤ a) (h2 : 0 < n) : n - 1 < t.length ∧ (0 : Int) < n ∧ IntKind.i64.wrap ((n : Int) - 1) = n - 1 ∧ ((n - 1 : Nat) : Int) = (n : Int) - 1 ∧ ¬ (n : Int) = 0 ∧ (n : Int) - 1 < t.length ∧ 0 ≤ (n : Int) - 1 ∧ ((n : Int) - 1).toNat = n - 1 ∧ 1 ≤ (n : Int) :=
  ⟨by omega, by omega, w64 _ (by omega), by omega, by omega, by omega, by omega, by omega, by omega⟩
theorem E_iViWordBack (t : List Int) (i : Option Nat) (a : Nat) (big : Bool) (h : a ≤ t.length) (ht : t.length ≤ 2000) : M_iViWordBack [.lst i (ints t), V.v (.int .i64 ((a : Int))), V.v (.bool big)] [] [] = some ⟨V.v (.int .i64 (((viBack t big a : Nat) : Int))), [], []⟩ := by
  have hc := fun j (hj : j < t.length) => E_iclassAt t (some 0) j big hj
  have m1 : max 0 (min (a : Int) t.length) = a := by omega
  have idx := idx_down h ht
  unfold viBack
  obtain ⟨k1, k2, k3⟩ := stopN_spec (fun j => decide (clsAt t big (a - j - 1) = 0)) a
  generalize stopN (fun j => decide (clsAt t big (a - j - 1) = 0)) a = k at *
  have hk2 : ∀ j, j < k → clsAt t big (a - j - 1) = 0 := fun j hj => of_decide_eq_true (k2 j hj)
  simp only
  by_cases hka : k = a
  · rw [hka, Nat.sub_self, show stopN (fun j => decide (clsAt t big (0 - j - 1) = clsAt t big (0 - 1))) 0 = 0 from rfl]
    unfold M_iViWordBack
    simp [Tryz.func137, Tryz.f137, E_iwithin, m1]
    rw [loopV_go (fun j => .on ⟨[(2, V.v (.bool big)), (1, V.v (.int .i64 (((a - j : Nat) : Int)))), (0, .lst i (ints t))], [], [], []⟩) k ?_ ?_]
    · subst hka; simp
    · simp
    · intro j hj
      have hp2 : 0 < a - j := by omega
      have r1 := hk2 j hj
      have hle2 : a - j ≤ a := by omega
      have hs : a - (j + 1) = a - j - 1 := by omega
      rw [hs]
      generalize a - j = p at *
      obtain ⟨i1, i2, i3, i4, i5, -⟩ := idx p hle2 hp2
      have e2 := hc (p - 1) i1
      rw [i4] at e2
      simp [i2, i3, i4, e2, r1, hp2]
  · have k4 : ¬ clsAt t big (a - k - 1) = 0 := of_decide_eq_false (k3.resolve_left hka)
    have hn0 : 0 < a - k := by omega
    have hnle : a - k ≤ a := by omega
    unfold M_iViWordBack
    simp [Tryz.func137, Tryz.f137, E_iwithin, m1]
    rw [loopV_go (fun j => .on ⟨[(2, V.v (.bool big)), (1, V.v (.int .i64 (((a - j : Nat) : Int)))), (0, .lst i (ints t))], [], [], []⟩) k ?_ ?_]
    · generalize a - k = n at *
      obtain ⟨n1, n2, n3⟩ := stopN_spec (fun j => decide (clsAt t big (n - j - 1) = clsAt t big (n - 1))) n
      generalize stopN (fun j => decide (clsAt t big (n - j - 1) = clsAt t big (n - 1))) n = m at *
      have hm2 : ∀ j, j < m → clsAt t big (n - j - 1) = clsAt t big (n - 1) := fun j hj => of_decide_eq_true (n2 j hj)
      have hm3 : m = n ∨ ¬ clsAt t big (n - m - 1) = clsAt t big (n - 1) := n3.imp _root_.id of_decide_eq_false
      obtain ⟨i1, i2, i3, i4, i5, -⟩ := idx n hnle hn0
      have e1 := hc (n - 1) i1
      rw [i4] at e1
      have hnz : ¬ n = 0 := by omega
      simp [i2, i3, i4, i5, e1, k4, hn0, hnz]
      rw [loopV_go (fun j => .on ⟨[(7, V.v (.int .i64 (clsAt t big (n - 1)))), (2, V.v (.bool big)), (1, V.v (.int .i64 (((n - j : Nat) : Int)))), (0, .lst i (ints t))], [], [], []⟩) m ?_ ?_]
      · by_cases r : m = n
        · subst r; simp
        · have hp2 : 0 < n - m := by omega
          have r1 := hm3.resolve_left r
          have hle2 : n - m ≤ a := by omega
          generalize n - m = p at *
          obtain ⟨i1, i2, i3, i4, i5, -⟩ := idx p hle2 hp2
          have e2 := hc (p - 1) i1
          rw [i4] at e2
          simp [i2, i3, i4, e2, r1, hp2]
      · simp
      · intro j hj
        have hp2 : 0 < n - j := by omega
        have r1 := hm2 j hj
        have hle2 : n - j ≤ a := by omega
        have hs : n - (j + 1) = n - j - 1 := by omega
        rw [hs]
        generalize n - j = p at *
        obtain ⟨i1, i2, i3, i4, i5, -⟩ := idx p hle2 hp2
        have e2 := hc (p - 1) i1
        rw [i4] at e2
        simp [i2, i3, i4, e2, r1, hp2]
    · simp
    · intro j hj
      have hp2 : 0 < a - j := by omega
      have r1 := hk2 j hj
      have hle2 : a - j ≤ a := by omega
      have hs : a - (j + 1) = a - j - 1 := by omega
      rw [hs]
      generalize a - j = p at *
      obtain ⟨i1, i2, i3, i4, i5, -⟩ := idx p hle2 hp2
      have e2 := hc (p - 1) i1
      rw [i4] at e2
      simp [i2, i3, i4, e2, r1, hp2]
end Go.Proofs.YtjhdikdopdcfcaaGreatDoor
namespace Go.Proofs.YtjhdikdopdcfcaaGreatDoor
open Go.RowKit
set_option linter.unusedSimpArgs false
set_option linter.unusedVariables false
set_option maxHeartbeats 8000000
set_option maxRecDepth 10000
theorem E_iWordOn (t : List Int) (i : Option Nat) (a : Nat) (h : a ≤ t.length) (ht : t.length ≤ 2000) : M_iWordOn [.lst i (ints t), V.v (.int .i64 ((a : Int)))] [] [] = some ⟨V.v (.int .i64 (((wordOn t a : Nat) : Int))), [], []⟩ := by
  have hc : ∀ j (h : j < t.length), M_iClassOf [V.v (.int .i64 (t[j]))] [] [] = some ⟨V.v (.int .i64 (clsOf (t.getD j 0))), [], []⟩ := fun j hj => by rw [getD_at hj]; exact E_iClassOf _
  unfold wordOn
  generalize hcf : (fun j => clsOf (t.getD j 0)) = cf
  have hcf' : ∀ j, clsOf (t.getD j 0) = cf j := fun j => by rw [← hcf]
  simp only [hcf'] at hc ⊢
  have m1 : max 0 (min (a : Int) t.length) = a := by omega
  obtain ⟨k1, k2, k3⟩ := stopN_spec (fun j => decide (¬ cf (a + j) = 1)) (t.length - a)
  generalize stopN (fun j => decide (¬ cf (a + j) = 1)) (t.length - a) = k at *
  obtain ⟨n1, n2, n3⟩ := stopN_spec (fun j => decide (cf (a + k + j) = 1)) (t.length - (a + k))
  generalize stopN (fun j => decide (cf (a + k + j) = 1)) (t.length - (a + k)) = m at *
  have tn2 : ∀ m n : Nat, 0 ≤ (m : Int) + n ∧ ((m : Int) + n).toNat = m + n := fun m n => ⟨by omega, by omega⟩
  have tn3 : ∀ m n p : Nat, 0 ≤ (m : Int) + n + p ∧ ((m : Int) + n + p).toNat = m + n + p := fun m n p => ⟨by omega, by omega⟩
  unfold M_iWordOn
  simp [Tryz.func105, Tryz.f105, E_iwithin, m1]
  rw [loopV_go (fun j => .on ⟨[(1, V.v (.int .i64 (((a + j : Nat) : Int)))), (0, .lst i (ints t))], [], [], []⟩) k ?_ ?_]
  · have st1 : ∀ j, j < m → a + k + j < t.length ∧ cf (a + k + j) = 1 := fun j hj => ⟨by omega, of_decide_eq_true (n2 j hj)⟩
    have hend : a + k = t.length ∨ (a + k < t.length ∧ cf (a + k) = 1) := by
      rcases k3 with k3 | k3
      · exact .inl (by omega)
      · by_cases q : a + k = t.length
        · exact .inl q
        · exact .inr ⟨by omega, by simpa using of_decide_eq_false k3⟩
    have hfin : a + k + m = t.length ∨ (a + k + m < t.length ∧ ¬ cf (a + k + m) = 1) := by
      rcases n3 with n3 | n3
      · exact .inl (by omega)
      · by_cases q : a + k + m = t.length
        · exact .inl q
        · exact .inr ⟨by omega, of_decide_eq_false n3⟩
    rcases hend with q | ⟨q, q1⟩
    · have q2 : (a : Int) + k = t.length := by omega
      have hm : m = 0 := by omega
      subst hm
      simp [q, q2]
      rw [loopV_unf]
      simp
    · have q2 : (a : Int) + k < t.length := by omega
      have e1 := hc (a + k) q
      rw [q1] at e1
      simp [q, q2, ints_get q, e1, tn2]
      rw [loopV_go (fun j => .on ⟨[(1, V.v (.int .i64 (((a + k + j : Nat) : Int)))), (0, .lst i (ints t))], [], [], []⟩) m ?_ ?_]
      · rcases hfin with r | ⟨r, r1⟩
        · have r2 : (a : Int) + k + m = t.length := by omega
          simp [r, r2]
        · have r2 : (a : Int) + k + m < t.length := by omega
          have e2 := hc (a + k + m) r
          simp [r, r2, ints_get r, e2, r1, tn3]
      · simp
      · intro j hj
        obtain ⟨s1, s2⟩ := st1 j hj
        have s3 : (a : Int) + k + j < t.length := by omega
        have e2 := hc (a + k + j) s1
        have hw := w64 ((a : Int) + k + (j + 1)) (by omega)
        have hs : (a : Int) + k + j + 1 = (a : Int) + k + (j + 1) := by omega
        simp [s1, s3, ints_get s1, e2, s2, hw, hs, tn2, tn3]
  · simp
  · intro j hj
    have s1 : a + j < t.length := by omega
    have s3 : (a : Int) + j < t.length := by omega
    have e2 := hc (a + j) s1
    have s2 : ¬ cf (a + j) = 1 := of_decide_eq_true (k2 j hj)
    have hw := w64 ((a : Int) + (j + 1)) (by omega)
    have hs : (a : Int) + j + 1 = (a : Int) + (j + 1) := by omega
    simp [s1, s3, ints_get s1, e2, s2, hw, hs, tn2, tn3]
theorem E_iWordBack (t : List Int) (i : Option Nat) (a : Nat) (h : a ≤ t.length) (ht : t.length ≤ 2000) : M_iWordBack [.lst i (ints t), V.v (.int .i64 ((a : Int)))] [] [] = some ⟨V.v (.int .i64 (((wordBack t a : Nat) : Int))), [], []⟩ := by
  have hc : ∀ j (h : j < t.length), M_iClassOf [V.v (.int .i64 (t[j]))] [] [] = some ⟨V.v (.int .i64 (clsOf (t.getD j 0))), [], []⟩ := fun j hj => by rw [getD_at hj]; exact E_iClassOf _
  unfold wordBack
  generalize hcf : (fun j => clsOf (t.getD j 0)) = cf
  have hcf' : ∀ j, clsOf (t.getD j 0) = cf j := fun j => by rw [← hcf]
  simp only [hcf'] at hc ⊢
  have m1 : max 0 (min (a : Int) t.length) = a := by omega
  have idx := idx_down h ht
  obtain ⟨k1, k2, k3⟩ := stopN_spec (fun j => decide (¬ cf (a - j - 1) = 1)) a
  generalize stopN (fun j => decide (¬ cf (a - j - 1) = 1)) a = k at *
  obtain ⟨n1, n2, n3⟩ := stopN_spec (fun j => decide (cf (a - k - j - 1) = 1)) (a - k)
  generalize stopN (fun j => decide (cf (a - k - j - 1) = 1)) (a - k) = m at *
  unfold M_iWordBack
  simp [Tryz.func79, Tryz.f79, E_iwithin, m1]
  rw [loopV_go (fun j => .on ⟨[(1, V.v (.int .i64 (((a - j : Nat) : Int)))), (0, .lst i (ints t))], [], [], []⟩) k ?_ ?_]
  · rcases k3 with k3 | k3
    · subst k3
      have hm : m = 0 := by omega
      subst hm
      simp
      rw [loopV_unf]
      simp
    · by_cases q0 : k = a
      · subst q0
        have hm : m = 0 := by omega
        subst hm
        simp
        rw [loopV_unf]
        simp
      have q1 : cf (a - k - 1) = 1 := by simpa using of_decide_eq_false k3
      have hpos : 0 < a - k := by omega
      have hm2 : ∀ j, j < m → cf (a - k - j - 1) = 1 := fun j hj => of_decide_eq_true (n2 j hj)
      have hm3 : m = a - k ∨ ¬ cf (a - k - m - 1) = 1 := n3.imp _root_.id of_decide_eq_false
      have hle : a - k ≤ a := by omega
      generalize a - k = n at *
      obtain ⟨i1, i2, i3, i4, i5, i6, i7, i8, i9⟩ := idx n hle hpos
      have e1 := hc (n - 1) i1
      rw [q1] at e1
      simp [i1, i2, i3, i6, i7, i8, i9, hpos, ints_get i1, e1]
      rw [loopV_go (fun j => .on ⟨[(1, V.v (.int .i64 (((n - j : Nat) : Int)))), (0, .lst i (ints t))], [], [], []⟩) m ?_ ?_]
      · by_cases r : m = n
        · subst r; simp
        · have hp2 : 0 < n - m := by omega
          have r1 := hm3.resolve_left r
          have hle2 : n - m ≤ a := by omega
          generalize n - m = p at *
          obtain ⟨i1, i2, i3, i4, i5, i6, i7, i8, i9⟩ := idx p hle2 hp2
          have e2 := hc (p - 1) i1
          simp [i1, i2, i3, i6, i7, i8, i9, hp2, ints_get i1, e2, r1]
      · simp
      · intro j hj
        have hp2 : 0 < n - j := by omega
        have r1 := hm2 j hj
        have hle2 : n - j ≤ a := by omega
        have hs : n - (j + 1) = n - j - 1 := by omega
        rw [hs]
        generalize n - j = p at *
        obtain ⟨i1, i2, i3, i4, i5, i6, i7, i8, i9⟩ := idx p hle2 hp2
        have e2 := hc (p - 1) i1
        simp [i1, i2, i3, i4, i6, i7, i8, i9, hp2, ints_get i1, e2, r1]
  · simp
  · intro j hj
    have hp2 : 0 < a - j := by omega
    have r1 : ¬ cf (a - j - 1) = 1 := of_decide_eq_true (k2 j hj)
    have hle2 : a - j ≤ a := by omega
    have hs : a - (j + 1) = a - j - 1 := by omega
    rw [hs]
    generalize a - j = p at *
    obtain ⟨i1, i2, i3, i4, i5, i6, i7, i8, i9⟩ := idx p hle2 hp2
    have e2 := hc (p - 1) i1
    simp [i1, i2, i3, i4, i6, i7, i8, i9, hp2, ints_get i1, e2, r1]
theorem wordOn_le {t : List Int} {a : Nat} (h : a ≤ t.length) : a ≤ wordOn t a ∧ wordOn t a ≤ t.length := by
  unfold wordOn
  simp only
  obtain ⟨k1, k2, k3⟩ := stopN_spec (fun j => decide (¬ clsOf (t.getD (a + j) 0) = 1)) (t.length - a)
  generalize stopN (fun j => decide (¬ clsOf (t.getD (a + j) 0) = 1)) (t.length - a) = k at *
  have := stopN_spec (fun j => decide (clsOf (t.getD (a + k + j) 0) = 1)) (t.length - (a + k))
  omega
theorem wordBack_le {t : List Int} {a : Nat} : wordBack t a ≤ a := by unfold wordBack; simp only; omega
theorem viOn_le {t : List Int} {big : Bool} {a : Nat} (h : a ≤ t.length) : a ≤ viOn t big a ∧ viOn t big a ≤ t.length := by
  unfold viOn
  simp only
  have hb : a ≤ (if a < t.length ∧ ¬ clsAt t big a = 0 then runOn t big a else a) ∧ (if a < t.length ∧ ¬ clsAt t big a = 0 then runOn t big a else a) ≤ t.length := by
    split
    · exact runOn_le h
    · omega
  generalize (if a < t.length ∧ ¬ clsAt t big a = 0 then runOn t big a else a) = b at *
  have := stopN_spec (fun j => decide (clsAt t big (b + j) = 0)) (t.length - b)
  omega
theorem viBack_le {t : List Int} {big : Bool} {a : Nat} : viBack t big a ≤ a := by unfold viBack; simp only; omega
theorem viEnd_le {t : List Int} {big : Bool} {a : Nat} : viEnd t big a ≤ t.length ∧ (0 < t.length → viEnd t big a < t.length) := by
  unfold viEnd
  by_cases h0 : t.length = 0
  · rw [if_pos h0]; omega
  rw [if_neg h0]
  simp only
  generalize stopN (fun j => decide (clsAt t big (a + 1 + j) = 0)) (t.length - (a + 1)) = k
  split
  · omega
  · have := runOn_le (t := t) (big := big) (a := a + 1 + k) (by omega)
    omega
theorem iterN_le {f : Nat → Nat} {m : Nat} (h : ∀ a, a ≤ m → f a ≤ m) : ∀ n a, a ≤ m → iterN f n a ≤ m
  | 0, a, ha => ha
  | n + 1, a, ha => iterN_le h n (f a) (h a ha)
theorem iterN_up {f : Nat → Nat} {m : Nat} (h : ∀ a, a ≤ m → a ≤ f a ∧ f a ≤ m) : ∀ n a, a ≤ m → a ≤ iterN f n a ∧ iterN f n a ≤ m
  | 0, a, ha => ⟨Nat.le_refl _, ha⟩
  | n + 1, a, ha => by
    have := iterN_up h n (f a) (h a ha).2
    have := h a ha
    show a ≤ iterN f n (f a) ∧ iterN f n (f a) ≤ m
    omega
theorem iterN_down {f : Nat → Nat} (h : ∀ a, f a ≤ a) : ∀ n a, iterN f n a ≤ a
  | 0, a => Nat.le_refl _
  | n + 1, a => by
    have := iterN_down h n (f a)
    have := h a
    show iterN f n (f a) ≤ a
    omega
end Go.Proofs.YtjhdikdopdcfcaaGreatDoor
namespace Go.Proofs.YtjhdikdopdcfcaaGreatDoor
open Go.RowKit
set_option linter.unusedSimpArgs false
set_option linter.unusedVariables false
set_option maxHeartbeats 8000000
set_option maxRecDepth 10000
theorem rowsS_strs (l : List ByteArray) : rowsS l = strs l := rfl
theorem E_split (s sep : ByteArray) (L : List ByteArray) (h1 : 1 ≤ sep.size) (h2 : s.size < 4294967281) (h : splitOf s sep = L) : M_strings_Split [V.v (.string s), V.v (.string sep)] [] [] = some ⟨.own 0, [], [(0, strs L)]⟩ := by
  show (if 1 ≤ sep.size ∧ s.size < 4294967281 then some (⟨.own 0, [], [(0, rowsS (splitOf s sep))]⟩ : Res) else none) = _
  rw [if_pos ⟨h1, h2⟩, h, rowsS_strs]
theorem toList_ne {a b : ByteArray} (h : ¬ a = b) : ¬ a.toList = b.toList := fun e => h (by
  rw [ByteArray.toList_eq, ByteArray.toList_eq] at e
  cases a; cases b
  simp only at e
  rw [ByteArray.mk.injEq]
  exact Array.toList_inj.1 e)
def keyNames : List ByteArray := [⟨#[69, 78, 84, 69, 82]⟩, ⟨#[66, 65, 67, 75]⟩, ⟨#[84, 65, 66]⟩, ⟨#[69, 83, 67]⟩, ⟨#[85, 80]⟩, ⟨#[68, 79, 87, 78]⟩, ⟨#[82, 73, 71, 72, 84]⟩, ⟨#[76, 69, 70, 84]⟩, ⟨#[72, 79, 77, 69]⟩, ⟨#[69, 78, 68]⟩, ⟨#[68, 69, 76, 69, 84, 69]⟩, ⟨#[77, 66, 65, 67, 75]⟩, ⟨#[66, 65, 68]⟩]
theorem split_names : splitOf ⟨List.toArray (69 :: 78 :: 84 :: 69 :: 82 :: 32 :: 66 :: 65 :: 67 :: 75 :: 32 :: 84 :: 65 :: 66 :: 32 :: 69 :: 83 :: 67 :: 32 :: 85 :: 80 :: 32 :: 68 :: 79 :: 87 :: 78 :: 32 :: 82 :: 73 :: 71 :: 72 :: 84 :: 32 :: 76 :: 69 :: 70 :: 84 :: 32 :: 72 :: 79 :: 77 :: 69 :: 32 :: 69 :: 78 :: 68 :: 32 :: 68 :: 69 :: 76 :: 69 :: 84 :: 69 :: 32 :: 77 :: 66 :: 65 :: 67 :: 75 :: 32 :: 66 :: 65 :: 68 :: [])⟩ ⟨#[32]⟩ = keyNames := by decide +kernel
theorem E_names : M_strings_Split [V.v (.string (⟨List.toArray (69 :: 78 :: 84 :: 69 :: 82 :: 32 :: 66 :: 65 :: 67 :: 75 :: 32 :: 84 :: 65 :: 66 :: 32 :: 69 :: 83 :: 67 :: 32 :: 85 :: 80 :: 32 :: 68 :: 79 :: 87 :: 78 :: 32 :: 82 :: 73 :: 71 :: 72 :: 84 :: 32 :: 76 :: 69 :: 70 :: 84 :: 32 :: 72 :: 79 :: 77 :: 69 :: 32 :: 69 :: 78 :: 68 :: 32 :: 68 :: 69 :: 76 :: 69 :: 84 :: 69 :: 32 :: 77 :: 66 :: 65 :: 67 :: 75 :: 32 :: 66 :: 65 :: 68 :: [])⟩)), V.v (.string (⟨#[32]⟩))] [] [] = some ⟨.own 0, [], [(0, strs keyNames)]⟩ := E_split _ _ _ (by decide) (by decide) split_names
theorem E_iParts (s : ByteArray) (L : List ByteArray) (h2 : s.size < 4294967281) (h : splitOf s ⟨#[32]⟩ = L) : M_iParts [V.v (.string s)] [] [] = some ⟨.own 0, [], [(0, strs L)]⟩ := by
  have e := E_split s ⟨#[32]⟩ L (by decide) h2 h
  unfold M_iParts
  simp [Tryz.func20, Tryz.f20, e]
theorem keyNames_len : keyNames.length = 13 := rfl
end Go.Proofs.YtjhdikdopdcfcaaGreatDoor
namespace Go.Proofs.YtjhdikdopdcfcaaGreatDoor
open Go.RowKit
set_option linter.unusedSimpArgs false
set_option linter.unusedVariables false
set_option maxHeartbeats 8000000
set_option maxRecDepth 10000
theorem E_iKeyText_rune (s : ByteArray) (r : Int) (h : Reads s.data.toList [r] []) (hp : printable r = true) (h32 : ¬ r = 32) : M_iKeyText [.agg [V.v (.int .i64 1), V.v (.int .i64 r)]] [] [] = some ⟨V.v (.string s), [], []⟩ := by
  have e1 := E_iKeyOk_rune r hp
  have e2 := E_iTextOf [r] (by simp)
  have e3 : (⟨(textOf [r]).toArray⟩ : ByteArray) = s := by
    have := h.1
    rw [List.append_nil] at this
    cases s with | mk d =>
    simp only at this
    rw [← this]
  rw [e3] at e2
  simp only [ints_cons, ints_nil] at e2
  unfold M_iKeyText
  simp [Tryz.func41, Tryz.f41, e1, e2, h32]
theorem E_iTextKey_rune (s : ByteArray) (r : Int) (h : Reads s.data.toList [r] []) (hs : s.size ≤ 100) (hp : printable r = true) (h32 : ¬ r = 32) (h2 : ∀ j, j < 13 → ¬ keyNames[j]? = some s) (h3 : ¬ s = ⟨#[83, 80, 67]⟩) :
    M_iTextKey [V.v (.string s)] [] [] = some ⟨.tup [.agg [V.v (.int .i64 1), V.v (.int .i64 r)], V.v (.bool true)], [], []⟩ := by
  have e := E_names
  have hl := keyNames_len
  have e1 := E_iRunesOf s [r] [] h (by omega)
  have e2 := E_iKeyText_rune s r h hp h32
  simp only [List.isEmpty_nil, if_true, ints_cons, ints_nil] at e1
  generalize keyNames = L at *
  unfold M_iTextKey
  simp [Tryz.func21, Tryz.f21, e, hl]
  rw [loopV_go (fun j => .on ⟨[(11, V.v (.int .i64 ((j : Int)))), (10, V.v (.int .i64 13)), (9, .own 2000000000), (2, .ref 2 0), (0, V.v (.string s))], [(2, [V.v (.int .i64 0), V.v (.int .i64 0)])], [(2000000000, strs L)], []⟩) 13 ?_ ?_]
  · have h3' : ¬ s.toList = [83, 80, 67] := fun e => toList_ne h3 (by rw [e, ByteArray.toList_eq])
    simp [e1, e2, h3']
  · simp
  · intro j hj
    have hjl : j < L.length := by omega
    have hw := w64 ((j : Int) + 1) (by omega)
    have g : (j : Int) < 13 := by omega
    have g2 : ¬ L[j] = s := fun e => h2 j hj (by rw [List.getElem?_eq_getElem hjl, e])
    simp [hjl, hw, hl, g, toList_ne g2, strs_get hjl]
theorem E_iEdKeys (e : TEd) (ok : e.ok = true) (f : Int) (l : List ByteArray) (hh : HistI f l) (ks : List TKey) (hk1 : ks.length ≤ 10) (hk : ∀ k ∈ ks, M_iKeyOk [.agg [V.v (.int .i64 k.Kind), V.v (.int .i64 k.R)]] [] [] = some ⟨V.v (.bool true), [], []⟩) (es : Nat → TEd) (acts : Nat → Int) (h0 : es 0 = e)
    (hs : ∀ j, (hj : j < ks.length) → M_iEdKey [.agg [V.v (.bool ((es j).Vi)), V.v (.int .i64 ((es j).Mode)), .lst (some 0) (ints ((es j).Line.Text)), V.v (.int .i64 ((es j).Line.At)), V.v (.int .i64 ((es j).Count)), V.v (.int .i64 ((es j).Op)), V.v (.int .i64 ((es j).OpCount)), V.v (.int .i64 ((es j).Wait)), V.v (.int .i64 ((es j).FindR)), V.v (.int .i64 ((es j).FindHow)), V.v (.int .i64 ((es j).Last)), .lst (some 1) (dPieces ((es j).Ring.Pieces)), .lst (some 2) (dLines ((es j).Undo.Lines)), V.v (.int .i64 ((es j).Nav)), .lst (some 3) (ints ((es j).Own.Text)), V.v (.int .i64 ((es j).Own.At)), .lst (some 4) (ints ((es j).Query)), V.v (.int .i64 ((es j).Hit)), .lst (some 5) (ints ((es j).Back.Text)), V.v (.int .i64 ((es j).Back.At))], .agg [V.v (.int .i64 f), .lst (some 6) (strs l)], .agg [V.v (.int .i64 (ks[j].Kind)), V.v (.int .i64 (ks[j].R))]] [] [] = some ⟨.tup [.agg [V.v (.bool ((es (j + 1)).Vi)), V.v (.int .i64 ((es (j + 1)).Mode)), .own 0, V.v (.int .i64 ((es (j + 1)).Line.At)), V.v (.int .i64 ((es (j + 1)).Count)), V.v (.int .i64 ((es (j + 1)).Op)), V.v (.int .i64 ((es (j + 1)).OpCount)), V.v (.int .i64 ((es (j + 1)).Wait)), V.v (.int .i64 ((es (j + 1)).FindR)), V.v (.int .i64 ((es (j + 1)).FindHow)), V.v (.int .i64 ((es (j + 1)).Last)), .own 1, .own 2, V.v (.int .i64 ((es (j + 1)).Nav)), .own 3, V.v (.int .i64 ((es (j + 1)).Own.At)), .own 4, V.v (.int .i64 ((es (j + 1)).Hit)), .own 5, V.v (.int .i64 ((es (j + 1)).Back.At))], V.v (.int .i64 (acts j))], [], [(0, ints ((es (j + 1)).Line.Text)), (1, dPieces ((es (j + 1)).Ring.Pieces)), (2, dLines ((es (j + 1)).Undo.Lines)), (3, ints ((es (j + 1)).Own.Text)), (4, ints ((es (j + 1)).Query)), (5, ints ((es (j + 1)).Back.Text))]⟩) :
    M_iEdKeys [.agg [V.v (.bool e.Vi), V.v (.int .i64 e.Mode), .lst (some 0) (ints e.Line.Text), V.v (.int .i64 e.Line.At), V.v (.int .i64 e.Count), V.v (.int .i64 e.Op), V.v (.int .i64 e.OpCount), V.v (.int .i64 e.Wait), V.v (.int .i64 e.FindR), V.v (.int .i64 e.FindHow), V.v (.int .i64 e.Last), .lst (some 1) (dPieces e.Ring.Pieces), .lst (some 2) (dLines e.Undo.Lines), V.v (.int .i64 e.Nav), .lst (some 3) (ints e.Own.Text), V.v (.int .i64 e.Own.At), .lst (some 4) (ints e.Query), V.v (.int .i64 e.Hit), .lst (some 5) (ints e.Back.Text), V.v (.int .i64 e.Back.At)], .agg [V.v (.int .i64 f), .lst (some 6) (strs l)], .lst (some 7) (dKeys ks)] [] [] = some ⟨.tup [.agg [V.v (.bool ((es ks.length).Vi)), V.v (.int .i64 ((es ks.length).Mode)), .own 0, V.v (.int .i64 ((es ks.length).Line.At)), V.v (.int .i64 ((es ks.length).Count)), V.v (.int .i64 ((es ks.length).Op)), V.v (.int .i64 ((es ks.length).OpCount)), V.v (.int .i64 ((es ks.length).Wait)), V.v (.int .i64 ((es ks.length).FindR)), V.v (.int .i64 ((es ks.length).FindHow)), V.v (.int .i64 ((es ks.length).Last)), .own 1, .own 2, V.v (.int .i64 ((es ks.length).Nav)), .own 3, V.v (.int .i64 ((es ks.length).Own.At)), .own 4, V.v (.int .i64 ((es ks.length).Hit)), .own 5, V.v (.int .i64 ((es ks.length).Back.At))], .own 6], [], [(0, ints ((es ks.length).Line.Text)), (1, dPieces ((es ks.length).Ring.Pieces)), (2, dLines ((es ks.length).Undo.Lines)), (3, ints ((es ks.length).Own.Text)), (4, ints ((es ks.length).Query)), (5, ints ((es ks.length).Back.Text)), (6, ints ((List.range ks.length).map acts))]⟩ := by
  have e1 := E_iEdOk' e ok
  have e2 := E_iHistOk f l hh
  have e4 := E_icopyEd e (EdB.of ok)
  generalize hE : M_iEdKeys _ _ _ = R
  unfold M_iEdKeys at hE
  simp [Tryz.func22, Tryz.f22, e1, e2] at hE
  rw [loopV_go (fun j => .on ⟨[(27, V.v (.int .i64 ((j : Int)))), (26, V.v (.int .i64 ((ks.length : Int)))), (25, .lst (some 7) (dKeys ks)), (6, .ref 6 0), (4, .ref 4 0), (3, .ref 3 0), (2, .lst (some 7) (dKeys ks))], [(6, [V.v (.bool false), V.v (.int .i64 0), .own 2000000000, V.v (.int .i64 0), V.v (.int .i64 0), V.v (.int .i64 0), V.v (.int .i64 0), V.v (.int .i64 0), V.v (.int .i64 0), V.v (.int .i64 0), V.v (.int .i64 0), .own 2000000001, .own 2000000002, V.v (.int .i64 0), .own 2000000003, V.v (.int .i64 0), .own 2000000004, V.v (.int .i64 0), .own 2000000005, V.v (.int .i64 0)]), (4, [V.v (.int .i64 f), .lst (some 6) (strs l)]), (3, [V.v (.bool e.Vi), V.v (.int .i64 e.Mode), .lst (some 0) (ints e.Line.Text), V.v (.int .i64 e.Line.At), V.v (.int .i64 e.Count), V.v (.int .i64 e.Op), V.v (.int .i64 e.OpCount), V.v (.int .i64 e.Wait), V.v (.int .i64 e.FindR), V.v (.int .i64 e.FindHow), V.v (.int .i64 e.Last), .lst (some 1) (dPieces e.Ring.Pieces), .lst (some 2) (dLines e.Undo.Lines), V.v (.int .i64 e.Nav), .lst (some 3) (ints e.Own.Text), V.v (.int .i64 e.Own.At), .lst (some 4) (ints e.Query), V.v (.int .i64 e.Hit), .lst (some 5) (ints e.Back.Text), V.v (.int .i64 e.Back.At)])], [(2000000005, []), (2000000004, []), (2000000003, []), (2000000002, []), (2000000001, []), (2000000000, [])], []⟩) ks.length ?_ ?_] at hE
  · simp [e4] at hE
    rw [loopV_go (fun j => .on ⟨[(40, V.v (.int .i64 ((j : Int)))), (39, V.v (.int .i64 ((ks.length : Int)))), (38, .lst (some 7) (dKeys ks)), (11, .own 2000000000), (10, .ref 10 0), (6, .ref 6 0), (4, .ref 4 0)], [(10, [V.v (.bool ((es j).Vi)), V.v (.int .i64 ((es j).Mode)), .own 2000000001, V.v (.int .i64 ((es j).Line.At)), V.v (.int .i64 ((es j).Count)), V.v (.int .i64 ((es j).Op)), V.v (.int .i64 ((es j).OpCount)), V.v (.int .i64 ((es j).Wait)), V.v (.int .i64 ((es j).FindR)), V.v (.int .i64 ((es j).FindHow)), V.v (.int .i64 ((es j).Last)), .own 2000000002, .own 2000000003, V.v (.int .i64 ((es j).Nav)), .own 2000000004, V.v (.int .i64 ((es j).Own.At)), .own 2000000005, V.v (.int .i64 ((es j).Hit)), .own 2000000006, V.v (.int .i64 ((es j).Back.At))]), (6, [V.v (.bool false), V.v (.int .i64 0), .own 2000000007, V.v (.int .i64 0), V.v (.int .i64 0), V.v (.int .i64 0), V.v (.int .i64 0), V.v (.int .i64 0), V.v (.int .i64 0), V.v (.int .i64 0), V.v (.int .i64 0), .own 2000000008, .own 2000000009, V.v (.int .i64 0), .own 2000000010, V.v (.int .i64 0), .own 2000000011, V.v (.int .i64 0), .own 2000000012, V.v (.int .i64 0)]), (4, [V.v (.int .i64 f), .lst (some 6) (strs l)])], [(2000000012, []), (2000000011, []), (2000000010, []), (2000000009, []), (2000000008, []), (2000000007, []), (2000000006, ints (es j).Back.Text), (2000000005, ints (es j).Query), (2000000004, ints (es j).Own.Text), (2000000003, dLines (es j).Undo.Lines), (2000000002, dPieces (es j).Ring.Pieces), (2000000001, ints (es j).Line.Text), (2000000000, ints ((List.range j).map acts))], []⟩) ks.length ?_ ?_] at hE
    · simp at hE
      exact hE.symm
    · simp [h0, ints_nil]
    · intro j hj
      have hw := w64 ((j : Int) + 1) (by omega)
      have e5 := hs j hj
      have g1 : (j + 1) * 8 ≤ 140737488355328 := by omega
      have g2 : j + 1 ≤ 4611686018427387904 := by omega
      have g3 : j ≤ 4611686018427387903 := by omega
      have g6 : ints ((List.range (j + 1)).map acts) = ints ((List.range j).map acts) ++ [[D.a (.int .i64 (acts j))]] := by rw [List.range_succ, List.map_append, ints_app]; rfl
      simp [hj, hw, dKeys_get hj, e5, g1, g2, g3, g6]
  · simp
  · intro j hj
    have hw := w64 ((j : Int) + 1) (by omega)
    have e5 := hk ks[j] (List.getElem_mem hj)
    simp [hj, hw, dKeys_get hj, e5]
theorem E_iEdTyped (e e' : TEd) (f : Int) (l : List ByteArray) (s : ByteArray) (ps : List ByteArray) (ks : List TKey) (acl : List Int) (hs : s.size < 4294967281) (hp : splitOf s ⟨#[32]⟩ = ps) (hl : ps.length = ks.length) (hl2 : ks.length ≤ 10)
    (ht : ∀ j, (hj : j < ks.length) → M_iTextKey [V.v (.string (ps[j]'(by omega)))] [] [] = some ⟨.tup [.agg [V.v (.int .i64 (ks[j].Kind)), V.v (.int .i64 (ks[j].R))], V.v (.bool true)], [], []⟩)
    (h : M_iEdKeys [.agg [V.v (.bool e.Vi), V.v (.int .i64 e.Mode), .lst (some 0) (ints e.Line.Text), V.v (.int .i64 e.Line.At), V.v (.int .i64 e.Count), V.v (.int .i64 e.Op), V.v (.int .i64 e.OpCount), V.v (.int .i64 e.Wait), V.v (.int .i64 e.FindR), V.v (.int .i64 e.FindHow), V.v (.int .i64 e.Last), .lst (some 1) (dPieces e.Ring.Pieces), .lst (some 2) (dLines e.Undo.Lines), V.v (.int .i64 e.Nav), .lst (some 3) (ints e.Own.Text), V.v (.int .i64 e.Own.At), .lst (some 4) (ints e.Query), V.v (.int .i64 e.Hit), .lst (some 5) (ints e.Back.Text), V.v (.int .i64 e.Back.At)], .agg [V.v (.int .i64 f), .lst (some 6) (strs l)], .lst (some 7) (dKeys ks)] [] [] = some ⟨.tup [.agg [V.v (.bool e'.Vi), V.v (.int .i64 e'.Mode), .own 0, V.v (.int .i64 e'.Line.At), V.v (.int .i64 e'.Count), V.v (.int .i64 e'.Op), V.v (.int .i64 e'.OpCount), V.v (.int .i64 e'.Wait), V.v (.int .i64 e'.FindR), V.v (.int .i64 e'.FindHow), V.v (.int .i64 e'.Last), .own 1, .own 2, V.v (.int .i64 e'.Nav), .own 3, V.v (.int .i64 e'.Own.At), .own 4, V.v (.int .i64 e'.Hit), .own 5, V.v (.int .i64 e'.Back.At)], .own 6], [], [(0, ints e'.Line.Text), (1, dPieces e'.Ring.Pieces), (2, dLines e'.Undo.Lines), (3, ints e'.Own.Text), (4, ints e'.Query), (5, ints e'.Back.Text), (6, ints acl)]⟩) :
    M_iEdTyped [.agg [V.v (.bool e.Vi), V.v (.int .i64 e.Mode), .lst (some 0) (ints e.Line.Text), V.v (.int .i64 e.Line.At), V.v (.int .i64 e.Count), V.v (.int .i64 e.Op), V.v (.int .i64 e.OpCount), V.v (.int .i64 e.Wait), V.v (.int .i64 e.FindR), V.v (.int .i64 e.FindHow), V.v (.int .i64 e.Last), .lst (some 1) (dPieces e.Ring.Pieces), .lst (some 2) (dLines e.Undo.Lines), V.v (.int .i64 e.Nav), .lst (some 3) (ints e.Own.Text), V.v (.int .i64 e.Own.At), .lst (some 4) (ints e.Query), V.v (.int .i64 e.Hit), .lst (some 5) (ints e.Back.Text), V.v (.int .i64 e.Back.At)], .agg [V.v (.int .i64 f), .lst (some 6) (strs l)], V.v (.string s)] [] [] = some ⟨.tup [.agg [V.v (.bool e'.Vi), V.v (.int .i64 e'.Mode), .own 0, V.v (.int .i64 e'.Line.At), V.v (.int .i64 e'.Count), V.v (.int .i64 e'.Op), V.v (.int .i64 e'.OpCount), V.v (.int .i64 e'.Wait), V.v (.int .i64 e'.FindR), V.v (.int .i64 e'.FindHow), V.v (.int .i64 e'.Last), .own 1, .own 2, V.v (.int .i64 e'.Nav), .own 3, V.v (.int .i64 e'.Own.At), .own 4, V.v (.int .i64 e'.Hit), .own 5, V.v (.int .i64 e'.Back.At)], .own 6], [], [(0, ints e'.Line.Text), (1, dPieces e'.Ring.Pieces), (2, dLines e'.Undo.Lines), (3, ints e'.Own.Text), (4, ints e'.Query), (5, ints e'.Back.Text), (6, ints acl)]⟩ := by
  have e1 := E_iParts s ps hs hp
  generalize hE : M_iEdTyped _ _ _ = R
  unfold M_iEdTyped at hE
  simp [Tryz.func7, Tryz.f7, e1, hl] at hE
  rw [loopV_go (fun j => .on ⟨[(16, V.v (.int .i64 ((j : Int)))), (15, V.v (.int .i64 ((ks.length : Int)))), (14, .own 2000000000), (8, .own 2000000001), (6, .ref 6 0), (4, .ref 4 0), (3, .ref 3 0)], [(6, [V.v (.bool false), V.v (.int .i64 0), .own 2000000002, V.v (.int .i64 0), V.v (.int .i64 0), V.v (.int .i64 0), V.v (.int .i64 0), V.v (.int .i64 0), V.v (.int .i64 0), V.v (.int .i64 0), V.v (.int .i64 0), .own 2000000003, .own 2000000004, V.v (.int .i64 0), .own 2000000005, V.v (.int .i64 0), .own 2000000006, V.v (.int .i64 0), .own 2000000007, V.v (.int .i64 0)]), (4, [V.v (.int .i64 f), .lst (some 6) (strs l)]), (3, [V.v (.bool e.Vi), V.v (.int .i64 e.Mode), .lst (some 0) (ints e.Line.Text), V.v (.int .i64 e.Line.At), V.v (.int .i64 e.Count), V.v (.int .i64 e.Op), V.v (.int .i64 e.OpCount), V.v (.int .i64 e.Wait), V.v (.int .i64 e.FindR), V.v (.int .i64 e.FindHow), V.v (.int .i64 e.Last), .lst (some 1) (dPieces e.Ring.Pieces), .lst (some 2) (dLines e.Undo.Lines), V.v (.int .i64 e.Nav), .lst (some 3) (ints e.Own.Text), V.v (.int .i64 e.Own.At), .lst (some 4) (ints e.Query), V.v (.int .i64 e.Hit), .lst (some 5) (ints e.Back.Text), V.v (.int .i64 e.Back.At)])], [(2000000007, []), (2000000006, []), (2000000005, []), (2000000004, []), (2000000003, []), (2000000002, []), (2000000001, dKeys (ks.take j)), (2000000000, strs ps)], []⟩) ks.length ?_ ?_] at hE
  · simp [h] at hE
    exact hE.symm
  · simp [show dKeys [] = [] from rfl]
  · intro j hj
    have hw := w64 ((j : Int) + 1) (by omega)
    have hjp : j < ps.length := by omega
    have e5 := ht j hj
    have g1 : (j + 1) * 16 ≤ 140737488355328 := by omega
    have g2 : j + 1 ≤ 4611686018427387904 := by omega
    have g3 : j ≤ 4611686018427387903 := by omega
    have g4 : min j ks.length = j := by omega
    have g6 : dKeys (ks.take (j + 1)) = dKeys (ks.take j) ++ [[D.a (.int .i64 (ks[j].Kind)), D.a (.int .i64 (ks[j].R))]] := by rw [dKeys_snoc, ← List.take_succ_eq_append_getElem hj]
    simp [hj, hw, hl, hjp, strs_get hjp, e5, g1, g2, g3, g4, g6]
end Go.Proofs.YtjhdikdopdcfcaaGreatDoor
namespace Go.Proofs.YtjhdikdopdcfcaaGreatDoor
open Go.RowKit
set_option linter.unusedSimpArgs false
set_option linter.unusedVariables false
set_option maxHeartbeats 8000000
set_option maxRecDepth 10000
def vE (t : List Int) (a : Int) (r : List TPiece) (ul : List TLine) (cnt op : Int) : TEd := { zEd with Vi := true, Mode := 2, Line := ⟨t, a⟩, Count := cnt, Op := op, Ring := ⟨r⟩, Undo := ⟨ul⟩ }
structure VI (t : List Int) (a : Int) (r : List TPiece) (ul : List TLine) : Prop where
  text : textOk t = true
  at0 : 0 ≤ a
  at_ : (a < t.length) ∨ (t = [] ∧ a = 0)
  ring : ringOk r = true
  undo : undoOk ul = true ∧ ul.length ≤ 12
theorem VI.line {t : List Int} {a : Int} {r : List TPiece} {ul : List TLine} (h : VI t a r ul) : lineOk t a = true := by
  have h0 := h.at0
  have : a ≤ t.length := by rcases h.at_ with h | ⟨h, h2⟩ <;> omega
  unfold lineOk
  rw [h.text, inR_iff.2 (by omega)]; rfl
theorem VI.end_ {t : List Int} {a : Int} {r : List TPiece} {ul : List TLine} (h : VI t a r ul) : atEnd t a = false := by
  rcases h.at_ with h | ⟨h, h2⟩
  · have : ¬ a = t.length := by omega
    simp [atEnd, this]
  · subst h; subst h2; rfl
theorem VI.ok {t : List Int} {a : Int} {r : List TPiece} {ul : List TLine} (h : VI t a r ul) (cnt op : Int) (hc : 0 ≤ cnt ∧ cnt ≤ 999) (ho : op = 0 ∨ op = 100) : (vE t a r ul cnt op).ok = true := by
  have q1 := h.line
  have q2 : inR cnt 0 999 = true := inR_iff.2 hc
  have q3 : modeB true 2 t a op 0 0 = true := by
    have := h.end_
    rcases ho with rfl | rfl <;> simp [modeB, this] <;> decide
  have q4 := h.ring
  have q5 := h.undo.1
  simp only [TEd.ok, edOk, vE, zEd, q1, q2, q3, q4, q5]
  rfl
theorem VI.set {t : List Int} {a : Int} {r : List TPiece} {ul : List TLine} (h : VI t a r ul) (cnt op : Int) (hc : 0 ≤ cnt ∧ cnt ≤ 999) (ho : op = 0 ∨ op = 100) : SetI (vE t a r ul cnt op) :=
  ⟨EdB.of (h.ok cnt op hc ho), rfl, h.line, h.undo.1, by have := h.undo.2; show ul.length ≤ 19; omega⟩
section
variable {f : Int} {l : List ByteArray} (hh : HistI f l) {t : List Int} {a : Int} {r : List TPiece} {ul : List TLine} (h : VI t a r ul)
include hh h
end
end Go.Proofs.YtjhdikdopdcfcaaGreatDoor
namespace Go.Proofs.YtjhdikdopdcfcaaGreatDoor
open Go.RowKit
set_option linter.unusedSimpArgs false
set_option linter.unusedVariables false
set_option maxHeartbeats 8000000
set_option maxRecDepth 10000
theorem E_iLinePut (t u : List Int) (A : Nat) (hA : A ≤ t.length) (ht : textOk t = true) (hu : u.all typed = true) (hl : t.length + u.length ≤ 400) : M_iLinePut [.agg [.lst (some 0) (ints t), V.v (.int .i64 ((A : Int)))], .lst (some 1) (ints u)] [] [] = some ⟨.tup [.agg [.own 0, V.v (.int .i64 (((A : Int) + u.length)))], V.v (.bool true)], [], [(0, ints (t.take A ++ u ++ t.drop A))]⟩ := by
  have htt : t.all typed = true := by simp only [textOk, Bool.and_eq_true] at ht; exact ht.2
  have e1 := E_iLineOk t A (by omega)
  rw [show lineOk t A = true from by unfold lineOk; rw [ht, inR_iff.2 (by omega)]; rfl] at e1
  have e2 := E_icopyInts (t.take A) (some 0) (by simp; omega)
  have hX : textOk (t.take A ++ u ++ t.drop A) = true := by
    simp only [textOk, Bool.and_eq_true, decide_eq_true_eq]
    refine ⟨by simp; omega, List.all_eq_true.2 fun x hx => ?_⟩
    rcases List.mem_append.1 hx with hx | hx
    · rcases List.mem_append.1 hx with hx | hx
      · exact List.all_eq_true.1 htt x (List.mem_of_mem_take hx)
      · exact List.all_eq_true.1 hu x hx
    · exact List.all_eq_true.1 htt x (List.mem_of_mem_drop hx)
  have hXl : (t.take A ++ u ++ t.drop A).length = t.length + u.length := by simp; omega
  have e3 := E_iLineOk (t.take A ++ u ++ t.drop A) ((A : Int) + u.length) (by omega)
  rw [show lineOk (t.take A ++ u ++ t.drop A) ((A : Int) + u.length) = true from by unfold lineOk; rw [hX, inR_iff.2 (by omega)]; rfl] at e3
  have q0 : min A t.length = A := by omega
  have q1 : ¬ (400 : Int) < u.length := by omega
  have q2 : (A + u.length) * 8 ≤ 140737488355328 := by omega
  have q3 : A + u.length ≤ 4611686018427387904 := by omega
  have q4 : (A + u.length + (t.length - A)) * 8 ≤ 140737488355328 := by omega
  have q5 : A + u.length + (t.length - A) ≤ 4611686018427387904 := by omega
  have q6 : (A : Int) ≤ t.length := by omega
  have q7 : (t.drop A).take (t.length - A) = t.drop A := List.take_of_length_le (by simp)
  have q8 : (A + (u.length + (t.length - A))) * 8 ≤ 140737488355328 := by omega
  have q9 : A + (u.length + (t.length - A)) ≤ 4611686018427387904 := by omega
  have w := w64 ((A : Int) + u.length) (by omega)
  generalize hE : M_iLinePut _ _ _ = R
  unfold M_iLinePut at hE
  simp [-ints_app, ← ints_app, -List.append_assoc, Tryz.func136, Tryz.f136, e1, e2, e3, q0, q1, q2, q3, q4, q5, q6, q7, q8, q9, w, hA] at hE
  exact hE.symm
end Go.Proofs.YtjhdikdopdcfcaaGreatDoor
namespace Go.Proofs.YtjhdikdopdcfcaaGreatDoor
open Go.RowKit
set_option linter.unusedSimpArgs false
set_option linter.unusedVariables false
set_option maxHeartbeats 4000000
structure EOk (e : TEd) : Prop where
  line : lineOk e.Line.Text e.Line.At = true
  own : lineOk e.Own.Text e.Own.At = true
  back : lineOk e.Back.Text e.Back.At = true
  cnt : 0 ≤ e.Count ∧ e.Count ≤ 999
  opc : 0 ≤ e.OpCount ∧ e.OpCount ≤ 999
  mode : (e.Mode = 0 ∧ e.Vi = false) ∨ ((e.Mode = 1 ∨ e.Mode = 2) ∧ e.Vi = true) ∨ e.Mode = 3
  end_ : ¬ (e.Mode = 2 ∧ atEnd e.Line.Text e.Line.At = true)
  cmd : e.Mode = 2 ∨ (e.Op = 0 ∧ e.Wait = 0 ∧ e.OpCount = 0)
  opz : ¬ e.Op = 0 ∨ e.OpCount = 0
  op : e.Op = 0 ∨ opC e.Op = true
  wait : e.Wait = 0 ∨ waitC e.Wait = true
  find : findB e.FindR e.FindHow = true
  last : 0 ≤ e.Last ∧ e.Last ≤ 3
  ring : ringOk e.Ring.Pieces = true
  undo : undoOk e.Undo.Lines = true
  nav : 0 ≤ e.Nav ∧ e.Nav ≤ 1000000060
  hit : 0 ≤ e.Hit ∧ e.Hit ≤ 1000000060
  nown : ¬ e.Nav = 0 ∨ emptyL e.Own.Text e.Own.At = true
  ql : e.Query.length ≤ 40
  qp : e.Query.all printable = true
  seek : e.Mode = 3 ∨ (e.Query = [] ∧ e.Hit = 0 ∧ emptyL e.Back.Text e.Back.At = true)
theorem eok_iff {e : TEd} : e.ok = true ↔ EOk e := by
  simp only [TEd.ok, edOk, modeB, seekB, Bool.and_eq_true, Bool.or_eq_true, decide_eq_true_eq, Bool.not_eq_true', beq_iff_eq, bne_iff_ne, inR_iff, List.length_eq_zero_iff, Bool.and_eq_false_iff, beq_eq_false_iff_ne, ne_eq]
  constructor
  · rintro ⟨a1, a2, a3, a4, a5, ⟨b1, b2, b3, b4, b5, b6⟩, a7, a8, a9, a10, a11, a12, a13, a14, a15, a16⟩
    refine ⟨a1, a2, a3, a4, a5, ?_, ?_, ?_, b4, b5, b6, a7, a8, a9, a10, a11, a12, a13, a14, a15, ?_⟩
    · rcases b1 with (h | h) | h
      · exact .inl h
      · exact .inr (.inl h)
      · exact .inr (.inr h)
    · rintro ⟨h1, h2⟩
      rcases b2 with h | h
      · exact h h1
      · rw [h] at h2; cases h2
    · rcases b3 with h | ⟨⟨h1, h2⟩, h3⟩
      · exact .inl h
      · exact .inr ⟨h1, h2, h3⟩
    · rcases a16 with h | ⟨⟨h1, h2⟩, h3⟩
      · exact .inl h
      · exact .inr ⟨h1, h2, h3⟩
  · rintro ⟨a1, a2, a3, a4, a5, b1, b2, b3, b4, b5, b6, a7, a8, a9, a10, a11, a12, a13, a14, a15, a16⟩
    refine ⟨a1, a2, a3, a4, a5, ⟨?_, ?_, ?_, b4, b5, b6⟩, a7, a8, a9, a10, a11, a12, a13, a14, a15, ?_⟩
    · rcases b1 with h | h | h
      · exact .inl (.inl h)
      · exact .inl (.inr h)
      · exact .inr h
    · by_cases h : e.Mode = 2
      · right
        cases he : atEnd e.Line.Text e.Line.At
        · rfl
        · exact absurd ⟨h, he⟩ b2
      · exact .inl h
    · rcases b3 with h | ⟨h1, h2, h3⟩
      · exact .inl h
      · exact .inr ⟨⟨h1, h2⟩, h3⟩
    · rcases a16 with h | ⟨h1, h2, h3⟩
      · exact .inl h
      · exact .inr ⟨⟨h1, h2⟩, h3⟩
theorem line_ok_of {t : List Int} {a : Int} (h1 : t.length ≤ 400) (h2 : t.all typed = true) (h3 : 0 ≤ a) (h4 : a ≤ t.length) : lineOk t a = true := by
  simp only [lineOk, textOk, Bool.and_eq_true, decide_eq_true_eq]
  exact ⟨⟨h1, h2⟩, inR_iff.2 ⟨h3, h4⟩⟩
theorem inCmdAt_ok {mode : Int} {t : List Int} {a : Int} (h : lineOk t a = true) : lineOk t (inCmdAt mode t a) = true ∧ ¬ (mode = 2 ∧ atEnd t (inCmdAt mode t a) = true) := by
  obtain ⟨h1, h2, h3, h4⟩ := line_len h
  unfold inCmdAt clipAt
  by_cases hm : mode = 2
  · rw [if_pos hm]
    cases he : atEnd t a
    · rw [if_neg (by simp)]
      exact ⟨h, fun e => by rw [he] at e; cases e.2⟩
    · rw [if_pos rfl]
      simp only [atEnd, Bool.and_eq_true, decide_eq_true_eq, beq_iff_eq] at he
      refine ⟨line_ok_of h1 h2 (by omega) (by omega), fun e => ?_⟩
      have e := e.2
      simp only [atEnd, Bool.and_eq_true, decide_eq_true_eq, beq_iff_eq] at e
      omega
  · rw [if_neg hm]
    exact ⟨h, fun e => hm e.1⟩
theorem EOk.atN {e : TEd} (h : EOk e) : e.Line.At = (atN e : Int) ∧ atN e ≤ e.Line.Text.length ∧ e.Line.Text.length ≤ 400 ∧ e.Line.Text.all typed = true := by
  obtain ⟨h1, h2, h3, h4⟩ := line_len h.line
  unfold Proofs.YtjhdikdopdcfcaaGreatDoor.atN
  exact ⟨by omega, by omega, h1, h2⟩
theorem z999 : (0 : Int) ≤ 0 ∧ (0 : Int) ≤ 999 := by omega
theorem z3 : (0 : Int) ≤ 0 ∧ (0 : Int) ≤ 3 := by omega
theorem z60 : (0 : Int) ≤ 0 ∧ (0 : Int) ≤ 1000000060 := by omega
theorem iteK {c : Prop} [Decidable c] {a b : TEd × Int} (ha : c → EOk a.1) (hb : ¬ c → EOk b.1) : EOk (if c then a else b).1 := by
  by_cases hc : c
  · rw [if_pos hc]; exact ha hc
  · rw [if_neg hc]; exact hb hc
theorem EOk.idle {e : TEd} (h : EOk e) (last : Int) (hl : 0 ≤ last ∧ last ≤ 3) : EOk (idleE e last) :=
  ⟨h.line, h.own, h.back, z999, z999, h.mode, h.end_, .inr ⟨rfl, rfl, rfl⟩, .inr rfl, .inl rfl, .inl rfl, h.find, hl, h.ring, h.undo, h.nav, h.hit, h.nown, h.ql, h.qp, h.seek⟩
theorem EOk.bell {e : TEd} (h : EOk e) : EOk (bellE e).1 := h.idle 0 (by omega)
theorem EOk.set {e : TEd} (h : EOk e) {t : List Int} {a : Int} (last : Int) (ht : lineOk t a = true) (hl : 0 ≤ last ∧ last ≤ 3) : EOk (setE e t a last) := by
  obtain ⟨c1, c2⟩ := inCmdAt_ok (mode := e.Mode) ht
  exact ⟨c1, h.own, h.back, z999, z999, h.mode, c2, .inr ⟨rfl, rfl, rfl⟩, .inr rfl, .inl rfl, .inl rfl, h.find, hl, h.ring, setUndo_ok (eok_iff.2 h) t last, h.nav, h.hit, h.nown, h.ql, h.qp, h.seek⟩
theorem EOk.put {e : TEd} (h : EOk e) {t : List Int} {a : Int} (ht : lineOk t a = true) : EOk (putE e t a).1 := h.set 0 ht (by omega)
theorem EOk.ring' {e : TEd} (h : EOk e) {l : List TPiece} (hl : ringOk l = true) : EOk { e with Ring := ⟨l⟩ } :=
  ⟨h.line, h.own, h.back, h.cnt, h.opc, h.mode, h.end_, h.cmd, h.opz, h.op, h.wait, h.find, h.last, hl, h.undo, h.nav, h.hit, h.nown, h.ql, h.qp, h.seek⟩
theorem EOk.go {e : TEd} (h : EOk e) (a : Int) : EOk (goE e a).1 := by
  obtain ⟨h1, h2, h3, h4⟩ := h.atN
  exact h.put (line_ok_of h3 h4 (by unfold clipI; omega) (by unfold clipI; omega))
theorem cutLn_ok {t : List Int} {a : Int} (h : lineOk t a = true) {f u : Nat} (h1 : f ≤ u) (h2 : u ≤ t.length) : lineOk (cutLn t f u) (cutAt a f u) = true ∧ (cutLn t f u).length = f + (t.length - u) ∧ lineOk (cutLn t f u) f = true := by
  obtain ⟨l1, l2, l3, l4⟩ := line_len h
  have hl : (cutLn t f u).length = f + (t.length - u) := by unfold cutLn; simp; omega
  have hty : (cutLn t f u).all typed = true := by
    refine List.all_eq_true.2 fun x hx => ?_
    rcases List.mem_append.1 hx with hx | hx
    · exact List.all_eq_true.1 l2 x (List.mem_of_mem_take hx)
    · exact List.all_eq_true.1 l2 x (List.mem_of_mem_drop hx)
  refine ⟨line_ok_of (by omega) hty ?_ ?_, hl, line_ok_of (by omega) hty (by omega) (by omega)⟩
  · unfold cutAt
    split
    · omega
    · split <;> omega
  · unfold cutAt
    split
    · omega
    · split <;> omega
theorem slice_ok {t : List Int} {a : Int} (h : lineOk t a = true) {f u : Nat} : textOk ((t.drop f).take (u - f)) = true := by
  obtain ⟨l1, l2, l3, l4⟩ := line_len h
  simp only [textOk, Bool.and_eq_true, decide_eq_true_eq]
  exact ⟨by simp; omega, List.all_eq_true.2 fun x hx => List.all_eq_true.1 l2 x (List.mem_of_mem_drop (List.mem_of_mem_take hx))⟩
theorem EOk.cut {e : TEd} (h : EOk e) {f u : Nat} (h2 : u ≤ e.Line.Text.length) : EOk (cutE e f u).1 := by
  unfold cutE
  (first | refine iteK (fun _ => ?_) (fun _ => ?_) | split)
  · rename_i h1; exact h.put (cutLn_ok h.line (by omega) h2).1
  · exact h.bell
theorem EOk.kill {e : TEd} (h : EOk e) {f u : Nat} (how : Int) (h2 : u ≤ e.Line.Text.length) : EOk (killEd e f u how).1 := by
  unfold killEd
  (first | refine iteK (fun _ => ?_) (fun _ => ?_) | split)
  · rename_i h1
    exact (h.set 2 (cutLn_ok h.line (by omega) h2).1 (by omega)).ring' (ringPut_ok h.ring (slice_ok h.line) _)
  · exact h.bell
theorem insT_ok {t u : List Int} {a : Nat} (h1 : t.length + u.length ≤ 400) (h2 : t.all typed = true) (h3 : u.all typed = true) (h4 : a ≤ t.length) : (insT t a u).length = t.length + u.length ∧ ∀ b : Int, 0 ≤ b → b ≤ t.length + u.length → lineOk (insT t a u) b = true := by
  have hl : (insT t a u).length = t.length + u.length := by unfold insT; simp; omega
  refine ⟨hl, fun b b1 b2 => line_ok_of (by omega) (List.all_eq_true.2 fun x hx => ?_) b1 (by omega)⟩
  rcases List.mem_append.1 hx with hx | hx
  · rcases List.mem_append.1 hx with hx | hx
    · exact List.all_eq_true.1 h2 x (List.mem_of_mem_take hx)
    · exact List.all_eq_true.1 h3 x hx
  · exact List.all_eq_true.1 h2 x (List.mem_of_mem_drop hx)
theorem EOk.ins {e : TEd} (h : EOk e) {u : List Int} (hu : u.all typed = true) (last : Int) (hl : 0 ≤ last ∧ last ≤ 3) : EOk (insE e u last).1 := by
  obtain ⟨h1, h2, h3, h4⟩ := h.atN
  unfold insE
  (first | refine iteK (fun _ => ?_) (fun _ => ?_) | split)
  · rename_i hc
    exact h.set last ((insT_ok hc h4 hu h2).2 _ (by omega) (by omega)) hl
  · exact h.bell
theorem topP_ok {l : List TPiece} (h : ringOk l = true) : (topP l).all typed = true ∧ (topP l).length ≤ 400 := by
  unfold topP
  cases l with
  | nil => exact ⟨rfl, by simp⟩
  | cons p l =>
    have := (piece_len h).2 p (by simp)
    exact ⟨this.2.2, this.2.1⟩
theorem turnR_ok {l : List TPiece} (h : ringOk l = true) : ringOk (turnR l) = true := by
  cases l with
  | nil => rfl
  | cons p l =>
    unfold turnR
    simp only [ringOk, List.all_cons, Bool.and_eq_true, decide_eq_true_eq, List.length_cons] at h
    simp only [ringOk, List.drop_succ_cons, List.drop_zero, List.take_succ_cons, List.take_zero, List.all_append, List.all_cons, List.all_nil, Bool.and_true, Bool.and_eq_true, decide_eq_true_eq, List.length_append, List.length_cons, List.length_nil]
    exact ⟨⟨h.1.2, h.1.1⟩, by omega⟩
theorem EOk.yank {e : TEd} (h : EOk e) : EOk (yankE e).1 := by
  unfold yankE
  (first | refine iteK (fun _ => ?_) (fun _ => ?_) | split)
  · exact h.bell
  · exact h.ins (topP_ok h.ring).1 3 (by omega)
theorem EOk.yankNext {e : TEd} (h : EOk e) : EOk (yankNextE e).1 := by
  obtain ⟨h1, h2, h3, h4⟩ := h.atN
  unfold yankNextE
  (first | refine iteK (fun _ => ?_) (fun _ => ?_) | split)
  · rename_i hc
    obtain ⟨hc1, hc2⟩ := hc
    simp only [yankC, Bool.and_eq_true, decide_eq_true_eq] at hc1
    obtain ⟨q1, q2, q3⟩ := cutLn_ok h.line (show Proofs.YtjhdikdopdcfcaaGreatDoor.atN e - (topP e.Ring.Pieces).length ≤ Proofs.YtjhdikdopdcfcaaGreatDoor.atN e by omega) h2
    obtain ⟨-, c2, -, -⟩ := line_len q1
    have hr := turnR_ok h.ring
    refine (h.ring' hr).set 3 ((insT_ok hc2 c2 (topP_ok hr).1 (by omega)).2 _ (by omega) (by omega)) (by omega)
  · exact h.bell
theorem EOk.case {e : TEd} (h : EOk e) (how : Int) : EOk (caseE e how).1 := by
  obtain ⟨h1, h2, h3, h4⟩ := h.atN
  have := wordOn_le h2
  have hl := caseSt_len e.Line.Text (Proofs.YtjhdikdopdcfcaaGreatDoor.atN e) how (wordOn e.Line.Text (Proofs.YtjhdikdopdcfcaaGreatDoor.atN e) - Proofs.YtjhdikdopdcfcaaGreatDoor.atN e)
  exact h.put (line_ok_of (by omega) (caseSt_typed h4 _ _ _) (by omega) (by omega))
theorem EOk.digit {e : TEd} (h : EOk e) {r : Int} (hr : inR r 48 57 = true) : EOk (digitE e r).1 := by
  have := inR_iff.1 hr
  have hc := h.cnt
  exact ⟨h.line, h.own, h.back, by show 0 ≤ min (10 * e.Count + r - 48) 999 ∧ min (10 * e.Count + r - 48) 999 ≤ 999; omega, h.opc, h.mode, h.end_, h.cmd, h.opz, h.op, h.wait, h.find, h.last, h.ring, h.undo, h.nav, h.hit, h.nown, h.ql, h.qp, h.seek⟩
theorem EOk.meta_ {e : TEd} (h : EOk e) (r : Int) : EOk (metaE e r).1 := by
  obtain ⟨h1, h2, h3, h4⟩ := h.atN
  unfold metaE
  (first | refine iteK (fun _ => ?_) (fun _ => ?_) | split)
  · exact h.digit (by assumption)
  (first | refine iteK (fun _ => ?_) (fun _ => ?_) | split)
  · exact h.go _
  (first | refine iteK (fun _ => ?_) (fun _ => ?_) | split)
  · exact h.go _
  (first | refine iteK (fun _ => ?_) (fun _ => ?_) | split)
  · exact h.kill _ (iterN_le (fun a ha => (wordOn_le ha).2) _ _ h2)
  (first | refine iteK (fun _ => ?_) (fun _ => ?_) | split)
  · exact h.yankNext
  (first | refine iteK (fun _ => ?_) (fun _ => ?_) | split)
  · exact h.case _
  (first | refine iteK (fun _ => ?_) (fun _ => ?_) | split)
  · exact h.case _
  (first | refine iteK (fun _ => ?_) (fun _ => ?_) | split)
  · exact h.case _
  · exact h.bell
theorem EOk.swap {e : TEd} (h : EOk e) : EOk (swapE e).1 := by
  obtain ⟨h1, h2, h3, h4⟩ := h.atN
  unfold swapE
  (first | refine iteK (fun _ => ?_) (fun _ => ?_) | split)
  · exact h.bell
  · rename_i hc
    have hl := swapAt_len e.Line.Text (min (Proofs.YtjhdikdopdcfcaaGreatDoor.atN e) (e.Line.Text.length - 1))
    exact h.put (line_ok_of (by omega) (swapAt_typed h4 (by omega)) (by omega) (by omega))
theorem EOk.undo_ {e : TEd} (h : EOk e) : EOk (undoE e).1 := by
  unfold undoE
  cases hu : e.Undo.Lines.getLast? with
  | none => exact h.bell
  | some x =>
    obtain ⟨u1, u2⟩ := undo_parts h.undo
    have hx := u2 x (List.mem_of_getLast? hu)
    obtain ⟨c1, c2⟩ := inCmdAt_ok (mode := e.Mode) hx
    refine ⟨c1, h.own, h.back, z999, z999, h.mode, c2, .inr ⟨rfl, rfl, rfl⟩, .inr rfl, .inl rfl, .inl rfl, h.find, z3, h.ring, ?_, h.nav, h.hit, h.nown, h.ql, h.qp, h.seek⟩
    exact undo_of (by simp; omega) fun p hp => u2 p (List.dropLast_subset _ hp)
theorem EOk.seek_ {e : TEd} (h : EOk e) : EOk (seekE e).1 :=
  ⟨h.line, h.own, h.line, z999, z999, .inr (.inr rfl), fun q => absurd q.1 (by show ¬ (3 : Int) = 2; decide), .inr ⟨rfl, rfl, rfl⟩, .inr rfl, .inl rfl, .inl rfl, h.find, z3, h.ring, h.undo, h.nav, z60, h.nown, by simp [seekE, idleE], rfl, .inl rfl⟩
theorem lineOf_ok {s : ByteArray} {t : List Int} (h : lineOf s = some t) : textOk t = true ∧ Reads s.data.toList t [] := by
  unfold lineOf at h
  split at h
  · rename_i hc
    injection h with h
    subst h
    have := runes_reads s.data.toList
    rw [hc.1] at this
    exact ⟨hc.2, this⟩
  · cases h
theorem EOk.step {e : TEd} (h : EOk e) {f : Int} {l : List ByteArray} (hh : HistI f l) (by_ : Int) : EOk (stepE e f l by_).1 := by
  unfold stepE
  cases hs : histStep e f l by_ with
  | none => exact h.bell
  | some x =>
    simp only
    have h1 := hh.first
    have h2 := hh.len
    unfold histStep at hs
    (first | (rcases iteO hs with ⟨_, hs⟩ | ⟨_, hs⟩) | split at hs)
    · rename_i hc
      injection hs with hs
      subst hs
      obtain ⟨c1, c2⟩ := inCmdAt_ok (mode := e.Mode) h.own
      exact ⟨c1, rfl, h.back, z999, z999, h.mode, c2, .inr ⟨rfl, rfl, rfl⟩, .inr rfl, .inl rfl, .inl rfl, h.find, z3, h.ring, rfl, ⟨by show (0 : Int) ≤ 0; omega, by show (0 : Int) ≤ 1000000060; omega⟩, h.hit, .inr rfl, h.ql, h.qp, h.seek⟩
    · split at hs
      · cases hs
      · rename_i t ht
        injection hs with hs
        subst hs
        cases hg : histAt f l (Proofs.YtjhdikdopdcfcaaGreatDoor.stepN e f l + by_) with
        | none => rw [hg] at ht; cases ht
        | some s =>
          rw [hg] at ht
          obtain ⟨tok, -⟩ := lineOf_ok ht
          unfold histAt at hg
          split at hg
          · rename_i hc
            have tl := tok
            simp only [textOk, Bool.and_eq_true, decide_eq_true_eq] at tl
            refine ⟨?_, ?_, h.back, z999, z999, h.mode, ?_, .inr ⟨rfl, rfl, rfl⟩, .inr rfl, .inl rfl, .inl rfl, h.find, z3, h.ring, rfl, ?_, h.hit, .inl ?_, h.ql, h.qp, h.seek⟩
            · refine line_ok_of tl.1 tl.2 ?_ ?_
              · show 0 ≤ (if e.Mode = 2 then (0 : Int) else t.length); split <;> omega
              · show (if e.Mode = 2 then (0 : Int) else t.length) ≤ t.length; split <;> omega
            · show lineOk (if e.Nav = 0 then e.Line else e.Own).Text (if e.Nav = 0 then e.Line else e.Own).At = true
              (first | refine iteK (fun _ => ?_) (fun _ => ?_) | split)
              · exact h.line
              · exact h.own
            · rintro ⟨q1, q2⟩
              have q1 : e.Mode = 2 := q1
              have q2 : atEnd t (if e.Mode = 2 then (0 : Int) else t.length) = true := q2
              rw [if_pos q1] at q2
              simp only [atEnd, Bool.and_eq_true, decide_eq_true_eq, beq_iff_eq] at q2
              omega
            · show 0 ≤ Proofs.YtjhdikdopdcfcaaGreatDoor.stepN e f l + by_ ∧ Proofs.YtjhdikdopdcfcaaGreatDoor.stepN e f l + by_ ≤ 1000000060
              omega
            · show ¬ Proofs.YtjhdikdopdcfcaaGreatDoor.stepN e f l + by_ = 0
              omega
          · cases hg
theorem EOk.ctrl {e : TEd} (h : EOk e) {f : Int} {l : List ByteArray} (hh : HistI f l) (r : Int) : EOk (ctrlE e f l r).1 := by
  obtain ⟨h1, h2, h3, h4⟩ := h.atN
  unfold ctrlE
  (first | refine iteK (fun _ => ?_) (fun _ => ?_) | split)
  · exact h.go _
  (first | refine iteK (fun _ => ?_) (fun _ => ?_) | split)
  · exact h.go _
  (first | refine iteK (fun _ => ?_) (fun _ => ?_) | split)
  · exact h.go _
  (first | refine iteK (fun _ => ?_) (fun _ => ?_) | split)
  · exact h.go _
  (first | refine iteK (fun _ => ?_) (fun _ => ?_) | split)
  · exact h.step hh _
  (first | refine iteK (fun _ => ?_) (fun _ => ?_) | split)
  · exact h.step hh _
  (first | refine iteK (fun _ => ?_) (fun _ => ?_) | split)
  · exact h.kill _ (Nat.le_refl _)
  (first | refine iteK (fun _ => ?_) (fun _ => ?_) | split)
  · exact h.yank
  (first | refine iteK (fun _ => ?_) (fun _ => ?_) | split)
  · exact h.swap
  (first | refine iteK (fun _ => ?_) (fun _ => ?_) | split)
  · exact h.undo_
  (first | refine iteK (fun _ => ?_) (fun _ => ?_) | split)
  · exact h.seek_
  · exact h.bell
theorem EOk.plainCtrl {e : TEd} (h : EOk e) {r : Int} {p : TEd × Int} (hp : plainCtrlE e r = some p) : EOk p.1 := by
  obtain ⟨h1, h2, h3, h4⟩ := h.atN
  have hd : EOk (delE e).1 := h.cut (by omega)
  unfold plainCtrlE at hp
  (first | (rcases iteO hp with ⟨_, hp⟩ | ⟨_, hp⟩) | split at hp)
  · injection hp with hp; subst hp; exact h
  (first | (rcases iteO hp with ⟨_, hp⟩ | ⟨_, hp⟩) | split at hp)
  · injection hp with hp; subst hp; exact h
  (first | (rcases iteO hp with ⟨_, hp⟩ | ⟨_, hp⟩) | split at hp)
  · injection hp with hp; subst hp
    (first | refine iteK (fun _ => ?_) (fun _ => ?_) | split)
    · exact h
    · exact hd
  (first | (rcases iteO hp with ⟨_, hp⟩ | ⟨_, hp⟩) | split at hp)
  · injection hp with hp; subst hp; exact h.kill _ h2
  (first | (rcases iteO hp with ⟨_, hp⟩ | ⟨_, hp⟩) | split at hp)
  · injection hp with hp; subst hp; exact h.kill _ h2
  · cases hp
theorem all_repl {p : Int → Bool} {r : Int} (h : p r = true) (n : Nat) : (List.replicate n r).all p = true := List.all_eq_true.2 fun x hx => by rw [List.eq_of_mem_replicate hx]; exact h
theorem EOk.plain {e : TEd} (h : EOk e) {f : Int} {l : List ByteArray} (hh : HistI f l) {k r : Int} (hk : keyOk k r = true) {p : TEd × Int} (hp : plainE e f l k r = some p) : EOk p.1 := by
  obtain ⟨h1, h2, h3, h4⟩ := h.atN
  have hd : EOk (delE e).1 := h.cut (by omega)
  unfold plainE at hp
  (first | (rcases iteO hp with ⟨_, hp⟩ | ⟨_, hp⟩) | split at hp)
  · injection hp with hp; subst hp
    rename_i hk1
    subst hk1
    exact h.ins (all_repl (printable_typed hk) _) 1 (by omega)
  (first | (rcases iteO hp with ⟨_, hp⟩ | ⟨_, hp⟩) | split at hp)
  · injection hp with hp; subst hp; exact h.ins (all_repl (by decide) _) 1 (by omega)
  (first | (rcases iteO hp with ⟨_, hp⟩ | ⟨_, hp⟩) | split at hp)
  · injection hp with hp; subst hp; exact h
  (first | (rcases iteO hp with ⟨_, hp⟩ | ⟨_, hp⟩) | split at hp)
  · exact h.plainCtrl hp
  (first | (rcases iteO hp with ⟨_, hp⟩ | ⟨_, hp⟩) | split at hp)
  · injection hp with hp; subst hp; exact h.cut h2
  (first | (rcases iteO hp with ⟨_, hp⟩ | ⟨_, hp⟩) | split at hp)
  · injection hp with hp; subst hp; exact hd
  (first | (rcases iteO hp with ⟨_, hp⟩ | ⟨_, hp⟩) | split at hp)
  · injection hp with hp; subst hp; exact h.go _
  (first | (rcases iteO hp with ⟨_, hp⟩ | ⟨_, hp⟩) | split at hp)
  · injection hp with hp; subst hp; exact h.go _
  (first | (rcases iteO hp with ⟨_, hp⟩ | ⟨_, hp⟩) | split at hp)
  · injection hp with hp; subst hp; exact h.go _
  (first | (rcases iteO hp with ⟨_, hp⟩ | ⟨_, hp⟩) | split at hp)
  · injection hp with hp; subst hp; exact h.go _
  (first | (rcases iteO hp with ⟨_, hp⟩ | ⟨_, hp⟩) | split at hp)
  · injection hp with hp; subst hp; exact h.step hh _
  (first | (rcases iteO hp with ⟨_, hp⟩ | ⟨_, hp⟩) | split at hp)
  · injection hp with hp; subst hp; exact h.step hh _
  · cases hp
theorem EOk.emacs {e : TEd} (h : EOk e) {f : Int} {l : List ByteArray} (hh : HistI f l) {k r : Int} (hk : keyOk k r = true) : EOk (emacsE e f l k r).1 := by
  obtain ⟨h1, h2, h3, h4⟩ := h.atN
  unfold emacsE
  cases hp : plainE e f l k r with
  | some p => exact h.plain hh hk hp
  | none =>
    simp only
    (first | refine iteK (fun _ => ?_) (fun _ => ?_) | split)
    · exact h.meta_ r
    (first | refine iteK (fun _ => ?_) (fun _ => ?_) | split)
    · exact h.kill _ h2
    (first | refine iteK (fun _ => ?_) (fun _ => ?_) | split)
    · exact h.ctrl hh r
    · exact h.bell
end Go.Proofs.YtjhdikdopdcfcaaGreatDoor
namespace Go.Proofs.YtjhdikdopdcfcaaGreatDoor
open Go.RowKit
set_option linter.unusedSimpArgs false
set_option linter.unusedVariables false
set_option linter.unusedSectionVars false
set_option maxHeartbeats 8000000
set_option maxRecDepth 10000
abbrev kR (p : TEd × Int) : Res := ⟨.tup [.agg [V.v (.bool p.1.Vi), V.v (.int .i64 p.1.Mode), .own 0, V.v (.int .i64 p.1.Line.At), V.v (.int .i64 p.1.Count), V.v (.int .i64 p.1.Op), V.v (.int .i64 p.1.OpCount), V.v (.int .i64 p.1.Wait), V.v (.int .i64 p.1.FindR), V.v (.int .i64 p.1.FindHow), V.v (.int .i64 p.1.Last), .own 1, .own 2, V.v (.int .i64 p.1.Nav), .own 3, V.v (.int .i64 p.1.Own.At), .own 4, V.v (.int .i64 p.1.Hit), .own 5, V.v (.int .i64 p.1.Back.At)], V.v (.int .i64 p.2)], [], [(0, ints p.1.Line.Text), (1, dPieces p.1.Ring.Pieces), (2, dLines p.1.Undo.Lines), (3, ints p.1.Own.Text), (4, ints p.1.Query), (5, ints p.1.Back.Text)]⟩
abbrev kRt (p : TEd × Int) (b : Bool) : Res := ⟨.tup [.agg [V.v (.bool p.1.Vi), V.v (.int .i64 p.1.Mode), .own 0, V.v (.int .i64 p.1.Line.At), V.v (.int .i64 p.1.Count), V.v (.int .i64 p.1.Op), V.v (.int .i64 p.1.OpCount), V.v (.int .i64 p.1.Wait), V.v (.int .i64 p.1.FindR), V.v (.int .i64 p.1.FindHow), V.v (.int .i64 p.1.Last), .own 1, .own 2, V.v (.int .i64 p.1.Nav), .own 3, V.v (.int .i64 p.1.Own.At), .own 4, V.v (.int .i64 p.1.Hit), .own 5, V.v (.int .i64 p.1.Back.At)], V.v (.int .i64 p.2), V.v (.bool b)], [], [(0, ints p.1.Line.Text), (1, dPieces p.1.Ring.Pieces), (2, dLines p.1.Undo.Lines), (3, ints p.1.Own.Text), (4, ints p.1.Query), (5, ints p.1.Back.Text)]⟩
section
variable (e : TEd) (h : EOk e)
include h
theorem K_ibell : M_ibell [.agg [V.v (.bool e.Vi), V.v (.int .i64 e.Mode), .lst (some 0) (ints e.Line.Text), V.v (.int .i64 e.Line.At), V.v (.int .i64 e.Count), V.v (.int .i64 e.Op), V.v (.int .i64 e.OpCount), V.v (.int .i64 e.Wait), V.v (.int .i64 e.FindR), V.v (.int .i64 e.FindHow), V.v (.int .i64 e.Last), .lst (some 1) (dPieces e.Ring.Pieces), .lst (some 2) (dLines e.Undo.Lines), V.v (.int .i64 e.Nav), .lst (some 3) (ints e.Own.Text), V.v (.int .i64 e.Own.At), .lst (some 4) (ints e.Query), V.v (.int .i64 e.Hit), .lst (some 5) (ints e.Back.Text), V.v (.int .i64 e.Back.At)]] [] [] = some (kR (bellE e)) := E_ibell e (EdB.of (eok_iff.2 h))
theorem K_iput (t : List Int) (a : Int) (ht : lineOk t a = true) : M_iput [.agg [V.v (.bool e.Vi), V.v (.int .i64 e.Mode), .lst (some 0) (ints e.Line.Text), V.v (.int .i64 e.Line.At), V.v (.int .i64 e.Count), V.v (.int .i64 e.Op), V.v (.int .i64 e.OpCount), V.v (.int .i64 e.Wait), V.v (.int .i64 e.FindR), V.v (.int .i64 e.FindHow), V.v (.int .i64 e.Last), .lst (some 1) (dPieces e.Ring.Pieces), .lst (some 2) (dLines e.Undo.Lines), V.v (.int .i64 e.Nav), .lst (some 3) (ints e.Own.Text), V.v (.int .i64 e.Own.At), .lst (some 4) (ints e.Query), V.v (.int .i64 e.Hit), .lst (some 5) (ints e.Back.Text), V.v (.int .i64 e.Back.At)], .agg [.lst (some 6) (ints t), V.v (.int .i64 a)]] [] [] = some (kR (putE e t a)) := by
  obtain ⟨h1, h2, h3, h4⟩ := line_len ht
  exact E_iput e (eok_iff.2 h) t a h1 ⟨h3, h4⟩
theorem K_icut (f u : Nat) (h1 : f ≤ u) (h2 : u ≤ e.Line.Text.length) : M_icut [.agg [V.v (.bool e.Vi), V.v (.int .i64 e.Mode), .lst (some 0) (ints e.Line.Text), V.v (.int .i64 e.Line.At), V.v (.int .i64 e.Count), V.v (.int .i64 e.Op), V.v (.int .i64 e.OpCount), V.v (.int .i64 e.Wait), V.v (.int .i64 e.FindR), V.v (.int .i64 e.FindHow), V.v (.int .i64 e.Last), .lst (some 1) (dPieces e.Ring.Pieces), .lst (some 2) (dLines e.Undo.Lines), V.v (.int .i64 e.Nav), .lst (some 3) (ints e.Own.Text), V.v (.int .i64 e.Own.At), .lst (some 4) (ints e.Query), V.v (.int .i64 e.Hit), .lst (some 5) (ints e.Back.Text), V.v (.int .i64 e.Back.At)], V.v (.int .i64 ((f : Int))), V.v (.int .i64 ((u : Int)))] [] [] = some (kR (cutE e f u)) := by
  have e1 := E_iLineCut e.Line.Text e.Line.At h.line f u h1 h2
  have hgl : (((e.Line.Text.drop f).take (u - f)).length : Int) = (u : Int) - f := by simp; omega
  unfold cutE
  by_cases hfu : f < u
  · rw [if_pos hfu]
    obtain ⟨c1, c2, c3⟩ := cutLn_ok h.line h1 h2
    have e2 := K_iput e h _ _ c1
    unfold cutLn at e2 ⊢
    have hg : ¬ (((e.Line.Text.drop f).take (u - f)).length : Int) = 0 := by omega
    generalize (e.Line.Text.drop f).take (u - f) = gone at *
    have hg0 : ¬ gone = [] := fun q => hg (by rw [q]; rfl)
    generalize e.Line.Text.take f ++ e.Line.Text.drop u = X at *
    generalize putE e X (cutAt e.Line.At f u) = p at *
    generalize hE : M_icut _ _ _ = R
    unfold M_icut at hE
    simp [-ints_app, Tryz.func99, Tryz.f99, e1, e2, hg, hg0] at hE
    exact hE.symm
  · rw [if_neg hfu]
    have hfe : f = u := by omega
    subst hfe
    have e2 := K_ibell e h
    have hz : (e.Line.Text.drop f).take (f - f) = [] := by simp
    rw [hz] at e1
    simp only [ints_nil] at e1
    generalize bellE e = p at *
    generalize hE : M_icut _ _ _ = R
    unfold M_icut at hE
    simp [-ints_app, Tryz.func99, Tryz.f99, e1, e2] at hE
    exact hE.symm
theorem K_ikill (f u : Nat) (how : Int) (hw : 0 ≤ how ∧ how ≤ 2) (h1 : f ≤ u) (h2 : u ≤ e.Line.Text.length) : M_ikill [.agg [V.v (.bool e.Vi), V.v (.int .i64 e.Mode), .lst (some 0) (ints e.Line.Text), V.v (.int .i64 e.Line.At), V.v (.int .i64 e.Count), V.v (.int .i64 e.Op), V.v (.int .i64 e.OpCount), V.v (.int .i64 e.Wait), V.v (.int .i64 e.FindR), V.v (.int .i64 e.FindHow), V.v (.int .i64 e.Last), .lst (some 1) (dPieces e.Ring.Pieces), .lst (some 2) (dLines e.Undo.Lines), V.v (.int .i64 e.Nav), .lst (some 3) (ints e.Own.Text), V.v (.int .i64 e.Own.At), .lst (some 4) (ints e.Query), V.v (.int .i64 e.Hit), .lst (some 5) (ints e.Back.Text), V.v (.int .i64 e.Back.At)], V.v (.int .i64 ((f : Int))), V.v (.int .i64 ((u : Int))), V.v (.int .i64 how)] [] [] = some (kR (killEd e f u how)) := by
  unfold killEd
  by_cases hfu : f < u
  · rw [if_pos hfu]
    exact E_ikill e (eok_iff.2 h) f u how hw hfu h2
  · rw [if_neg hfu]
    have hfe : f = u := by omega
    subst hfe
    exact E_ikill_no e (eok_iff.2 h) f how h2
end
theorem repT_succ (n : Nat) (u : List Int) : repT (n + 1) u = repT n u ++ u := by
  unfold repT
  rw [List.replicate_succ', List.flatten_append]
  simp
def timesN (m n : Nat) : Nat := stopN (fun j => decide (m * j ≤ 400)) n
theorem timesN_spec (m n : Nat) (hm : m ≤ 400) : timesN m n ≤ n ∧ (m * n ≤ 400 → timesN m n = n) ∧ (400 < m * n → 400 < m * timesN m n) ∧ m * timesN m n ≤ 800 ∧ (∀ j, j < timesN m n → m * j ≤ 400) ∧ (timesN m n = n ∨ 400 < m * timesN m n) := by
  obtain ⟨h1, h2, h3⟩ := stopN_spec (fun j => decide (m * j ≤ 400)) n
  unfold timesN
  generalize stopN (fun j => decide (m * j ≤ 400)) n = k at *
  have h2 : ∀ j, j < k → m * j ≤ 400 := fun j hj => of_decide_eq_true (h2 j hj)
  have h3 : k = n ∨ ¬ m * k ≤ 400 := h3.imp _root_.id of_decide_eq_false
  have hle : m * k ≤ m * n := Nat.mul_le_mul_left m h1
  refine ⟨h1, fun h => ?_, fun h => ?_, ?_, h2, ?_⟩
  · rcases h3 with h3 | h3
    · exact h3
    · omega
  · rcases h3 with h3 | h3
    · rw [h3]; exact h
    · omega
  · cases k with
    | zero => rw [Nat.mul_zero]; omega
    | succ k =>
      have := h2 k (by omega)
      rw [Nat.mul_succ]; omega
  · rcases h3 with h3 | h3
    · exact .inl h3
    · exact .inr (by omega)
theorem E_itimes (u : List Int) (i : Option Nat) (n : Nat) (hu : u.length ≤ 400) (hn : n ≤ 999) : M_itimes [.lst i (ints u), V.v (.int .i64 ((n : Int)))] [] [] = some ⟨.own 0, [], [(0, ints (repT (timesN u.length n) u))]⟩ := by
  obtain ⟨k1, k2, k3, k4, k5, k6⟩ := timesN_spec u.length n hu
  generalize timesN u.length n = k at *
  have hlen : ∀ j, (repT j u).length = u.length * j := fun j => by
    induction j with
    | zero => rfl
    | succ j ih => rw [repT_succ, List.length_append, ih, Nat.mul_succ]
  generalize hE : M_itimes _ _ _ = R
  unfold M_itimes at hE
  simp [Tryz.func97, Tryz.f97] at hE
  rw [loopV_go (fun j => .on ⟨[(6, V.v (.int .i64 ((j : Int)))), (5, .own 2000000000), (1, V.v (.int .i64 ((n : Int)))), (0, .lst i (ints u))], [], [(2000000000, ints (repT j u))], []⟩) k ?_ ?_] at hE
  · have hk := hlen k
    rcases k6 with q | q
    · subst q
      simp at hE
      exact hE.symm
    · by_cases hkn : k < n
      · have q2 : ¬ (((repT k u).length : Nat) : Int) ≤ 400 := by omega
        simp [hkn, q2] at hE
        exact hE.symm
      · simp [hkn] at hE
        exact hE.symm
  · simp [repT, ints_nil]
  · intro j hj
    have q1 : j < n := by omega
    have q2 := k5 j hj
    have q3 : (((repT j u).length : Nat) : Int) ≤ 400 := by rw [hlen]; omega
    have q4 := hlen j
    have hw := w64 ((j : Int) + 1) (by omega)
    have g1 : ((repT j u).length + u.length) * 8 ≤ 140737488355328 := by omega
    have g2 : (repT j u).length + u.length ≤ 4611686018427387904 := by omega
    have g3 : ints (repT (j + 1) u) = ints (repT j u) ++ ints u := by rw [repT_succ, ints_app]
    simp [q1, q3, hw, g1, g2, g3]
theorem E_iLinePut_all (t u : List Int) (a : Int) (h : lineOk t a = true) (hu : u.all typed = true) (hu2 : u.length ≤ 100000) : M_iLinePut [.agg [.lst (some 0) (ints t), V.v (.int .i64 a)], .lst (some 1) (ints u)] [] [] =
    some (if t.length + u.length ≤ 400 then ⟨.tup [.agg [.own 0, V.v (.int .i64 (a + u.length))], V.v (.bool true)], [], [(0, ints (insT t a.toNat u))]⟩ else ⟨.tup [.agg [.own 0, V.v (.int .i64 0)], V.v (.bool false)], [], [(0, [])]⟩) := by
  obtain ⟨h1, h2, h3, h4⟩ := line_len h
  obtain ⟨A, hA⟩ := Int.eq_ofNat_of_zero_le h3
  subst hA
  have hA : A ≤ t.length := by omega
  rw [Int.toNat_natCast]
  by_cases hc : t.length + u.length ≤ 400
  · rw [if_pos hc]
    exact E_iLinePut t u A hA (by simp only [textOk, Bool.and_eq_true, decide_eq_true_eq]; exact ⟨h1, h2⟩) hu hc
  · rw [if_neg hc]
    have e1 := E_iLineOk t A (by omega)
    rw [h] at e1
    by_cases hu4 : 400 < u.length
    · have hu4' : (400 : Int) < u.length := by omega
      unfold M_iLinePut
      simp [Tryz.func136, Tryz.f136, e1, hu4, hu4', ints_nil]
    · have hu4' : ¬ (400 : Int) < u.length := by omega
      have e2 := E_icopyInts (t.take A) (some 0) (by simp; omega)
      have hXl : (t.take A ++ u ++ t.drop A).length = t.length + u.length := by simp; omega
      have e3 := E_iLineOk (t.take A ++ u ++ t.drop A) ((A : Int) + u.length) (by omega)
      rw [show lineOk (t.take A ++ u ++ t.drop A) ((A : Int) + u.length) = false from by unfold lineOk textOk; rw [decide_eq_false (by omega)]; rfl, List.append_assoc] at e3
      have q2 : (A + u.length + (t.length - A)) * 8 ≤ 140737488355328 := by omega
      have q3 : A + u.length + (t.length - A) ≤ 4611686018427387904 := by omega
      have q4 : (A + u.length) * 8 ≤ 140737488355328 := by omega
      have q5 : A + u.length ≤ 4611686018427387904 := by omega
      have q6 : min A t.length = A := by omega
      have q7 : (A : Int) ≤ t.length := by omega
      have q8 : (t.drop A).take (t.length - A) = t.drop A := List.take_of_length_le (by simp)
      have w := w64 ((A : Int) + u.length) (by omega)
      have hX : ints (t.take A ++ u ++ t.drop A) = ints (t.take A) ++ ints u ++ ints (t.drop A) := by rw [ints_app, ints_app]
      generalize hE : M_iLinePut _ _ _ = R
      unfold M_iLinePut at hE
      simp [-ints_app, ← ints_app, Tryz.func136, Tryz.f136, e1, e2, hu4, hu4', q2, q3, q4, q5, q6, q7, q8, hA, w, e3] at hE
      exact hE.symm
section
variable (e : TEd) (h : EOk e)
include h
theorem K_iset (t : List Int) (a last : Int) (ht : lineOk t a = true) : M_iset [.agg [V.v (.bool e.Vi), V.v (.int .i64 e.Mode), .lst (some 0) (ints e.Line.Text), V.v (.int .i64 e.Line.At), V.v (.int .i64 e.Count), V.v (.int .i64 e.Op), V.v (.int .i64 e.OpCount), V.v (.int .i64 e.Wait), V.v (.int .i64 e.FindR), V.v (.int .i64 e.FindHow), V.v (.int .i64 e.Last), .lst (some 1) (dPieces e.Ring.Pieces), .lst (some 2) (dLines e.Undo.Lines), V.v (.int .i64 e.Nav), .lst (some 3) (ints e.Own.Text), V.v (.int .i64 e.Own.At), .lst (some 4) (ints e.Query), V.v (.int .i64 e.Hit), .lst (some 5) (ints e.Back.Text), V.v (.int .i64 e.Back.At)], .agg [.lst (some 6) (ints t), V.v (.int .i64 a)], V.v (.int .i64 last)] [] [] = some ⟨.agg [V.v (.bool ((setE e t a last).Vi)), V.v (.int .i64 ((setE e t a last).Mode)), .own 0, V.v (.int .i64 ((setE e t a last).Line.At)), V.v (.int .i64 ((setE e t a last).Count)), V.v (.int .i64 ((setE e t a last).Op)), V.v (.int .i64 ((setE e t a last).OpCount)), V.v (.int .i64 ((setE e t a last).Wait)), V.v (.int .i64 ((setE e t a last).FindR)), V.v (.int .i64 ((setE e t a last).FindHow)), V.v (.int .i64 ((setE e t a last).Last)), .own 1, .own 2, V.v (.int .i64 ((setE e t a last).Nav)), .own 3, V.v (.int .i64 ((setE e t a last).Own.At)), .own 4, V.v (.int .i64 ((setE e t a last).Hit)), .own 5, V.v (.int .i64 ((setE e t a last).Back.At))], [], [(0, ints ((setE e t a last).Line.Text)), (1, dPieces ((setE e t a last).Ring.Pieces)), (2, dLines ((setE e t a last).Undo.Lines)), (3, ints ((setE e t a last).Own.Text)), (4, ints ((setE e t a last).Query)), (5, ints ((setE e t a last).Back.Text))]⟩ := by
  obtain ⟨h1, h2, h3, h4⟩ := line_len ht
  exact E_iset e (eok_iff.2 h) t a last h1 ⟨h3, h4⟩
theorem K_iinsert (u : List Int) (last : Int) (hu : u.all typed = true) (hu2 : u.length ≤ 100000) : M_iinsert [.agg [V.v (.bool e.Vi), V.v (.int .i64 e.Mode), .lst (some 0) (ints e.Line.Text), V.v (.int .i64 e.Line.At), V.v (.int .i64 e.Count), V.v (.int .i64 e.Op), V.v (.int .i64 e.OpCount), V.v (.int .i64 e.Wait), V.v (.int .i64 e.FindR), V.v (.int .i64 e.FindHow), V.v (.int .i64 e.Last), .lst (some 1) (dPieces e.Ring.Pieces), .lst (some 2) (dLines e.Undo.Lines), V.v (.int .i64 e.Nav), .lst (some 3) (ints e.Own.Text), V.v (.int .i64 e.Own.At), .lst (some 4) (ints e.Query), V.v (.int .i64 e.Hit), .lst (some 5) (ints e.Back.Text), V.v (.int .i64 e.Back.At)], .lst (some 6) (ints u), V.v (.int .i64 last)] [] [] = some (kR (insE e u last)) := by
  obtain ⟨h1, h2, h3, h4⟩ := h.atN
  have e1 := E_iLinePut_all e.Line.Text u e.Line.At h.line hu hu2
  have hn : e.Line.At.toNat = atN e := rfl
  rw [hn] at e1
  unfold insE
  by_cases hc : e.Line.Text.length + u.length ≤ 400
  · rw [if_pos hc] at e1 ⊢
    have e2 := K_iset e h (insT e.Line.Text (atN e) u) (e.Line.At + u.length) last ((insT_ok hc h4 hu h2).2 _ (by omega) (by omega))
    generalize insT e.Line.Text (atN e) u = X at *
    generalize setE e X (e.Line.At + u.length) last = p at *
    generalize hE : M_iinsert _ _ _ = R
    unfold M_iinsert at hE
    simp [-ints_app, Tryz.func96, Tryz.f96, e1, e2] at hE
    exact hE.symm
  · rw [if_neg hc] at e1 ⊢
    have e2 := K_ibell e h
    generalize bellE e = p at *
    generalize hE : M_iinsert _ _ _ = R
    unfold M_iinsert at hE
    simp [-ints_app, Tryz.func96, Tryz.f96, e1, e2] at hE
    exact hE.symm
end
end Go.Proofs.YtjhdikdopdcfcaaGreatDoor
