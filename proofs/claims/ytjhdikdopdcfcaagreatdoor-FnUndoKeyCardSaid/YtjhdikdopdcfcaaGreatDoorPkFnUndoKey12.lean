/- The statement of this claim is proved in the last of these texts: by an abstract evaluator that is sound, and by what the functions compute. -/
import Derived.Test.YtjhdikdopdcfcaaGreatDoorPkFnUndoKey11
import Derived.Test.YtjhdikdopdcfcaaGreatDoorCards
import Derived.Test.YtjhdikdopdcfcaaGreatDoorTie
import Derived.ProofKit
import Derived.OpenShut
import Derived.Deep.DeepHandedRow
import Derived.Stop.LaidErr
import Derived.Shelf.Vars
namespace Go.Proofs.YtjhdikdopdcfcaaGreatDoor
open Go.RowKit
set_option linter.unusedSimpArgs false
set_option linter.unusedVariables false
set_option maxHeartbeats 16000000
set_option maxRecDepth 100000
theorem EX_sMakeNum (b : List UInt8) (n : Int) (hb : b.length ≤ 1048576) (hn : 1 ≤ n ∧ n ≤ 1000000) : ∃ k : Int, M_sMakeNum [.lst (some 0) (byts b), V.v (.int .i64 n)] [] [] = some ⟨V.v (.int .i64 k), [], []⟩ ∧ 0 ≤ k ∧ k < n := by
  obtain ⟨h0, e0⟩ := EX_sl01New b hb
  obtain ⟨k, i1, h1, e1, r1, j1⟩ := EX_sl01Below b 0 (IntKind.i64.wrap (h0 + 777)) n hb (by omega) (by omega)
  unfold curV at e0 e1
  generalize hE : M_sMakeNum _ _ _ = R
  unfold M_sMakeNum at hE
  simp [Tryz.func6, Tryz.f6, e0, e1] at hE
  exact ⟨k, hE.symm, r1⟩
def Keeps (t : List Int) (e : TEd) : Prop := e.Line.Text = t ∨ ∃ x, e.Undo.Lines.getLast? = some x ∧ x.Text = t
theorem keeps_set (e : TEd) (t : List Int) (a last : Int) (h : ¬ last = 1) : Keeps e.Line.Text (setE e t a last) := by
  unfold Keeps setE setUndo
  simp only
  by_cases ht : t = e.Line.Text
  · exact .inl ht
  · right
    rw [if_neg (by rintro (q | q); exact ht q; exact h q.1)]
    unfold undoPut
    split
    · rename_i hq
      cases hl : e.Undo.Lines.getLast? with
      | none => rw [hl] at hq; cases hq
      | some x => rw [hl] at hq; injection hq with hq; exact ⟨x, rfl, hq⟩
    · split <;> exact ⟨e.Line, by simp, rfl⟩
theorem keeps_bell (e : TEd) : Keeps e.Line.Text (bellE e).1 := .inl rfl
theorem keeps_put (e : TEd) (t : List Int) (a : Int) : Keeps e.Line.Text (putE e t a).1 := keeps_set e t a 0 (by decide)
theorem keeps_kill (e : TEd) (f u : Nat) (how : Int) : Keeps e.Line.Text (killEd e f u how).1 := by
  unfold killEd
  split
  · exact keeps_set e _ _ 2 (by decide)
  · exact keeps_bell e
theorem keeps_swap (e : TEd) : Keeps e.Line.Text (swapE e).1 := by
  unfold swapE
  split
  · exact keeps_bell e
  · exact keeps_put e _ _
theorem keeps_key (e : TEd) (f : Int) (l : List ByteArray) (k r : Int) (hm : e.Mode = 0) (hk : (k = 2 ∧ (r = 107 ∨ r = 117 ∨ r = 119 ∨ r = 116)) ∨ (k = 3 ∧ (r = 100 ∨ r = 117 ∨ r = 99)) ∨ (k = 15 ∧ r = 0)) : Keeps e.Line.Text (edKeyE e f l k r).1 := by
  unfold edKeyE
  rw [if_pos hm]
  rcases hk with ⟨rfl, rfl | rfl | rfl | rfl⟩ | ⟨rfl, rfl | rfl | rfl⟩ | ⟨rfl, rfl⟩
  · exact keeps_kill e _ _ _
  · exact keeps_kill e _ _ _
  · exact keeps_kill e _ _ _
  · exact keeps_swap e
  · exact keeps_kill e _ _ _
  · exact keeps_put e _ _
  · exact keeps_put e _ _
  · exact keeps_kill e _ _ _
theorem keeps_undo {t : List Int} {e : TEd} (h : Keeps t e) (hn : ¬ e.Line.Text = t) (f : Int) (l : List ByteArray) (hm : e.Mode = 0) : (edKeyE e f l 2 95).2 = 0 ∧ (edKeyE e f l 2 95).1.Line.Text = t := by
  rcases h with h | ⟨x, h1, h2⟩
  · exact absurd h hn
  · unfold edKeyE
    rw [if_pos hm]
    have : emacsE e f l 2 95 = undoE e := rfl
    rw [this]
    unfold undoE
    rw [h1]
    exact ⟨rfl, h2⟩
theorem E_lsameInts_all (a b : List Int) (ha : a.length ≤ 1000000) (hb : b.length ≤ 1000000) : M_lsameInts [.lst (some 0) (ints a), .lst (some 1) (ints b)] [] [] = some ⟨V.v (.bool (decide (a = b))), [], []⟩ := by
  unfold M_lsameInts
  by_cases hl : a.length = b.length
  · have hli : (a.length : Int) = b.length := by omega
    simp [Tryz.func9, Tryz.f9, hl, hli]
    rcases firstDiff a b hl with h | ⟨N, h1, h2, h3, h4⟩
    · subst h
      rw [loopV_go (fun j => .on ⟨[(13, V.v (.int .i64 ((j : Int)))), (12, V.v (.int .i64 ((a.length : Int)))), (1, .lst (some 1) (ints a)), (0, .lst (some 0) (ints a))], [], [], []⟩) a.length ?_ ?_]
      · simp
      · simp
      · intro j hj
        have hw := w64 ((j : Int) + 1) (by omega)
        simp [hj, hw, ints_get hj]
    · have hab : ¬ a = b := fun e => by subst e; exact h3 rfl
      rw [loopV_go (fun j => .on ⟨[(13, V.v (.int .i64 ((j : Int)))), (12, V.v (.int .i64 ((b.length : Int)))), (1, .lst (some 1) (ints b)), (0, .lst (some 0) (ints a))], [], [], []⟩) N ?_ ?_]
      · simp [h1, h2, ints_get h1, ints_get h2, h3, hab]
      · simp
      · intro j hj
        have j1 : j < a.length := by omega
        have j2 : j < b.length := by omega
        have hw := w64 ((j : Int) + 1) (by omega)
        simp [j1, j2, hw, ints_get j1, ints_get j2, h4 j j1 j2 hj]
  · have hli : ¬ (a.length : Int) = b.length := by omega
    have hab : ¬ a = b := fun e => hl (by rw [e])
    simp [Tryz.func9, Tryz.f9, hl, hli, hab]
def edN (t : List Int) (a : Nat) (r : List TPiece) (last : Int) : TEd := { zEd with Line := ⟨t, a⟩, Ring := ⟨r⟩, Last := last }
theorem edN_ok {t : List Int} {a : Nat} {r : List TPiece} {last : Int} (h1 : t.all typed = true) (h2 : t.length ≤ 16) (h3 : a ≤ t.length) (h4 : ringOk r = true) (h5 : 0 ≤ last ∧ last ≤ 3) : (edN t a r last).ok = true := by
  have q1 : lineOk t a = true := by
    simp only [lineOk, textOk, h1, Bool.and_true, Bool.and_eq_true, decide_eq_true_eq]
    exact ⟨by omega, inR_iff.2 (by omega)⟩
  have q2 : inR last 0 3 = true := inR_iff.2 h5
  have q5 : modeB false 0 t a 0 0 0 = true := by simp [modeB]
  simp only [TEd.ok, edOk, edN, zEd, q1, q2, h4, q5]
  rfl
theorem typedK {f : Int} {l : List ByteArray} (hh : HistI f l) (e : TEd) (h : EOk e) (hm : e.Mode = 0) (s : ByteArray) (k r : Int) (hs : s.size < 4294967281) (hp : splitOf s ⟨#[32]⟩ = [s])
    (t1 : M_iTextKey [V.v (.string s)] [] [] = some ⟨.tup [.agg [V.v (.int .i64 k), V.v (.int .i64 r)], V.v (.bool true)], [], []⟩) (hk : keyOk k r = true) (hy : ¬ (k = 3 ∧ r = 121)) :
    M_iEdTyped [.agg [V.v (.bool e.Vi), V.v (.int .i64 e.Mode), .lst (some 0) (ints e.Line.Text), V.v (.int .i64 e.Line.At), V.v (.int .i64 e.Count), V.v (.int .i64 e.Op), V.v (.int .i64 e.OpCount), V.v (.int .i64 e.Wait), V.v (.int .i64 e.FindR), V.v (.int .i64 e.FindHow), V.v (.int .i64 e.Last), .lst (some 1) (dPieces e.Ring.Pieces), .lst (some 2) (dLines e.Undo.Lines), V.v (.int .i64 e.Nav), .lst (some 3) (ints e.Own.Text), V.v (.int .i64 e.Own.At), .lst (some 4) (ints e.Query), V.v (.int .i64 e.Hit), .lst (some 5) (ints e.Back.Text), V.v (.int .i64 e.Back.At)], .agg [V.v (.int .i64 f), .lst (some 6) (strs l)], V.v (.string s)] [] [] = some ⟨.tup [.agg [V.v (.bool (((edKeyE e f l k r).1).Vi)), V.v (.int .i64 (((edKeyE e f l k r).1).Mode)), .own 0, V.v (.int .i64 (((edKeyE e f l k r).1).Line.At)), V.v (.int .i64 (((edKeyE e f l k r).1).Count)), V.v (.int .i64 (((edKeyE e f l k r).1).Op)), V.v (.int .i64 (((edKeyE e f l k r).1).OpCount)), V.v (.int .i64 (((edKeyE e f l k r).1).Wait)), V.v (.int .i64 (((edKeyE e f l k r).1).FindR)), V.v (.int .i64 (((edKeyE e f l k r).1).FindHow)), V.v (.int .i64 (((edKeyE e f l k r).1).Last)), .own 1, .own 2, V.v (.int .i64 (((edKeyE e f l k r).1).Nav)), .own 3, V.v (.int .i64 (((edKeyE e f l k r).1).Own.At)), .own 4, V.v (.int .i64 (((edKeyE e f l k r).1).Hit)), .own 5, V.v (.int .i64 (((edKeyE e f l k r).1).Back.At))], .own 6], [], [(0, ints (((edKeyE e f l k r).1).Line.Text)), (1, dPieces (((edKeyE e f l k r).1).Ring.Pieces)), (2, dLines (((edKeyE e f l k r).1).Undo.Lines)), (3, ints (((edKeyE e f l k r).1).Own.Text)), (4, ints (((edKeyE e f l k r).1).Query)), (5, ints (((edKeyE e f l k r).1).Back.Text)), (6, ints [(edKeyE e f l k r).2])]⟩ := by
  have e1 := K_iEdKey_emacs e h hh k r hk hm hy
  have e2 := K_iKeyOk e h hh k r
  rw [hk] at e2
  exact typed1 hh e _ (eok_iff.2 h) s k r _ hs hp t1 e2 e1
theorem tk_mod (m c : UInt8) (k : Int) (hk : (k = 2 ∧ m = 67) ∨ (k = 3 ∧ m = 77)) (h1 : textOf [(c.toNat : Int)] = [c]) (h2 : [m, 45, c] = textOf [(m.toNat : Int), 45, (c.toNat : Int)]) (h3 : ∀ r ∈ [(m.toNat : Int), 45, (c.toNat : Int)], runeOk r = true) (hok : keyOk k (c.toNat : Int) = true) (h4 : ∀ j, j < 13 → ¬ keyNames[j]? = some ⟨#[m, 45, c]⟩) :
    M_iTextKey [V.v (.string (⟨#[m, 45, c]⟩))] [] [] = some ⟨.tup [.agg [V.v (.int .i64 k), V.v (.int .i64 ((c.toNat : Int)))], V.v (.bool true)], [], []⟩ := by
  have e2 : M_iKeyOk [.agg [V.v (.int .i64 k), V.v (.int .i64 ((c.toNat : Int)))]] [] [] = some ⟨V.v (.bool true), [], []⟩ := by
    have := K_iKeyOk zEd (eok_iff.1 (by decide)) (f := 1) (l := []) ⟨by omega, by simp, by simp⟩ k (c.toNat : Int)
    rw [hok] at this
    exact this
  exact E_iTextKey_mod m c k hk h1 ⟨by rw [List.append_nil]; exact h2, h3, rfl⟩ e2 h4
end Go.Proofs.YtjhdikdopdcfcaaGreatDoor
namespace Go.Proofs.YtjhdikdopdcfcaaGreatDoor
open Go.RowKit
set_option linter.unusedSimpArgs false
set_option linter.unusedVariables false
set_option maxHeartbeats 16000000
set_option maxRecDepth 100000
theorem tk_Ck : M_iTextKey [V.v (.string (⟨#[67, 45, 107]⟩))] [] [] = some ⟨.tup [.agg [V.v (.int .i64 2), V.v (.int .i64 107)], V.v (.bool true)], [], []⟩ := tk_mod 67 107 2 (.inl ⟨rfl, rfl⟩) (by decide) (by decide) (by decide) (by decide) (by decide)
theorem tk_Cu : M_iTextKey [V.v (.string (⟨#[67, 45, 117]⟩))] [] [] = some ⟨.tup [.agg [V.v (.int .i64 2), V.v (.int .i64 117)], V.v (.bool true)], [], []⟩ := tk_mod 67 117 2 (.inl ⟨rfl, rfl⟩) (by decide) (by decide) (by decide) (by decide) (by decide)
theorem tk_Cw : M_iTextKey [V.v (.string (⟨#[67, 45, 119]⟩))] [] [] = some ⟨.tup [.agg [V.v (.int .i64 2), V.v (.int .i64 119)], V.v (.bool true)], [], []⟩ := tk_mod 67 119 2 (.inl ⟨rfl, rfl⟩) (by decide) (by decide) (by decide) (by decide) (by decide)
theorem tk_Md : M_iTextKey [V.v (.string (⟨#[77, 45, 100]⟩))] [] [] = some ⟨.tup [.agg [V.v (.int .i64 3), V.v (.int .i64 100)], V.v (.bool true)], [], []⟩ := tk_mod 77 100 3 (.inr ⟨rfl, rfl⟩) (by decide) (by decide) (by decide) (by decide) (by decide)
theorem tk_MBACK : M_iTextKey [V.v (.string (⟨#[77, 66, 65, 67, 75]⟩))] [] [] = some ⟨.tup [.agg [V.v (.int .i64 15), V.v (.int .i64 0)], V.v (.bool true)], [], []⟩ := E_iTextKey_name ⟨#[77, 66, 65, 67, 75]⟩ 11 (by omega) (by decide) (by decide)
theorem tk_Ct : M_iTextKey [V.v (.string (⟨#[67, 45, 116]⟩))] [] [] = some ⟨.tup [.agg [V.v (.int .i64 2), V.v (.int .i64 116)], V.v (.bool true)], [], []⟩ := tk_mod 67 116 2 (.inl ⟨rfl, rfl⟩) (by decide) (by decide) (by decide) (by decide) (by decide)
theorem tk_Mu : M_iTextKey [V.v (.string (⟨#[77, 45, 117]⟩))] [] [] = some ⟨.tup [.agg [V.v (.int .i64 3), V.v (.int .i64 117)], V.v (.bool true)], [], []⟩ := tk_mod 77 117 3 (.inr ⟨rfl, rfl⟩) (by decide) (by decide) (by decide) (by decide) (by decide)
theorem tk_Mc : M_iTextKey [V.v (.string (⟨#[77, 45, 99]⟩))] [] [] = some ⟨.tup [.agg [V.v (.int .i64 3), V.v (.int .i64 99)], V.v (.bool true)], [], []⟩ := tk_mod 77 99 3 (.inr ⟨rfl, rfl⟩) (by decide) (by decide) (by decide) (by decide) (by decide)
theorem tk_undo : M_iTextKey [V.v (.string (⟨#[67, 45, 95]⟩))] [] [] = some ⟨.tup [.agg [V.v (.int .i64 2), V.v (.int .i64 95)], V.v (.bool true)], [], []⟩ := tk_mod 67 95 2 (.inl ⟨rfl, rfl⟩) (by decide) (by decide) (by decide) (by decide) (by decide)
def WordDone (e : TEd) (f : Int) (l : List ByteArray) (s : ByteArray) (r u : TEd) (a : Int) : Prop :=
  M_iEdTyped [.agg [V.v (.bool e.Vi), V.v (.int .i64 e.Mode), .lst (some 0) (ints e.Line.Text), V.v (.int .i64 e.Line.At), V.v (.int .i64 e.Count), V.v (.int .i64 e.Op), V.v (.int .i64 e.OpCount), V.v (.int .i64 e.Wait), V.v (.int .i64 e.FindR), V.v (.int .i64 e.FindHow), V.v (.int .i64 e.Last), .lst (some 1) (dPieces e.Ring.Pieces), .lst (some 2) (dLines e.Undo.Lines), V.v (.int .i64 e.Nav), .lst (some 3) (ints e.Own.Text), V.v (.int .i64 e.Own.At), .lst (some 4) (ints e.Query), V.v (.int .i64 e.Hit), .lst (some 5) (ints e.Back.Text), V.v (.int .i64 e.Back.At)], .agg [V.v (.int .i64 f), .lst (some 6) (strs l)], V.v (.string s)] [] [] = some ⟨.tup [.agg [V.v (.bool r.Vi), V.v (.int .i64 r.Mode), .own 0, V.v (.int .i64 r.Line.At), V.v (.int .i64 r.Count), V.v (.int .i64 r.Op), V.v (.int .i64 r.OpCount), V.v (.int .i64 r.Wait), V.v (.int .i64 r.FindR), V.v (.int .i64 r.FindHow), V.v (.int .i64 r.Last), .own 1, .own 2, V.v (.int .i64 r.Nav), .own 3, V.v (.int .i64 r.Own.At), .own 4, V.v (.int .i64 r.Hit), .own 5, V.v (.int .i64 r.Back.At)], .own 6], [], [(0, ints r.Line.Text), (1, dPieces r.Ring.Pieces), (2, dLines r.Undo.Lines), (3, ints r.Own.Text), (4, ints r.Query), (5, ints r.Back.Text), (6, ints [a])]⟩ ∧ EOk r ∧
  (r.Line.Text = e.Line.Text ∨ (¬ r.Line.Text = e.Line.Text ∧ M_iEdTyped [.agg [V.v (.bool r.Vi), V.v (.int .i64 r.Mode), .lst (some 0) (ints r.Line.Text), V.v (.int .i64 r.Line.At), V.v (.int .i64 r.Count), V.v (.int .i64 r.Op), V.v (.int .i64 r.OpCount), V.v (.int .i64 r.Wait), V.v (.int .i64 r.FindR), V.v (.int .i64 r.FindHow), V.v (.int .i64 r.Last), .lst (some 1) (dPieces r.Ring.Pieces), .lst (some 2) (dLines r.Undo.Lines), V.v (.int .i64 r.Nav), .lst (some 3) (ints r.Own.Text), V.v (.int .i64 r.Own.At), .lst (some 4) (ints r.Query), V.v (.int .i64 r.Hit), .lst (some 5) (ints r.Back.Text), V.v (.int .i64 r.Back.At)], .agg [V.v (.int .i64 f), .lst (some 6) (strs l)], V.v (.string (⟨#[67, 45, 95]⟩))] [] [] = some ⟨.tup [.agg [V.v (.bool u.Vi), V.v (.int .i64 u.Mode), .own 0, V.v (.int .i64 u.Line.At), V.v (.int .i64 u.Count), V.v (.int .i64 u.Op), V.v (.int .i64 u.OpCount), V.v (.int .i64 u.Wait), V.v (.int .i64 u.FindR), V.v (.int .i64 u.FindHow), V.v (.int .i64 u.Last), .own 1, .own 2, V.v (.int .i64 u.Nav), .own 3, V.v (.int .i64 u.Own.At), .own 4, V.v (.int .i64 u.Hit), .own 5, V.v (.int .i64 u.Back.At)], .own 6], [], [(0, ints u.Line.Text), (1, dPieces u.Ring.Pieces), (2, dLines u.Undo.Lines), (3, ints u.Own.Text), (4, ints u.Query), (5, ints u.Back.Text), (6, ints [0])]⟩ ∧ u.Line.Text = e.Line.Text))
theorem word_done {f : Int} {l : List ByteArray} (hh : HistI f l) (e : TEd) (h : EOk e) (hm : e.Mode = 0) (s : ByteArray) (k r : Int) (hs : s.size < 4294967281) (hp : splitOf s ⟨#[32]⟩ = [s])
    (t1 : M_iTextKey [V.v (.string s)] [] [] = some ⟨.tup [.agg [V.v (.int .i64 k), V.v (.int .i64 r)], V.v (.bool true)], [], []⟩) (hk : (k = 2 ∧ (r = 107 ∨ r = 117 ∨ r = 119 ∨ r = 116)) ∨ (k = 3 ∧ (r = 100 ∨ r = 117 ∨ r = 99)) ∨ (k = 15 ∧ r = 0)) :
    ∃ r u a, WordDone e f l s r u a := by
  have hko : keyOk k r = true := by
    rcases hk with ⟨rfl, rfl | rfl | rfl | rfl⟩ | ⟨rfl, rfl | rfl | rfl⟩ | ⟨rfl, rfl⟩ <;> decide
  have hy : ¬ (k = 3 ∧ r = 121) := by omega
  have e1 := typedK hh e h hm s k r hs hp t1 hko hy
  have ho : EOk (edKeyE e f l k r).1 := h.key hh hko
  have hkp := keeps_key e f l k r hm hk
  have hm1 : (edKeyE e f l k r).1.Mode = 0 := by
    unfold edKeyE
    rw [if_pos hm]
    rcases hk with ⟨rfl, rfl | rfl | rfl | rfl⟩ | ⟨rfl, rfl | rfl | rfl⟩ | ⟨rfl, rfl⟩
    · show (killEd e _ _ _).1.Mode = 0; unfold killEd; split <;> exact hm
    · show (killEd e _ _ _).1.Mode = 0; unfold killEd; split <;> exact hm
    · show (killEd e _ _ _).1.Mode = 0; unfold killEd; split <;> exact hm
    · show (swapE e).1.Mode = 0; unfold swapE; split <;> exact hm
    · show (killEd e _ _ _).1.Mode = 0; unfold killEd; split <;> exact hm
    · exact hm
    · exact hm
    · show (killEd e _ _ _).1.Mode = 0; unfold killEd; split <;> exact hm
  generalize edKeyE e f l k r = p at *
  by_cases ht : p.1.Line.Text = e.Line.Text
  · exact ⟨p.1, e, p.2, e1, ho, .inl ht⟩
  · obtain ⟨u1, u2⟩ := keeps_undo hkp ht f l hm1
    have e2 := typedK hh p.1 ho hm1 ⟨#[67, 45, 95]⟩ 2 95 (by decide) (by decide +kernel) tk_undo (by decide) (by omega)
    rw [u1] at e2
    exact ⟨p.1, _, p.2, e1, ho, .inr ⟨ht, e2, u2⟩⟩
theorem E_lFnUndoKey (b : List UInt8) (hok : okR [.l (byts b)] = true) : M_lFnUndoKey [.lst (some 0) (byts b)] [] [] = some ⟨V.v (.bool true), [], []⟩ := by
  by_cases h1 : 1048576 < b.length
  · have h1' : (1048576 : Int) < b.length := by omega
    unfold M_lFnUndoKey
    simp [Tryz.func3, Tryz.f3, h1, h1']
  have h1' : ¬ (1048576 : Int) < b.length := by omega
  obtain ⟨t, a, r, last, f, l, hM, p1, p2, p3, p4, p5, hh, hc⟩ := EX_sMakeEmacs b (by omega)
  have ok := eok_iff.1 (edN_ok p1 p2 p3 p4 p5)
  obtain ⟨k, ek, k1, k2⟩ := EX_sMakeNum b 8 (by omega) (by omega)
  have hs2 := E_lsameInts_all t t (by omega) (by omega)
  have after : ∀ (s : ByteArray) (kk rr : Int), s.size < 4294967281 → splitOf s ⟨#[32]⟩ = [s] → M_iTextKey [V.v (.string s)] [] [] = some ⟨.tup [.agg [V.v (.int .i64 kk), V.v (.int .i64 rr)], V.v (.bool true)], [], []⟩ → ((kk = 2 ∧ (rr = 107 ∨ rr = 117 ∨ rr = 119 ∨ rr = 116)) ∨ (kk = 3 ∧ (rr = 100 ∨ rr = 117 ∨ rr = 99)) ∨ (kk = 15 ∧ rr = 0)) →
      ∃ (x u : TEd) (act : Int), M_iEdTyped [.agg [V.v (.bool ((edN t a r last).Vi)), V.v (.int .i64 ((edN t a r last).Mode)), .lst (some 0) (ints ((edN t a r last).Line.Text)), V.v (.int .i64 ((edN t a r last).Line.At)), V.v (.int .i64 ((edN t a r last).Count)), V.v (.int .i64 ((edN t a r last).Op)), V.v (.int .i64 ((edN t a r last).OpCount)), V.v (.int .i64 ((edN t a r last).Wait)), V.v (.int .i64 ((edN t a r last).FindR)), V.v (.int .i64 ((edN t a r last).FindHow)), V.v (.int .i64 ((edN t a r last).Last)), .lst (some 1) (dPieces ((edN t a r last).Ring.Pieces)), .lst (some 2) (dLines ((edN t a r last).Undo.Lines)), V.v (.int .i64 ((edN t a r last).Nav)), .lst (some 3) (ints ((edN t a r last).Own.Text)), V.v (.int .i64 ((edN t a r last).Own.At)), .lst (some 4) (ints ((edN t a r last).Query)), V.v (.int .i64 ((edN t a r last).Hit)), .lst (some 5) (ints ((edN t a r last).Back.Text)), V.v (.int .i64 ((edN t a r last).Back.At))], .agg [V.v (.int .i64 f), .lst (some 6) (strs l)], V.v (.string s)] [] [] = some ⟨.tup [.agg [V.v (.bool x.Vi), V.v (.int .i64 x.Mode), .own 0, V.v (.int .i64 x.Line.At), V.v (.int .i64 x.Count), V.v (.int .i64 x.Op), V.v (.int .i64 x.OpCount), V.v (.int .i64 x.Wait), V.v (.int .i64 x.FindR), V.v (.int .i64 x.FindHow), V.v (.int .i64 x.Last), .own 1, .own 2, V.v (.int .i64 x.Nav), .own 3, V.v (.int .i64 x.Own.At), .own 4, V.v (.int .i64 x.Hit), .own 5, V.v (.int .i64 x.Back.At)], .own 6], [], [(0, ints x.Line.Text), (1, dPieces x.Ring.Pieces), (2, dLines x.Undo.Lines), (3, ints x.Own.Text), (4, ints x.Query), (5, ints x.Back.Text), (6, ints [act])]⟩ ∧ M_iEdOk [.agg [V.v (.bool x.Vi), V.v (.int .i64 x.Mode), .lst (some 0) (ints x.Line.Text), V.v (.int .i64 x.Line.At), V.v (.int .i64 x.Count), V.v (.int .i64 x.Op), V.v (.int .i64 x.OpCount), V.v (.int .i64 x.Wait), V.v (.int .i64 x.FindR), V.v (.int .i64 x.FindHow), V.v (.int .i64 x.Last), .lst (some 1) (dPieces x.Ring.Pieces), .lst (some 2) (dLines x.Undo.Lines), V.v (.int .i64 x.Nav), .lst (some 3) (ints x.Own.Text), V.v (.int .i64 x.Own.At), .lst (some 4) (ints x.Query), V.v (.int .i64 x.Hit), .lst (some 5) (ints x.Back.Text), V.v (.int .i64 x.Back.At)]] [] [] = some ⟨V.v (.bool true), [], []⟩ ∧ x.Line.Text.length ≤ 400 ∧
        ((x.Line.Text = t ∧ M_lsameInts [.lst (some 0) (ints x.Line.Text), .lst (some 1) (ints t)] [] [] = some ⟨V.v (.bool true), [], []⟩) ∨ (M_lsameInts [.lst (some 0) (ints x.Line.Text), .lst (some 1) (ints t)] [] [] = some ⟨V.v (.bool false), [], []⟩ ∧ M_iEdTyped [.agg [V.v (.bool x.Vi), V.v (.int .i64 x.Mode), .lst (some 0) (ints x.Line.Text), V.v (.int .i64 x.Line.At), V.v (.int .i64 x.Count), V.v (.int .i64 x.Op), V.v (.int .i64 x.OpCount), V.v (.int .i64 x.Wait), V.v (.int .i64 x.FindR), V.v (.int .i64 x.FindHow), V.v (.int .i64 x.Last), .lst (some 1) (dPieces x.Ring.Pieces), .lst (some 2) (dLines x.Undo.Lines), V.v (.int .i64 x.Nav), .lst (some 3) (ints x.Own.Text), V.v (.int .i64 x.Own.At), .lst (some 4) (ints x.Query), V.v (.int .i64 x.Hit), .lst (some 5) (ints x.Back.Text), V.v (.int .i64 x.Back.At)], .agg [V.v (.int .i64 f), .lst (some 6) (strs l)], V.v (.string (⟨#[67, 45, 95]⟩))] [] [] = some ⟨.tup [.agg [V.v (.bool u.Vi), V.v (.int .i64 u.Mode), .own 0, V.v (.int .i64 u.Line.At), V.v (.int .i64 u.Count), V.v (.int .i64 u.Op), V.v (.int .i64 u.OpCount), V.v (.int .i64 u.Wait), V.v (.int .i64 u.FindR), V.v (.int .i64 u.FindHow), V.v (.int .i64 u.Last), .own 1, .own 2, V.v (.int .i64 u.Nav), .own 3, V.v (.int .i64 u.Own.At), .own 4, V.v (.int .i64 u.Hit), .own 5, V.v (.int .i64 u.Back.At)], .own 6], [], [(0, ints u.Line.Text), (1, dPieces u.Ring.Pieces), (2, dLines u.Undo.Lines), (3, ints u.Own.Text), (4, ints u.Query), (5, ints u.Back.Text), (6, ints [0])]⟩ ∧ M_lsameInts [.lst (some 0) (ints u.Line.Text), .lst (some 1) (ints t)] [] [] = some ⟨V.v (.bool true), [], []⟩)) := by
    intro s kk rr hs hp ht hk
    obtain ⟨x, u, act, w1, w2, w3⟩ := word_done hh _ ok rfl s kk rr hs hp ht hk
    have hx := (line_len w2.line).1
    have hs1 := E_lsameInts_all x.Line.Text t (by omega) (by omega)
    refine ⟨x, u, act, w1, E_iEdOk' x (eok_iff.2 w2), hx, ?_⟩
    rcases w3 with w3 | ⟨w3, w4, w5⟩
    · have w3 : x.Line.Text = t := w3
      rw [decide_eq_true w3] at hs1
      exact .inl ⟨w3, hs1⟩
    · have w3 : ¬ x.Line.Text = t := w3
      have w5 : u.Line.Text = t := w5
      rw [decide_eq_false w3] at hs1
      rw [decide_eq_true rfl] at hs2
      exact .inr ⟨hs1, w4, by rw [w5]; exact hs2⟩
  rcases (by omega : k = 0 ∨ k = 1 ∨ k = 2 ∨ k = 3 ∨ k = 4 ∨ k = 5 ∨ k = 6 ∨ k = 7) with rfl | rfl | rfl | rfl | rfl | rfl | rfl | rfl
  · obtain ⟨x, u, act, w1, w2, w0, w3⟩ := after ⟨#[67, 45, 107]⟩ 2 107 (by decide) (by decide +kernel) tk_Ck (.inl ⟨rfl, by decide⟩)
    simp only [edN, zEd, ints_nil, ints_cons, show dLines [] = [] from rfl] at hM w1
    unfold M_lFnUndoKey
    rcases w3 with ⟨-, w3⟩ | ⟨w3, w4, w5⟩
    · simp [Tryz.func3, Tryz.f3, h1, h1', hM, ek, w1, w2, w3]
    · simp only [ints_cons, ints_nil] at w4
      simp [Tryz.func3, Tryz.f3, h1, h1', hM, ek, w1, w2, w3, w4, w5]
  · obtain ⟨x, u, act, w1, w2, w0, w3⟩ := after ⟨#[67, 45, 117]⟩ 2 117 (by decide) (by decide +kernel) tk_Cu (.inl ⟨rfl, by decide⟩)
    simp only [edN, zEd, ints_nil, ints_cons, show dLines [] = [] from rfl] at hM w1
    unfold M_lFnUndoKey
    rcases w3 with ⟨-, w3⟩ | ⟨w3, w4, w5⟩
    · simp [Tryz.func3, Tryz.f3, h1, h1', hM, ek, w1, w2, w3]
    · simp only [ints_cons, ints_nil] at w4
      simp [Tryz.func3, Tryz.f3, h1, h1', hM, ek, w1, w2, w3, w4, w5]
  · obtain ⟨x, u, act, w1, w2, w0, w3⟩ := after ⟨#[67, 45, 119]⟩ 2 119 (by decide) (by decide +kernel) tk_Cw (.inl ⟨rfl, by decide⟩)
    simp only [edN, zEd, ints_nil, ints_cons, show dLines [] = [] from rfl] at hM w1
    unfold M_lFnUndoKey
    rcases w3 with ⟨-, w3⟩ | ⟨w3, w4, w5⟩
    · simp [Tryz.func3, Tryz.f3, h1, h1', hM, ek, w1, w2, w3]
    · simp only [ints_cons, ints_nil] at w4
      simp [Tryz.func3, Tryz.f3, h1, h1', hM, ek, w1, w2, w3, w4, w5]
  · obtain ⟨x, u, act, w1, w2, w0, w3⟩ := after ⟨#[77, 45, 100]⟩ 3 100 (by decide) (by decide +kernel) tk_Md (.inr (.inl ⟨rfl, by decide⟩))
    simp only [edN, zEd, ints_nil, ints_cons, show dLines [] = [] from rfl] at hM w1
    unfold M_lFnUndoKey
    rcases w3 with ⟨-, w3⟩ | ⟨w3, w4, w5⟩
    · simp [Tryz.func3, Tryz.f3, h1, h1', hM, ek, w1, w2, w3]
    · simp only [ints_cons, ints_nil] at w4
      simp [Tryz.func3, Tryz.f3, h1, h1', hM, ek, w1, w2, w3, w4, w5]
  · obtain ⟨x, u, act, w1, w2, w0, w3⟩ := after ⟨#[77, 66, 65, 67, 75]⟩ 15 0 (by decide) (by decide +kernel) tk_MBACK (.inr (.inr ⟨rfl, rfl⟩))
    simp only [edN, zEd, ints_nil, ints_cons, show dLines [] = [] from rfl] at hM w1
    unfold M_lFnUndoKey
    rcases w3 with ⟨-, w3⟩ | ⟨w3, w4, w5⟩
    · simp [Tryz.func3, Tryz.f3, h1, h1', hM, ek, w1, w2, w3]
    · simp only [ints_cons, ints_nil] at w4
      simp [Tryz.func3, Tryz.f3, h1, h1', hM, ek, w1, w2, w3, w4, w5]
  · obtain ⟨x, u, act, w1, w2, w0, w3⟩ := after ⟨#[67, 45, 116]⟩ 2 116 (by decide) (by decide +kernel) tk_Ct (.inl ⟨rfl, by decide⟩)
    simp only [edN, zEd, ints_nil, ints_cons, show dLines [] = [] from rfl] at hM w1
    unfold M_lFnUndoKey
    rcases w3 with ⟨-, w3⟩ | ⟨w3, w4, w5⟩
    · simp [Tryz.func3, Tryz.f3, h1, h1', hM, ek, w1, w2, w3]
    · simp only [ints_cons, ints_nil] at w4
      simp [Tryz.func3, Tryz.f3, h1, h1', hM, ek, w1, w2, w3, w4, w5]
  · obtain ⟨x, u, act, w1, w2, w0, w3⟩ := after ⟨#[77, 45, 117]⟩ 3 117 (by decide) (by decide +kernel) tk_Mu (.inr (.inl ⟨rfl, by decide⟩))
    simp only [edN, zEd, ints_nil, ints_cons, show dLines [] = [] from rfl] at hM w1
    unfold M_lFnUndoKey
    rcases w3 with ⟨-, w3⟩ | ⟨w3, w4, w5⟩
    · simp [Tryz.func3, Tryz.f3, h1, h1', hM, ek, w1, w2, w3]
    · simp only [ints_cons, ints_nil] at w4
      simp [Tryz.func3, Tryz.f3, h1, h1', hM, ek, w1, w2, w3, w4, w5]
  · obtain ⟨x, u, act, w1, w2, w0, w3⟩ := after ⟨#[77, 45, 99]⟩ 3 99 (by decide) (by decide +kernel) tk_Mc (.inr (.inl ⟨rfl, by decide⟩))
    simp only [edN, zEd, ints_nil, ints_cons, show dLines [] = [] from rfl] at hM w1
    unfold M_lFnUndoKey
    rcases w3 with ⟨-, w3⟩ | ⟨w3, w4, w5⟩
    · simp [Tryz.func3, Tryz.f3, h1, h1', hM, ek, w1, w2, w3]
    · simp only [ints_cons, ints_nil] at w4
      simp [Tryz.func3, Tryz.f3, h1, h1', hM, ek, w1, w2, w3, w4, w5]
end Go.Proofs.YtjhdikdopdcfcaaGreatDoor
namespace Go.Proofs.YtjhdikdopdcfcaaGreatDoor
open Go.ChangeShapes Go.WideShapes Go.ChangeAt Go.RowKit
theorem ownKnob_door : ownKnob Tryz.prog.godebug = none := by kernel_rfl
theorem zwOf {W : World} (h : W.ShapedOpen Tryz.prog) : ZW W := ⟨trivial, Tryz.laysM146.s1_3 W h⟩
def lay (cs : Array Value) : Obj → Obj
  | .cells _ t frozen => .cells cs t frozen
  | o => o
noncomputable def laidWorld (os : Os) : World :=
  { World.holding Tryz.prog os ⟨#[], #[], []⟩ with heap := ((World.holding Tryz.prog os ⟨#[], #[], []⟩).heap.modify 2 (lay #[.int .u8 128, .int .u8 191, .int .u8 160, .int .u8 191, .int .u8 128, .int .u8 159, .int .u8 144, .int .u8 191, .int .u8 128, .int .u8 143, .int .u8 0, .int .u8 0, .int .u8 0, .int .u8 0, .int .u8 0, .int .u8 0, .int .u8 0, .int .u8 0, .int .u8 0, .int .u8 0, .int .u8 0, .int .u8 0, .int .u8 0, .int .u8 0, .int .u8 0, .int .u8 0, .int .u8 0, .int .u8 0, .int .u8 0, .int .u8 0, .int .u8 0, .int .u8 0])).modify 1 (lay (List.replicate 128 (Value.int .u8 240) ++ List.replicate 66 (Value.int .u8 241) ++ List.replicate 30 (Value.int .u8 2) ++ List.replicate 1 (Value.int .u8 19) ++ List.replicate 12 (Value.int .u8 3) ++ List.replicate 1 (Value.int .u8 35) ++ List.replicate 2 (Value.int .u8 3) ++ List.replicate 1 (Value.int .u8 52) ++ List.replicate 3 (Value.int .u8 4) ++ List.replicate 1 (Value.int .u8 68) ++ List.replicate 11 (Value.int .u8 241)).toArray) }
end Go.Proofs.YtjhdikdopdcfcaaGreatDoor
namespace Go.Proofs.YtjhdikdopdcfcaaGreatDoor.fnUndoKey
open Go.ChangeShapes Go.WideShapes Go.ChangeAt Go.RowKit
open Go.ChangeMaps (open_string shut_string)
set_option linter.unusedVariables false
theorem law_FnUndoKey (l0 : List UInt8) (p0 : Value) (W : World) (hz : ZW W) (g0 : okR [.l (byts l0)] = true) (z0 : RdD (heapOf W) (.l (byts l0)) p0) :
    Calls Tryz.prog 3 #[p0] W fun e W' => e = .returned (.bool true) ∧ Ext W W' :=
  S_lFnUndoKey.top_v hz (us := [p0]) (ls := [p0]) (E_lFnUndoKey l0 g0)
    ⟨_, _, rfl, top_arg_l rfl z0, rfl⟩
set_option maxRecDepth 100000 in
theorem laid_met (os : Os) : laidMet Tryz.prog Rows.fnUndoKeyRow.laid ((laidWorld os).forCall (fun _ _ => 0) ⟨#[], #[.slice none 0 0], []⟩).memory :=
  laidMet_of_run' 8 (by kernel_rfl) (by kernel_rfl)
set_option maxRecDepth 100000 in
theorem reads (os : Os) {H : Type} (enc : TypeId × Value → H) : ∃ places, DataW.whole enc Tryz.prog ((laidWorld os).forCall (fun _ _ => 0) ⟨#[], #[.slice none 0 0], []⟩).memory Tryz.f3.params.toList Rows.fnUndoKeySpec.vars false (#[.slice none 0 0] : Array Value).toList 8 = some ([.nil], [], places) :=
  ⟨[], by kernel_rfl⟩
set_option maxRecDepth 100000 in
theorem lifted (os : Os) (started : os.Started) (H : Type) (enc : TypeId × Value → H) (F : Stop.Interp) :
    ReturnsInHanded {} Tryz.checked os 3 .any ((OpenSpec.ofChange Rows.fnUndoKeySpec).preRow enc Tryz.prog Tryz.f3 Rows.fnUndoKeyRow.domain false Rows.fnUndoKeyRow.laid) (((OpenSpec.ofChange Rows.fnUndoKeySpec).at F).post enc Tryz.prog Tryz.f3 false true false false) := by
  obtain ⟨places, hx⟩ := reads os enc
  refine returnsInHanded_of_row (C := Tryz.checked) (s := OpenSpec.ofChange Rows.fnUndoKeySpec) ownKnob_door started (by kernel_rfl) Tryz.func3
    (witness_row_at (enc := enc) (C := Tryz.checked) false (laidWorld os) #[.slice none 0 0] rfl (by kernel_rfl) (by kernel_rfl) (by kernel_rfl)
      (OpenSpec.preRow_of_cond 8 hx (by kernel_rfl) (fun k hk => by cases hk) (by kernel_rfl) (laid_met os))) ?_
  intro W base args ds gs before hval0 hW _ _ _ hL hsh _
  have hval : ∀ (j : Nat) t v, Tryz.f3.params[j]? = some t → args[j]? = some v → Value.okWide Tryz.prog W .any base t v := hval0
  have hW' := hW
  obtain ⟨p, q, hA0, hV, rfl, hfz, hnd⟩ := hW
  have hA : DataW.TrodAll enc Tryz.prog W 0 (fun _ => true) true Tryz.f3.params.toList args.toList ds p := hA0
  rw [Tryz.params3] at hA hval
  obtain ⟨v0, vs0, d0, ds0, pp0, q0, hargs, rfl, rfl, h0, r0⟩ := trodAll_cons hA
  obtain ⟨rfl, rfl, rfl⟩ := trodAll_nil r0
  obtain rfl : args = #[v0] := by cases args; simp_all
  obtain ⟨rfl, rfl⟩ := trodVars_none hV
  have k0 := h0
  have lt0 : ∀ x ∈ pp0, x.block < W.heap.size := by obtain ⟨m, hm⟩ := k0; exact DataW.trod_lt m _ _ _ hm
  obtain ⟨l0, g0, z0⟩ := open_bytes_top (hval 0 22 v0 rfl rfl) h0
  clear hA0 hval0
  refine (law_FnUndoKey l0 v0 W (zwOf hsh) g0 z0).mono fun e W' ⟨he, bel⟩ => ?_
  subst he
  exact ⟨_, rfl, _, _, _, [], _, [], hW', trodAll_mk1 (shut_bool Tryz.underlying4 _), (trodAll_cons_mk (Below.trod laidOut_prog (by kernel_rfl) (of_decide_eq_true (by kernel_rfl)) k0 bel lt0) trodAll_mk0), rfl, Below.frame bel _, fun h => by cases h⟩
theorem said : Rows.FnUndoKeySaid :=
  OpenClaim.holds_of_cond 3 Tryz.f3 rfl rfl rfl rfl rfl rfl rfl ⟨rfl, rfl, rfl, rfl, rfl⟩ rfl rfl rfl rfl rfl (by kernel_rfl) Tryz.func3 (by kernel_rfl)
    (of_decide_eq_true (by kernel_rfl)) (by unfold Func.isWrapper; first | (rw [if_pos (by decide +kernel)]; kernel_rfl) | (rw [if_neg (by decide +kernel)]; exact ⟨rfl, rfl⟩))
    (fun os started H enc _ F => by rw [OpenClaim.pre_eq_preRow]; exact lifted os started H enc F)
theorem plain (f : FuncId) (fn : Func) (hf : Tryz.pinned.checked.prog.funcNamed "loop.example/g00600/laws.FnUndoKey" = some f) (hfn : Tryz.pinned.checked.prog.funcs[f]? = some fn) :
    false = Tryz.pinned.checked.prog.looks [] ∧ ∀ (j : Nat) t, fn.params[j]? = some t → Tryz.pinned.checked.prog.wantsStandIn t = false := by
  obtain rfl : f = 3 := Option.some.inj ((show Tryz.prog.funcNamed "loop.example/g00600/laws.FnUndoKey" = some 3 by kernel_rfl).symm.trans hf) |>.symm
  obtain rfl : fn = Tryz.f3 := (Option.some.inj (Tryz.func3.symm.trans hfn)).symm
  refine ⟨by kernel_rfl, fun j t ht => ?_⟩
  rw [Tryz.params3] at ht
  have hm := Array.mem_of_getElem? ht
  simp only [List.mem_toArray, List.mem_cons, List.not_mem_nil, or_false] at hm
  subst hm
  exact (show Tryz.prog.wantsStandIn 22 = false by kernel_rfl)
theorem card : Rows.FnUndoKeyCardSaid :=
  Claim7.holds_tied_plain_at .later [] _ _ _ _ said (fun _ h => by cases h) (by kernel_rfl) (fun _ h => by cases h) fnUndoKey_row_tie rfl ⟨rfl, rfl⟩ (by kernel_rfl) rfl plain (by kernel_rfl)
#print axioms card
end Go.Proofs.YtjhdikdopdcfcaaGreatDoor.fnUndoKey
