/- Part 9 of a proof in several texts (an abstract evaluator, what the functions compute). -/
import Derived.Test.YtjhdikdopdcfcaaGreatDoorPkFnSearch8
namespace Go.Proofs.YtjhdikdopdcfcaaGreatDoor
open Go.RowKit
set_option linter.unusedSimpArgs false
set_option linter.unusedVariables false
set_option maxHeartbeats 8000000
set_option maxRecDepth 100000
def pieceB (p : TPiece) : Bool := decide (0 < p.Text.length) && textOk p.Text
def ringOk (l : List TPiece) : Bool := l.all pieceB && decide (l.length ≤ 6)
def lineB (x : TLine) : Bool := lineOk x.Text x.At
def undoOk (l : List TLine) : Bool := l.all lineB && decide (l.length ≤ 20)
theorem E_iRingOk (l : List TPiece) (s : smL (dPieces l) = true) : M_iRingOk [.agg [.lst (some 0) (dPieces l)]] [] [] = some ⟨V.v (.bool (ringOk l)), [], []⟩ := by
  have hb : l.length ≤ 1000000000 := by simpa using smL_len s
  have sm : ∀ j (h : j < l.length), l[j].Text.length ≤ 1000000000 := fun j h => by
    have hs := smL_at s (dPieces_get h)
    simp only [bnR_cons, bnR_nil, bnD_a, bnD_l, Bool.and_true, Bool.true_and] at hs
    simpa using bnL_len hs
  unfold M_iRingOk
  simp [Tryz.func27, Tryz.f27]
  rcases firstBad pieceB l with h | ⟨h, N, hN, h1, h2⟩
  · rw [loopV_go (fun j => .on ⟨[(8, V.v (.int .i64 ((j : Int)))), (7, V.v (.int .i64 ((l.length : Int)))), (6, .lst (some 0) (dPieces l)), (1, .ref 1 0)], [(1, [.lst (some 0) (dPieces l)])], [], []⟩) l.length ?_ ?_]
    · simp [ringOk, h]; omega
    · simp
    · intro j hj
      have hw := w64 (j + 1) (by omega)
      have := List.all_eq_true.1 h l[j] (List.getElem_mem hj)
      simp only [pieceB, Bool.and_eq_true, decide_eq_true_eq] at this
      have h3 : l[j].Text ≠ [] := fun e => by simp [e] at this
      simp [hj, hw, dPieces_get hj, E_iareAdmissible _ (sm j hj), this.2, h3]
  · rw [loopV_go (fun j => .on ⟨[(8, V.v (.int .i64 ((j : Int)))), (7, V.v (.int .i64 ((l.length : Int)))), (6, .lst (some 0) (dPieces l)), (1, .ref 1 0)], [(1, [.lst (some 0) (dPieces l)])], [], []⟩) N ?_ ?_]
    · by_cases h3 : l[N].Text = []
      · simp [hN, dPieces_get hN, h3, ringOk, h]
      · have h4 : textOk l[N].Text = false := by
          simp only [pieceB] at h1
          have h5 : 0 < l[N].Text.length := List.length_pos_iff.2 h3
          simpa [h5] using h1
        simp [hN, dPieces_get hN, E_iareAdmissible _ (sm N hN), h4, h3, ringOk, h]
    · simp
    · intro j hj
      have hj' : j < l.length := by omega
      have hw := w64 (j + 1) (by omega)
      have := h2 j hj' hj
      simp only [pieceB, Bool.and_eq_true, decide_eq_true_eq] at this
      have h3 : l[j].Text ≠ [] := fun e => by simp [e] at this
      simp [hj', hw, dPieces_get hj', E_iareAdmissible _ (sm j hj'), this.2, h3]
theorem E_sRingOk (l : List TPiece) (s : smL (dPieces l) = true) : M_sRingOk [.agg [.lst (some 0) (dPieces l)]] [] [] = some ⟨V.v (.bool (ringOk l)), [], []⟩ := by
  have hb : l.length ≤ 1000000000 := by simpa using smL_len s
  have sm : ∀ j (h : j < l.length), l[j].Text.length ≤ 1000000000 := fun j h => by
    have hs := smL_at s (dPieces_get h)
    simp only [bnR_cons, bnR_nil, bnD_a, bnD_l, Bool.and_true, Bool.true_and] at hs
    simpa using bnL_len hs
  unfold M_sRingOk
  simp [Tryz.func53, Tryz.f53]
  rcases firstBad pieceB l with h | ⟨h, N, hN, h1, h2⟩
  · rw [loopV_go (fun j => .on ⟨[(8, V.v (.int .i64 ((j : Int)))), (7, V.v (.int .i64 ((l.length : Int)))), (6, .lst (some 0) (dPieces l)), (1, .ref 1 0)], [(1, [.lst (some 0) (dPieces l)])], [], []⟩) l.length ?_ ?_]
    · simp [ringOk, h]; omega
    · simp
    · intro j hj
      have hw := w64 (j + 1) (by omega)
      have := List.all_eq_true.1 h l[j] (List.getElem_mem hj)
      simp only [pieceB, Bool.and_eq_true, decide_eq_true_eq] at this
      have h3 : l[j].Text ≠ [] := fun e => by simp [e] at this
      simp [hj, hw, dPieces_get hj, E_sl15Piece _ (sm j hj), this.2, h3]
  · rw [loopV_go (fun j => .on ⟨[(8, V.v (.int .i64 ((j : Int)))), (7, V.v (.int .i64 ((l.length : Int)))), (6, .lst (some 0) (dPieces l)), (1, .ref 1 0)], [(1, [.lst (some 0) (dPieces l)])], [], []⟩) N ?_ ?_]
    · by_cases h3 : l[N].Text = []
      · simp [hN, dPieces_get hN, h3, ringOk, h]
      · have h4 : textOk l[N].Text = false := by
          simp only [pieceB] at h1
          have h5 : 0 < l[N].Text.length := List.length_pos_iff.2 h3
          simpa [h5] using h1
        simp [hN, dPieces_get hN, E_sl15Piece _ (sm N hN), h4, h3, ringOk, h]
    · simp
    · intro j hj
      have hj' : j < l.length := by omega
      have hw := w64 (j + 1) (by omega)
      have := h2 j hj' hj
      simp only [pieceB, Bool.and_eq_true, decide_eq_true_eq] at this
      have h3 : l[j].Text ≠ [] := fun e => by simp [e] at this
      simp [hj', hw, dPieces_get hj', E_sl15Piece _ (sm j hj'), this.2, h3]
theorem E_iUndoOk (l : List TLine) (s : smL (dLines l) = true) : M_iUndoOk [.agg [.lst (some 0) (dLines l)]] [] [] = some ⟨V.v (.bool (undoOk l)), [], []⟩ := by
  have hb : l.length ≤ 1000000000 := by simpa using smL_len s
  have sm : ∀ j (h : j < l.length), l[j].Text.length ≤ 1000000000 := fun j h => by
    have hs := smL_at s (dLines_get h)
    simp only [bnR_cons, bnR_nil, bnD_a, bnD_l, Bool.and_true, Bool.true_and] at hs
    simpa using bnL_len hs
  unfold M_iUndoOk
  simp [Tryz.func28, Tryz.f28]
  rcases firstBad lineB l with h | ⟨h, N, hN, h1, h2⟩
  · rw [loopV_go (fun j => .on ⟨[(8, V.v (.int .i64 ((j : Int)))), (7, V.v (.int .i64 ((l.length : Int)))), (6, .lst (some 0) (dLines l)), (1, .ref 1 0)], [(1, [.lst (some 0) (dLines l)])], [], []⟩) l.length ?_ ?_]
    · simp [undoOk, h]; omega
    · simp
    · intro j hj
      have hw := w64 (j + 1) (by omega)
      have := List.all_eq_true.1 h l[j] (List.getElem_mem hj)
      simp only [lineB] at this
      simp [hj, hw, dLines_get hj, E_iLineOk _ _ (sm j hj), this]
  · rw [loopV_go (fun j => .on ⟨[(8, V.v (.int .i64 ((j : Int)))), (7, V.v (.int .i64 ((l.length : Int)))), (6, .lst (some 0) (dLines l)), (1, .ref 1 0)], [(1, [.lst (some 0) (dLines l)])], [], []⟩) N ?_ ?_]
    · simp only [lineB] at h1
      simp [hN, dLines_get hN, E_iLineOk _ _ (sm N hN), h1, undoOk, h]
    · simp
    · intro j hj
      have hj' : j < l.length := by omega
      have hw := w64 (j + 1) (by omega)
      have := h2 j hj' hj
      simp only [lineB] at this
      simp [hj', hw, dLines_get hj', E_iLineOk _ _ (sm j hj'), this]
def opC (n : Int) : Bool := n == 100 || n == 99 || n == 121
def waitC (n : Int) : Bool := n == 102 || n == 70 || n == 116 || n == 84 || n == 114
def modeB (vi : Bool) (mode : Int) (lt : List Int) (la op opc wt : Int) : Bool :=
  ((mode == 0 && !vi) || ((mode == 1 || mode == 2) && vi) || mode == 3) && (!(mode == 2 && atEnd lt la) && ((mode == 2 || (op == 0 && wt == 0 && opc == 0)) && ((op != 0 || opc == 0) && ((op == 0 || opC op) && (wt == 0 || waitC wt)))))
def seekB (mode : Int) (q : List Int) (hit : Int) (bt : List Int) (ba : Int) : Bool := mode == 3 || (decide (q.length = 0) && (hit == 0) && emptyL bt ba)
theorem E_iisAmong_op (r : Int) : M_iisAmong [V.v (.int .i64 r), V.v (.string (⟨#[100, 99, 121]⟩))] [] [] = some ⟨V.v (.bool (opC r)), [], []⟩ := by
  unfold opC
  unfold M_iisAmong
  obtain ⟨S, hS⟩ : ∃ S : ByteArray, S = ⟨#[100, 99, 121]⟩ := ⟨_, rfl⟩
  have h0 : S.size = 3 := by rw [hS]; rfl
  have ht : S.toList = [100, 99, 121] := by rw [hS, ByteArray.toList_eq]
  have w1 := w64 100 (by omega)
  have w2 := w64 99 (by omega)
  have w3 := w64 121 (by omega)
  rw [← hS]
  simp [Tryz.func47, Tryz.f47]
  by_cases h1 : 100 = r
  · subst h1; rw [loopV_unf]; simp [w1, w2, w3, h0, ht]
  by_cases h2 : 99 = r
  · subst h2; rw [loopV_unf]; simp [w1, w2, w3, h0, ht]; rw [loopV_unf]; simp [w1, w2, w3, h0, ht]
  by_cases h3 : 121 = r
  · subst h3; rw [loopV_unf]; simp [w1, w2, w3, h0, ht]; rw [loopV_unf]; simp [w1, w2, w3, h0, ht]; rw [loopV_unf]; simp [w1, w2, w3, h0, ht]
  have k1 : ¬ r = 100 := fun e => h1 e.symm
  have k2 : ¬ r = 99 := fun e => h2 e.symm
  have k3 : ¬ r = 121 := fun e => h3 e.symm
  rw [loopV_unf]; simp [w1, w2, w3, h0, ht, h1]; rw [loopV_unf]; simp [w1, w2, w3, h0, ht, h2]; rw [loopV_unf]; simp [w1, w2, w3, h0, ht, h3]; rw [loopV_unf]; simp [w1, w2, w3, h0, ht, k1, k2, k3]
theorem E_iisAmong_wait (r : Int) : M_iisAmong [V.v (.int .i64 r), V.v (.string (⟨#[102, 70, 116, 84, 114]⟩))] [] [] = some ⟨V.v (.bool (waitC r)), [], []⟩ := by
  unfold waitC
  unfold M_iisAmong
  obtain ⟨S, hS⟩ : ∃ S : ByteArray, S = ⟨#[102, 70, 116, 84, 114]⟩ := ⟨_, rfl⟩
  have h0 : S.size = 5 := by rw [hS]; rfl
  have ht : S.toList = [102, 70, 116, 84, 114] := by rw [hS, ByteArray.toList_eq]
  have w1 := w64 102 (by omega)
  have w2 := w64 70 (by omega)
  have w3 := w64 116 (by omega)
  have w4 := w64 84 (by omega)
  have w5 := w64 114 (by omega)
  rw [← hS]
  simp [Tryz.func47, Tryz.f47]
  by_cases h1 : 102 = r
  · subst h1; rw [loopV_unf]; simp [w1, w2, w3, w4, w5, h0, ht]
  by_cases h2 : 70 = r
  · subst h2; rw [loopV_unf]; simp [w1, w2, w3, w4, w5, h0, ht]; rw [loopV_unf]; simp [w1, w2, w3, w4, w5, h0, ht]
  by_cases h3 : 116 = r
  · subst h3; rw [loopV_unf]; simp [w1, w2, w3, w4, w5, h0, ht]; rw [loopV_unf]; simp [w1, w2, w3, w4, w5, h0, ht]; rw [loopV_unf]; simp [w1, w2, w3, w4, w5, h0, ht]
  by_cases h4 : 84 = r
  · subst h4; rw [loopV_unf]; simp [w1, w2, w3, w4, w5, h0, ht]; rw [loopV_unf]; simp [w1, w2, w3, w4, w5, h0, ht]; rw [loopV_unf]; simp [w1, w2, w3, w4, w5, h0, ht]; rw [loopV_unf]; simp [w1, w2, w3, w4, w5, h0, ht]
  by_cases h5 : 114 = r
  · subst h5; rw [loopV_unf]; simp [w1, w2, w3, w4, w5, h0, ht]; rw [loopV_unf]; simp [w1, w2, w3, w4, w5, h0, ht]; rw [loopV_unf]; simp [w1, w2, w3, w4, w5, h0, ht]; rw [loopV_unf]; simp [w1, w2, w3, w4, w5, h0, ht]; rw [loopV_unf]; simp [w1, w2, w3, w4, w5, h0, ht]
  have k1 : ¬ r = 102 := fun e => h1 e.symm
  have k2 : ¬ r = 70 := fun e => h2 e.symm
  have k3 : ¬ r = 116 := fun e => h3 e.symm
  have k4 : ¬ r = 84 := fun e => h4 e.symm
  have k5 : ¬ r = 114 := fun e => h5 e.symm
  rw [loopV_unf]; simp [w1, w2, w3, w4, w5, h0, ht, h1]; rw [loopV_unf]; simp [w1, w2, w3, w4, w5, h0, ht, h2]; rw [loopV_unf]; simp [w1, w2, w3, w4, w5, h0, ht, h3]; rw [loopV_unf]; simp [w1, w2, w3, w4, w5, h0, ht, h4]; rw [loopV_unf]; simp [w1, w2, w3, w4, w5, h0, ht, h5]; rw [loopV_unf]; simp [w1, w2, w3, w4, w5, h0, ht, k1, k2, k3, k4, k5]
theorem E_imodeOk (vi : Bool) (mode : Int) (lt : List Int) (la cnt op opc wt fr fh last : Int) (rp : List TPiece) (ul : List TLine) (nav : Int) (ot : List Int) (oa : Int) (q : List Int) (hit : Int) (bt : List Int) (ba : Int) : M_imodeOk [.agg [V.v (.bool vi), V.v (.int .i64 mode), .lst (some 0) (ints lt), V.v (.int .i64 la), V.v (.int .i64 cnt), V.v (.int .i64 op), V.v (.int .i64 opc), V.v (.int .i64 wt), V.v (.int .i64 fr), V.v (.int .i64 fh), V.v (.int .i64 last), .lst (some 1) (dPieces rp), .lst (some 2) (dLines ul), V.v (.int .i64 nav), .lst (some 3) (ints ot), V.v (.int .i64 oa), .lst (some 4) (ints q), V.v (.int .i64 hit), .lst (some 5) (ints bt), V.v (.int .i64 ba)]] [] [] = some ⟨V.v (.bool (modeB vi mode lt la op opc wt)), [], []⟩ := by
  unfold M_imodeOk
  by_cases m2 : mode = 2
  · subst m2
    cases vi
    · simp [Tryz.func25, Tryz.f25, modeB]
    cases hA : atEnd lt la
    rotate_left
    · simp [Tryz.func25, Tryz.f25, modeB, E_iisAtEnd, hA]
    by_cases o0 : op = 0
    · subst o0
      by_cases c0 : opc = 0
      · subst c0
        by_cases w0 : wt = 0
        · subst w0; simp [Tryz.func25, Tryz.f25, modeB, E_iisAtEnd, hA]
        · cases hW : waitC wt <;> simp [Tryz.func25, Tryz.f25, modeB, E_iisAtEnd, hA, w0, E_iisAmong_wait, hW]
      · simp [Tryz.func25, Tryz.f25, modeB, E_iisAtEnd, hA, c0]
    · by_cases w0 : wt = 0
      · subst w0; cases hO : opC op <;> simp [Tryz.func25, Tryz.f25, modeB, E_iisAtEnd, hA, o0, E_iisAmong_op, hO]
      · cases hO : opC op <;> cases hW : waitC wt <;> simp [Tryz.func25, Tryz.f25, modeB, E_iisAtEnd, hA, o0, w0, E_iisAmong_op, E_iisAmong_wait, hO, hW]
  by_cases ok : (mode = 0 ∧ vi = false) ∨ (mode = 1 ∧ vi = true) ∨ mode = 3
  · rcases Classical.em (op = 0 ∧ wt = 0 ∧ opc = 0) with ⟨rfl, rfl, rfl⟩ | hn
    · rcases ok with ⟨rfl, rfl⟩ | ⟨rfl, rfl⟩ | rfl <;> simp [Tryz.func25, Tryz.f25, modeB]
    · by_cases o0 : op = 0
      · subst o0
        by_cases w0 : wt = 0
        · subst w0
          have c0 : ¬ opc = 0 := fun e => hn ⟨rfl, rfl, e⟩
          rcases ok with ⟨rfl, rfl⟩ | ⟨rfl, rfl⟩ | rfl <;> simp [Tryz.func25, Tryz.f25, modeB, c0]
        · rcases ok with ⟨rfl, rfl⟩ | ⟨rfl, rfl⟩ | rfl <;> simp [Tryz.func25, Tryz.f25, modeB, w0]
      · rcases ok with ⟨rfl, rfl⟩ | ⟨rfl, rfl⟩ | rfl <;> simp [Tryz.func25, Tryz.f25, modeB, o0]
  · by_cases m0 : mode = 0
    · subst m0
      cases vi
      · exact absurd (.inl ⟨rfl, rfl⟩) ok
      · simp [Tryz.func25, Tryz.f25, modeB]
    · by_cases m1 : mode = 1
      · subst m1
        cases vi
        · simp [Tryz.func25, Tryz.f25, modeB]
        · exact absurd (.inr (.inl ⟨rfl, rfl⟩)) ok
      · have m3 : ¬ mode = 3 := fun e => ok (.inr (.inr e))
        simp [Tryz.func25, Tryz.f25, modeB, m0, m1, m2, m3]
end Go.Proofs.YtjhdikdopdcfcaaGreatDoor
namespace Go.Proofs.YtjhdikdopdcfcaaGreatDoor
open Go.RowKit
set_option linter.unusedSimpArgs false
set_option linter.unusedVariables false
set_option maxHeartbeats 8000000
set_option maxRecDepth 10000
theorem E_sl13Join_n (a b : List Int) (i j k : Option Nat) (h : a.length + b.length ≤ 2000) : M_sl13Join [.lst i (ints a), .lst j (ints b), .lst k []] [] [] = some ⟨.own 0, [], [(0, ints (a ++ b))]⟩ := by
  have g1 : a.length * 8 ≤ 140737488355328 := by omega
  have g2 : a.length ≤ 4611686018427387904 := by omega
  have g3 : (a.length + b.length) * 8 ≤ 140737488355328 := by omega
  have g4 : a.length + b.length ≤ 4611686018427387904 := by omega
  have g5 : wid 1 (ints a ++ ints b) = true := by rw [← ints_app]; exact ints_wid _
  unfold M_sl13Join
  simp [Tryz.func56, Tryz.f56, g1, g2, g3, g4, g5]
theorem E_sl15Copy (l : List TPiece) (i : Option Nat) (h : l.length ≤ 1000) (hp : ∀ p ∈ l, p.Text.length ≤ 2000) : M_sl15Copy [.agg [.lst i (dPieces l)]] [] [] = some ⟨.agg [.own 0], [], [(0, dPieces l)]⟩ := by
  unfold M_sl15Copy
  simp [Tryz.func55, Tryz.f55]
  rw [loopV_go (fun k => .on ⟨[(10, V.v (.int .i64 ((k : Int)))), (9, V.v (.int .i64 ((l.length : Int)))), (8, .lst i (dPieces l)), (3, .ref 3 0), (2, .ref 2 0)], [(3, [.own 2000000000]), (2, [.own 2000000001])], [(2000000001, []), (2000000000, dPieces (l.take k))], []⟩) l.length ?_ ?_]
  · simp
  · simp [show dPieces [] = [] from rfl]
  · intro k hk
    have hw := w64 ((k : Int) + 1) (by omega)
    have hq := hp l[k] (List.getElem_mem hk)
    have g1 : l[k].Text.length * 8 ≤ 140737488355328 := by omega
    have g2 : l[k].Text.length ≤ 4611686018427387904 := by omega
    have g3 : min k l.length = k := by omega
    have g4 : (k + 1) * 24 ≤ 140737488355328 := by omega
    have g5 : k ≤ 4611686018427387903 := by omega
    have g6 : dPieces (l.take (k + 1)) = dPieces (l.take k) ++ [[.l (ints l[k].Text)]] := by rw [dPieces_snoc, ← List.take_succ_eq_append_getElem hk]
    simp [hk, hw, g1, g2, g3, g4, g5, g6]
theorem E_sRingOk' (l : List TPiece) (h : ringOk l = true) : M_sRingOk [.agg [.lst (some 0) (dPieces l)]] [] [] = some ⟨V.v (.bool true), [], []⟩ := by
  have hs : smL (dPieces l) = true := by
    simp only [ringOk, Bool.and_eq_true, decide_eq_true_eq] at h
    refine bnL_of (by simp; omega) fun j r e => ?_
    have hj : j < l.length := by have := (List.getElem?_eq_some_iff.1 e).1; simpa using this
    rw [dPieces_get hj] at e
    injection e with e; subst e
    have := List.all_eq_true.1 h.1 l[j] (List.getElem_mem hj)
    simp only [pieceB, textOk, Bool.and_eq_true, decide_eq_true_eq] at this
    simp only [bnR_cons, bnR_nil, bnD_l, Bool.and_true]
    exact bnL_ints (by omega)
  rw [E_sRingOk l hs, h]
theorem EX_sRingPut (l : List TPiece) (t : List Int) (how : Int) (hl : ringOk l = true) (ht : textOk t = true) (hh : 0 ≤ how ∧ how ≤ 2) : ∃ l', M_sRingPut [.agg [.lst (some 0) (dPieces l)], .lst (some 1) (ints t), V.v (.int .i64 how)] [] [] = some ⟨.tup [.agg [.own 0], V.v (.bool true)], [], [(0, dPieces l')]⟩ ∧ ringOk l' = true := by
  have hp : ∀ p ∈ l, 0 < p.Text.length ∧ p.Text.length ≤ 400 := fun p h => by
    simp only [ringOk, Bool.and_eq_true] at hl
    have := List.all_eq_true.1 hl.1 p h
    simp only [pieceB, textOk, Bool.and_eq_true, decide_eq_true_eq] at this
    exact ⟨this.1, this.2.1⟩
  have hn : l.length ≤ 6 := by simp only [ringOk, Bool.and_eq_true, decide_eq_true_eq] at hl; exact hl.2
  have htl : t.length ≤ 400 := by simp only [textOk, Bool.and_eq_true, decide_eq_true_eq] at ht; exact ht.1
  have e1 := E_sRingOk' l hl
  have e2 := E_sl15Piece t (by omega)
  rw [ht] at e2
  have e3 := E_sl15Copy l (some 0) (by omega) (fun p h => by have := (hp p h).2; omega)
  have q1 : ¬ how < 0 := by omega
  have q2 : ¬ 2 < how := by omega
  generalize hE : M_sRingPut _ _ _ = R
  unfold M_sRingPut at hE
  by_cases h0 : t = []
  · subst h0
    simp only [show ints [] = [] from rfl] at hE e2
    simp [Tryz.func35, Tryz.f35, e1, e2, e3, q1, q2] at hE
    exact ⟨l, hE.symm, hl⟩
  have g1 : t.length * 8 ≤ 140737488355328 := by omega
  have g2 : t.length ≤ 4611686018427387904 := by omega
  have hlen : 0 < t.length := List.length_pos_iff.2 h0
  have fresh : (∃ R', R = some R' ∧ R' = ⟨.tup [.agg [.own 0], V.v (.bool true)], [], [(0, dPieces ((⟨t⟩ :: l).take 6))]⟩) → ∃ l', R = some ⟨.tup [.agg [.own 0], V.v (.bool true)], [], [(0, dPieces l')]⟩ ∧ ringOk l' = true := by
    rintro ⟨_, rfl, rfl⟩
    refine ⟨_, rfl, ?_⟩
    simp only [ringOk, Bool.and_eq_true, decide_eq_true_eq] at hl ⊢
    refine ⟨List.all_eq_true.2 fun p h => ?_, by simp; omega⟩
    rcases List.mem_cons.1 (List.mem_of_mem_take h) with rfl | h
    · simp [pieceB, ht, hlen]
    · exact List.all_eq_true.1 hl.1 p h
  cases l with
  | nil =>
    simp only [show dPieces [] = [] from rfl] at hE e1 e3
    refine fresh ⟨_, ?_, rfl⟩
    have e4 : dPieces (List.take 6 [⟨t⟩]) = [[.l (ints t)]] := rfl
    rw [e4]
    have rf : rowsFlat ([] : List (List D)) = true := rfl
    by_cases h1 : how = 0
    · subst h1
      simp [Tryz.func35, Tryz.f35, e1, e2, e3, q1, q2, h0, g1, g2, rf] at hE
      exact hE.symm
    · simp [Tryz.func35, Tryz.f35, e1, e2, e3, q1, q2, h0, h1, g1, g2, rf] at hE
      exact hE.symm
  | cons p l =>
    have hpt := hp p (by simp)
    have hll : l.length ≤ 5 := by simpa using hn
    have rf : rowsFlat (dPieces (p :: l)) = false := by simp [dPieces_cons, rowsFlat, flatD]
    have g3 : (1 + (l.length + 1)) * 24 ≤ 140737488355328 := by omega
    have g4 : 1 + (l.length + 1) ≤ 4611686018427387904 := by omega
    have q3 : p.Text ≠ [] := fun e => by rw [e] at hpt; simp at hpt
    have w1 := w64 ((p.Text.length : Int) + t.length) (by omega)
    by_cases h1 : how = 0
    · subst h1
      refine fresh ⟨_, ?_, rfl⟩
      by_cases h6 : l.length = 5
      · simp [Tryz.func35, Tryz.f35, e1, e2, e3, q1, q2, h0, g1, g2, h6, rf] at hE
        exact hE.symm
      · have h6i : ¬ (6 : Int) < (l.length : Int) + 1 + 1 := by omega
        have h6t : l.take 4 = l := List.take_of_length_le (by omega)
        simp [Tryz.func35, Tryz.f35, e1, e2, e3, q1, q2, h0, g1, g2, g3, g4, h6i, rf] at hE
        rw [show List.take 6 (⟨t⟩ :: p :: l) = ⟨t⟩ :: p :: l.take 4 from rfl, h6t]
        exact hE.symm
    by_cases h7 : p.Text.length + t.length ≤ 400
    · have h7i : (p.Text.length : Int) + t.length ≤ 400 := by omega
      have j1 := E_sl13Join_n p.Text t (some 0) (some 1) (some 2) (by omega)
      have j2 := E_sl13Join_n t p.Text (some 0) (some 1) (some 2) (by omega)
      rw [dPieces_cons] at e1 e3 hE
      have tt : t.all typed = true := by simp only [textOk, Bool.and_eq_true] at ht; exact ht.2
      have hlp := hl
      simp only [ringOk, Bool.and_eq_true, decide_eq_true_eq, List.all_cons] at hlp
      have pt : p.Text.all typed = true := by have := hlp.1.1; simp only [pieceB, textOk, Bool.and_eq_true] at this; exact this.2.2
      have both : ∀ q : List Int, 0 < q.length ∧ q.length ≤ 400 → q.all typed = true → ringOk (⟨q⟩ :: l) = true := fun q h1 h2 => by
        simp only [ringOk, Bool.and_eq_true, decide_eq_true_eq, List.all_cons]
        exact ⟨⟨by simp [pieceB, textOk, h1.1, h1.2, h2], hlp.1.2⟩, hlp.2⟩
      by_cases h2 : how = 2
      · subst h2
        simp [Tryz.func35, Tryz.f35, e1, e2, e3, h0, g1, g2, w1, h7i, j1, j2] at hE
        rw [← ints_app] at hE
        exact ⟨⟨t ++ p.Text⟩ :: l, hE.symm, both (t ++ p.Text) (by simp; omega) (by simp [tt, pt])⟩
      · simp [Tryz.func35, Tryz.f35, e1, e2, e3, q1, q2, h0, h1, h2, g1, g2, w1, h7i, j1] at hE
        rw [← ints_app] at hE
        exact ⟨⟨p.Text ++ t⟩ :: l, hE.symm, both (p.Text ++ t) (by simp; omega) (by simp [tt, pt])⟩
    · refine fresh ⟨_, ?_, rfl⟩
      have h7i : ¬ (p.Text.length : Int) + t.length ≤ 400 := by omega
      by_cases h6 : l.length = 5
      · simp [Tryz.func35, Tryz.f35, e1, e2, e3, q1, q2, h0, h1, g1, g2, w1, h7i, h6, rf] at hE
        exact hE.symm
      · have h6i : ¬ (6 : Int) < (l.length : Int) + 1 + 1 := by omega
        have h6t : l.take 4 = l := List.take_of_length_le (by omega)
        simp [Tryz.func35, Tryz.f35, e1, e2, e3, q1, q2, h0, h1, g1, g2, g3, g4, w1, h7i, h6i, rf] at hE
        rw [show List.take 6 (⟨t⟩ :: p :: l) = ⟨t⟩ :: p :: l.take 4 from rfl, h6t]
        exact hE.symm
theorem EX_sl15Ring (b : List UInt8) (i h : Int) (hb : b.length ≤ 1048576) (hi : 0 ≤ i ∧ i ≤ b.length) : ∃ (l : List TPiece) (i' h' : Int), M_sl15Ring [.ref 0 0] [curV b i h] [] = some ⟨.agg [.own 0], [curV b i' h'], [(0, dPieces l)]⟩ ∧ ringOk l = true ∧ 0 ≤ i' ∧ i' ≤ b.length := by
  obtain ⟨k, i1, h1, e1, r1, j1⟩ := EX_sl01Below b i h 8 hb hi (by omega)
  obtain ⟨m, rfl⟩ := Int.eq_ofNat_of_zero_le r1.1
  unfold curV at e1
  generalize hE : M_sl15Ring _ _ _ = R
  unfold M_sl15Ring curV at hE
  simp [Tryz.func17, Tryz.f17, e1] at hE
  generalize hL : loopV _ _ = L at hE
  obtain ⟨⟨l, i2, h2⟩, ⟨a1, a2⟩, e⟩ := loopV_ex hL (σ := List TPiece × Int × Int) (fun j a => .on ⟨[(4, V.v (.int .i64 ((m : Int) - j))), (3, .ref 3 0), (2, .ref 2 0), (0, .ref 1000000000 0)], [(1000000000, [.lst (some 0) (byts b), V.v (.int .i64 a.2.1), V.v (.int .i64 a.2.2)]), (3, [.own 2000000000]), (2, [.own 2000000001])], [(2000000001, []), (2000000000, dPieces a.1)], []⟩) m (fun j a => ringOk a.1 = true ∧ 0 ≤ a.2.1 ∧ a.2.1 ≤ b.length) ([], i1, h1) (by simp [show dPieces [] = [] from rfl]) ⟨rfl, j1⟩ (fun j a hj ⟨p1, p3⟩ => by
    obtain ⟨l, i2, h2⟩ := a
    simp only at p1 p3
    obtain ⟨t, i3, h3, e3, q1, q2, j3⟩ := EX_sl13Runes b i2 h2 5 hb p3 (by omega)
    obtain ⟨x, i4, h4, e4, q3, j4⟩ := EX_sl01Below b i3 h3 3 hb j3 (by omega)
    have tx : textOk t = true := by simp only [textOk, Bool.and_eq_true, decide_eq_true_eq]; exact ⟨by omega, q1⟩
    obtain ⟨l', e5, q4⟩ := EX_sRingPut l t x p1 tx (by omega)
    unfold curV at e3 e4
    have g : (0 : Int) < (m : Int) - j := by omega
    have hw2 : (m : Int) - j - 1 = (m : Int) - ((j : Int) + 1) := by omega
    have hw := w64 ((m : Int) - ((j : Int) + 1)) (by omega)
    refine ⟨(l', i4, h4), ⟨q4, j4⟩, ?_⟩
    simp [hj, e3, e4, e5, hw2, hw])
  subst e
  simp at hE
  simp only at a1 a2
  exact ⟨l, i2, h2, hE.symm, a1, a2⟩
theorem E_sEdNew (vi : Bool) : M_sEdNew [V.v (.bool vi)] [] [] = some ⟨.agg [V.v (.bool vi), V.v (.int .i64 (if vi then 1 else 0)), .own 0, V.v (.int .i64 0), V.v (.int .i64 0), V.v (.int .i64 0), V.v (.int .i64 0), V.v (.int .i64 0), V.v (.int .i64 0), V.v (.int .i64 0), V.v (.int .i64 0), .own 1, .own 2, V.v (.int .i64 0), .own 3, V.v (.int .i64 0), .own 4, V.v (.int .i64 0), .own 5, V.v (.int .i64 0)], [], [(0, []), (1, []), (2, []), (3, []), (4, []), (5, [])]⟩ := by
  unfold M_sEdNew
  cases vi <;> simp [Tryz.func15, Tryz.f15]
end Go.Proofs.YtjhdikdopdcfcaaGreatDoor
namespace Go.Proofs.YtjhdikdopdcfcaaGreatDoor
open Go.RowKit
set_option linter.unusedSimpArgs false
set_option linter.unusedVariables false
set_option maxHeartbeats 4000000
set_option maxRecDepth 10000
def by8 (x : Int) : UInt8 := UInt8.ofNat x.toNat
theorem u8_in (x : Int) (h : 0 ≤ x ∧ x ≤ 255) : IntKind.u8.wrap x = x := by
  simp [IntKind.wrap, IntKind.bits, IntKind.signed]; omega
theorem u8_by8 (x : Int) (h : 0 ≤ x ∧ x ≤ 255) : IntKind.u8.wrap x = ((by8 x).toNat : Int) := by
  rw [u8_in x h]
  unfold by8
  rw [UInt8.toNat_ofNat']
  omega
def runeBytes (r : Int) : List UInt8 :=
  if runeOk r = false then [] else if r < 128 then [by8 r] else if r < 2048 then [by8 (192 + r / 64), by8 (128 + r % 64)]
  else if r < 65536 then [by8 (224 + r / 4096), by8 (128 + r / 64 % 64), by8 (128 + r % 64)]
  else [by8 (240 + r / 262144), by8 (128 + r / 4096 % 64), by8 (128 + r / 64 % 64), by8 (128 + r % 64)]
theorem runeOk_range {r : Int} (h : runeOk r = true) : 0 ≤ r ∧ r ≤ 1114111 := by
  simp only [runeOk, Bool.and_eq_true] at h
  exact inR_of h.1
theorem byts_of (l : List UInt8) : byts l = l.map fun c => [D.a (.int .u8 (c.toNat : Int))] := rfl
theorem E_iRuneBytes (r : Int) : M_iRuneBytes [V.v (.int .i64 r)] [] [] = some ⟨.own 0, [], [(0, byts (runeBytes r))]⟩ := by
  unfold M_iRuneBytes
  cases h1 : runeOk r
  · simp [Tryz.func51, Tryz.f51, E_iRuneOk, h1, runeBytes, byts_of]
  obtain ⟨a, b⟩ := runeOk_range h1
  have d1 := Int.tdiv_eq_ediv_of_nonneg a (b := 64)
  have d2 := Int.tdiv_eq_ediv_of_nonneg a (b := 4096)
  have d3 := Int.tdiv_eq_ediv_of_nonneg a (b := 262144)
  have m1 := Int.tmod_eq_emod_of_nonneg a (b := 64)
  have m2 := Int.tmod_eq_emod_of_nonneg (show 0 ≤ r / 64 by omega) (b := 64)
  have m3 := Int.tmod_eq_emod_of_nonneg (show 0 ≤ r / 4096 by omega) (b := 64)
  have w1 := w64 (r / 64) (by omega)
  have w2 := w64 (r / 4096) (by omega)
  have w3 := w64 (r / 262144) (by omega)
  have v1 := w64 (128 + r % 64) (by omega)
  have v2 := w64 (128 + r / 64 % 64) (by omega)
  have v3 := w64 (128 + r / 4096 % 64) (by omega)
  have u1 := u8_by8 (128 + r % 64) (by omega)
  have u2 := u8_by8 (128 + r / 64 % 64) (by omega)
  have u3 := u8_by8 (128 + r / 4096 % 64) (by omega)
  by_cases h2 : r < 128
  · simp [Tryz.func51, Tryz.f51, E_iRuneOk, h1, runeBytes, h2, byts_of, u8_by8 r (by omega)]
  by_cases h3 : r < 2048
  · have x1 := w64 (192 + r / 64) (by omega)
    have x2 := u8_by8 (192 + r / 64) (by omega)
    simp [Tryz.func51, Tryz.f51, E_iRuneOk, h1, runeBytes, h2, h3, byts_of, d1, m1, w1, v1, u1, x1, x2]
  by_cases h4 : r < 65536
  · have x1 := w64 (224 + r / 4096) (by omega)
    have x2 := u8_by8 (224 + r / 4096) (by omega)
    simp [Tryz.func51, Tryz.f51, E_iRuneOk, h1, runeBytes, h2, h3, h4, byts_of, d1, d2, m1, m2, w1, w2, v1, v2, u1, u2, x1, x2]
  have x1 := w64 (240 + r / 262144) (by omega)
  have x2 := u8_by8 (240 + r / 262144) (by omega)
  simp [Tryz.func51, Tryz.f51, E_iRuneOk, h1, runeBytes, h2, h3, h4, byts_of, d1, d2, d3, m1, m2, m3, w1, w2, w3, v1, v2, v3, u1, u2, u3, x1, x2]
end Go.Proofs.YtjhdikdopdcfcaaGreatDoor
namespace Go.Proofs.YtjhdikdopdcfcaaGreatDoor
open Go.RowKit
set_option linter.unusedSimpArgs false
set_option linter.unusedVariables false
set_option maxHeartbeats 4000000
set_option maxRecDepth 10000
def textOf (l : List Int) : List UInt8 := l.flatMap runeBytes
theorem runeBytes_len (r : Int) : (runeBytes r).length ≤ 4 := by
  unfold runeBytes
  split
  · simp
  split
  · simp
  split
  · simp
  split <;> simp
theorem textOf_len (l : List Int) : (textOf l).length ≤ 4 * l.length := by
  induction l with
  | nil => simp [textOf]
  | cons r l ih =>
    have := runeBytes_len r
    simp only [textOf, List.flatMap_cons, List.length_append, List.length_cons] at ih ⊢; omega
theorem textOf_take {l : List Int} {j : Nat} (h : j < l.length) : textOf (l.take (j + 1)) = textOf (l.take j) ++ runeBytes l[j] := by
  unfold textOf
  rw [List.take_add_one, List.getElem?_eq_getElem h, List.flatMap_append]; simp
theorem bytes_of_byts : ∀ (l : List UInt8), mapSome bytesOfRow (byts l) = some l
  | [] => rfl
  | c :: l => by
    rw [show byts (c :: l) = [D.a (.int .u8 (c.toNat : Int))] :: byts l from rfl]
    have h : UInt8.ofNat ((c.toNat : Int)).toNat = c := by simp
    simp only [mapSome, bytesOfRow, bnd_some, bytes_of_byts l, h]
theorem E_iTextOf (l : List Int) (hl : l.length ≤ 1000000000) : M_iTextOf [.lst (some 0) (ints l)] [] [] = some ⟨V.v (.string (⟨(textOf l).toArray⟩)), [], []⟩ := by
  unfold M_iTextOf
  simp [Tryz.func33, Tryz.f33]
  rw [loopV_go (fun j => .on ⟨[(8, V.v (.int .i64 ((j : Int)))), (7, V.v (.int .i64 ((l.length : Int)))), (6, .lst (some 0) (ints l)), (3, .own 2000000000)], [], [(2000000000, byts (textOf (l.take j)))], []⟩) l.length ?_ ?_]
  · simp [bytes_of_byts]
  · simp [textOf, byts_of]
  · intro j hj
    have hw := w64 (j + 1) (by omega)
    have h1 : (textOf (l.take j)).length ≤ 4000000000 := by
      have := textOf_len (l.take j)
      have e : (l.take j).length ≤ l.length := by simp; omega
      omega
    have h2 := runeBytes_len l[j]
    have h3 := textOf_take hj
    simp [hj, hw, ints_get hj, E_iRuneBytes]
    simp (disch := omega) only [grd_pos]
    simp [hw, h3]
end Go.Proofs.YtjhdikdopdcfcaaGreatDoor
namespace Go.Proofs.YtjhdikdopdcfcaaGreatDoor
open Go.RowKit
set_option linter.unusedSimpArgs false
set_option linter.unusedVariables false
set_option maxHeartbeats 4000000
set_option maxRecDepth 10000
theorem by8_nat {x : Int} (h : 0 ≤ x ∧ x ≤ 255) : ((by8 x).toNat : Int) = x := by
  rw [← u8_by8 x h, u8_in x h]
theorem by8_of (c : UInt8) : by8 (c.toNat : Int) = c := by simp [by8]
def nat8 (b : List UInt8) (i : Nat) : Int := ((b[i]?.getD 0).toNat : Int)
def val (b : List UInt8) : Nat → Int
  | 1 => nat8 b 0
  | 2 => (nat8 b 0 - 192) * 64 + nat8 b 1 - 128
  | 3 => ((nat8 b 0 - 224) * 64 + nat8 b 1 - 128) * 64 + nat8 b 2 - 128
  | 4 => (((nat8 b 0 - 240) * 64 + nat8 b 1 - 128) * 64 + nat8 b 2 - 128) * 64 + nat8 b 3 - 128
  | _ => 0
def cls (c : Int) : Nat := if c < 128 then 1 else if inR c 192 223 then 2 else if inR c 224 239 then 3 else if inR c 240 247 then 4 else 0
def dec : List UInt8 → Option (Int × Nat)
  | [] => none
  | c :: l => if cls (nat8 (c :: l) 0) ≠ 0 ∧ cls (nat8 (c :: l) 0) ≤ (c :: l).length ∧ runeBytes (val (c :: l) (cls (nat8 (c :: l) 0))) = (c :: l).take (cls (nat8 (c :: l) 0)) then some (val (c :: l) (cls (nat8 (c :: l) 0)), cls (nat8 (c :: l) 0)) else none
theorem dec_cons (c : UInt8) (l : List UInt8) : dec (c :: l) = if cls (nat8 (c :: l) 0) ≠ 0 ∧ cls (nat8 (c :: l) 0) ≤ (c :: l).length ∧ runeBytes (val (c :: l) (cls (nat8 (c :: l) 0))) = (c :: l).take (cls (nat8 (c :: l) 0)) then some (val (c :: l) (cls (nat8 (c :: l) 0)), cls (nat8 (c :: l) 0)) else none := rfl
theorem runeBytes_cases {r : Int} (h : runeOk r = true) :
    (0 ≤ r ∧ r < 128 ∧ runeBytes r = [by8 r]) ∨ (128 ≤ r ∧ r < 2048 ∧ runeBytes r = [by8 (192 + r / 64), by8 (128 + r % 64)]) ∨
    (2048 ≤ r ∧ r < 65536 ∧ runeBytes r = [by8 (224 + r / 4096), by8 (128 + r / 64 % 64), by8 (128 + r % 64)]) ∨
    (65536 ≤ r ∧ r ≤ 1114111 ∧ runeBytes r = [by8 (240 + r / 262144), by8 (128 + r / 4096 % 64), by8 (128 + r / 64 % 64), by8 (128 + r % 64)]) := by
  obtain ⟨a, b⟩ := runeOk_range h
  by_cases h1 : r < 128
  · exact .inl ⟨a, h1, by simp [runeBytes, h, h1]⟩
  by_cases h2 : r < 2048
  · exact .inr (.inl ⟨by omega, h2, by simp [runeBytes, h, h1, h2]⟩)
  by_cases h3 : r < 65536
  · exact .inr (.inr (.inl ⟨by omega, h3, by simp [runeBytes, h, h1, h2, h3]⟩))
  · exact .inr (.inr (.inr ⟨by omega, b, by simp [runeBytes, h, h1, h2, h3]⟩))
theorem dec_rune {r : Int} (h : runeOk r = true) (t : List UInt8) : dec (runeBytes r ++ t) = some (r, (runeBytes r).length) := by
  rcases runeBytes_cases h with ⟨a, b, e⟩ | ⟨a, b, e⟩ | ⟨a, b, e⟩ | ⟨a, b, e⟩
  · have h0 := by8_nat (x := r) (by omega)
    have hc : cls r = 1 := by simp [cls, b]
    rw [e]
    simp [dec, nat8, h0, hc, val, e]
  · have h0 := by8_nat (x := 192 + r / 64) (by omega)
    have h1 := by8_nat (x := 128 + r % 64) (by omega)
    have hc : cls (192 + r / 64) = 2 := by
      have : ¬ 192 + r / 64 < 128 := by omega
      have i1 : inR (192 + r / 64) 192 223 = true := inR_iff.2 (by omega)
      simp [cls, this, i1]
    have hv : (192 + r / 64 - 192) * 64 + (128 + r % 64) - 128 = r := by omega
    rw [e]
    simp [dec, nat8, h0, h1, hc, val, hv, e]
  · have h0 := by8_nat (x := 224 + r / 4096) (by omega)
    have h1 := by8_nat (x := 128 + r / 64 % 64) (by omega)
    have h2 := by8_nat (x := 128 + r % 64) (by omega)
    have hc : cls (224 + r / 4096) = 3 := by
      have : ¬ 224 + r / 4096 < 128 := by omega
      have i1 : inR (224 + r / 4096) 192 223 = false := inR_no (by rw [inR_iff]; omega)
      have i2 : inR (224 + r / 4096) 224 239 = true := inR_iff.2 (by omega)
      simp [cls, this, i1, i2]
    have hv : ((224 + r / 4096 - 224) * 64 + (128 + r / 64 % 64) - 128) * 64 + (128 + r % 64) - 128 = r := by omega
    rw [e]
    simp [dec, nat8, h0, h1, h2, hc, val, hv, e]
  · have h0 := by8_nat (x := 240 + r / 262144) (by omega)
    have h1 := by8_nat (x := 128 + r / 4096 % 64) (by omega)
    have h2 := by8_nat (x := 128 + r / 64 % 64) (by omega)
    have h3 := by8_nat (x := 128 + r % 64) (by omega)
    have hc : cls (240 + r / 262144) = 4 := by
      have : ¬ 240 + r / 262144 < 128 := by omega
      have i1 : inR (240 + r / 262144) 192 223 = false := inR_no (by rw [inR_iff]; omega)
      have i2 : inR (240 + r / 262144) 224 239 = false := inR_no (by rw [inR_iff]; omega)
      have i3 : inR (240 + r / 262144) 240 247 = true := inR_iff.2 (by omega)
      simp [cls, this, i1, i2, i3]
    have hv : (((240 + r / 262144 - 240) * 64 + (128 + r / 4096 % 64) - 128) * 64 + (128 + r / 64 % 64) - 128) * 64 + (128 + r % 64) - 128 = r := by omega
    rw [e]
    simp [dec, nat8, h0, h1, h2, h3, hc, val, hv, e]
theorem runeBytes_ok {r : Int} (h : runeBytes r ≠ []) : runeOk r = true := by
  cases e : runeOk r
  · exact absurd (by simp [runeBytes, e]) h
  · rfl
theorem dec_some {b : List UInt8} {r : Int} {n : Nat} (h : dec b = some (r, n)) : runeOk r = true ∧ runeBytes r = b.take n ∧ n ≤ b.length ∧ n = (runeBytes r).length ∧ 1 ≤ n := by
  cases b with
  | nil => cases h
  | cons c l =>
    rw [dec_cons] at h
    by_cases hc : cls (nat8 (c :: l) 0) ≠ 0 ∧ cls (nat8 (c :: l) 0) ≤ (c :: l).length ∧ runeBytes (val (c :: l) (cls (nat8 (c :: l) 0))) = (c :: l).take (cls (nat8 (c :: l) 0))
    · rw [if_pos hc] at h
      obtain ⟨h1, h2, h3⟩ := hc
      simp only [Option.some.injEq, Prod.mk.injEq] at h
      obtain ⟨e1, e2⟩ := h
      rw [e1, e2] at h3
      rw [e2] at h1 h2
      have hlen : (runeBytes r).length = n := by rw [h3]; simp only [List.length_take]; omega
      exact ⟨runeBytes_ok (fun e => by rw [e] at hlen; simp at hlen; omega), h3, h2, hlen.symm, by omega⟩
    · rw [if_neg hc] at h; cases h
def Reads (b : List UInt8) (l : List Int) (rest : List UInt8) : Prop := b = textOf l ++ rest ∧ (∀ r ∈ l, runeOk r = true) ∧ dec rest = none
theorem reads_ex : ∀ (n : Nat) (b : List UInt8), b.length ≤ n → ∃ l rest, Reads b l rest
  | 0, b, h => ⟨[], [], by cases b with
    | nil => exact ⟨rfl, by simp, rfl⟩
    | cons c l => simp at h⟩
  | n + 1, b, h => by
    cases e : dec b with
    | none => exact ⟨[], b, rfl, by simp, e⟩
    | some x =>
      obtain ⟨r, k⟩ := x
      obtain ⟨a1, a2, a3, a4, a5⟩ := dec_some e
      obtain ⟨l, rest, h1, h2, h3⟩ := reads_ex n (b.drop k) (by simp only [List.length_drop]; omega)
      refine ⟨r :: l, rest, ?_, ?_, h3⟩
      · rw [textOf, List.flatMap_cons, a2, List.append_assoc, ← textOf, ← h1, List.take_append_drop]
      · intro x hx
        rcases List.mem_cons.1 hx with rfl | hx
        · exact a1
        · exact h2 x hx
theorem Reads.at {b : List UInt8} {l : List Int} {rest : List UInt8} (h : Reads b l rest) {j : Nat} (hj : j < l.length) :
    (textOf (l.take j)).length < b.length ∧ dec (b.drop (textOf (l.take j)).length) = some (l[j], (runeBytes l[j]).length) ∧ (textOf (l.take j)).length + (runeBytes l[j]).length = (textOf (l.take (j + 1))).length := by
  obtain ⟨h1, h2, h3⟩ := h
  have ok := h2 l[j] (List.getElem_mem hj)
  have e : l = l.take j ++ l[j] :: l.drop (j + 1) := by
    rw [List.getElem_cons_drop, List.take_append_drop]
  have e2 : textOf l = textOf (l.take j) ++ (runeBytes l[j] ++ textOf (l.drop (j + 1))) := by
    conv => lhs; rw [e]
    unfold textOf
    rw [List.flatMap_append, List.flatMap_cons]
  have e3 : b.drop (textOf (l.take j)).length = runeBytes l[j] ++ (textOf (l.drop (j + 1)) ++ rest) := by
    rw [h1, e2, List.append_assoc, List.drop_left, List.append_assoc]
  have hpos : 1 ≤ (runeBytes l[j]).length := by
    rcases runeBytes_cases ok with ⟨_, _, e⟩ | ⟨_, _, e⟩ | ⟨_, _, e⟩ | ⟨_, _, e⟩ <;> rw [e] <;> simp
  refine ⟨?_, ?_, ?_⟩
  · rw [h1, e2]; simp only [List.length_append]; omega
  · rw [e3]; exact dec_rune ok _
  · rw [textOf_take hj, List.length_append]
theorem Reads.end {b : List UInt8} {l : List Int} {rest : List UInt8} (h : Reads b l rest) : b.drop (textOf l).length = rest ∧ (textOf l).length + rest.length = b.length := by
  obtain ⟨h1, h2, h3⟩ := h
  subst h1
  exact ⟨List.drop_left, by simp⟩
theorem Reads.len {b : List UInt8} {l : List Int} {rest : List UInt8} (h : Reads b l rest) : l.length ≤ b.length := by
  obtain ⟨h1, h2, h3⟩ := h
  subst h1
  have : ∀ l : List Int, (∀ r ∈ l, runeOk r = true) → l.length ≤ (textOf l).length := by
    intro l; induction l with
    | nil => intro _; simp
    | cons r l ih =>
      intro hl
      have := ih fun x hx => hl x (List.mem_cons_of_mem _ hx)
      have hpos : 1 ≤ (runeBytes r).length := by
        rcases runeBytes_cases (hl r (List.mem_cons_self ..)) with ⟨_, _, e⟩ | ⟨_, _, e⟩ | ⟨_, _, e⟩ | ⟨_, _, e⟩ <;> rw [e] <;> simp
      simp only [textOf, List.flatMap_cons, List.length_append, List.length_cons] at this ⊢; omega
  have := this l h2
  simp only [List.length_append]; omega
end Go.Proofs.YtjhdikdopdcfcaaGreatDoor
namespace Go.Proofs.YtjhdikdopdcfcaaGreatDoor
open Go.RowKit
set_option linter.unusedSimpArgs false
set_option linter.unusedVariables false
set_option maxHeartbeats 8000000
set_option maxRecDepth 10000
theorem nat8_drop {b : List UInt8} {k i : Nat} (h : k + i < b.length) : nat8 (b.drop k) i = (b[k + i].toNat : Int) := by
  unfold nat8
  rw [List.getElem?_drop, List.getElem?_eq_getElem h]; rfl
theorem nat8_drop0 {b : List UInt8} {k : Nat} (h : k < b.length) : nat8 (b.drop k) 0 = (b[k].toNat : Int) := nat8_drop (i := 0) h
theorem dec_at {b : List UInt8} {k : Nat} (h : k < b.length) : dec (b.drop k) = if cls (b[k].toNat : Int) ≠ 0 ∧ k + cls (b[k].toNat : Int) ≤ b.length ∧ runeBytes (val (b.drop k) (cls (b[k].toNat : Int))) = (b.drop k).take (cls (b[k].toNat : Int)) then some (val (b.drop k) (cls (b[k].toNat : Int)), cls (b[k].toNat : Int)) else none := by
  have e : b.drop k = b[k] :: b.drop (k + 1) := (List.drop_eq_getElem_cons h)
  have hn := nat8_drop0 h
  rw [e] at hn ⊢
  rw [dec_cons, hn]
  have hl : (b[k] :: b.drop (k + 1)).length = b.length - k := by rw [← e, List.length_drop]
  rw [hl]
  congr 1
  simp only [eq_iff_iff]
  constructor
  · rintro ⟨a, b, c⟩; exact ⟨a, by omega, c⟩
  · rintro ⟨a, b, c⟩; exact ⟨a, by omega, c⟩
theorem cut1 {b : List UInt8} {k : Nat} (h : k < b.length) : (b.drop k).take 1 = [b[k]] := by
  rw [List.drop_eq_getElem_cons h]; rfl
theorem cut2 {b : List UInt8} {k : Nat} (h : k + 1 < b.length) : (b.drop k).take 2 = [b[k], b[k + 1]] := by
  rw [List.drop_eq_getElem_cons (by omega : k < b.length), List.take_succ_cons, cut1 h]
theorem cut3 {b : List UInt8} {k : Nat} (h : k + 2 < b.length) : (b.drop k).take 3 = [b[k], b[k + 1], b[k + 2]] := by
  rw [List.drop_eq_getElem_cons (by omega : k < b.length), List.take_succ_cons, cut2 (by omega)]
theorem cut4 {b : List UInt8} {k : Nat} (h : k + 3 < b.length) : (b.drop k).take 4 = [b[k], b[k + 1], b[k + 2], b[k + 3]] := by
  rw [List.drop_eq_getElem_cons (by omega : k < b.length), List.take_succ_cons, cut3 (by omega)]
def decR : Option (Int × Nat) → Int
  | some x => x.1
  | none => 0
def decN : Option (Int × Nat) → Int
  | some x => x.2
  | none => 0
theorem E_iRuneRead (b : List UInt8) (k : Nat) (hk : k < b.length) (hb : b.length ≤ 1000000000) : M_iRuneRead [.lst (some 0) (byts b), V.v (.int .i64 ((k : Int)))] [] [] = some ⟨.tup [V.v (.int .i64 (decR (dec (b.drop k)))), V.v (.int .i64 (decN (dec (b.drop k))))], [], []⟩ := by
  unfold M_iRuneRead
  have hc := b[k].toNat_lt
  have h1 : ¬ ((b.length : Int) ≤ k) := by omega
  have h0 : ¬ ((k : Int) < 0) := by omega
  have w0 := w64 (b[k].toNat : Int) (by omega)
  rw [dec_at hk]
  generalize hx : (b[k].toNat : Int) = x at w0
  have hx0 : 0 ≤ x ∧ x ≤ 255 := by omega
  have hxo : UInt8.ofNat x.toNat = b[k] := by rw [← hx]; simp
  by_cases c1 : x < 128
  · have e1 : cls x = 1 := by simp [cls, c1]
    have hok : runeOk x = true := by
      have i1 : inR x 0 1114111 = true := inR_iff.2 (by omega)
      have i2 : inR x 55296 57343 = false := inR_no (by rw [inR_iff]; omega)
      simp [runeOk, i1, i2]
    have e2 : val (b.drop k) 1 = x := by rw [val, nat8_drop0 hk, hx]
    have e3 : runeBytes x = (b.drop k).take 1 := by
      rw [cut1 hk]; simp [runeBytes, hok, c1]; rw [← hx, by8_of]
    have e4 : k + 1 ≤ b.length := hk
    simp [Tryz.func59, Tryz.f59, h0, h1, hk, byts_get hk, hx, w0, c1, e1, e2, e3, e4, decR, decN]
  by_cases c2 : inR x 192 223 = true
  · have e1 : cls x = 2 := by simp [cls, c1, c2]
    obtain ⟨a1, a2⟩ := inR_of c2
    have w1 := w64 (x - 192) (by omega)
    have w2 := w64 ((b.length : Int) - 2) (by omega)
    by_cases e4 : k + 2 ≤ b.length
    · have e5 : ¬ ((b.length : Int) - 2 < k) := by omega
      have w3 := w64 ((k : Int) + 1) (by omega)
      have w4 := w64 ((k : Int) + 2) (by omega)
      have f1 : (0 : Int) ≤ (k : Int) + 1 := by omega
      have f2 : (k : Int) + 2 ≤ b.length := by omega
      have f3 : ((k : Int) + 2).toNat = k + 2 := by omega
      have f4 : k + 2 - (k + 1) = 1 := by omega
      have f5 : k + 2 - k = 2 := by omega
      have f7 : (k : Int) ≤ (k : Int) + 2 := by omega
      have f8 : (k : Int) + 1 ≤ (k : Int) + 2 := by omega
      have g1 : k + 1 < b.length := by omega
      have r1 := b[k + 1].toNat_lt
      have p1 := w64 (b[k + 1].toNat : Int) (by omega)
      have q10 := w64 ((x - 192) * 64) (by omega)
      have q11 := w64 ((x - 192) * 64 + (b[k + 1].toNat : Int)) (by omega)
      have q12 := w64 ((x - 192) * 64 + (b[k + 1].toNat : Int) - 128) (by omega)
      have v1 : val (b.drop k) 2 = (x - 192) * 64 + (b[k + 1].toNat : Int) - 128 := by rw [val, nat8_drop0 hk, nat8_drop g1, hx]
      have z0 : runeBytes ((x - 192) * 64 + (b[k + 1].toNat : Int) - 128) = [b[k], b[k + 1]] ∨ runeBytes ((x - 192) * 64 + (b[k + 1].toNat : Int) - 128) ≠ [b[k], b[k + 1]] := Decidable.em _
      rcases z0 with z | z
      · simp [Tryz.func59, Tryz.f59, h0, h1, hk, byts_get hk, hx, w0, c1, c2, e1, e4, e5, w1, w2, w3, w4, decR, decN, E_iin, f1, f2, f3, f4, f5, f7, f8, cut1 (k := k + 1) g1, cut2 g1, byts_cons, byts_nil, loopV_unf, p1, q10, q11, q12, E_iRuneBytes, bytes_of_byts, v1, z, hxo]
      · simp [Tryz.func59, Tryz.f59, h0, h1, hk, byts_get hk, hx, w0, c1, c2, e1, e4, e5, w1, w2, w3, w4, decR, decN, E_iin, f1, f2, f3, f4, f5, f7, f8, cut1 (k := k + 1) g1, cut2 g1, byts_cons, byts_nil, loopV_unf, p1, q10, q11, q12, E_iRuneBytes, bytes_of_byts, v1, z, hxo]
    · have e5 : (b.length : Int) - 2 < k := by omega
      simp [Tryz.func59, Tryz.f59, h0, h1, hk, byts_get hk, hx, w0, c1, c2, e1, e4, e5, w1, w2, decR, decN, E_iin]
  by_cases c3 : inR x 224 239 = true
  · have e1 : cls x = 3 := by simp [cls, c1, c2, c3]
    obtain ⟨a1, a2⟩ := inR_of c3
    have w1 := w64 (x - 224) (by omega)
    have w2 := w64 ((b.length : Int) - 3) (by omega)
    by_cases e4 : k + 3 ≤ b.length
    · have e5 : ¬ ((b.length : Int) - 3 < k) := by omega
      have w3 := w64 ((k : Int) + 1) (by omega)
      have w4 := w64 ((k : Int) + 3) (by omega)
      have f1 : (0 : Int) ≤ (k : Int) + 1 := by omega
      have f2 : (k : Int) + 3 ≤ b.length := by omega
      have f3 : ((k : Int) + 3).toNat = k + 3 := by omega
      have f4 : k + 3 - (k + 1) = 2 := by omega
      have f5 : k + 3 - k = 3 := by omega
      have f7 : (k : Int) ≤ (k : Int) + 3 := by omega
      have f8 : (k : Int) + 1 ≤ (k : Int) + 3 := by omega
      have g1 : k + 1 < b.length := by omega
      have r1 := b[k + 1].toNat_lt
      have p1 := w64 (b[k + 1].toNat : Int) (by omega)
      have g2 : k + 2 < b.length := by omega
      have r2 := b[k + 2].toNat_lt
      have p2 := w64 (b[k + 2].toNat : Int) (by omega)
      have q10 := w64 ((x - 224) * 64) (by omega)
      have q11 := w64 ((x - 224) * 64 + (b[k + 1].toNat : Int)) (by omega)
      have q12 := w64 ((x - 224) * 64 + (b[k + 1].toNat : Int) - 128) (by omega)
      have q20 := w64 (((x - 224) * 64 + (b[k + 1].toNat : Int) - 128) * 64) (by omega)
      have q21 := w64 (((x - 224) * 64 + (b[k + 1].toNat : Int) - 128) * 64 + (b[k + 2].toNat : Int)) (by omega)
      have q22 := w64 (((x - 224) * 64 + (b[k + 1].toNat : Int) - 128) * 64 + (b[k + 2].toNat : Int) - 128) (by omega)
      have v1 : val (b.drop k) 3 = ((x - 224) * 64 + (b[k + 1].toNat : Int) - 128) * 64 + (b[k + 2].toNat : Int) - 128 := by rw [val, nat8_drop0 hk, nat8_drop g1, nat8_drop g2, hx]
      have z0 : runeBytes (((x - 224) * 64 + (b[k + 1].toNat : Int) - 128) * 64 + (b[k + 2].toNat : Int) - 128) = [b[k], b[k + 1], b[k + 2]] ∨ runeBytes (((x - 224) * 64 + (b[k + 1].toNat : Int) - 128) * 64 + (b[k + 2].toNat : Int) - 128) ≠ [b[k], b[k + 1], b[k + 2]] := Decidable.em _
      rcases z0 with z | z
      · simp [Tryz.func59, Tryz.f59, h0, h1, hk, byts_get hk, hx, w0, c1, c2, c3, e1, e4, e5, w1, w2, w3, w4, decR, decN, E_iin, f1, f2, f3, f4, f5, f7, f8, cut2 (k := k + 1) g2, cut3 g2, byts_cons, byts_nil, loopV_unf, p1, p2, q10, q11, q12, q20, q21, q22, E_iRuneBytes, bytes_of_byts, v1, z, hxo]
      · simp [Tryz.func59, Tryz.f59, h0, h1, hk, byts_get hk, hx, w0, c1, c2, c3, e1, e4, e5, w1, w2, w3, w4, decR, decN, E_iin, f1, f2, f3, f4, f5, f7, f8, cut2 (k := k + 1) g2, cut3 g2, byts_cons, byts_nil, loopV_unf, p1, p2, q10, q11, q12, q20, q21, q22, E_iRuneBytes, bytes_of_byts, v1, z, hxo]
    · have e5 : (b.length : Int) - 3 < k := by omega
      simp [Tryz.func59, Tryz.f59, h0, h1, hk, byts_get hk, hx, w0, c1, c2, c3, e1, e4, e5, w1, w2, decR, decN, E_iin]
  by_cases c4 : inR x 240 247 = true
  · have e1 : cls x = 4 := by simp [cls, c1, c2, c3, c4]
    obtain ⟨a1, a2⟩ := inR_of c4
    have w1 := w64 (x - 240) (by omega)
    have w2 := w64 ((b.length : Int) - 4) (by omega)
    by_cases e4 : k + 4 ≤ b.length
    · have e5 : ¬ ((b.length : Int) - 4 < k) := by omega
      have w3 := w64 ((k : Int) + 1) (by omega)
      have w4 := w64 ((k : Int) + 4) (by omega)
      have f1 : (0 : Int) ≤ (k : Int) + 1 := by omega
      have f2 : (k : Int) + 4 ≤ b.length := by omega
      have f3 : ((k : Int) + 4).toNat = k + 4 := by omega
      have f4 : k + 4 - (k + 1) = 3 := by omega
      have f5 : k + 4 - k = 4 := by omega
      have f7 : (k : Int) ≤ (k : Int) + 4 := by omega
      have f8 : (k : Int) + 1 ≤ (k : Int) + 4 := by omega
      have g1 : k + 1 < b.length := by omega
      have r1 := b[k + 1].toNat_lt
      have p1 := w64 (b[k + 1].toNat : Int) (by omega)
      have g2 : k + 2 < b.length := by omega
      have r2 := b[k + 2].toNat_lt
      have p2 := w64 (b[k + 2].toNat : Int) (by omega)
      have g3 : k + 3 < b.length := by omega
      have r3 := b[k + 3].toNat_lt
      have p3 := w64 (b[k + 3].toNat : Int) (by omega)
      have q10 := w64 ((x - 240) * 64) (by omega)
      have q11 := w64 ((x - 240) * 64 + (b[k + 1].toNat : Int)) (by omega)
      have q12 := w64 ((x - 240) * 64 + (b[k + 1].toNat : Int) - 128) (by omega)
      have q20 := w64 (((x - 240) * 64 + (b[k + 1].toNat : Int) - 128) * 64) (by omega)
      have q21 := w64 (((x - 240) * 64 + (b[k + 1].toNat : Int) - 128) * 64 + (b[k + 2].toNat : Int)) (by omega)
      have q22 := w64 (((x - 240) * 64 + (b[k + 1].toNat : Int) - 128) * 64 + (b[k + 2].toNat : Int) - 128) (by omega)
      have q30 := w64 ((((x - 240) * 64 + (b[k + 1].toNat : Int) - 128) * 64 + (b[k + 2].toNat : Int) - 128) * 64) (by omega)
      have q31 := w64 ((((x - 240) * 64 + (b[k + 1].toNat : Int) - 128) * 64 + (b[k + 2].toNat : Int) - 128) * 64 + (b[k + 3].toNat : Int)) (by omega)
      have q32 := w64 ((((x - 240) * 64 + (b[k + 1].toNat : Int) - 128) * 64 + (b[k + 2].toNat : Int) - 128) * 64 + (b[k + 3].toNat : Int) - 128) (by omega)
      have v1 : val (b.drop k) 4 = (((x - 240) * 64 + (b[k + 1].toNat : Int) - 128) * 64 + (b[k + 2].toNat : Int) - 128) * 64 + (b[k + 3].toNat : Int) - 128 := by rw [val, nat8_drop0 hk, nat8_drop g1, nat8_drop g2, nat8_drop g3, hx]
      have z0 : runeBytes ((((x - 240) * 64 + (b[k + 1].toNat : Int) - 128) * 64 + (b[k + 2].toNat : Int) - 128) * 64 + (b[k + 3].toNat : Int) - 128) = [b[k], b[k + 1], b[k + 2], b[k + 3]] ∨ runeBytes ((((x - 240) * 64 + (b[k + 1].toNat : Int) - 128) * 64 + (b[k + 2].toNat : Int) - 128) * 64 + (b[k + 3].toNat : Int) - 128) ≠ [b[k], b[k + 1], b[k + 2], b[k + 3]] := Decidable.em _
      rcases z0 with z | z
      · simp [Tryz.func59, Tryz.f59, h0, h1, hk, byts_get hk, hx, w0, c1, c2, c3, c4, e1, e4, e5, w1, w2, w3, w4, decR, decN, E_iin, f1, f2, f3, f4, f5, f7, f8, cut3 (k := k + 1) g3, cut4 g3, byts_cons, byts_nil, loopV_unf, p1, p2, p3, q10, q11, q12, q20, q21, q22, q30, q31, q32, E_iRuneBytes, bytes_of_byts, v1, z, hxo]
      · simp [Tryz.func59, Tryz.f59, h0, h1, hk, byts_get hk, hx, w0, c1, c2, c3, c4, e1, e4, e5, w1, w2, w3, w4, decR, decN, E_iin, f1, f2, f3, f4, f5, f7, f8, cut3 (k := k + 1) g3, cut4 g3, byts_cons, byts_nil, loopV_unf, p1, p2, p3, q10, q11, q12, q20, q21, q22, q30, q31, q32, E_iRuneBytes, bytes_of_byts, v1, z, hxo]
    · have e5 : (b.length : Int) - 4 < k := by omega
      simp [Tryz.func59, Tryz.f59, h0, h1, hk, byts_get hk, hx, w0, c1, c2, c3, c4, e1, e4, e5, w1, w2, decR, decN, E_iin]
  have e1 : cls x = 0 := by simp [cls, c1, c2, c3, c4]
  simp [Tryz.func59, Tryz.f59, h0, h1, hk, byts_get hk, hx, w0, c1, c2, c3, c4, e1, decR, decN, E_iin]
end Go.Proofs.YtjhdikdopdcfcaaGreatDoor
namespace Go.Proofs.YtjhdikdopdcfcaaGreatDoor
open Go.RowKit
set_option linter.unusedSimpArgs false
set_option linter.unusedVariables false
set_option maxHeartbeats 8000000
set_option maxRecDepth 10000
theorem rowsOfStr_byts (s : ByteArray) : rowsOfStr s = byts s.data.toList := rfl
theorem textOf_pos {r : Int} (h : runeOk r = true) : 1 ≤ (runeBytes r).length := by
  rcases runeBytes_cases h with ⟨_, _, e⟩ | ⟨_, _, e⟩ | ⟨_, _, e⟩ | ⟨_, _, e⟩ <;> rw [e] <;> simp
theorem E_iRunesOf (s : ByteArray) (l : List Int) (rest : List UInt8) (h : Reads s.data.toList l rest) (hs : s.size ≤ 65536) : M_iRunesOf [V.v (.string s)] [] [] = some ⟨.tup [.own 0, V.v (.bool rest.isEmpty)], [], [(0, if rest.isEmpty then ints l else [])]⟩ := by
  unfold M_iRunesOf
  have h1 : ¬ (65536 < (s.size : Int)) := by omega
  have h2 : s.size ≤ 4611686018427387904 := by omega
  have hsz : s.data.toList.length = s.size := by simp
  have hds : s.data.toList.length = s.data.size := Array.length_toList
  have hl := h.len
  simp [Tryz.func40, Tryz.f40, h1, h2, rowsOfStr_byts]
  rw [loopV_go (fun j => .on ⟨[(6, V.v (.int .i64 (((textOf (l.take j)).length : Int)))), (5, .fz (byts s.data.toList)), (4, .own 2000001000)], [], [(2000001000, ints (l.take j))], [(13, [])]⟩) l.length ?_ ?_]
  · obtain ⟨e1, e2⟩ := h.end
    have e3 := h.2.2
    cases rest with
    | nil =>
      have e4 : ¬ ((textOf l).length < s.size) := by rw [List.length_nil] at e2; omega
      simp [e4]
    | cons c rest =>
      have e4 : (textOf l).length < s.data.toList.length := by rw [List.length_cons] at e2; omega
      have e5 : (textOf l).length < s.size := by omega
      have e5b : (textOf l).length < s.data.size := by omega
      have e6 := E_iRuneRead s.data.toList (textOf l).length e4 (by omega)
      rw [e1, e3] at e6
      simp [e5, e5b, e6, decR, decN]
  · simp [textOf, ints_nil]
  · intro j hj
    obtain ⟨a1, a2, a3⟩ := h.at hj
    have a4 : (textOf (l.take (j + 1))).length ≤ 65536 := by
      have := textOf_take hj
      have e : (textOf (l.take (j + 1))).length ≤ s.data.toList.length := by
        conv => rhs; rw [h.1]
        rw [List.length_append]
        have : l = l.take (j + 1) ++ l.drop (j + 1) := (List.take_append_drop _ _).symm
        conv => rhs; rw [this]
        unfold textOf
        rw [List.flatMap_append, List.length_append]; omega
      omega
    have w1 := w64 ((textOf (l.take (j + 1))).length : Int) (by omega)
    have e5 : (textOf (l.take j)).length < s.size := by omega
    have e5b : (textOf (l.take j)).length < s.data.size := by omega
    have e6 := E_iRuneRead s.data.toList _ a1 (by omega)
    rw [a2] at e6
    have e7 := textOf_pos (h.2.1 l[j] (List.getElem_mem hj))
    have e8 : ¬ (runeBytes l[j] = []) := fun e => by rw [e] at e7; simp at e7
    have e9 : ((textOf (l.take j)).length : Int) + ((runeBytes l[j]).length : Int) = ((textOf (l.take (j + 1))).length : Int) := by omega
    have e10 : (l.take j).length ≤ 65536 := by simp; omega
    have e11 : ints (l.take j) ++ [[D.a (.int .i64 (l[j]))]] = ints (l.take (j + 1)) := by rw [ints_snoc, List.take_add_one, List.getElem?_eq_getElem hj]; rfl
    simp [e5, e5b, e6, decR, decN, e8]
    simp (disch := omega) only [grd_pos]
    simp [e9, w1, e11]
end Go.Proofs.YtjhdikdopdcfcaaGreatDoor
namespace Go.Proofs.YtjhdikdopdcfcaaGreatDoor
open Go.RowKit
set_option linter.unusedSimpArgs false
set_option linter.unusedVariables false
set_option maxHeartbeats 8000000
set_option maxRecDepth 10000
structure HistI (f : Int) (l : List ByteArray) : Prop where
  first : 1 ≤ f ∧ f ≤ 1000000000
  len : l.length ≤ 60
  each : ∀ s ∈ l, 1 ≤ s.size ∧ s.size ≤ 1000
def histLast (f : Int) (l : List ByteArray) : Int := if l = [] then 0 else f + l.length - 1
theorem E_iHistOk (f : Int) (l : List ByteArray) (h : HistI f l) : M_iHistOk [.agg [V.v (.int .i64 f), .lst (some 0) (strs l)]] [] [] = some ⟨V.v (.bool true), [], []⟩ := by
  have q1 : inR f 1 1000000000 = true := inR_iff.2 h.first
  have q2 : ¬ (60 : Int) < l.length := by have := h.len; omega
  have q3 := h.len
  unfold M_iHistOk
  simp [Tryz.func30, Tryz.f30, E_iin, q1, q2]
  rw [loopV_go (fun j => .on ⟨[(18, V.v (.int .i64 ((j : Int)))), (17, V.v (.int .i64 ((l.length : Int)))), (16, .lst (some 0) (strs l))], [], [], []⟩) l.length ?_ ?_]
  · simp
  · simp
  · intro j hj
    have hw := w64 (j + 1) (by omega)
    have e := h.each l[j] (List.getElem_mem hj)
    have q4 : inR (l[j].size : Int) 1 1000 = true := inR_iff.2 (by omega)
    simp [hj, hw, E_iin, q4]
theorem E_iHistLast (f : Int) (l : List ByteArray) (h : HistI f l) : M_iHistLast [.agg [V.v (.int .i64 f), .lst (some 0) (strs l)]] [] [] = some ⟨V.v (.int .i64 (histLast f l)), [], []⟩ := by
  have e := E_iHistOk f l h
  have h1 := h.first
  have h2 := h.len
  have w1 := w64 (f + l.length) (by omega)
  have w2 := w64 (f + l.length - 1) (by omega)
  unfold M_iHistLast histLast
  by_cases hl : l = []
  · subst hl
    simp only [show strs [] = [] from rfl] at e
    simp [Tryz.func11, Tryz.f11, e, show strs [] = [] from rfl]
  · simp [Tryz.func11, Tryz.f11, e, hl, w1, w2]
theorem E_iHistGet (f : Int) (l : List ByteArray) (h : HistI f l) (k : Nat) (hk : k < l.length) : M_iHistGet [.agg [V.v (.int .i64 f), .lst (some 0) (strs l)], V.v (.int .i64 (f + k))] [] [] = some ⟨.tup [V.v (.string (l[k])), V.v (.bool true)], [], []⟩ := by
  have e := E_iHistOk f l h
  have h1 := h.first
  have h2 := h.len
  have w1 := w64 (f + l.length) (by omega)
  have w2 := w64 (f + l.length - 1) (by omega)
  have w3 := w64 (f + k - f) (by omega)
  have q : inR (f + k) f (f + l.length - 1) = true := inR_iff.2 (by omega)
  have q2 : f + (k : Int) - f = k := by omega
  rw [q2] at w3
  unfold M_iHistGet
  simp [Tryz.func12, Tryz.f12, e, E_iin, w1, w2, q, q2, w3, hk]
theorem E_iHistGet_no (f : Int) (l : List ByteArray) (h : HistI f l) (n : Int) (hn : n < f ∨ f + l.length ≤ n) : M_iHistGet [.agg [V.v (.int .i64 f), .lst (some 0) (strs l)], V.v (.int .i64 n)] [] [] = some ⟨.tup [V.v (.string (⟨#[]⟩)), V.v (.bool false)], [], []⟩ := by
  have e := E_iHistOk f l h
  have h1 := h.first
  have h2 := h.len
  have w1 := w64 (f + l.length) (by omega)
  have w2 := w64 (f + l.length - 1) (by omega)
  have q : inR n f (f + l.length - 1) = false := by
    cases e : inR n f (f + l.length - 1)
    · rfl
    · have := inR_iff.1 e; omega
  unfold M_iHistGet
  simp [Tryz.func12, Tryz.f12, e, E_iin, w1, w2, q]
theorem E_sHistOk (f : Int) (l : List ByteArray) (h : HistI f l) : M_sHistOk [.agg [V.v (.int .i64 f), .lst (some 0) (strs l)]] [] [] = some ⟨V.v (.bool true), [], []⟩ := by
  have q1 := h.first
  have q2 := h.len
  have q3 : ¬ f < 1 := by omega
  have q4 : (l.length : Int) ≤ 60 := by omega
  unfold M_sHistOk
  simp [Tryz.func57, Tryz.f57]
  rw [loopV_go (fun j => .on ⟨[(8, V.v (.int .i64 ((j : Int)))), (7, V.v (.int .i64 ((l.length : Int)))), (6, .lst (some 0) (strs l)), (1, .ref 1 0)], [(1, [V.v (.int .i64 f), .lst (some 0) (strs l)])], [], []⟩) l.length ?_ ?_]
  · simp [q1, q2, q4]
  · simp
  · intro j hj
    have hw := w64 (j + 1) (by omega)
    have e := h.each l[j] (List.getElem_mem hj)
    have q5 : ¬ (l[j].size : Int) < 1 := by omega
    have q6 : ¬ (1000 : Int) < l[j].size := by omega
    simp [hj, hw, q5, q6]
def Cmd (s : ByteArray) : Prop := ∃ t, Reads s.data.toList t [] ∧ textOk t = true ∧ 1 ≤ s.size ∧ s.size ≤ 1000
theorem cmd_of {s : ByteArray} (l : List Int) (h1 : s.data.toList = textOf l) (h2 : l.all typed = true) (h3 : 1 ≤ s.size ∧ s.size ≤ 60) (h4 : l.length ≤ 60) : Cmd s := by
  refine ⟨l, ⟨by rw [List.append_nil]; exact h1, fun r hr => ?_, rfl⟩, ?_, h3.1, by omega⟩
  · have := List.all_eq_true.1 h2 r hr
    simp only [typed, Bool.or_eq_true, beq_iff_eq] at this
    rcases this with (h | h) | h
    · simp only [printable, Bool.and_eq_true] at h; exact h.1.1
    · subst h; decide
    · subst h; decide
  · simp only [textOk, h2, Bool.and_true, decide_eq_true_eq]; omega
def ascI (s : ByteArray) : List Int := s.data.toList.map fun b => (b.toNat : Int)
theorem cmd_asc {s : ByteArray} (h1 : s.data.toList = textOf (ascI s)) (h2 : (ascI s).all typed = true) (h3 : 1 ≤ s.size ∧ s.size ≤ 60) : Cmd s :=
  cmd_of (ascI s) h1 h2 h3 (by unfold ascI; rw [List.length_map, Array.length_toList]; exact h3.2)
theorem EX_sl05Text (b : List UInt8) (i h : Int) (hb : b.length ≤ 1048576) (hi : 0 ≤ i ∧ i ≤ b.length) : ∃ (s : ByteArray) (i' h' : Int), M_sl05Text [.ref 0 0] [curV b i h] [] = some ⟨V.v (.string s), [curV b i' h'], []⟩ ∧ Cmd s ∧ 0 ≤ i' ∧ i' ≤ b.length := by
  obtain ⟨k, i1, h1, e1, r1, j1⟩ := EX_sl01Below b i h 12 hb hi (by omega)
  unfold curV at e1
  generalize hE : M_sl05Text [.ref 0 0] [curV b i h] [] = R
  unfold M_sl05Text curV at hE
  have ko : k = 0 ∨ k = 1 ∨ k = 2 ∨ k = 3 ∨ k = 4 ∨ k = 5 ∨ k = 6 ∨ k = 7 ∨ k = 8 ∨ k = 9 ∨ k = 10 ∨ k = 11 := by omega
  rcases ko with rfl | rfl | rfl | rfl | rfl | rfl | rfl | rfl | rfl | rfl | rfl | rfl <;>
    (simp [Tryz.func38, Tryz.f38, e1] at hE; first | exact ⟨_, _, _, hE.symm, cmd_asc (by decide) (by decide) (by decide), j1⟩ | exact ⟨_, _, _, hE.symm, cmd_of [101, 99, 104, 111, 32, 233] (by decide) (by decide) (by decide) (by decide), j1⟩)
theorem E_sHistAdd (f : Int) (l : List ByteArray) (s : ByteArray) (h : HistI f l) (hf : f ≤ 1000) (hs : 1 ≤ s.size ∧ s.size ≤ 1000) : ∃ (f' : Int) (l' : List ByteArray), M_sHistAdd [.agg [V.v (.int .i64 f), .lst (some 0) (strs l)], V.v (.string s)] [] [] = some ⟨.tup [.agg [V.v (.int .i64 f'), .own 0], V.v (.bool true)], [], [(0, strs l')]⟩ ∧ HistI f' l' ∧ f' ≤ f + 1 ∧ ∀ x ∈ l', x ∈ l ∨ x = s := by
  have h1 := h.first
  have h2 := h.len
  have e1 := E_sHistOk f l h
  have g1 : l.length * 16 ≤ 140737488355328 := by omega
  have g2 : l.length ≤ 4611686018427387904 := by omega
  have g3 : (l.length + 1) * 16 ≤ 140737488355328 := by omega
  have g4 : l.length ≤ 4611686018427387903 := by omega
  have hsn : strs l ++ [[.a (.string s)]] = strs (l ++ [s]) := strs_snoc l s
  generalize hE : M_sHistAdd _ _ _ = R
  unfold M_sHistAdd at hE
  by_cases hl : l.length = 60
  · have w := w64 (f + 1) (by omega)
    have hh : HistI (f + 1) ((l ++ [s]).drop 1) := ⟨by omega, by simp; omega, fun x hx => by
      rcases List.mem_append.1 (List.mem_of_mem_drop hx) with hx | hx
      · exact h.each x hx
      · rw [List.mem_singleton.1 hx]; exact hs⟩
    have e2 := E_sHistOk _ _ hh
    have ht : ((l ++ [s]).drop 1).take 60 = (l ++ [s]).drop 1 := List.take_of_length_le (by simp; omega)
    simp [-strs_app, -List.drop_one, Tryz.func37, Tryz.f37, e1, g1, g2, g3, g4, hl, w, hsn, ht, e2] at hE
    exact ⟨f + 1, (l ++ [s]).drop 1, hE.symm, hh, by omega, fun x hx => by
      rcases List.mem_append.1 (List.mem_of_mem_drop hx) with hx | hx
      · exact .inl hx
      · exact .inr (List.mem_singleton.1 hx)⟩
  · have hh : HistI f (l ++ [s]) := ⟨h1, by simp; omega, fun x hx => by
      rcases List.mem_append.1 hx with hx | hx
      · exact h.each x hx
      · rw [List.mem_singleton.1 hx]; exact hs⟩
    have e2 := E_sHistOk _ _ hh
    have q : ¬ (60 : Int) < l.length + 1 := by omega
    simp [-strs_app, Tryz.func37, Tryz.f37, e1, e2, g1, g2, g3, g4, q, hsn] at hE
    exact ⟨f, l ++ [s], hE.symm, hh, by omega, fun x hx => by
      rcases List.mem_append.1 hx with hx | hx
      · exact .inl hx
      · exact .inr (List.mem_singleton.1 hx)⟩
theorem EX_sl16Draw (b : List UInt8) (i h : Int) (hb : b.length ≤ 1048576) (hi : 0 ≤ i ∧ i ≤ b.length) : ∃ (f : Int) (l : List ByteArray) (i' h' : Int), M_sl16Draw [.ref 0 0] [curV b i h] [] = some ⟨.agg [V.v (.int .i64 f), .own 0], [curV b i' h'], [(0, strs l)]⟩ ∧ HistI f l ∧ (∀ s ∈ l, Cmd s) ∧ 0 ≤ i' ∧ i' ≤ b.length := by
  obtain ⟨x, i1, h1, e1, r1, j1⟩ := EX_sl01Below b i h 5 hb hi (by omega)
  obtain ⟨y, i2, h2, e2, r2, j2⟩ := EX_sl01Below b i1 h1 8 hb j1 (by omega)
  obtain ⟨z, i3, h3, e3, r3, j3⟩ := EX_sl01Below b i2 h2 12 hb j2 (by omega)
  unfold curV at e1 e2 e3
  have w1 := w64 (1 + x) (by omega)
  generalize hE : M_sl16Draw _ _ _ = R
  unfold M_sl16Draw curV at hE
  by_cases hz : z = 0
  · subst hz
    obtain ⟨v, i4, h4, e4, r4, j4⟩ := EX_sl01Below b i3 h3 4 hb j3 (by omega)
    unfold curV at e4
    obtain ⟨m, hm⟩ := Int.eq_ofNat_of_zero_le (show 0 ≤ 59 + v by omega)
    have w2 := w64 (59 + v) (by omega)
    rw [hm] at w2
    simp [Tryz.func19, Tryz.f19, e1, e2, e3, e4, w1, hm, w2] at hE
    generalize hL : loopV _ _ = L at hE
    obtain ⟨⟨f, l, i6, h6⟩, ⟨a1, a2, a3, a4⟩, e⟩ := loopV_ex hL (σ := Int × List ByteArray × Int × Int) (fun j a => .on ⟨[(4, V.v (.int .i64 ((m : Int) - j))), (3, .ref 3 0), (2, .ref 2 0), (0, .ref 1000000000 0)], [(1000000000, [.lst (some 0) (byts b), V.v (.int .i64 a.2.2.1), V.v (.int .i64 a.2.2.2)]), (3, [V.v (.int .i64 a.1), .own 2000000000]), (2, [V.v (.int .i64 0), .own 2000000001])], [(2000000001, []), (2000000000, strs a.2.1)], []⟩) m (fun j a => HistI a.1 a.2.1 ∧ (∀ s ∈ a.2.1, Cmd s) ∧ (a.1 ≤ 5 + j) ∧ 0 ≤ a.2.2.1 ∧ a.2.2.1 ≤ b.length) (1 + x, [], i4, h4) (by simp [show strs [] = [] from rfl]) ⟨⟨by simp only; omega, by simp, fun s hs => by cases hs⟩, fun s hs => (by cases hs), by simp only; omega, j4⟩ (fun j a hj ⟨p1, p2, p3, p4⟩ => by
      obtain ⟨f, l, i6, h6⟩ := a
      simp only at p1 p2 p3 p4
      obtain ⟨s, i7, h7, d1, c1, j7⟩ := EX_sl05Text b i6 h6 hb p4
      obtain ⟨t, _, _, c2, c3⟩ := id c1
      obtain ⟨f', l', d2, q1, q2, q3⟩ := E_sHistAdd f l s p1 (by omega) ⟨c2, c3⟩
      unfold curV at d1
      have g : (0 : Int) < (m : Int) - j := by omega
      have hw2 : (m : Int) - j - 1 = (m : Int) - ((j : Int) + 1) := by omega
      have hw := w64 ((m : Int) - ((j : Int) + 1)) (by omega)
      refine ⟨(f', l', i7, h7), ⟨q1, fun y hy => (q3 y hy).elim (p2 y) (fun e => e ▸ c1), by simp only; omega, j7⟩, ?_⟩
      simp [hj, d1, d2, hw2, hw])
    subst e
    simp at hE
    simp only at a1 a2 a4
    exact ⟨f, l, i6, h6, hE.symm, a1, a2, a4⟩
  · obtain ⟨m, hm⟩ := Int.eq_ofNat_of_zero_le (show 0 ≤ y by omega)
    simp [Tryz.func19, Tryz.f19, e1, e2, e3, hz, w1, hm] at hE
    generalize hL : loopV _ _ = L at hE
    obtain ⟨⟨f, l, i6, h6⟩, ⟨a1, a2, a3, a4⟩, e⟩ := loopV_ex hL (σ := Int × List ByteArray × Int × Int) (fun j a => .on ⟨[(4, V.v (.int .i64 ((m : Int) - j))), (3, .ref 3 0), (2, .ref 2 0), (0, .ref 1000000000 0)], [(1000000000, [.lst (some 0) (byts b), V.v (.int .i64 a.2.2.1), V.v (.int .i64 a.2.2.2)]), (3, [V.v (.int .i64 a.1), .own 2000000000]), (2, [V.v (.int .i64 0), .own 2000000001])], [(2000000001, []), (2000000000, strs a.2.1)], []⟩) m (fun j a => HistI a.1 a.2.1 ∧ (∀ s ∈ a.2.1, Cmd s) ∧ (a.1 ≤ 5 + j) ∧ 0 ≤ a.2.2.1 ∧ a.2.2.1 ≤ b.length) (1 + x, [], i3, h3) (by simp [show strs [] = [] from rfl]) ⟨⟨by simp only; omega, by simp, fun s hs => by cases hs⟩, fun s hs => (by cases hs), by simp only; omega, j3⟩ (fun j a hj ⟨p1, p2, p3, p4⟩ => by
      obtain ⟨f, l, i6, h6⟩ := a
      simp only at p1 p2 p3 p4
      obtain ⟨s, i7, h7, d1, c1, j7⟩ := EX_sl05Text b i6 h6 hb p4
      obtain ⟨t, _, _, c2, c3⟩ := id c1
      obtain ⟨f', l', d2, q1, q2, q3⟩ := E_sHistAdd f l s p1 (by omega) ⟨c2, c3⟩
      unfold curV at d1
      have g : (0 : Int) < (m : Int) - j := by omega
      have hw2 : (m : Int) - j - 1 = (m : Int) - ((j : Int) + 1) := by omega
      have hw := w64 ((m : Int) - ((j : Int) + 1)) (by omega)
      refine ⟨(f', l', i7, h7), ⟨q1, fun y hy => (q3 y hy).elim (p2 y) (fun e => e ▸ c1), by simp only; omega, j7⟩, ?_⟩
      simp [hj, d1, d2, hw2, hw])
    subst e
    simp at hE
    simp only at a1 a2 a4
    exact ⟨f, l, i6, h6, hE.symm, a1, a2, a4⟩
end Go.Proofs.YtjhdikdopdcfcaaGreatDoor
namespace Go.Proofs.YtjhdikdopdcfcaaGreatDoor
open Go.RowKit
set_option linter.unusedSimpArgs false
set_option linter.unusedVariables false
set_option maxHeartbeats 16000000
set_option maxRecDepth 100000
def findB (fr fh : Int) : Bool := (fr == 0 && fh == 0) || (fr != 0 && (printable fr && inR fh 0 3))
def edOk (vi : Bool) (mode : Int) (lt : List Int) (la cnt op opc wt fr fh last : Int) (rp : List TPiece) (ul : List TLine) (nav : Int) (ot : List Int) (oa : Int) (q : List Int) (hit : Int) (bt : List Int) (ba : Int) : Bool :=
  lineOk lt la && (lineOk ot oa && (lineOk bt ba && (inR cnt 0 999 && (inR opc 0 999 && (modeB vi mode lt la op opc wt && (findB fr fh && (inR last 0 3 && (ringOk rp && (undoOk ul && (inR nav 0 1000000060 && (inR hit 0 1000000060 && ((nav != 0 || emptyL ot oa) && (decide (q.length ≤ 40) && (q.all printable && seekB mode q hit bt ba))))))))))))))
theorem E_iEdOk (vi : Bool) (mode : Int) (lt : List Int) (la cnt op opc wt fr fh last : Int) (rp : List TPiece) (ul : List TLine) (nav : Int) (ot : List Int) (oa : Int) (q : List Int) (hit : Int) (bt : List Int) (ba : Int) (h1 : lt.length ≤ 1000000000) (h2 : ot.length ≤ 1000000000) (h3 : bt.length ≤ 1000000000) (h4 : q.length ≤ 1000000000) (h5 : smL (dPieces rp) = true) (h6 : smL (dLines ul) = true) : M_iEdOk [.agg [V.v (.bool vi), V.v (.int .i64 mode), .lst (some 0) (ints lt), V.v (.int .i64 la), V.v (.int .i64 cnt), V.v (.int .i64 op), V.v (.int .i64 opc), V.v (.int .i64 wt), V.v (.int .i64 fr), V.v (.int .i64 fh), V.v (.int .i64 last), .lst (some 1) (dPieces rp), .lst (some 2) (dLines ul), V.v (.int .i64 nav), .lst (some 3) (ints ot), V.v (.int .i64 oa), .lst (some 4) (ints q), V.v (.int .i64 hit), .lst (some 5) (ints bt), V.v (.int .i64 ba)]] [] [] = some ⟨V.v (.bool (edOk vi mode lt la cnt op opc wt fr fh last rp ul nav ot oa q hit bt ba)), [], []⟩ := by
  unfold M_iEdOk
  cases a0 : lineOk lt la
  · simp [Tryz.func8, Tryz.f8, edOk, findB, E_iLineOk, h1, h2, h3, h5, h6, E_iin, E_imodeOk, E_iRingOk, E_iUndoOk, E_iemptyLine, E_iPrintable, a0]
  cases a1 : lineOk ot oa
  · simp [Tryz.func8, Tryz.f8, edOk, findB, E_iLineOk, h1, h2, h3, h5, h6, E_iin, E_imodeOk, E_iRingOk, E_iUndoOk, E_iemptyLine, E_iPrintable, a0, a1]
  cases a2 : lineOk bt ba
  · simp [Tryz.func8, Tryz.f8, edOk, findB, E_iLineOk, h1, h2, h3, h5, h6, E_iin, E_imodeOk, E_iRingOk, E_iUndoOk, E_iemptyLine, E_iPrintable, a0, a1, a2]
  cases a3 : inR cnt 0 999
  · simp [Tryz.func8, Tryz.f8, edOk, findB, E_iLineOk, h1, h2, h3, h5, h6, E_iin, E_imodeOk, E_iRingOk, E_iUndoOk, E_iemptyLine, E_iPrintable, a0, a1, a2, a3]
  cases a4 : inR opc 0 999
  · simp [Tryz.func8, Tryz.f8, edOk, findB, E_iLineOk, h1, h2, h3, h5, h6, E_iin, E_imodeOk, E_iRingOk, E_iUndoOk, E_iemptyLine, E_iPrintable, a0, a1, a2, a3, a4]
  cases a5 : modeB vi mode lt la op opc wt
  · simp [Tryz.func8, Tryz.f8, edOk, findB, E_iLineOk, h1, h2, h3, h5, h6, E_iin, E_imodeOk, E_iRingOk, E_iUndoOk, E_iemptyLine, E_iPrintable, a0, a1, a2, a3, a4, a5]
  by_cases f0 : fr = 0
  · subst f0
    by_cases f1 : fh = 0
    rotate_left
    · simp [Tryz.func8, Tryz.f8, edOk, findB, E_iLineOk, h1, h2, h3, h5, h6, E_iin, E_imodeOk, E_iRingOk, E_iUndoOk, E_iemptyLine, E_iPrintable, a0, a1, a2, a3, a4, a5, f1]
    subst f1
    cases c0 : inR last 0 3
    · simp [Tryz.func8, Tryz.f8, edOk, findB, E_iLineOk, h1, h2, h3, h5, h6, E_iin, E_imodeOk, E_iRingOk, E_iUndoOk, E_iemptyLine, E_iPrintable, a0, a1, a2, a3, a4, a5, c0]
    cases c1 : ringOk rp
    · simp [Tryz.func8, Tryz.f8, edOk, findB, E_iLineOk, h1, h2, h3, h5, h6, E_iin, E_imodeOk, E_iRingOk, E_iUndoOk, E_iemptyLine, E_iPrintable, a0, a1, a2, a3, a4, a5, c0, c1]
    cases c2 : undoOk ul
    · simp [Tryz.func8, Tryz.f8, edOk, findB, E_iLineOk, h1, h2, h3, h5, h6, E_iin, E_imodeOk, E_iRingOk, E_iUndoOk, E_iemptyLine, E_iPrintable, a0, a1, a2, a3, a4, a5, c0, c1, c2]
    cases c3 : inR nav 0 1000000060
    · simp [Tryz.func8, Tryz.f8, edOk, findB, E_iLineOk, h1, h2, h3, h5, h6, E_iin, E_imodeOk, E_iRingOk, E_iUndoOk, E_iemptyLine, E_iPrintable, a0, a1, a2, a3, a4, a5, c0, c1, c2, c3]
    cases c4 : inR hit 0 1000000060
    · simp [Tryz.func8, Tryz.f8, edOk, findB, E_iLineOk, h1, h2, h3, h5, h6, E_iin, E_imodeOk, E_iRingOk, E_iUndoOk, E_iemptyLine, E_iPrintable, a0, a1, a2, a3, a4, a5, c0, c1, c2, c3, c4]
    by_cases d0 : nav = 0
    · subst d0
      cases e0 : emptyL ot oa
      · simp [Tryz.func8, Tryz.f8, edOk, findB, E_iLineOk, h1, h2, h3, h5, h6, E_iin, E_imodeOk, E_iRingOk, E_iUndoOk, E_iemptyLine, E_iPrintable, a0, a1, a2, a3, a4, a5, c0, c1, c2, c3, c4, e0]
      by_cases d1 : q.length ≤ 40
      rotate_left
      · have d1' : 40 < (q.length : Int) := by omega
        simp [Tryz.func8, Tryz.f8, edOk, findB, E_iLineOk, h1, h2, h3, h5, h6, E_iin, E_imodeOk, E_iRingOk, E_iUndoOk, E_iemptyLine, E_iPrintable, a0, a1, a2, a3, a4, a5, c0, c1, c2, c3, c4, e0, d1, d1']
      have d1' : ¬ (40 < (q.length : Int)) := by omega
      simp [Tryz.func8, Tryz.f8, edOk, findB, E_iLineOk, h1, h2, h3, h5, h6, E_iin, E_imodeOk, E_iRingOk, E_iUndoOk, E_iemptyLine, E_iPrintable, a0, a1, a2, a3, a4, a5, c0, c1, c2, c3, c4, e0, d1, d1']
      rcases firstBad printable q with g | ⟨g, N, hN, g1, g2⟩
      · rw [loopV_go (fun j => .on ⟨[(109, V.v (.int .i64 ((j : Int)))), (108, V.v (.int .i64 ((q.length : Int)))), (107, .lst (some 4) (ints q)), (1, .ref 1 0)], [(1, [V.v (.bool vi), V.v (.int .i64 mode), .lst (some 0) (ints lt), V.v (.int .i64 la), V.v (.int .i64 cnt), V.v (.int .i64 op), V.v (.int .i64 opc), V.v (.int .i64 wt), V.v (.int .i64 0), V.v (.int .i64 0), V.v (.int .i64 last), .lst (some 1) (dPieces rp), .lst (some 2) (dLines ul), V.v (.int .i64 0), .lst (some 3) (ints ot), V.v (.int .i64 oa), .lst (some 4) (ints q), V.v (.int .i64 hit), .lst (some 5) (ints bt), V.v (.int .i64 ba)])], [], []⟩) q.length ?_ ?_]
        · by_cases m3 : mode = 3
          · simp [Tryz.func8, Tryz.f8, edOk, findB, E_iLineOk, h1, h2, h3, h5, h6, E_iin, E_imodeOk, E_iRingOk, E_iUndoOk, E_iemptyLine, E_iPrintable, a0, a1, a2, a3, a4, a5, c0, c1, c2, c3, c4, e0, d1, d1', g, seekB, m3]
          · by_cases q0 : q = []
            · subst q0
              by_cases t0 : hit = 0
              · subst t0; cases em : emptyL bt ba <;> simp [Tryz.func8, Tryz.f8, edOk, findB, E_iLineOk, h1, h2, h3, h5, h6, E_iin, E_imodeOk, E_iRingOk, E_iUndoOk, E_iemptyLine, E_iPrintable, a0, a1, a2, a3, a4, a5, c0, c1, c2, c3, c4, e0, d1, d1', g, seekB, m3, em]
              · simp [Tryz.func8, Tryz.f8, edOk, findB, E_iLineOk, h1, h2, h3, h5, h6, E_iin, E_imodeOk, E_iRingOk, E_iUndoOk, E_iemptyLine, E_iPrintable, a0, a1, a2, a3, a4, a5, c0, c1, c2, c3, c4, e0, d1, d1', g, seekB, m3, t0]
            · simp [Tryz.func8, Tryz.f8, edOk, findB, E_iLineOk, h1, h2, h3, h5, h6, E_iin, E_imodeOk, E_iRingOk, E_iUndoOk, E_iemptyLine, E_iPrintable, a0, a1, a2, a3, a4, a5, c0, c1, c2, c3, c4, e0, d1, d1', g, seekB, m3, q0]
        · simp
        · intro j hj
          have hw := w64 (j + 1) (by omega)
          have := List.all_eq_true.1 g q[j] (List.getElem_mem hj)
          simp [hj, hw, ints_get hj, E_iPrintable, this]
      · rw [loopV_go (fun j => .on ⟨[(109, V.v (.int .i64 ((j : Int)))), (108, V.v (.int .i64 ((q.length : Int)))), (107, .lst (some 4) (ints q)), (1, .ref 1 0)], [(1, [V.v (.bool vi), V.v (.int .i64 mode), .lst (some 0) (ints lt), V.v (.int .i64 la), V.v (.int .i64 cnt), V.v (.int .i64 op), V.v (.int .i64 opc), V.v (.int .i64 wt), V.v (.int .i64 0), V.v (.int .i64 0), V.v (.int .i64 last), .lst (some 1) (dPieces rp), .lst (some 2) (dLines ul), V.v (.int .i64 0), .lst (some 3) (ints ot), V.v (.int .i64 oa), .lst (some 4) (ints q), V.v (.int .i64 hit), .lst (some 5) (ints bt), V.v (.int .i64 ba)])], [], []⟩) N ?_ ?_]
        · simp [hN, ints_get hN, E_iPrintable, g1, g, edOk]
        · simp
        · intro j hj
          have hj' : j < q.length := by omega
          have hw := w64 (j + 1) (by omega)
          simp [hj', hw, ints_get hj', E_iPrintable, g2 j hj' hj]
    · skip
      by_cases d1 : q.length ≤ 40
      rotate_left
      · have d1' : 40 < (q.length : Int) := by omega
        simp [Tryz.func8, Tryz.f8, edOk, findB, E_iLineOk, h1, h2, h3, h5, h6, E_iin, E_imodeOk, E_iRingOk, E_iUndoOk, E_iemptyLine, E_iPrintable, a0, a1, a2, a3, a4, a5, c0, c1, c2, c3, c4, d0, d1, d1']
      have d1' : ¬ (40 < (q.length : Int)) := by omega
      simp [Tryz.func8, Tryz.f8, edOk, findB, E_iLineOk, h1, h2, h3, h5, h6, E_iin, E_imodeOk, E_iRingOk, E_iUndoOk, E_iemptyLine, E_iPrintable, a0, a1, a2, a3, a4, a5, c0, c1, c2, c3, c4, d0, d1, d1']
      rcases firstBad printable q with g | ⟨g, N, hN, g1, g2⟩
      · rw [loopV_go (fun j => .on ⟨[(109, V.v (.int .i64 ((j : Int)))), (108, V.v (.int .i64 ((q.length : Int)))), (107, .lst (some 4) (ints q)), (1, .ref 1 0)], [(1, [V.v (.bool vi), V.v (.int .i64 mode), .lst (some 0) (ints lt), V.v (.int .i64 la), V.v (.int .i64 cnt), V.v (.int .i64 op), V.v (.int .i64 opc), V.v (.int .i64 wt), V.v (.int .i64 0), V.v (.int .i64 0), V.v (.int .i64 last), .lst (some 1) (dPieces rp), .lst (some 2) (dLines ul), V.v (.int .i64 nav), .lst (some 3) (ints ot), V.v (.int .i64 oa), .lst (some 4) (ints q), V.v (.int .i64 hit), .lst (some 5) (ints bt), V.v (.int .i64 ba)])], [], []⟩) q.length ?_ ?_]
        · by_cases m3 : mode = 3
          · simp [Tryz.func8, Tryz.f8, edOk, findB, E_iLineOk, h1, h2, h3, h5, h6, E_iin, E_imodeOk, E_iRingOk, E_iUndoOk, E_iemptyLine, E_iPrintable, a0, a1, a2, a3, a4, a5, c0, c1, c2, c3, c4, d0, d1, d1', g, seekB, m3]
          · by_cases q0 : q = []
            · subst q0
              by_cases t0 : hit = 0
              · subst t0; cases em : emptyL bt ba <;> simp [Tryz.func8, Tryz.f8, edOk, findB, E_iLineOk, h1, h2, h3, h5, h6, E_iin, E_imodeOk, E_iRingOk, E_iUndoOk, E_iemptyLine, E_iPrintable, a0, a1, a2, a3, a4, a5, c0, c1, c2, c3, c4, d0, d1, d1', g, seekB, m3, em]
              · simp [Tryz.func8, Tryz.f8, edOk, findB, E_iLineOk, h1, h2, h3, h5, h6, E_iin, E_imodeOk, E_iRingOk, E_iUndoOk, E_iemptyLine, E_iPrintable, a0, a1, a2, a3, a4, a5, c0, c1, c2, c3, c4, d0, d1, d1', g, seekB, m3, t0]
            · simp [Tryz.func8, Tryz.f8, edOk, findB, E_iLineOk, h1, h2, h3, h5, h6, E_iin, E_imodeOk, E_iRingOk, E_iUndoOk, E_iemptyLine, E_iPrintable, a0, a1, a2, a3, a4, a5, c0, c1, c2, c3, c4, d0, d1, d1', g, seekB, m3, q0]
        · simp
        · intro j hj
          have hw := w64 (j + 1) (by omega)
          have := List.all_eq_true.1 g q[j] (List.getElem_mem hj)
          simp [hj, hw, ints_get hj, E_iPrintable, this]
      · rw [loopV_go (fun j => .on ⟨[(109, V.v (.int .i64 ((j : Int)))), (108, V.v (.int .i64 ((q.length : Int)))), (107, .lst (some 4) (ints q)), (1, .ref 1 0)], [(1, [V.v (.bool vi), V.v (.int .i64 mode), .lst (some 0) (ints lt), V.v (.int .i64 la), V.v (.int .i64 cnt), V.v (.int .i64 op), V.v (.int .i64 opc), V.v (.int .i64 wt), V.v (.int .i64 0), V.v (.int .i64 0), V.v (.int .i64 last), .lst (some 1) (dPieces rp), .lst (some 2) (dLines ul), V.v (.int .i64 nav), .lst (some 3) (ints ot), V.v (.int .i64 oa), .lst (some 4) (ints q), V.v (.int .i64 hit), .lst (some 5) (ints bt), V.v (.int .i64 ba)])], [], []⟩) N ?_ ?_]
        · simp [hN, ints_get hN, E_iPrintable, g1, g, edOk]
        · simp
        · intro j hj
          have hj' : j < q.length := by omega
          have hw := w64 (j + 1) (by omega)
          simp [hj', hw, ints_get hj', E_iPrintable, g2 j hj' hj]
  · skip
    cases f1 : printable fr
    · simp [Tryz.func8, Tryz.f8, edOk, findB, E_iLineOk, h1, h2, h3, h5, h6, E_iin, E_imodeOk, E_iRingOk, E_iUndoOk, E_iemptyLine, E_iPrintable, a0, a1, a2, a3, a4, a5, f0, f1]
    cases f2 : inR fh 0 3
    · simp [Tryz.func8, Tryz.f8, edOk, findB, E_iLineOk, h1, h2, h3, h5, h6, E_iin, E_imodeOk, E_iRingOk, E_iUndoOk, E_iemptyLine, E_iPrintable, a0, a1, a2, a3, a4, a5, f0, f1, f2]
    cases c0 : inR last 0 3
    · simp [Tryz.func8, Tryz.f8, edOk, findB, E_iLineOk, h1, h2, h3, h5, h6, E_iin, E_imodeOk, E_iRingOk, E_iUndoOk, E_iemptyLine, E_iPrintable, a0, a1, a2, a3, a4, a5, f0, f1, f2, c0]
    cases c1 : ringOk rp
    · simp [Tryz.func8, Tryz.f8, edOk, findB, E_iLineOk, h1, h2, h3, h5, h6, E_iin, E_imodeOk, E_iRingOk, E_iUndoOk, E_iemptyLine, E_iPrintable, a0, a1, a2, a3, a4, a5, f0, f1, f2, c0, c1]
    cases c2 : undoOk ul
    · simp [Tryz.func8, Tryz.f8, edOk, findB, E_iLineOk, h1, h2, h3, h5, h6, E_iin, E_imodeOk, E_iRingOk, E_iUndoOk, E_iemptyLine, E_iPrintable, a0, a1, a2, a3, a4, a5, f0, f1, f2, c0, c1, c2]
    cases c3 : inR nav 0 1000000060
    · simp [Tryz.func8, Tryz.f8, edOk, findB, E_iLineOk, h1, h2, h3, h5, h6, E_iin, E_imodeOk, E_iRingOk, E_iUndoOk, E_iemptyLine, E_iPrintable, a0, a1, a2, a3, a4, a5, f0, f1, f2, c0, c1, c2, c3]
    cases c4 : inR hit 0 1000000060
    · simp [Tryz.func8, Tryz.f8, edOk, findB, E_iLineOk, h1, h2, h3, h5, h6, E_iin, E_imodeOk, E_iRingOk, E_iUndoOk, E_iemptyLine, E_iPrintable, a0, a1, a2, a3, a4, a5, f0, f1, f2, c0, c1, c2, c3, c4]
    by_cases d0 : nav = 0
    · subst d0
      cases e0 : emptyL ot oa
      · simp [Tryz.func8, Tryz.f8, edOk, findB, E_iLineOk, h1, h2, h3, h5, h6, E_iin, E_imodeOk, E_iRingOk, E_iUndoOk, E_iemptyLine, E_iPrintable, a0, a1, a2, a3, a4, a5, f0, f1, f2, c0, c1, c2, c3, c4, e0]
      by_cases d1 : q.length ≤ 40
      rotate_left
      · have d1' : 40 < (q.length : Int) := by omega
        simp [Tryz.func8, Tryz.f8, edOk, findB, E_iLineOk, h1, h2, h3, h5, h6, E_iin, E_imodeOk, E_iRingOk, E_iUndoOk, E_iemptyLine, E_iPrintable, a0, a1, a2, a3, a4, a5, f0, f1, f2, c0, c1, c2, c3, c4, e0, d1, d1']
      have d1' : ¬ (40 < (q.length : Int)) := by omega
      simp [Tryz.func8, Tryz.f8, edOk, findB, E_iLineOk, h1, h2, h3, h5, h6, E_iin, E_imodeOk, E_iRingOk, E_iUndoOk, E_iemptyLine, E_iPrintable, a0, a1, a2, a3, a4, a5, f0, f1, f2, c0, c1, c2, c3, c4, e0, d1, d1']
      rcases firstBad printable q with g | ⟨g, N, hN, g1, g2⟩
      · rw [loopV_go (fun j => .on ⟨[(109, V.v (.int .i64 ((j : Int)))), (108, V.v (.int .i64 ((q.length : Int)))), (107, .lst (some 4) (ints q)), (1, .ref 1 0)], [(1, [V.v (.bool vi), V.v (.int .i64 mode), .lst (some 0) (ints lt), V.v (.int .i64 la), V.v (.int .i64 cnt), V.v (.int .i64 op), V.v (.int .i64 opc), V.v (.int .i64 wt), V.v (.int .i64 fr), V.v (.int .i64 fh), V.v (.int .i64 last), .lst (some 1) (dPieces rp), .lst (some 2) (dLines ul), V.v (.int .i64 0), .lst (some 3) (ints ot), V.v (.int .i64 oa), .lst (some 4) (ints q), V.v (.int .i64 hit), .lst (some 5) (ints bt), V.v (.int .i64 ba)])], [], []⟩) q.length ?_ ?_]
        · by_cases m3 : mode = 3
          · simp [Tryz.func8, Tryz.f8, edOk, findB, E_iLineOk, h1, h2, h3, h5, h6, E_iin, E_imodeOk, E_iRingOk, E_iUndoOk, E_iemptyLine, E_iPrintable, a0, a1, a2, a3, a4, a5, f0, f1, f2, c0, c1, c2, c3, c4, e0, d1, d1', g, seekB, m3]
          · by_cases q0 : q = []
            · subst q0
              by_cases t0 : hit = 0
              · subst t0; cases em : emptyL bt ba <;> simp [Tryz.func8, Tryz.f8, edOk, findB, E_iLineOk, h1, h2, h3, h5, h6, E_iin, E_imodeOk, E_iRingOk, E_iUndoOk, E_iemptyLine, E_iPrintable, a0, a1, a2, a3, a4, a5, f0, f1, f2, c0, c1, c2, c3, c4, e0, d1, d1', g, seekB, m3, em]
              · simp [Tryz.func8, Tryz.f8, edOk, findB, E_iLineOk, h1, h2, h3, h5, h6, E_iin, E_imodeOk, E_iRingOk, E_iUndoOk, E_iemptyLine, E_iPrintable, a0, a1, a2, a3, a4, a5, f0, f1, f2, c0, c1, c2, c3, c4, e0, d1, d1', g, seekB, m3, t0]
            · simp [Tryz.func8, Tryz.f8, edOk, findB, E_iLineOk, h1, h2, h3, h5, h6, E_iin, E_imodeOk, E_iRingOk, E_iUndoOk, E_iemptyLine, E_iPrintable, a0, a1, a2, a3, a4, a5, f0, f1, f2, c0, c1, c2, c3, c4, e0, d1, d1', g, seekB, m3, q0]
        · simp
        · intro j hj
          have hw := w64 (j + 1) (by omega)
          have := List.all_eq_true.1 g q[j] (List.getElem_mem hj)
          simp [hj, hw, ints_get hj, E_iPrintable, this]
      · rw [loopV_go (fun j => .on ⟨[(109, V.v (.int .i64 ((j : Int)))), (108, V.v (.int .i64 ((q.length : Int)))), (107, .lst (some 4) (ints q)), (1, .ref 1 0)], [(1, [V.v (.bool vi), V.v (.int .i64 mode), .lst (some 0) (ints lt), V.v (.int .i64 la), V.v (.int .i64 cnt), V.v (.int .i64 op), V.v (.int .i64 opc), V.v (.int .i64 wt), V.v (.int .i64 fr), V.v (.int .i64 fh), V.v (.int .i64 last), .lst (some 1) (dPieces rp), .lst (some 2) (dLines ul), V.v (.int .i64 0), .lst (some 3) (ints ot), V.v (.int .i64 oa), .lst (some 4) (ints q), V.v (.int .i64 hit), .lst (some 5) (ints bt), V.v (.int .i64 ba)])], [], []⟩) N ?_ ?_]
        · simp [hN, ints_get hN, E_iPrintable, g1, g, edOk]
        · simp
        · intro j hj
          have hj' : j < q.length := by omega
          have hw := w64 (j + 1) (by omega)
          simp [hj', hw, ints_get hj', E_iPrintable, g2 j hj' hj]
    · skip
      by_cases d1 : q.length ≤ 40
      rotate_left
      · have d1' : 40 < (q.length : Int) := by omega
        simp [Tryz.func8, Tryz.f8, edOk, findB, E_iLineOk, h1, h2, h3, h5, h6, E_iin, E_imodeOk, E_iRingOk, E_iUndoOk, E_iemptyLine, E_iPrintable, a0, a1, a2, a3, a4, a5, f0, f1, f2, c0, c1, c2, c3, c4, d0, d1, d1']
      have d1' : ¬ (40 < (q.length : Int)) := by omega
      simp [Tryz.func8, Tryz.f8, edOk, findB, E_iLineOk, h1, h2, h3, h5, h6, E_iin, E_imodeOk, E_iRingOk, E_iUndoOk, E_iemptyLine, E_iPrintable, a0, a1, a2, a3, a4, a5, f0, f1, f2, c0, c1, c2, c3, c4, d0, d1, d1']
      rcases firstBad printable q with g | ⟨g, N, hN, g1, g2⟩
      · rw [loopV_go (fun j => .on ⟨[(109, V.v (.int .i64 ((j : Int)))), (108, V.v (.int .i64 ((q.length : Int)))), (107, .lst (some 4) (ints q)), (1, .ref 1 0)], [(1, [V.v (.bool vi), V.v (.int .i64 mode), .lst (some 0) (ints lt), V.v (.int .i64 la), V.v (.int .i64 cnt), V.v (.int .i64 op), V.v (.int .i64 opc), V.v (.int .i64 wt), V.v (.int .i64 fr), V.v (.int .i64 fh), V.v (.int .i64 last), .lst (some 1) (dPieces rp), .lst (some 2) (dLines ul), V.v (.int .i64 nav), .lst (some 3) (ints ot), V.v (.int .i64 oa), .lst (some 4) (ints q), V.v (.int .i64 hit), .lst (some 5) (ints bt), V.v (.int .i64 ba)])], [], []⟩) q.length ?_ ?_]
        · by_cases m3 : mode = 3
          · simp [Tryz.func8, Tryz.f8, edOk, findB, E_iLineOk, h1, h2, h3, h5, h6, E_iin, E_imodeOk, E_iRingOk, E_iUndoOk, E_iemptyLine, E_iPrintable, a0, a1, a2, a3, a4, a5, f0, f1, f2, c0, c1, c2, c3, c4, d0, d1, d1', g, seekB, m3]
          · by_cases q0 : q = []
            · subst q0
              by_cases t0 : hit = 0
              · subst t0; cases em : emptyL bt ba <;> simp [Tryz.func8, Tryz.f8, edOk, findB, E_iLineOk, h1, h2, h3, h5, h6, E_iin, E_imodeOk, E_iRingOk, E_iUndoOk, E_iemptyLine, E_iPrintable, a0, a1, a2, a3, a4, a5, f0, f1, f2, c0, c1, c2, c3, c4, d0, d1, d1', g, seekB, m3, em]
              · simp [Tryz.func8, Tryz.f8, edOk, findB, E_iLineOk, h1, h2, h3, h5, h6, E_iin, E_imodeOk, E_iRingOk, E_iUndoOk, E_iemptyLine, E_iPrintable, a0, a1, a2, a3, a4, a5, f0, f1, f2, c0, c1, c2, c3, c4, d0, d1, d1', g, seekB, m3, t0]
            · simp [Tryz.func8, Tryz.f8, edOk, findB, E_iLineOk, h1, h2, h3, h5, h6, E_iin, E_imodeOk, E_iRingOk, E_iUndoOk, E_iemptyLine, E_iPrintable, a0, a1, a2, a3, a4, a5, f0, f1, f2, c0, c1, c2, c3, c4, d0, d1, d1', g, seekB, m3, q0]
        · simp
        · intro j hj
          have hw := w64 (j + 1) (by omega)
          have := List.all_eq_true.1 g q[j] (List.getElem_mem hj)
          simp [hj, hw, ints_get hj, E_iPrintable, this]
      · rw [loopV_go (fun j => .on ⟨[(109, V.v (.int .i64 ((j : Int)))), (108, V.v (.int .i64 ((q.length : Int)))), (107, .lst (some 4) (ints q)), (1, .ref 1 0)], [(1, [V.v (.bool vi), V.v (.int .i64 mode), .lst (some 0) (ints lt), V.v (.int .i64 la), V.v (.int .i64 cnt), V.v (.int .i64 op), V.v (.int .i64 opc), V.v (.int .i64 wt), V.v (.int .i64 fr), V.v (.int .i64 fh), V.v (.int .i64 last), .lst (some 1) (dPieces rp), .lst (some 2) (dLines ul), V.v (.int .i64 nav), .lst (some 3) (ints ot), V.v (.int .i64 oa), .lst (some 4) (ints q), V.v (.int .i64 hit), .lst (some 5) (ints bt), V.v (.int .i64 ba)])], [], []⟩) N ?_ ?_]
        · simp [hN, ints_get hN, E_iPrintable, g1, g, edOk]
        · simp
        · intro j hj
          have hj' : j < q.length := by omega
          have hw := w64 (j + 1) (by omega)
          simp [hj', hw, ints_get hj', E_iPrintable, g2 j hj' hj]
def TEd.ok (e : TEd) : Bool := edOk e.Vi e.Mode e.Line.Text e.Line.At e.Count e.Op e.OpCount e.Wait e.FindR e.FindHow e.Last e.Ring.Pieces e.Undo.Lines e.Nav e.Own.Text e.Own.At e.Query e.Hit e.Back.Text e.Back.At
structure TEd.sm (e : TEd) : Prop where
  h1 : e.Line.Text.length ≤ 1000000000
  h2 : e.Own.Text.length ≤ 1000000000
  h3 : e.Back.Text.length ≤ 1000000000
  h4 : e.Query.length ≤ 1000000000
  h5 : smL (dPieces e.Ring.Pieces) = true
  h6 : smL (dLines e.Undo.Lines) = true
theorem sm_pieces {l : List TPiece} (h : ringOk l = true) : smL (dPieces l) = true := by
  simp only [ringOk, Bool.and_eq_true, decide_eq_true_eq] at h
  refine bnL_of (by simp; omega) fun j r e => ?_
  have hj : j < l.length := by have := (List.getElem?_eq_some_iff.1 e).1; simpa using this
  rw [dPieces_get hj] at e
  injection e with e; subst e
  have := List.all_eq_true.1 h.1 l[j] (List.getElem_mem hj)
  simp only [pieceB, textOk, Bool.and_eq_true, decide_eq_true_eq] at this
  simp only [bnR_cons, bnR_nil, bnD_l, Bool.and_true]
  exact bnL_ints (by omega)
theorem sm_lines {l : List TLine} (h : undoOk l = true) : smL (dLines l) = true := by
  simp only [undoOk, Bool.and_eq_true, decide_eq_true_eq] at h
  refine bnL_of (by simp; omega) fun j r e => ?_
  have hj : j < l.length := by have := (List.getElem?_eq_some_iff.1 e).1; simpa using this
  rw [dLines_get hj] at e
  injection e with e; subst e
  have := List.all_eq_true.1 h.1 l[j] (List.getElem_mem hj)
  simp only [lineB, lineOk, textOk, Bool.and_eq_true, decide_eq_true_eq] at this
  simp only [bnR_cons, bnR_nil, bnD_l, bnD_a, Bool.and_true]
  exact bnL_ints (by omega)
theorem TEd.sm_of {e : TEd} (h : e.ok = true) : e.sm := by
  simp only [TEd.ok, edOk, Bool.and_eq_true, decide_eq_true_eq] at h
  obtain ⟨a1, a2, a3, a4, a5, a6, a7, a8, a9, a10, a11, a12, a13, a14, a15, a16⟩ := h
  have len : ∀ {l : List Int} {a : Int}, lineOk l a = true → l.length ≤ 1000000000 := fun h => by
    simp only [lineOk, textOk, Bool.and_eq_true, decide_eq_true_eq] at h; omega
  exact ⟨len a1, len a2, len a3, by omega, sm_pieces a9, sm_lines a10⟩
end Go.Proofs.YtjhdikdopdcfcaaGreatDoor
namespace Go.Proofs.YtjhdikdopdcfcaaGreatDoor
open Go.RowKit
set_option linter.unusedSimpArgs false
set_option linter.unusedVariables false
set_option maxHeartbeats 8000000
set_option maxRecDepth 10000
theorem EX_sMakeEmacs (b : List UInt8) (hb : b.length ≤ 1048576) : ∃ (t : List Int) (a : Nat) (r : List TPiece) (last f : Int) (l : List ByteArray),
    M_sMakeEmacs [.lst (some 0) (byts b)] [] [] = some ⟨.tup [.agg [V.v (.bool false), V.v (.int .i64 0), .own 0, V.v (.int .i64 (a : Int)), V.v (.int .i64 0), V.v (.int .i64 0), V.v (.int .i64 0), V.v (.int .i64 0), V.v (.int .i64 0), V.v (.int .i64 0), V.v (.int .i64 last), .own 1, .own 2, V.v (.int .i64 0), .own 3, V.v (.int .i64 0), .own 4, V.v (.int .i64 0), .own 5, V.v (.int .i64 0)], .agg [V.v (.int .i64 f), .own 6]], [], [(0, ints t), (1, dPieces r), (2, []), (3, []), (4, []), (5, []), (6, strs l)]⟩ ∧
    t.all typed = true ∧ t.length ≤ 16 ∧ a ≤ t.length ∧ ringOk r = true ∧ (0 ≤ last ∧ last ≤ 3) ∧ HistI f l ∧ ∀ s ∈ l, Cmd s := by
  obtain ⟨h0, e0⟩ := EX_sl01New b hb
  obtain ⟨t, a, i1, h1, e1, r1, r2, r3, j1⟩ := EX_sl13Draw b 0 h0 hb (by omega)
  obtain ⟨r, i2, h2, e2, r4, j2⟩ := EX_sl15Ring b i1 h1 hb j1
  obtain ⟨last, i3, h3, e3, r5, j3⟩ := EX_sl01Below b i2 h2 4 hb j2 (by omega)
  obtain ⟨f, l, i4, h4, e4, r6, r7, j4⟩ := EX_sl16Draw b i3 h3 hb j3
  have e5 := E_sEdNew false
  unfold curV at e0 e1 e2 e3 e4
  generalize hE : M_sMakeEmacs _ _ _ = R
  unfold M_sMakeEmacs at hE
  simp [Tryz.func5, Tryz.f5, e0, e1, e2, e3, e4, e5] at hE
  exact ⟨t, a, r, last, f, l, hE.symm, r1, r2, r3, r4, by omega, r6, r7⟩
end Go.Proofs.YtjhdikdopdcfcaaGreatDoor
namespace Go.Proofs.YtjhdikdopdcfcaaGreatDoor
open Go.RowKit
set_option linter.unusedSimpArgs false
set_option linter.unusedVariables false
set_option maxHeartbeats 16000000
set_option maxRecDepth 100000
end Go.Proofs.YtjhdikdopdcfcaaGreatDoor
namespace Go.Proofs.YtjhdikdopdcfcaaGreatDoor
open Go.RowKit
set_option linter.unusedSimpArgs false
set_option linter.unusedVariables false
set_option maxHeartbeats 8000000
set_option maxRecDepth 10000
theorem E_icopyInts (l : List Int) (i : Option Nat) (h : l.length ≤ 1000000) : M_icopyInts [.lst i (ints l)] [] [] = some ⟨.own 0, [], [(0, ints l)]⟩ := by
  have g1 : l.length * 8 ≤ 140737488355328 := by omega
  have g2 : l.length ≤ 4611686018427387904 := by omega
  unfold M_icopyInts
  simp [Tryz.func64, Tryz.f64, g1, g2]
theorem E_icopyLine (l : List Int) (i : Option Nat) (a : Int) (h : l.length ≤ 1000000) : M_icopyLine [.agg [.lst i (ints l), V.v (.int .i64 a)]] [] [] = some ⟨.agg [.own 0, V.v (.int .i64 a)], [], [(0, ints l)]⟩ := by
  have e := E_icopyInts l (some 0) h
  unfold M_icopyLine
  simp [Tryz.func61, Tryz.f61, e]
theorem E_icopyRing (l : List TPiece) (i : Option Nat) (h : l.length ≤ 1000) (hp : ∀ p ∈ l, p.Text.length ≤ 2000) : M_icopyRing [.agg [.lst i (dPieces l)]] [] [] = some ⟨.agg [.own 0], [], [(0, dPieces l)]⟩ := by
  unfold M_icopyRing
  simp [Tryz.func62, Tryz.f62]
  rw [loopV_go (fun k => .on ⟨[(9, V.v (.int .i64 ((k : Int)))), (8, V.v (.int .i64 ((l.length : Int)))), (7, .lst i (dPieces l)), (3, .ref 3 0), (2, .ref 2 0)], [(3, [.own 2000000000]), (2, [.own 2000000001])], [(2000000001, []), (2000000000, dPieces (l.take k))], []⟩) l.length ?_ ?_]
  · simp
  · simp [show dPieces [] = [] from rfl]
  · intro k hk
    have hw := w64 ((k : Int) + 1) (by omega)
    have hq := hp l[k] (List.getElem_mem hk)
    have e := E_icopyInts l[k].Text (some 0) (by omega)
    have g3 : min k l.length = k := by omega
    have g4 : (k + 1) * 24 ≤ 140737488355328 := by omega
    have g5 : k ≤ 4611686018427387903 := by omega
    have g6 : dPieces (l.take (k + 1)) = dPieces (l.take k) ++ [[.l (ints l[k].Text)]] := by rw [dPieces_snoc, ← List.take_succ_eq_append_getElem hk]
    simp [hk, hw, e, g3, g4, g5, g6]
theorem E_icopyUndo (l : List TLine) (i : Option Nat) (h : l.length ≤ 1000) (hp : ∀ p ∈ l, p.Text.length ≤ 2000) : M_icopyUndo [.agg [.lst i (dLines l)]] [] [] = some ⟨.agg [.own 0], [], [(0, dLines l)]⟩ := by
  unfold M_icopyUndo
  simp [Tryz.func63, Tryz.f63]
  rw [loopV_go (fun k => .on ⟨[(9, V.v (.int .i64 ((k : Int)))), (8, V.v (.int .i64 ((l.length : Int)))), (7, .lst i (dLines l)), (3, .ref 3 0), (2, .ref 2 0)], [(3, [.own 2000000000]), (2, [.own 2000000001])], [(2000000001, []), (2000000000, dLines (l.take k))], []⟩) l.length ?_ ?_]
  · simp
  · simp [show dLines [] = [] from rfl]
  · intro k hk
    have hw := w64 ((k : Int) + 1) (by omega)
    have hq := hp l[k] (List.getElem_mem hk)
    have e := E_icopyLine l[k].Text (some 0) l[k].At (by omega)
    have g3 : min k l.length = k := by omega
    have g4 : (k + 1) * 32 ≤ 140737488355328 := by omega
    have g5 : k ≤ 4611686018427387903 := by omega
    have g6 : dLines (l.take (k + 1)) = dLines (l.take k) ++ [[.l (ints l[k].Text), D.a (.int .i64 (l[k].At))]] := by rw [dLines_snoc, ← List.take_succ_eq_append_getElem hk]
    simp [hk, hw, e, g3, g4, g5, g6]
structure EdB (e : TEd) : Prop where
  line : e.Line.Text.length ≤ 2000
  own : e.Own.Text.length ≤ 2000
  back : e.Back.Text.length ≤ 2000
  query : e.Query.length ≤ 2000
  ring : e.Ring.Pieces.length ≤ 1000 ∧ ∀ p ∈ e.Ring.Pieces, p.Text.length ≤ 2000
  undo : e.Undo.Lines.length ≤ 1000 ∧ ∀ p ∈ e.Undo.Lines, p.Text.length ≤ 2000
theorem E_icopyEd (e : TEd) (h : EdB e) : M_icopyEd [.agg [V.v (.bool e.Vi), V.v (.int .i64 e.Mode), .lst (some 0) (ints e.Line.Text), V.v (.int .i64 e.Line.At), V.v (.int .i64 e.Count), V.v (.int .i64 e.Op), V.v (.int .i64 e.OpCount), V.v (.int .i64 e.Wait), V.v (.int .i64 e.FindR), V.v (.int .i64 e.FindHow), V.v (.int .i64 e.Last), .lst (some 1) (dPieces e.Ring.Pieces), .lst (some 2) (dLines e.Undo.Lines), V.v (.int .i64 e.Nav), .lst (some 3) (ints e.Own.Text), V.v (.int .i64 e.Own.At), .lst (some 4) (ints e.Query), V.v (.int .i64 e.Hit), .lst (some 5) (ints e.Back.Text), V.v (.int .i64 e.Back.At)]] [] [] = some ⟨.agg [V.v (.bool e.Vi), V.v (.int .i64 e.Mode), .own 0, V.v (.int .i64 e.Line.At), V.v (.int .i64 e.Count), V.v (.int .i64 e.Op), V.v (.int .i64 e.OpCount), V.v (.int .i64 e.Wait), V.v (.int .i64 e.FindR), V.v (.int .i64 e.FindHow), V.v (.int .i64 e.Last), .own 1, .own 2, V.v (.int .i64 e.Nav), .own 3, V.v (.int .i64 e.Own.At), .own 4, V.v (.int .i64 e.Hit), .own 5, V.v (.int .i64 e.Back.At)], [], [(0, ints e.Line.Text), (1, dPieces e.Ring.Pieces), (2, dLines e.Undo.Lines), (3, ints e.Own.Text), (4, ints e.Query), (5, ints e.Back.Text)]⟩ := by
  have e1 := E_icopyLine e.Line.Text (some 0) e.Line.At (by have := h.line; omega)
  have e2 := E_icopyLine e.Own.Text (some 0) e.Own.At (by have := h.own; omega)
  have e3 := E_icopyLine e.Back.Text (some 0) e.Back.At (by have := h.back; omega)
  have e4 := E_icopyRing e.Ring.Pieces (some 0) h.ring.1 h.ring.2
  have e5 := E_icopyUndo e.Undo.Lines (some 0) h.undo.1 h.undo.2
  have e6 := E_icopyInts e.Query (some 0) (by have := h.query; omega)
  unfold M_icopyEd
  simp [Tryz.func43, Tryz.f43, e1, e2, e3, e4, e5, e6]
theorem E_isettled (e : TEd) (h : EdB e) (last : Int) : M_isettled [.agg [V.v (.bool e.Vi), V.v (.int .i64 e.Mode), .lst (some 0) (ints e.Line.Text), V.v (.int .i64 e.Line.At), V.v (.int .i64 e.Count), V.v (.int .i64 e.Op), V.v (.int .i64 e.OpCount), V.v (.int .i64 e.Wait), V.v (.int .i64 e.FindR), V.v (.int .i64 e.FindHow), V.v (.int .i64 e.Last), .lst (some 1) (dPieces e.Ring.Pieces), .lst (some 2) (dLines e.Undo.Lines), V.v (.int .i64 e.Nav), .lst (some 3) (ints e.Own.Text), V.v (.int .i64 e.Own.At), .lst (some 4) (ints e.Query), V.v (.int .i64 e.Hit), .lst (some 5) (ints e.Back.Text), V.v (.int .i64 e.Back.At)], V.v (.int .i64 last)] [] [] = some ⟨.agg [V.v (.bool e.Vi), V.v (.int .i64 e.Mode), .own 0, V.v (.int .i64 e.Line.At), V.v (.int .i64 0), V.v (.int .i64 0), V.v (.int .i64 0), V.v (.int .i64 0), V.v (.int .i64 e.FindR), V.v (.int .i64 e.FindHow), V.v (.int .i64 last), .own 1, .own 2, V.v (.int .i64 e.Nav), .own 3, V.v (.int .i64 e.Own.At), .own 4, V.v (.int .i64 e.Hit), .own 5, V.v (.int .i64 e.Back.At)], [], [(0, ints e.Line.Text), (1, dPieces e.Ring.Pieces), (2, dLines e.Undo.Lines), (3, ints e.Own.Text), (4, ints e.Query), (5, ints e.Back.Text)]⟩ := by
  have e1 := E_icopyEd e h
  unfold M_isettled
  simp [Tryz.func118, Tryz.f118, e1]
theorem E_ibell (e : TEd) (h : EdB e) : M_ibell [.agg [V.v (.bool e.Vi), V.v (.int .i64 e.Mode), .lst (some 0) (ints e.Line.Text), V.v (.int .i64 e.Line.At), V.v (.int .i64 e.Count), V.v (.int .i64 e.Op), V.v (.int .i64 e.OpCount), V.v (.int .i64 e.Wait), V.v (.int .i64 e.FindR), V.v (.int .i64 e.FindHow), V.v (.int .i64 e.Last), .lst (some 1) (dPieces e.Ring.Pieces), .lst (some 2) (dLines e.Undo.Lines), V.v (.int .i64 e.Nav), .lst (some 3) (ints e.Own.Text), V.v (.int .i64 e.Own.At), .lst (some 4) (ints e.Query), V.v (.int .i64 e.Hit), .lst (some 5) (ints e.Back.Text), V.v (.int .i64 e.Back.At)]] [] [] = some ⟨.tup [.agg [V.v (.bool e.Vi), V.v (.int .i64 e.Mode), .own 0, V.v (.int .i64 e.Line.At), V.v (.int .i64 0), V.v (.int .i64 0), V.v (.int .i64 0), V.v (.int .i64 0), V.v (.int .i64 e.FindR), V.v (.int .i64 e.FindHow), V.v (.int .i64 0), .own 1, .own 2, V.v (.int .i64 e.Nav), .own 3, V.v (.int .i64 e.Own.At), .own 4, V.v (.int .i64 e.Hit), .own 5, V.v (.int .i64 e.Back.At)], V.v (.int .i64 1)], [], [(0, ints e.Line.Text), (1, dPieces e.Ring.Pieces), (2, dLines e.Undo.Lines), (3, ints e.Own.Text), (4, ints e.Query), (5, ints e.Back.Text)]⟩ := by
  have e1 := E_isettled e h 0
  unfold M_ibell
  simp [Tryz.func82, Tryz.f82, e1]
end Go.Proofs.YtjhdikdopdcfcaaGreatDoor
namespace Go.Proofs.YtjhdikdopdcfcaaGreatDoor
open Go.RowKit
set_option linter.unusedSimpArgs false
set_option linter.unusedVariables false
set_option maxHeartbeats 8000000
set_option maxRecDepth 10000
theorem E_iEdOk' (e : TEd) (ok : e.ok = true) : M_iEdOk [.agg [V.v (.bool e.Vi), V.v (.int .i64 e.Mode), .lst (some 0) (ints e.Line.Text), V.v (.int .i64 e.Line.At), V.v (.int .i64 e.Count), V.v (.int .i64 e.Op), V.v (.int .i64 e.OpCount), V.v (.int .i64 e.Wait), V.v (.int .i64 e.FindR), V.v (.int .i64 e.FindHow), V.v (.int .i64 e.Last), .lst (some 1) (dPieces e.Ring.Pieces), .lst (some 2) (dLines e.Undo.Lines), V.v (.int .i64 e.Nav), .lst (some 3) (ints e.Own.Text), V.v (.int .i64 e.Own.At), .lst (some 4) (ints e.Query), V.v (.int .i64 e.Hit), .lst (some 5) (ints e.Back.Text), V.v (.int .i64 e.Back.At)]] [] [] = some ⟨V.v (.bool true), [], []⟩ := by
  have hsm := TEd.sm_of ok
  have hE := E_iEdOk e.Vi e.Mode e.Line.Text e.Line.At e.Count e.Op e.OpCount e.Wait e.FindR e.FindHow e.Last e.Ring.Pieces e.Undo.Lines e.Nav e.Own.Text e.Own.At e.Query e.Hit e.Back.Text e.Back.At hsm.h1 hsm.h2 hsm.h3 hsm.h4 hsm.h5 hsm.h6
  rw [hE]
  have : edOk e.Vi e.Mode e.Line.Text e.Line.At e.Count e.Op e.OpCount e.Wait e.FindR e.FindHow e.Last e.Ring.Pieces e.Undo.Lines e.Nav e.Own.Text e.Own.At e.Query e.Hit e.Back.Text e.Back.At = true := ok
  rw [this]
theorem EdB.of {e : TEd} (ok : e.ok = true) : EdB e := by
  simp only [TEd.ok, edOk, Bool.and_eq_true, decide_eq_true_eq] at ok
  obtain ⟨a1, a2, a3, a4, a5, a6, a7, a8, a9, a10, a11, a12, a13, a14, a15, a16⟩ := ok
  have len : ∀ {l : List Int} {a : Int}, lineOk l a = true → l.length ≤ 400 := fun h => by
    simp only [lineOk, textOk, Bool.and_eq_true, decide_eq_true_eq] at h; exact h.1.1
  simp only [ringOk, undoOk, Bool.and_eq_true, decide_eq_true_eq] at a9 a10
  refine ⟨by have := len a1; omega, by have := len a2; omega, by have := len a3; omega, by omega, ⟨by omega, fun p hp => ?_⟩, by omega, fun p hp => ?_⟩
  · have := List.all_eq_true.1 a9.1 p hp
    simp only [pieceB, textOk, Bool.and_eq_true, decide_eq_true_eq] at this; omega
  · have := List.all_eq_true.1 a10.1 p hp
    simp only [lineB] at this
    have := len this; omega
theorem E_iinCommand0 (t : List Int) (a mode : Int) (h : ¬ mode = 2) : M_iinCommand [.agg [.lst (some 0) (ints t), V.v (.int .i64 a)], V.v (.int .i64 mode)] [] [] = some ⟨.agg [.lst (some 0) (ints t), V.v (.int .i64 a)], [], []⟩ := by
  unfold M_iinCommand
  simp [Tryz.func120, Tryz.f120, h]
theorem E_iLineOf (s : ByteArray) (t : List Int) (h : Reads s.data.toList t []) (ht : textOk t = true) (hs : s.size ≤ 65536) : M_iLineOf [V.v (.string s)] [] [] = some ⟨.tup [.agg [.own 0, V.v (.int .i64 ((t.length : Int)))], V.v (.bool true)], [], [(0, ints t)]⟩ := by
  have e1 := E_iRunesOf s t [] h hs
  have hl : t.length ≤ 400 := by simp only [textOk, Bool.and_eq_true, decide_eq_true_eq] at ht; exact ht.1
  have e2 := E_iLineOk t t.length (by omega)
  have q : lineOk t t.length = true := by
    unfold lineOk
    rw [ht, inR_iff.2 (by omega)]; rfl
  rw [q] at e2
  unfold M_iLineOf
  simp [Tryz.func148, Tryz.f148, e1, e2]
theorem reads_nil : Reads (⟨#[]⟩ : ByteArray).data.toList [] [] := ⟨rfl, (fun _ h => nomatch h), rfl⟩
theorem E_istep_ok (e e' : TEd) (f by_ : Int) (l : List ByteArray) (h : M_iEdStep [.agg [V.v (.bool e.Vi), V.v (.int .i64 e.Mode), .lst (some 0) (ints e.Line.Text), V.v (.int .i64 e.Line.At), V.v (.int .i64 e.Count), V.v (.int .i64 e.Op), V.v (.int .i64 e.OpCount), V.v (.int .i64 e.Wait), V.v (.int .i64 e.FindR), V.v (.int .i64 e.FindHow), V.v (.int .i64 e.Last), .lst (some 1) (dPieces e.Ring.Pieces), .lst (some 2) (dLines e.Undo.Lines), V.v (.int .i64 e.Nav), .lst (some 3) (ints e.Own.Text), V.v (.int .i64 e.Own.At), .lst (some 4) (ints e.Query), V.v (.int .i64 e.Hit), .lst (some 5) (ints e.Back.Text), V.v (.int .i64 e.Back.At)], .agg [V.v (.int .i64 f), .lst (some 6) (strs l)], V.v (.int .i64 by_)] [] [] = some ⟨.tup [.agg [V.v (.bool e'.Vi), V.v (.int .i64 e'.Mode), .own 0, V.v (.int .i64 e'.Line.At), V.v (.int .i64 e'.Count), V.v (.int .i64 e'.Op), V.v (.int .i64 e'.OpCount), V.v (.int .i64 e'.Wait), V.v (.int .i64 e'.FindR), V.v (.int .i64 e'.FindHow), V.v (.int .i64 e'.Last), .own 1, .own 2, V.v (.int .i64 e'.Nav), .own 3, V.v (.int .i64 e'.Own.At), .own 4, V.v (.int .i64 e'.Hit), .own 5, V.v (.int .i64 e'.Back.At)], V.v (.bool true)], [], [(0, ints e'.Line.Text), (1, dPieces e'.Ring.Pieces), (2, dLines e'.Undo.Lines), (3, ints e'.Own.Text), (4, ints e'.Query), (5, ints e'.Back.Text)]⟩) :
    M_istep [.agg [V.v (.bool e.Vi), V.v (.int .i64 e.Mode), .lst (some 0) (ints e.Line.Text), V.v (.int .i64 e.Line.At), V.v (.int .i64 e.Count), V.v (.int .i64 e.Op), V.v (.int .i64 e.OpCount), V.v (.int .i64 e.Wait), V.v (.int .i64 e.FindR), V.v (.int .i64 e.FindHow), V.v (.int .i64 e.Last), .lst (some 1) (dPieces e.Ring.Pieces), .lst (some 2) (dLines e.Undo.Lines), V.v (.int .i64 e.Nav), .lst (some 3) (ints e.Own.Text), V.v (.int .i64 e.Own.At), .lst (some 4) (ints e.Query), V.v (.int .i64 e.Hit), .lst (some 5) (ints e.Back.Text), V.v (.int .i64 e.Back.At)], .agg [V.v (.int .i64 f), .lst (some 6) (strs l)], V.v (.int .i64 by_)] [] [] = some ⟨.tup [.agg [V.v (.bool e'.Vi), V.v (.int .i64 e'.Mode), .own 0, V.v (.int .i64 e'.Line.At), V.v (.int .i64 e'.Count), V.v (.int .i64 e'.Op), V.v (.int .i64 e'.OpCount), V.v (.int .i64 e'.Wait), V.v (.int .i64 e'.FindR), V.v (.int .i64 e'.FindHow), V.v (.int .i64 e'.Last), .own 1, .own 2, V.v (.int .i64 e'.Nav), .own 3, V.v (.int .i64 e'.Own.At), .own 4, V.v (.int .i64 e'.Hit), .own 5, V.v (.int .i64 e'.Back.At)], V.v (.int .i64 0)], [], [(0, ints e'.Line.Text), (1, dPieces e'.Ring.Pieces), (2, dLines e'.Undo.Lines), (3, ints e'.Own.Text), (4, ints e'.Query), (5, ints e'.Back.Text)]⟩ := by
  unfold M_istep
  simp [Tryz.func102, Tryz.f102, h]
theorem E_istep_no (e : TEd) (hb : EdB e) (f by_ : Int) (l : List ByteArray) (h : M_iEdStep [.agg [V.v (.bool e.Vi), V.v (.int .i64 e.Mode), .lst (some 0) (ints e.Line.Text), V.v (.int .i64 e.Line.At), V.v (.int .i64 e.Count), V.v (.int .i64 e.Op), V.v (.int .i64 e.OpCount), V.v (.int .i64 e.Wait), V.v (.int .i64 e.FindR), V.v (.int .i64 e.FindHow), V.v (.int .i64 e.Last), .lst (some 1) (dPieces e.Ring.Pieces), .lst (some 2) (dLines e.Undo.Lines), V.v (.int .i64 e.Nav), .lst (some 3) (ints e.Own.Text), V.v (.int .i64 e.Own.At), .lst (some 4) (ints e.Query), V.v (.int .i64 e.Hit), .lst (some 5) (ints e.Back.Text), V.v (.int .i64 e.Back.At)], .agg [V.v (.int .i64 f), .lst (some 6) (strs l)], V.v (.int .i64 by_)] [] [] = some ⟨.tup [.agg [V.v (.bool false), V.v (.int .i64 0), .own 0, V.v (.int .i64 0), V.v (.int .i64 0), V.v (.int .i64 0), V.v (.int .i64 0), V.v (.int .i64 0), V.v (.int .i64 0), V.v (.int .i64 0), V.v (.int .i64 0), .own 1, .own 2, V.v (.int .i64 0), .own 3, V.v (.int .i64 0), .own 4, V.v (.int .i64 0), .own 5, V.v (.int .i64 0)], V.v (.bool false)], [], [(0, []), (1, []), (2, []), (3, []), (4, []), (5, [])]⟩) :
    M_istep [.agg [V.v (.bool e.Vi), V.v (.int .i64 e.Mode), .lst (some 0) (ints e.Line.Text), V.v (.int .i64 e.Line.At), V.v (.int .i64 e.Count), V.v (.int .i64 e.Op), V.v (.int .i64 e.OpCount), V.v (.int .i64 e.Wait), V.v (.int .i64 e.FindR), V.v (.int .i64 e.FindHow), V.v (.int .i64 e.Last), .lst (some 1) (dPieces e.Ring.Pieces), .lst (some 2) (dLines e.Undo.Lines), V.v (.int .i64 e.Nav), .lst (some 3) (ints e.Own.Text), V.v (.int .i64 e.Own.At), .lst (some 4) (ints e.Query), V.v (.int .i64 e.Hit), .lst (some 5) (ints e.Back.Text), V.v (.int .i64 e.Back.At)], .agg [V.v (.int .i64 f), .lst (some 6) (strs l)], V.v (.int .i64 by_)] [] [] = some ⟨.tup [.agg [V.v (.bool e.Vi), V.v (.int .i64 e.Mode), .own 0, V.v (.int .i64 e.Line.At), V.v (.int .i64 0), V.v (.int .i64 0), V.v (.int .i64 0), V.v (.int .i64 0), V.v (.int .i64 e.FindR), V.v (.int .i64 e.FindHow), V.v (.int .i64 0), .own 1, .own 2, V.v (.int .i64 e.Nav), .own 3, V.v (.int .i64 e.Own.At), .own 4, V.v (.int .i64 e.Hit), .own 5, V.v (.int .i64 e.Back.At)], V.v (.int .i64 1)], [], [(0, ints e.Line.Text), (1, dPieces e.Ring.Pieces), (2, dLines e.Undo.Lines), (3, ints e.Own.Text), (4, ints e.Query), (5, ints e.Back.Text)]⟩ := by
  have e1 := E_ibell e hb
  unfold M_istep
  simp [Tryz.func102, Tryz.f102, h, e1]
end Go.Proofs.YtjhdikdopdcfcaaGreatDoor
namespace Go.Proofs.YtjhdikdopdcfcaaGreatDoor
open Go.RowKit
set_option linter.unusedSimpArgs false
set_option linter.unusedVariables false
set_option maxHeartbeats 8000000
set_option maxRecDepth 10000
theorem firstDiff : ∀ (a b : List Int), a.length = b.length → a = b ∨ ∃ N, ∃ h : N < a.length, ∃ h' : N < b.length, a[N] ≠ b[N] ∧ ∀ j (hj : j < a.length) (hj' : j < b.length), j < N → a[j] = b[j]
  | [], [], _ => .inl rfl
  | x :: a, y :: b, h => by
    by_cases e : x = y
    · subst e
      rcases firstDiff a b (by simpa using h) with h1 | ⟨N, h1, h2, h3, h4⟩
      · exact .inl (by rw [h1])
      · refine .inr ⟨N + 1, by simp; exact h1, by simp; exact h2, by simpa using h3, fun j hj hj' hjN => ?_⟩
        cases j with
        | zero => rfl
        | succ j => simpa using h4 j (by simpa using hj) (by simpa using hj') (by omega)
    · exact .inr ⟨0, by simp, by simp, by simpa using e, fun j _ _ hj => by omega⟩
theorem E_isameInts (a b : List Int) (ha : a.length ≤ 1000000) (hb : b.length ≤ 1000000) : M_isameInts [.lst (some 0) (ints a), .lst (some 1) (ints b)] [] [] = some ⟨V.v (.bool (decide (a = b))), [], []⟩ := by
  unfold M_isameInts
  by_cases hl : a.length = b.length
  · have hli : (a.length : Int) = b.length := by omega
    simp [Tryz.func140, Tryz.f140, hl, hli]
    rcases firstDiff a b hl with h | ⟨N, h1, h2, h3, h4⟩
    · subst h
      rw [loopV_go (fun j => .on ⟨[(13, V.v (.int .i64 ((j : Int)))), (12, V.v (.int .i64 ((a.length : Int)))), (1, .lst (some 1) (ints a)), (0, .lst (some 0) (ints a))], [], [], []⟩) a.length ?_ ?_]
      · simp
      · simp
      · intro j hj
        have hw := w64 ((j : Int) + 1) (by omega)
        simp [hj, hw, ints_get hj]
    · have hab : ¬ a = b := fun e => by subst e; exact h3 rfl
      rw [loopV_go (fun j => .on ⟨[(13, V.v (.int .i64 ((j : Int)))), (12, V.v (.int .i64 ((b.length : Int)))), (1, .lst (some 1) (ints b)), (0, .lst (some 0) (ints a))], [], [], []⟩) N ?_ ?_]
      · simp [h1, h2, ints_get h1, ints_get h2, h3, hab]
      · simp
      · intro j hj
        have j1 : j < a.length := by omega
        have j2 : j < b.length := by omega
        have hw := w64 ((j : Int) + 1) (by omega)
        simp [j1, j2, hw, ints_get j1, ints_get j2, h4 j j1 j2 hj]
  · have hli : ¬ (a.length : Int) = b.length := by omega
    have hab : ¬ a = b := fun e => hl (by rw [e])
    simp [Tryz.func140, Tryz.f140, hl, hli, hab]
theorem E_igoTo (t : List Int) (i : Option Nat) (a at_ : Int) (h : t.length ≤ 1000000) : M_igoTo [.agg [.lst i (ints t), V.v (.int .i64 a)], V.v (.int .i64 at_)] [] [] = some ⟨.agg [.own 0, V.v (.int .i64 (max 0 (min at_ t.length)))], [], [(0, ints t)]⟩ := by
  have e := E_icopyInts t (some 0) h
  unfold M_igoTo
  simp [Tryz.func101, Tryz.f101, e]
def cutAt (a from_ to_ : Int) : Int := if to_ ≤ a then a - (to_ - from_) else if from_ < a then from_ else a
theorem E_iLineCut (t : List Int) (a : Int) (h : lineOk t a = true) (f to_ : Nat) (h1 : f ≤ to_) (h2 : to_ ≤ t.length) : M_iLineCut [.agg [.lst (some 0) (ints t), V.v (.int .i64 a)], V.v (.int .i64 ((f : Int))), V.v (.int .i64 ((to_ : Int)))] [] [] = some ⟨.tup [.agg [.own 0, V.v (.int .i64 (cutAt a f to_))], .own 1, V.v (.bool true)], [], [(0, ints (t.take f ++ t.drop to_)), (1, ints ((t.drop f).take (to_ - f)))]⟩ := by
  have hl : t.length ≤ 400 := by simp only [lineOk, textOk, Bool.and_eq_true, decide_eq_true_eq] at h; exact h.1.1
  have ha : 0 ≤ a ∧ a ≤ t.length := by simp only [lineOk, Bool.and_eq_true] at h; exact inR_of h.2
  have e1 := E_iLineOk t a (by omega)
  rw [h] at e1
  have e2 : M_iinLine [.agg [.lst (some 0) (ints t), V.v (.int .i64 a)], V.v (.int .i64 ((f : Int))), V.v (.int .i64 ((to_ : Int)))] [] [] = some ⟨V.v (.bool true), [], []⟩ := by
    have q1 : (f : Int) ≤ to_ := by omega
    have q2 : (to_ : Int) ≤ t.length := by omega
    unfold M_iinLine
    simp [Tryz.func142, Tryz.f142, e1, q1, q2]
  have e3 := E_icopyInts (t.take f) (some 0) (by simp; omega)
  have e4 := E_icopyInts ((t.drop f).take (to_ - f)) (some 0) (by simp; omega)
  have q0 : f ≤ t.length := by omega
  have q1 : (f : Int) ≤ to_ := by omega
  have q2 : (to_ : Int) ≤ t.length := by omega
  have q3 : (f : Int) ≤ t.length := by omega
  have q4 : (min f t.length + (t.length - to_)) * 8 ≤ 140737488355328 := by omega
  have q5 : min f t.length + (t.length - to_) ≤ 4611686018427387904 := by omega
  have q6 : min f t.length = f := by omega
  have q7 : (f + (t.length - to_)) * 8 ≤ 140737488355328 := by omega
  have q8 : f + (t.length - to_) ≤ 4611686018427387904 := by omega
  have q9 : (t.drop to_).take (t.length - to_) = t.drop to_ := List.take_of_length_le (by simp)
  have w1 := w64 ((to_ : Int) - f) (by omega)
  have w2 := w64 (a - ((to_ : Int) - f)) (by omega)
  generalize hE : M_iLineCut _ _ _ = R
  unfold M_iLineCut at hE
  unfold cutAt
  by_cases c1 : (to_ : Int) ≤ a
  · simp [-ints_app, ← ints_app, Tryz.func111, Tryz.f111, e2, e3, e4, q0, q1, q2, q3, q4, q5, q6, q7, q8, q9, w1, w2, c1, h1, h2] at hE
    rw [if_pos c1]
    exact hE.symm
  · by_cases c2 : (f : Int) < a
    · simp [-ints_app, ← ints_app, Tryz.func111, Tryz.f111, e2, e3, e4, q0, q1, q2, q3, q4, q5, q6, q7, q8, q9, c1, c2, h1, h2] at hE
      rw [if_neg c1, if_pos c2]
      exact hE.symm
    · simp [-ints_app, ← ints_app, Tryz.func111, Tryz.f111, e2, e3, e4, q0, q1, q2, q3, q4, q5, q6, q7, q8, q9, c1, c2, h1, h2] at hE
      rw [if_neg c1, if_neg c2]
      exact hE.symm
theorem piece_len {l : List TPiece} (h : ringOk l = true) : l.length ≤ 6 ∧ ∀ p ∈ l, 0 < p.Text.length ∧ p.Text.length ≤ 400 ∧ p.Text.all typed = true := by
  simp only [ringOk, Bool.and_eq_true, decide_eq_true_eq] at h
  refine ⟨h.2, fun p hp => ?_⟩
  have := List.all_eq_true.1 h.1 p hp
  simp only [pieceB, textOk, Bool.and_eq_true, decide_eq_true_eq] at this
  exact ⟨this.1, this.2.1, this.2.2⟩
theorem ring_new {l : List TPiece} {t : List Int} (h : ringOk l = true) (ht : textOk t = true) (h0 : t ≠ []) : ringOk ((⟨t⟩ :: l).take 6) = true := by
  simp only [ringOk, Bool.and_eq_true, decide_eq_true_eq] at h ⊢
  refine ⟨List.all_eq_true.2 fun p hp => ?_, by simp; omega⟩
  rcases List.mem_cons.1 (List.mem_of_mem_take hp) with rfl | hp
  · simp [pieceB, ht, List.length_pos_iff.2 h0]
  · exact List.all_eq_true.1 h.1 p hp
theorem E_iRingTop (l : List TPiece) (h : ringOk l = true) : M_iRingTop [.agg [.lst (some 0) (dPieces l)]] [] [] = some ⟨.own 0, [], [(0, ints ((l.head?.map (·.Text)).getD []))]⟩ := by
  obtain ⟨hl, hp⟩ := piece_len h
  have e1 := E_iRingOk l (sm_pieces h)
  rw [h] at e1
  unfold M_iRingTop
  cases l with
  | nil =>
    simp only [show dPieces [] = [] from rfl] at e1 ⊢
    simp [Tryz.func139, Tryz.f139, e1, ints_nil]
  | cons p l =>
    have e2 := E_icopyInts p.Text (some 0) (by have := (hp p (by simp)).2.1; omega)
    have hn : ¬ (l.length : Int) + 1 = 0 := by omega
    rw [dPieces_cons] at e1 ⊢
    simp [Tryz.func139, Tryz.f139, e1, e2, hn]
theorem undo_len {l : List TLine} (h : undoOk l = true) : ∀ p ∈ l, lineOk p.Text p.At = true := by
  simp only [undoOk, Bool.and_eq_true, decide_eq_true_eq] at h
  intro p hp
  have := List.all_eq_true.1 h.1 p hp
  simpa [lineB] using this
end Go.Proofs.YtjhdikdopdcfcaaGreatDoor
namespace Go.Proofs.YtjhdikdopdcfcaaGreatDoor
open Go.RowKit
set_option linter.unusedSimpArgs false
set_option linter.unusedVariables false
set_option maxHeartbeats 8000000
set_option maxRecDepth 10000
def clipAt (t : List Int) (a : Int) : Int := if atEnd t a = true then a - 1 else a
theorem E_iinCommand2 (t : List Int) (a : Int) (ha : 0 ≤ a ∧ a ≤ 1000) : M_iinCommand [.agg [.lst (some 0) (ints t), V.v (.int .i64 a)], V.v (.int .i64 2)] [] [] = some ⟨.agg [.lst (some 0) (ints t), V.v (.int .i64 (clipAt t a))], [], []⟩ := by
  have e1 := E_iisAtEnd t a
  have w := w64 (a - 1) (by omega)
  unfold M_iinCommand clipAt
  cases h : atEnd t a
  · rw [h] at e1
    simp [Tryz.func120, Tryz.f120, e1]
  · rw [h] at e1
    simp [Tryz.func120, Tryz.f120, e1, w]
structure SetI (e : TEd) : Prop where
  b : EdB e
  mode : e.Mode = 2
  line : lineOk e.Line.Text e.Line.At = true
  undo : undoOk e.Undo.Lines = true ∧ e.Undo.Lines.length ≤ 19
end Go.Proofs.YtjhdikdopdcfcaaGreatDoor
namespace Go.Proofs.YtjhdikdopdcfcaaGreatDoor
open Go.RowKit
set_option linter.unusedSimpArgs false
set_option linter.unusedVariables false
set_option maxHeartbeats 8000000
set_option maxRecDepth 10000
theorem E_iwithin (a n : Int) : M_iwithin [V.v (.int .i64 a), V.v (.int .i64 n)] [] [] = some ⟨V.v (.int .i64 (max 0 (min a n))), [], []⟩ := by
  unfold M_iwithin
  simp [Tryz.func109, Tryz.f109]
theorem E_iisUpper (r : Int) : M_iisUpper [V.v (.int .i64 r)] [] [] = some ⟨V.v (.bool (inR r 65 90)), [], []⟩ := by
  unfold M_iisUpper
  simp [Tryz.func143, Tryz.f143, E_iin]
theorem E_iKeyOk_rune (r : Int) (h : printable r = true) : M_iKeyOk [.agg [V.v (.int .i64 1), V.v (.int .i64 r)]] [] [] = some ⟨V.v (.bool true), [], []⟩ := by
  unfold M_iKeyOk
  simp [Tryz.func42, Tryz.f42, E_iPrintable, h]
end Go.Proofs.YtjhdikdopdcfcaaGreatDoor
namespace Go.Proofs.YtjhdikdopdcfcaaGreatDoor
open Go.RowKit
set_option linter.unusedSimpArgs false
set_option linter.unusedVariables false
set_option maxHeartbeats 8000000
set_option maxRecDepth 10000
theorem E_iisLower (r : Int) : M_iisLower [V.v (.int .i64 r)] [] [] = some ⟨V.v (.bool (inR r 97 122)), [], []⟩ := by
  unfold M_iisLower
  simp [Tryz.func60, Tryz.f60, E_iin]
theorem E_iisDigit (r : Int) : M_iisDigit [V.v (.int .i64 r)] [] [] = some ⟨V.v (.bool (inR r 48 57)), [], []⟩ := by
  unfold M_iisDigit
  simp [Tryz.func106, Tryz.f106, E_iin]
end Go.Proofs.YtjhdikdopdcfcaaGreatDoor
namespace Go.Proofs.YtjhdikdopdcfcaaGreatDoor
open Go.RowKit
set_option linter.unusedSimpArgs false
set_option linter.unusedVariables false
set_option maxHeartbeats 8000000
set_option maxRecDepth 10000
def ringPut (l : List TPiece) (t : List Int) (how : Int) : List TPiece :=
  if t = [] then l else match l with
  | [] => [⟨t⟩]
  | p :: r => if how = 0 ∨ 400 < p.Text.length + t.length then (⟨t⟩ :: p :: r).take 6 else if how = 1 then ⟨p.Text ++ t⟩ :: r else ⟨t ++ p.Text⟩ :: r
theorem ringPut_ok {l : List TPiece} {t : List Int} (h : ringOk l = true) (ht : textOk t = true) (how : Int) : ringOk (ringPut l t how) = true := by
  unfold ringPut
  by_cases h0 : t = []
  · rw [if_pos h0]; exact h
  rw [if_neg h0]
  cases l with
  | nil => exact ring_new h ht h0
  | cons p r =>
    simp only
    have hp : textOk p.Text = true ∧ ringOk r = true ∧ r.length ≤ 5 := by
      simp only [ringOk, List.all_cons, pieceB, Bool.and_eq_true, decide_eq_true_eq, List.length_cons] at h ⊢
      exact ⟨h.1.1.2, ⟨h.1.2, by omega⟩, by omega⟩
    by_cases h1 : how = 0 ∨ 400 < p.Text.length + t.length
    · rw [if_pos h1]; exact ring_new h ht h0
    rw [if_neg h1]
    have key : ∀ x : List Int, textOk x = true → x ≠ [] → ringOk (⟨x⟩ :: r) = true := fun x hx h0 => by
      have hr := hp.2.1
      simp only [ringOk, List.all_cons, pieceB, Bool.and_eq_true, decide_eq_true_eq, List.length_cons] at hr ⊢
      exact ⟨⟨⟨List.length_pos_iff.2 h0, hx⟩, hr.1⟩, by omega⟩
    have ht' := ht
    have hp' := hp.1
    simp only [textOk, Bool.and_eq_true, decide_eq_true_eq] at ht' hp'
    have hl : p.Text.length + t.length ≤ 400 := by omega
    split
    · exact key _ (by simp only [textOk, List.length_append, List.all_append, Bool.and_eq_true, decide_eq_true_eq]; exact ⟨hl, hp'.2, ht'.2⟩) (by simp [h0])
    · exact key _ (by simp only [textOk, List.length_append, List.all_append, Bool.and_eq_true, decide_eq_true_eq]; exact ⟨by omega, ht'.2, hp'.2⟩) (by simp [h0])
theorem E_iRingPut (l : List TPiece) (t : List Int) (how : Int) (h : ringOk l = true) (ht : textOk t = true) (hw : 0 ≤ how ∧ how ≤ 2) : M_iRingPut [.agg [.lst (some 0) (dPieces l)], .lst (some 1) (ints t), V.v (.int .i64 how)] [] [] = some ⟨.tup [.agg [.own 0], V.v (.bool true)], [], [(0, dPieces (ringPut l t how))]⟩ := by
  obtain ⟨hl, hp⟩ := piece_len h
  have htl : t.length ≤ 400 := by simp only [textOk, Bool.and_eq_true, decide_eq_true_eq] at ht; exact ht.1
  have e1 := E_iRingOk l (sm_pieces h)
  rw [h] at e1
  have e2 := E_iareAdmissible t (by omega)
  rw [ht] at e2
  have e3 := E_icopyRing l (some 0) (by omega) (fun p hq => by have := (hp p hq).2.1; omega)
  have e4 := E_icopyInts t (some 0) (by omega)
  have q1 : inR how 0 2 = true := inR_iff.2 hw
  have q2 : inR 0 0 2 = true := by decide
  have q3 : inR 1 0 2 = true := by decide
  generalize hE : M_iRingPut _ _ _ = R
  unfold M_iRingPut at hE
  by_cases h0 : t = []
  · subst h0
    unfold ringPut
    rw [if_pos rfl]
    simp only [show ints [] = [] from rfl] at hE e2
    simp [Tryz.func113, Tryz.f113, e1, e2, e3, e4, E_iin, q1] at hE
    exact hE.symm
  unfold ringPut
  rw [if_neg h0]
  have hn : ¬ (t.length : Int) = 0 := by have := List.length_pos_iff.2 h0; omega
  cases l with
  | nil =>
    simp only [show dPieces [] = [] from rfl] at hE e1 e3
    have rf : rowsFlat ([] : List (List D)) = true := rfl
    rw [show dPieces [⟨t⟩] = [[.l (ints t)]] from rfl]
    by_cases hc1 : how = 0
    · simp [Tryz.func113, Tryz.f113, e1, e2, e3, e4, E_iin, q1, q2, q3, h0, rf, hc1] at hE
      exact hE.symm
    · simp [Tryz.func113, Tryz.f113, e1, e2, e3, e4, E_iin, q1, q2, q3, h0, rf, hc1] at hE
      exact hE.symm
  | cons p l =>
    have hll : l.length ≤ 5 := by simpa using hl
    have hpl := (hp p (by simp)).2.1
    have hn0 : ¬ (l.length : Int) + 1 = 0 := by omega
    have wl := w64 ((p.Text.length : Int) + t.length) (by omega)
    have rf : rowsFlat (dPieces (p :: l)) = false := by simp [dPieces_cons, rowsFlat, flatD]
    simp only
    by_cases hc : how = 0 ∨ 400 < p.Text.length + t.length
    · rw [if_pos hc]
      have g3 : (1 + (l.length + 1)) * 24 ≤ 140737488355328 := by omega
      have g4 : 1 + (l.length + 1) ≤ 4611686018427387904 := by omega
      have hc' : how = 0 ∨ ¬ how = 0 ∧ (400 : Int) < (p.Text.length : Int) + t.length := by omega
      by_cases h6 : l.length = 5
      · have m76 : min (7 : Int) 6 = 6 := by decide
        rcases hc' with hc' | ⟨hc', hc2⟩
        · simp [Tryz.func113, Tryz.f113, e1, e2, e3, e4, E_iin, q1, q2, q3, h0, h6, m76, rf, hc'] at hE
          exact hE.symm
        · rw [dPieces_cons] at e1 e3
          simp [Tryz.func113, Tryz.f113, e1, e2, e3, e4, E_iin, q1, q2, q3, h0, h6, m76, rf, hc', hc2, hn0, wl, dPieces_cons] at hE
          exact hE.symm
      · have h6i : ¬ (6 : Int) ≤ (l.length : Int) + 1 + 1 ∨ (l.length : Int) + 1 + 1 = 6 := by omega
        have h6m : min ((l.length : Int) + 1 + 1) 6 = (l.length : Int) + 1 + 1 := by omega
        have h6t : l.take 4 = l := List.take_of_length_le (by omega)
        have h6n : ((l.length : Int) + 1 + 1).toNat = l.length + 2 := by omega
        have h6p : 0 ≤ (l.length : Int) + 1 + 1 := by omega
        rw [show List.take 6 (⟨t⟩ :: p :: l) = ⟨t⟩ :: p :: l.take 4 from rfl, h6t]
        rcases hc' with hc' | ⟨hc', hc2⟩
        · simp [Tryz.func113, Tryz.f113, e1, e2, e3, e4, E_iin, q1, q2, q3, h0, g3, g4, h6m, h6n, h6p, rf, hc'] at hE
          exact hE.symm
        · rw [dPieces_cons] at e1 e3
          simp [Tryz.func113, Tryz.f113, e1, e2, e3, e4, E_iin, q1, q2, q3, h0, g3, g4, h6m, h6n, h6p, rf, hc', hc2, hn0, wl, dPieces_cons] at hE
          exact hE.symm
    · rw [if_neg hc]
      have hc1 : ¬ how = 0 := fun e => hc (.inl e)
      have hc2 : ¬ (400 : Int) < (p.Text.length : Int) + t.length := by omega
      have g3 : (p.Text.length + t.length) * 8 ≤ 140737488355328 := by omega
      have g4 : p.Text.length + t.length ≤ 4611686018427387904 := by omega
      have g5 : (t.length + p.Text.length) * 8 ≤ 140737488355328 := by omega
      have g6 : t.length + p.Text.length ≤ 4611686018427387904 := by omega
      by_cases hc3 : how = 1
      · rw [if_pos hc3]
        rw [dPieces_cons] at e1 e3
        simp [Tryz.func113, Tryz.f113, e1, e2, e3, e4, E_iin, q1, q2, q3, h0, rf, hc3, hc2, wl, dPieces_cons, hn0, g3, g4] at hE
        rw [dPieces_cons, ints_app]
        exact hE.symm
      · rw [if_neg hc3]
        rw [dPieces_cons] at e1 e3
        simp [Tryz.func113, Tryz.f113, e1, e2, e3, e4, E_iin, q1, q2, q3, h0, rf, hc1, hc3, hc2, wl, dPieces_cons, hn0, g5, g6] at hE
        rw [dPieces_cons, ints_app]
        exact hE.symm
end Go.Proofs.YtjhdikdopdcfcaaGreatDoor
