/- Part 9 of a proof in several texts (an abstract evaluator, what the functions compute). -/
import Derived.Test.YtacnbajcignacaaPkShow8
namespace Go.Proofs.Ytacnbajcignacaa
open Go.RowKit
set_option linter.unusedSimpArgs false
set_option linter.unusedVariables false
set_option maxHeartbeats 8000000
set_option maxRecDepth 100000
def pieceB (p : TPiece) : Bool := decide (0 < p.Text.length) && textOk p.Text
def ringOk (l : List TPiece) : Bool := l.all pieceB && decide (l.length ≤ 6)
def lineB (x : TLine) : Bool := lineOk x.Text x.At
def undoOk (l : List TLine) : Bool := l.all lineB && decide (l.length ≤ 20)
theorem E_iRingOk (l : List TPiece) (s : smL (dPieces l) = true) : M_iRingOk [.agg [.lst (some 0) (dPieces l)]] [] [] = some ⟨V.v (.bool (ringOk l)), [], []⟩ := by
  have hb : l.length ≤ 1000000000 := by simpa using smL_len s
  have sm : ∀ j (h : j < l.length), l[j].Text.length ≤ 1000000000 := fun j h => by
    have hs := smL_at s (dPieces_get h)
    simp only [bnR_cons, bnR_nil, bnD_a, bnD_l, Bool.and_true, Bool.true_and] at hs
    simpa using bnL_len hs
  unfold M_iRingOk
  simp [Try.func101, Try.f101]
  rcases firstBad pieceB l with h | ⟨h, N, hN, h1, h2⟩
  · rw [loopV_go (fun j => .on ⟨[(8, V.v (.int .i64 ((j : Int)))), (7, V.v (.int .i64 ((l.length : Int)))), (6, .lst (some 0) (dPieces l)), (1, .ref 1 0)], [(1, [.lst (some 0) (dPieces l)])], [], []⟩) l.length ?_ ?_]
    · simp [ringOk, h]; omega
    · simp
    · intro j hj
      have hw := w64 (j + 1) (by omega)
      have := List.all_eq_true.1 h l[j] (List.getElem_mem hj)
      simp only [pieceB, Bool.and_eq_true, decide_eq_true_eq] at this
      have h3 : l[j].Text ≠ [] := fun e => by simp [e] at this
      simp [hj, hw, dPieces_get hj, E_iareAdmissible _ (sm j hj), this.2, h3]
  · rw [loopV_go (fun j => .on ⟨[(8, V.v (.int .i64 ((j : Int)))), (7, V.v (.int .i64 ((l.length : Int)))), (6, .lst (some 0) (dPieces l)), (1, .ref 1 0)], [(1, [.lst (some 0) (dPieces l)])], [], []⟩) N ?_ ?_]
    · by_cases h3 : l[N].Text = []
      · simp [hN, dPieces_get hN, h3, ringOk, h]
      · have h4 : textOk l[N].Text = false := by
          simp only [pieceB] at h1
          have h5 : 0 < l[N].Text.length := List.length_pos_iff.2 h3
          simpa [h5] using h1
        simp [hN, dPieces_get hN, E_iareAdmissible _ (sm N hN), h4, h3, ringOk, h]
    · simp
    · intro j hj
      have hj' : j < l.length := by omega
      have hw := w64 (j + 1) (by omega)
      have := h2 j hj' hj
      simp only [pieceB, Bool.and_eq_true, decide_eq_true_eq] at this
      have h3 : l[j].Text ≠ [] := fun e => by simp [e] at this
      simp [hj', hw, dPieces_get hj', E_iareAdmissible _ (sm j hj'), this.2, h3]
theorem E_sRingOk (l : List TPiece) (s : smL (dPieces l) = true) : M_sRingOk [.agg [.lst (some 0) (dPieces l)]] [] [] = some ⟨V.v (.bool (ringOk l)), [], []⟩ := by
  have hb : l.length ≤ 1000000000 := by simpa using smL_len s
  have sm : ∀ j (h : j < l.length), l[j].Text.length ≤ 1000000000 := fun j h => by
    have hs := smL_at s (dPieces_get h)
    simp only [bnR_cons, bnR_nil, bnD_a, bnD_l, Bool.and_true, Bool.true_and] at hs
    simpa using bnL_len hs
  unfold M_sRingOk
  simp [Try.func111, Try.f111]
  rcases firstBad pieceB l with h | ⟨h, N, hN, h1, h2⟩
  · rw [loopV_go (fun j => .on ⟨[(8, V.v (.int .i64 ((j : Int)))), (7, V.v (.int .i64 ((l.length : Int)))), (6, .lst (some 0) (dPieces l)), (1, .ref 1 0)], [(1, [.lst (some 0) (dPieces l)])], [], []⟩) l.length ?_ ?_]
    · simp [ringOk, h]; omega
    · simp
    · intro j hj
      have hw := w64 (j + 1) (by omega)
      have := List.all_eq_true.1 h l[j] (List.getElem_mem hj)
      simp only [pieceB, Bool.and_eq_true, decide_eq_true_eq] at this
      have h3 : l[j].Text ≠ [] := fun e => by simp [e] at this
      simp [hj, hw, dPieces_get hj, E_sl15Piece _ (sm j hj), this.2, h3]
  · rw [loopV_go (fun j => .on ⟨[(8, V.v (.int .i64 ((j : Int)))), (7, V.v (.int .i64 ((l.length : Int)))), (6, .lst (some 0) (dPieces l)), (1, .ref 1 0)], [(1, [.lst (some 0) (dPieces l)])], [], []⟩) N ?_ ?_]
    · by_cases h3 : l[N].Text = []
      · simp [hN, dPieces_get hN, h3, ringOk, h]
      · have h4 : textOk l[N].Text = false := by
          simp only [pieceB] at h1
          have h5 : 0 < l[N].Text.length := List.length_pos_iff.2 h3
          simpa [h5] using h1
        simp [hN, dPieces_get hN, E_sl15Piece _ (sm N hN), h4, h3, ringOk, h]
    · simp
    · intro j hj
      have hj' : j < l.length := by omega
      have hw := w64 (j + 1) (by omega)
      have := h2 j hj' hj
      simp only [pieceB, Bool.and_eq_true, decide_eq_true_eq] at this
      have h3 : l[j].Text ≠ [] := fun e => by simp [e] at this
      simp [hj', hw, dPieces_get hj', E_sl15Piece _ (sm j hj'), this.2, h3]
theorem E_iUndoOk (l : List TLine) (s : smL (dLines l) = true) : M_iUndoOk [.agg [.lst (some 0) (dLines l)]] [] [] = some ⟨V.v (.bool (undoOk l)), [], []⟩ := by
  have hb : l.length ≤ 1000000000 := by simpa using smL_len s
  have sm : ∀ j (h : j < l.length), l[j].Text.length ≤ 1000000000 := fun j h => by
    have hs := smL_at s (dLines_get h)
    simp only [bnR_cons, bnR_nil, bnD_a, bnD_l, Bool.and_true, Bool.true_and] at hs
    simpa using bnL_len hs
  unfold M_iUndoOk
  simp [Try.func102, Try.f102]
  rcases firstBad lineB l with h | ⟨h, N, hN, h1, h2⟩
  · rw [loopV_go (fun j => .on ⟨[(8, V.v (.int .i64 ((j : Int)))), (7, V.v (.int .i64 ((l.length : Int)))), (6, .lst (some 0) (dLines l)), (1, .ref 1 0)], [(1, [.lst (some 0) (dLines l)])], [], []⟩) l.length ?_ ?_]
    · simp [undoOk, h]; omega
    · simp
    · intro j hj
      have hw := w64 (j + 1) (by omega)
      have := List.all_eq_true.1 h l[j] (List.getElem_mem hj)
      simp only [lineB] at this
      simp [hj, hw, dLines_get hj, E_iLineOk _ _ (sm j hj), this]
  · rw [loopV_go (fun j => .on ⟨[(8, V.v (.int .i64 ((j : Int)))), (7, V.v (.int .i64 ((l.length : Int)))), (6, .lst (some 0) (dLines l)), (1, .ref 1 0)], [(1, [.lst (some 0) (dLines l)])], [], []⟩) N ?_ ?_]
    · simp only [lineB] at h1
      simp [hN, dLines_get hN, E_iLineOk _ _ (sm N hN), h1, undoOk, h]
    · simp
    · intro j hj
      have hj' : j < l.length := by omega
      have hw := w64 (j + 1) (by omega)
      have := h2 j hj' hj
      simp only [lineB] at this
      simp [hj', hw, dLines_get hj', E_iLineOk _ _ (sm j hj'), this]
theorem E_sUndoOk (l : List TLine) (s : smL (dLines l) = true) : M_sUndoOk [.agg [.lst (some 0) (dLines l)]] [] [] = some ⟨V.v (.bool (undoOk l)), [], []⟩ := by
  have hb : l.length ≤ 1000000000 := by simpa using smL_len s
  have sm : ∀ j (h : j < l.length), l[j].Text.length ≤ 1000000000 := fun j h => by
    have hs := smL_at s (dLines_get h)
    simp only [bnR_cons, bnR_nil, bnD_a, bnD_l, Bool.and_true, Bool.true_and] at hs
    simpa using bnL_len hs
  unfold M_sUndoOk
  simp [Try.func112, Try.f112]
  rcases firstBad lineB l with h | ⟨h, N, hN, h1, h2⟩
  · rw [loopV_go (fun j => .on ⟨[(8, V.v (.int .i64 ((j : Int)))), (7, V.v (.int .i64 ((l.length : Int)))), (6, .lst (some 0) (dLines l)), (1, .ref 1 0)], [(1, [.lst (some 0) (dLines l)])], [], []⟩) l.length ?_ ?_]
    · simp [undoOk, h]; omega
    · simp
    · intro j hj
      have hw := w64 (j + 1) (by omega)
      have := List.all_eq_true.1 h l[j] (List.getElem_mem hj)
      simp only [lineB] at this
      simp [hj, hw, dLines_get hj, E_sLineOk _ _ (sm j hj), this]
  · rw [loopV_go (fun j => .on ⟨[(8, V.v (.int .i64 ((j : Int)))), (7, V.v (.int .i64 ((l.length : Int)))), (6, .lst (some 0) (dLines l)), (1, .ref 1 0)], [(1, [.lst (some 0) (dLines l)])], [], []⟩) N ?_ ?_]
    · simp only [lineB] at h1
      simp [hN, dLines_get hN, E_sLineOk _ _ (sm N hN), h1, undoOk, h]
    · simp
    · intro j hj
      have hj' : j < l.length := by omega
      have hw := w64 (j + 1) (by omega)
      have := h2 j hj' hj
      simp only [lineB] at this
      simp [hj', hw, dLines_get hj', E_sLineOk _ _ (sm j hj'), this]
def opC (n : Int) : Bool := n == 100 || n == 99 || n == 121
def waitC (n : Int) : Bool := n == 102 || n == 70 || n == 116 || n == 84 || n == 114
def modeB (vi : Bool) (mode : Int) (lt : List Int) (la op opc wt : Int) : Bool :=
  ((mode == 0 && !vi) || ((mode == 1 || mode == 2) && vi) || mode == 3) && (!(mode == 2 && atEnd lt la) && ((mode == 2 || (op == 0 && wt == 0 && opc == 0)) && ((op != 0 || opc == 0) && ((op == 0 || opC op) && (wt == 0 || waitC wt)))))
def seekB (mode : Int) (q : List Int) (hit : Int) (bt : List Int) (ba : Int) : Bool := mode == 3 || (decide (q.length = 0) && (hit == 0) && emptyL bt ba)
theorem E_iisAmong_op (r : Int) : M_iisAmong [V.v (.int .i64 r), V.v (.string (⟨#[100, 99, 121]⟩))] [] [] = some ⟨V.v (.bool (opC r)), [], []⟩ := by
  unfold opC
  unfold M_iisAmong
  obtain ⟨S, hS⟩ : ∃ S : ByteArray, S = ⟨#[100, 99, 121]⟩ := ⟨_, rfl⟩
  have h0 : S.size = 3 := by rw [hS]; rfl
  have ht : S.toList = [100, 99, 121] := by rw [hS, ByteArray.toList_eq]
  have w1 := w64 100 (by omega)
  have w2 := w64 99 (by omega)
  have w3 := w64 121 (by omega)
  rw [← hS]
  simp [Try.func157, Try.f157]
  by_cases h1 : 100 = r
  · subst h1; rw [loopV_unf]; simp [w1, w2, w3, h0, ht]
  by_cases h2 : 99 = r
  · subst h2; rw [loopV_unf]; simp [w1, w2, w3, h0, ht]; rw [loopV_unf]; simp [w1, w2, w3, h0, ht]
  by_cases h3 : 121 = r
  · subst h3; rw [loopV_unf]; simp [w1, w2, w3, h0, ht]; rw [loopV_unf]; simp [w1, w2, w3, h0, ht]; rw [loopV_unf]; simp [w1, w2, w3, h0, ht]
  have k1 : ¬ r = 100 := fun e => h1 e.symm
  have k2 : ¬ r = 99 := fun e => h2 e.symm
  have k3 : ¬ r = 121 := fun e => h3 e.symm
  rw [loopV_unf]; simp [w1, w2, w3, h0, ht, h1]; rw [loopV_unf]; simp [w1, w2, w3, h0, ht, h2]; rw [loopV_unf]; simp [w1, w2, w3, h0, ht, h3]; rw [loopV_unf]; simp [w1, w2, w3, h0, ht, k1, k2, k3]
theorem E_iisAmong_wait (r : Int) : M_iisAmong [V.v (.int .i64 r), V.v (.string (⟨#[102, 70, 116, 84, 114]⟩))] [] [] = some ⟨V.v (.bool (waitC r)), [], []⟩ := by
  unfold waitC
  unfold M_iisAmong
  obtain ⟨S, hS⟩ : ∃ S : ByteArray, S = ⟨#[102, 70, 116, 84, 114]⟩ := ⟨_, rfl⟩
  have h0 : S.size = 5 := by rw [hS]; rfl
  have ht : S.toList = [102, 70, 116, 84, 114] := by rw [hS, ByteArray.toList_eq]
  have w1 := w64 102 (by omega)
  have w2 := w64 70 (by omega)
  have w3 := w64 116 (by omega)
  have w4 := w64 84 (by omega)
  have w5 := w64 114 (by omega)
  rw [← hS]
  simp [Try.func157, Try.f157]
  by_cases h1 : 102 = r
  · subst h1; rw [loopV_unf]; simp [w1, w2, w3, w4, w5, h0, ht]
  by_cases h2 : 70 = r
  · subst h2; rw [loopV_unf]; simp [w1, w2, w3, w4, w5, h0, ht]; rw [loopV_unf]; simp [w1, w2, w3, w4, w5, h0, ht]
  by_cases h3 : 116 = r
  · subst h3; rw [loopV_unf]; simp [w1, w2, w3, w4, w5, h0, ht]; rw [loopV_unf]; simp [w1, w2, w3, w4, w5, h0, ht]; rw [loopV_unf]; simp [w1, w2, w3, w4, w5, h0, ht]
  by_cases h4 : 84 = r
  · subst h4; rw [loopV_unf]; simp [w1, w2, w3, w4, w5, h0, ht]; rw [loopV_unf]; simp [w1, w2, w3, w4, w5, h0, ht]; rw [loopV_unf]; simp [w1, w2, w3, w4, w5, h0, ht]; rw [loopV_unf]; simp [w1, w2, w3, w4, w5, h0, ht]
  by_cases h5 : 114 = r
  · subst h5; rw [loopV_unf]; simp [w1, w2, w3, w4, w5, h0, ht]; rw [loopV_unf]; simp [w1, w2, w3, w4, w5, h0, ht]; rw [loopV_unf]; simp [w1, w2, w3, w4, w5, h0, ht]; rw [loopV_unf]; simp [w1, w2, w3, w4, w5, h0, ht]; rw [loopV_unf]; simp [w1, w2, w3, w4, w5, h0, ht]
  have k1 : ¬ r = 102 := fun e => h1 e.symm
  have k2 : ¬ r = 70 := fun e => h2 e.symm
  have k3 : ¬ r = 116 := fun e => h3 e.symm
  have k4 : ¬ r = 84 := fun e => h4 e.symm
  have k5 : ¬ r = 114 := fun e => h5 e.symm
  rw [loopV_unf]; simp [w1, w2, w3, w4, w5, h0, ht, h1]; rw [loopV_unf]; simp [w1, w2, w3, w4, w5, h0, ht, h2]; rw [loopV_unf]; simp [w1, w2, w3, w4, w5, h0, ht, h3]; rw [loopV_unf]; simp [w1, w2, w3, w4, w5, h0, ht, h4]; rw [loopV_unf]; simp [w1, w2, w3, w4, w5, h0, ht, h5]; rw [loopV_unf]; simp [w1, w2, w3, w4, w5, h0, ht, k1, k2, k3, k4, k5]
theorem E_sl21Among (l : List Int) (n : Int) (hl : l.length ≤ 1000000000) : M_sl21Among [V.v (.int .i64 n), .lst (some 0) (ints l)] [] [] = some ⟨V.v (.bool (!(l.all fun x => x != n))), [], []⟩ := by
  unfold M_sl21Among
  simp [Try.func160, Try.f160, E_sl03HasInt l n hl]
theorem E_sl21Among_op (n : Int) : M_sl21Among [V.v (.int .i64 n), .lst (some 0) [[D.a (.int .i64 0)], [D.a (.int .i64 100)], [D.a (.int .i64 99)], [D.a (.int .i64 121)]]] [] [] = some ⟨V.v (.bool (n == 0 || opC n)), [], []⟩ := by
  have := E_sl21Among [0, 100, 99, 121] n (by simp)
  rw [show ints [0, 100, 99, 121] = [[D.a (.int .i64 0)], [D.a (.int .i64 100)], [D.a (.int .i64 99)], [D.a (.int .i64 121)]] from rfl] at this
  rw [this]
  congr 4
  simp only [opC]
  rw [Bool.eq_iff_iff]
  simp
  omega
theorem E_sl21Among_wait (n : Int) : M_sl21Among [V.v (.int .i64 n), .lst (some 0) [[D.a (.int .i64 0)], [D.a (.int .i64 102)], [D.a (.int .i64 70)], [D.a (.int .i64 116)], [D.a (.int .i64 84)], [D.a (.int .i64 114)]]] [] [] = some ⟨V.v (.bool (n == 0 || waitC n)), [], []⟩ := by
  have := E_sl21Among [0, 102, 70, 116, 84, 114] n (by simp)
  rw [show ints [0, 102, 70, 116, 84, 114] = [[D.a (.int .i64 0)], [D.a (.int .i64 102)], [D.a (.int .i64 70)], [D.a (.int .i64 116)], [D.a (.int .i64 84)], [D.a (.int .i64 114)]] from rfl] at this
  rw [this]
  congr 4
  simp only [waitC]
  rw [Bool.eq_iff_iff]
  simp
  omega
theorem E_imodeOk (vi : Bool) (mode : Int) (lt : List Int) (la cnt op opc wt fr fh last : Int) (rp : List TPiece) (ul : List TLine) (nav : Int) (ot : List Int) (oa : Int) (q : List Int) (hit : Int) (bt : List Int) (ba : Int) : M_imodeOk [.agg [V.v (.bool vi), V.v (.int .i64 mode), .lst (some 0) (ints lt), V.v (.int .i64 la), V.v (.int .i64 cnt), V.v (.int .i64 op), V.v (.int .i64 opc), V.v (.int .i64 wt), V.v (.int .i64 fr), V.v (.int .i64 fh), V.v (.int .i64 last), .lst (some 1) (dPieces rp), .lst (some 2) (dLines ul), V.v (.int .i64 nav), .lst (some 3) (ints ot), V.v (.int .i64 oa), .lst (some 4) (ints q), V.v (.int .i64 hit), .lst (some 5) (ints bt), V.v (.int .i64 ba)]] [] [] = some ⟨V.v (.bool (modeB vi mode lt la op opc wt)), [], []⟩ := by
  unfold M_imodeOk
  by_cases m2 : mode = 2
  · subst m2
    cases vi
    · simp [Try.func100, Try.f100, modeB]
    cases hA : atEnd lt la
    rotate_left
    · simp [Try.func100, Try.f100, modeB, E_iisAtEnd, hA]
    by_cases o0 : op = 0
    · subst o0
      by_cases c0 : opc = 0
      · subst c0
        by_cases w0 : wt = 0
        · subst w0; simp [Try.func100, Try.f100, modeB, E_iisAtEnd, hA]
        · cases hW : waitC wt <;> simp [Try.func100, Try.f100, modeB, E_iisAtEnd, hA, w0, E_iisAmong_wait, hW]
      · simp [Try.func100, Try.f100, modeB, E_iisAtEnd, hA, c0]
    · by_cases w0 : wt = 0
      · subst w0; cases hO : opC op <;> simp [Try.func100, Try.f100, modeB, E_iisAtEnd, hA, o0, E_iisAmong_op, hO]
      · cases hO : opC op <;> cases hW : waitC wt <;> simp [Try.func100, Try.f100, modeB, E_iisAtEnd, hA, o0, w0, E_iisAmong_op, E_iisAmong_wait, hO, hW]
  by_cases ok : (mode = 0 ∧ vi = false) ∨ (mode = 1 ∧ vi = true) ∨ mode = 3
  · rcases Classical.em (op = 0 ∧ wt = 0 ∧ opc = 0) with ⟨rfl, rfl, rfl⟩ | hn
    · rcases ok with ⟨rfl, rfl⟩ | ⟨rfl, rfl⟩ | rfl <;> simp [Try.func100, Try.f100, modeB]
    · by_cases o0 : op = 0
      · subst o0
        by_cases w0 : wt = 0
        · subst w0
          have c0 : ¬ opc = 0 := fun e => hn ⟨rfl, rfl, e⟩
          rcases ok with ⟨rfl, rfl⟩ | ⟨rfl, rfl⟩ | rfl <;> simp [Try.func100, Try.f100, modeB, c0]
        · rcases ok with ⟨rfl, rfl⟩ | ⟨rfl, rfl⟩ | rfl <;> simp [Try.func100, Try.f100, modeB, w0]
      · rcases ok with ⟨rfl, rfl⟩ | ⟨rfl, rfl⟩ | rfl <;> simp [Try.func100, Try.f100, modeB, o0]
  · by_cases m0 : mode = 0
    · subst m0
      cases vi
      · exact absurd (.inl ⟨rfl, rfl⟩) ok
      · simp [Try.func100, Try.f100, modeB]
    · by_cases m1 : mode = 1
      · subst m1
        cases vi
        · simp [Try.func100, Try.f100, modeB]
        · exact absurd (.inr (.inl ⟨rfl, rfl⟩)) ok
      · have m3 : ¬ mode = 3 := fun e => ok (.inr (.inr e))
        simp [Try.func100, Try.f100, modeB, m0, m1, m2, m3]
end Go.Proofs.Ytacnbajcignacaa
namespace Go.Proofs.Ytacnbajcignacaa
open Go.RowKit
set_option linter.unusedSimpArgs false
set_option linter.unusedVariables false
set_option maxHeartbeats 16000000
set_option maxRecDepth 100000
def findB (fr fh : Int) : Bool := (fr == 0 && fh == 0) || (fr != 0 && (printable fr && inR fh 0 3))
def edOk (vi : Bool) (mode : Int) (lt : List Int) (la cnt op opc wt fr fh last : Int) (rp : List TPiece) (ul : List TLine) (nav : Int) (ot : List Int) (oa : Int) (q : List Int) (hit : Int) (bt : List Int) (ba : Int) : Bool :=
  lineOk lt la && (lineOk ot oa && (lineOk bt ba && (inR cnt 0 999 && (inR opc 0 999 && (modeB vi mode lt la op opc wt && (findB fr fh && (inR last 0 3 && (ringOk rp && (undoOk ul && (inR nav 0 1000000060 && (inR hit 0 1000000060 && ((nav != 0 || emptyL ot oa) && (decide (q.length ≤ 40) && (q.all printable && seekB mode q hit bt ba))))))))))))))
theorem E_iEdOk (vi : Bool) (mode : Int) (lt : List Int) (la cnt op opc wt fr fh last : Int) (rp : List TPiece) (ul : List TLine) (nav : Int) (ot : List Int) (oa : Int) (q : List Int) (hit : Int) (bt : List Int) (ba : Int) (h1 : lt.length ≤ 1000000000) (h2 : ot.length ≤ 1000000000) (h3 : bt.length ≤ 1000000000) (h4 : q.length ≤ 1000000000) (h5 : smL (dPieces rp) = true) (h6 : smL (dLines ul) = true) : M_iEdOk [.agg [V.v (.bool vi), V.v (.int .i64 mode), .lst (some 0) (ints lt), V.v (.int .i64 la), V.v (.int .i64 cnt), V.v (.int .i64 op), V.v (.int .i64 opc), V.v (.int .i64 wt), V.v (.int .i64 fr), V.v (.int .i64 fh), V.v (.int .i64 last), .lst (some 1) (dPieces rp), .lst (some 2) (dLines ul), V.v (.int .i64 nav), .lst (some 3) (ints ot), V.v (.int .i64 oa), .lst (some 4) (ints q), V.v (.int .i64 hit), .lst (some 5) (ints bt), V.v (.int .i64 ba)]] [] [] = some ⟨V.v (.bool (edOk vi mode lt la cnt op opc wt fr fh last rp ul nav ot oa q hit bt ba)), [], []⟩ := by
  unfold M_iEdOk
  cases a0 : lineOk lt la
  · simp [Try.func30, Try.f30, edOk, findB, E_iLineOk, h1, h2, h3, h5, h6, E_iin, E_imodeOk, E_iRingOk, E_iUndoOk, E_iemptyLine, E_iPrintable, a0]
  cases a1 : lineOk ot oa
  · simp [Try.func30, Try.f30, edOk, findB, E_iLineOk, h1, h2, h3, h5, h6, E_iin, E_imodeOk, E_iRingOk, E_iUndoOk, E_iemptyLine, E_iPrintable, a0, a1]
  cases a2 : lineOk bt ba
  · simp [Try.func30, Try.f30, edOk, findB, E_iLineOk, h1, h2, h3, h5, h6, E_iin, E_imodeOk, E_iRingOk, E_iUndoOk, E_iemptyLine, E_iPrintable, a0, a1, a2]
  cases a3 : inR cnt 0 999
  · simp [Try.func30, Try.f30, edOk, findB, E_iLineOk, h1, h2, h3, h5, h6, E_iin, E_imodeOk, E_iRingOk, E_iUndoOk, E_iemptyLine, E_iPrintable, a0, a1, a2, a3]
  cases a4 : inR opc 0 999
  · simp [Try.func30, Try.f30, edOk, findB, E_iLineOk, h1, h2, h3, h5, h6, E_iin, E_imodeOk, E_iRingOk, E_iUndoOk, E_iemptyLine, E_iPrintable, a0, a1, a2, a3, a4]
  cases a5 : modeB vi mode lt la op opc wt
  · simp [Try.func30, Try.f30, edOk, findB, E_iLineOk, h1, h2, h3, h5, h6, E_iin, E_imodeOk, E_iRingOk, E_iUndoOk, E_iemptyLine, E_iPrintable, a0, a1, a2, a3, a4, a5]
  by_cases f0 : fr = 0
  · subst f0
    by_cases f1 : fh = 0
    rotate_left
    · simp [Try.func30, Try.f30, edOk, findB, E_iLineOk, h1, h2, h3, h5, h6, E_iin, E_imodeOk, E_iRingOk, E_iUndoOk, E_iemptyLine, E_iPrintable, a0, a1, a2, a3, a4, a5, f1]
    subst f1
    cases c0 : inR last 0 3
    · simp [Try.func30, Try.f30, edOk, findB, E_iLineOk, h1, h2, h3, h5, h6, E_iin, E_imodeOk, E_iRingOk, E_iUndoOk, E_iemptyLine, E_iPrintable, a0, a1, a2, a3, a4, a5, c0]
    cases c1 : ringOk rp
    · simp [Try.func30, Try.f30, edOk, findB, E_iLineOk, h1, h2, h3, h5, h6, E_iin, E_imodeOk, E_iRingOk, E_iUndoOk, E_iemptyLine, E_iPrintable, a0, a1, a2, a3, a4, a5, c0, c1]
    cases c2 : undoOk ul
    · simp [Try.func30, Try.f30, edOk, findB, E_iLineOk, h1, h2, h3, h5, h6, E_iin, E_imodeOk, E_iRingOk, E_iUndoOk, E_iemptyLine, E_iPrintable, a0, a1, a2, a3, a4, a5, c0, c1, c2]
    cases c3 : inR nav 0 1000000060
    · simp [Try.func30, Try.f30, edOk, findB, E_iLineOk, h1, h2, h3, h5, h6, E_iin, E_imodeOk, E_iRingOk, E_iUndoOk, E_iemptyLine, E_iPrintable, a0, a1, a2, a3, a4, a5, c0, c1, c2, c3]
    cases c4 : inR hit 0 1000000060
    · simp [Try.func30, Try.f30, edOk, findB, E_iLineOk, h1, h2, h3, h5, h6, E_iin, E_imodeOk, E_iRingOk, E_iUndoOk, E_iemptyLine, E_iPrintable, a0, a1, a2, a3, a4, a5, c0, c1, c2, c3, c4]
    by_cases d0 : nav = 0
    · subst d0
      cases e0 : emptyL ot oa
      · simp [Try.func30, Try.f30, edOk, findB, E_iLineOk, h1, h2, h3, h5, h6, E_iin, E_imodeOk, E_iRingOk, E_iUndoOk, E_iemptyLine, E_iPrintable, a0, a1, a2, a3, a4, a5, c0, c1, c2, c3, c4, e0]
      by_cases d1 : q.length ≤ 40
      rotate_left
      · have d1' : 40 < (q.length : Int) := by omega
        simp [Try.func30, Try.f30, edOk, findB, E_iLineOk, h1, h2, h3, h5, h6, E_iin, E_imodeOk, E_iRingOk, E_iUndoOk, E_iemptyLine, E_iPrintable, a0, a1, a2, a3, a4, a5, c0, c1, c2, c3, c4, e0, d1, d1']
      have d1' : ¬ (40 < (q.length : Int)) := by omega
      simp [Try.func30, Try.f30, edOk, findB, E_iLineOk, h1, h2, h3, h5, h6, E_iin, E_imodeOk, E_iRingOk, E_iUndoOk, E_iemptyLine, E_iPrintable, a0, a1, a2, a3, a4, a5, c0, c1, c2, c3, c4, e0, d1, d1']
      rcases firstBad printable q with g | ⟨g, N, hN, g1, g2⟩
      · rw [loopV_go (fun j => .on ⟨[(109, V.v (.int .i64 ((j : Int)))), (108, V.v (.int .i64 ((q.length : Int)))), (107, .lst (some 4) (ints q)), (1, .ref 1 0)], [(1, [V.v (.bool vi), V.v (.int .i64 mode), .lst (some 0) (ints lt), V.v (.int .i64 la), V.v (.int .i64 cnt), V.v (.int .i64 op), V.v (.int .i64 opc), V.v (.int .i64 wt), V.v (.int .i64 0), V.v (.int .i64 0), V.v (.int .i64 last), .lst (some 1) (dPieces rp), .lst (some 2) (dLines ul), V.v (.int .i64 0), .lst (some 3) (ints ot), V.v (.int .i64 oa), .lst (some 4) (ints q), V.v (.int .i64 hit), .lst (some 5) (ints bt), V.v (.int .i64 ba)])], [], []⟩) q.length ?_ ?_]
        · by_cases m3 : mode = 3
          · simp [Try.func30, Try.f30, edOk, findB, E_iLineOk, h1, h2, h3, h5, h6, E_iin, E_imodeOk, E_iRingOk, E_iUndoOk, E_iemptyLine, E_iPrintable, a0, a1, a2, a3, a4, a5, c0, c1, c2, c3, c4, e0, d1, d1', g, seekB, m3]
          · by_cases q0 : q = []
            · subst q0
              by_cases t0 : hit = 0
              · subst t0; cases em : emptyL bt ba <;> simp [Try.func30, Try.f30, edOk, findB, E_iLineOk, h1, h2, h3, h5, h6, E_iin, E_imodeOk, E_iRingOk, E_iUndoOk, E_iemptyLine, E_iPrintable, a0, a1, a2, a3, a4, a5, c0, c1, c2, c3, c4, e0, d1, d1', g, seekB, m3, em]
              · simp [Try.func30, Try.f30, edOk, findB, E_iLineOk, h1, h2, h3, h5, h6, E_iin, E_imodeOk, E_iRingOk, E_iUndoOk, E_iemptyLine, E_iPrintable, a0, a1, a2, a3, a4, a5, c0, c1, c2, c3, c4, e0, d1, d1', g, seekB, m3, t0]
            · simp [Try.func30, Try.f30, edOk, findB, E_iLineOk, h1, h2, h3, h5, h6, E_iin, E_imodeOk, E_iRingOk, E_iUndoOk, E_iemptyLine, E_iPrintable, a0, a1, a2, a3, a4, a5, c0, c1, c2, c3, c4, e0, d1, d1', g, seekB, m3, q0]
        · simp
        · intro j hj
          have hw := w64 (j + 1) (by omega)
          have := List.all_eq_true.1 g q[j] (List.getElem_mem hj)
          simp [hj, hw, ints_get hj, E_iPrintable, this]
      · rw [loopV_go (fun j => .on ⟨[(109, V.v (.int .i64 ((j : Int)))), (108, V.v (.int .i64 ((q.length : Int)))), (107, .lst (some 4) (ints q)), (1, .ref 1 0)], [(1, [V.v (.bool vi), V.v (.int .i64 mode), .lst (some 0) (ints lt), V.v (.int .i64 la), V.v (.int .i64 cnt), V.v (.int .i64 op), V.v (.int .i64 opc), V.v (.int .i64 wt), V.v (.int .i64 0), V.v (.int .i64 0), V.v (.int .i64 last), .lst (some 1) (dPieces rp), .lst (some 2) (dLines ul), V.v (.int .i64 0), .lst (some 3) (ints ot), V.v (.int .i64 oa), .lst (some 4) (ints q), V.v (.int .i64 hit), .lst (some 5) (ints bt), V.v (.int .i64 ba)])], [], []⟩) N ?_ ?_]
        · simp [hN, ints_get hN, E_iPrintable, g1, g, edOk]
        · simp
        · intro j hj
          have hj' : j < q.length := by omega
          have hw := w64 (j + 1) (by omega)
          simp [hj', hw, ints_get hj', E_iPrintable, g2 j hj' hj]
    · skip
      by_cases d1 : q.length ≤ 40
      rotate_left
      · have d1' : 40 < (q.length : Int) := by omega
        simp [Try.func30, Try.f30, edOk, findB, E_iLineOk, h1, h2, h3, h5, h6, E_iin, E_imodeOk, E_iRingOk, E_iUndoOk, E_iemptyLine, E_iPrintable, a0, a1, a2, a3, a4, a5, c0, c1, c2, c3, c4, d0, d1, d1']
      have d1' : ¬ (40 < (q.length : Int)) := by omega
      simp [Try.func30, Try.f30, edOk, findB, E_iLineOk, h1, h2, h3, h5, h6, E_iin, E_imodeOk, E_iRingOk, E_iUndoOk, E_iemptyLine, E_iPrintable, a0, a1, a2, a3, a4, a5, c0, c1, c2, c3, c4, d0, d1, d1']
      rcases firstBad printable q with g | ⟨g, N, hN, g1, g2⟩
      · rw [loopV_go (fun j => .on ⟨[(109, V.v (.int .i64 ((j : Int)))), (108, V.v (.int .i64 ((q.length : Int)))), (107, .lst (some 4) (ints q)), (1, .ref 1 0)], [(1, [V.v (.bool vi), V.v (.int .i64 mode), .lst (some 0) (ints lt), V.v (.int .i64 la), V.v (.int .i64 cnt), V.v (.int .i64 op), V.v (.int .i64 opc), V.v (.int .i64 wt), V.v (.int .i64 0), V.v (.int .i64 0), V.v (.int .i64 last), .lst (some 1) (dPieces rp), .lst (some 2) (dLines ul), V.v (.int .i64 nav), .lst (some 3) (ints ot), V.v (.int .i64 oa), .lst (some 4) (ints q), V.v (.int .i64 hit), .lst (some 5) (ints bt), V.v (.int .i64 ba)])], [], []⟩) q.length ?_ ?_]
        · by_cases m3 : mode = 3
          · simp [Try.func30, Try.f30, edOk, findB, E_iLineOk, h1, h2, h3, h5, h6, E_iin, E_imodeOk, E_iRingOk, E_iUndoOk, E_iemptyLine, E_iPrintable, a0, a1, a2, a3, a4, a5, c0, c1, c2, c3, c4, d0, d1, d1', g, seekB, m3]
          · by_cases q0 : q = []
            · subst q0
              by_cases t0 : hit = 0
              · subst t0; cases em : emptyL bt ba <;> simp [Try.func30, Try.f30, edOk, findB, E_iLineOk, h1, h2, h3, h5, h6, E_iin, E_imodeOk, E_iRingOk, E_iUndoOk, E_iemptyLine, E_iPrintable, a0, a1, a2, a3, a4, a5, c0, c1, c2, c3, c4, d0, d1, d1', g, seekB, m3, em]
              · simp [Try.func30, Try.f30, edOk, findB, E_iLineOk, h1, h2, h3, h5, h6, E_iin, E_imodeOk, E_iRingOk, E_iUndoOk, E_iemptyLine, E_iPrintable, a0, a1, a2, a3, a4, a5, c0, c1, c2, c3, c4, d0, d1, d1', g, seekB, m3, t0]
            · simp [Try.func30, Try.f30, edOk, findB, E_iLineOk, h1, h2, h3, h5, h6, E_iin, E_imodeOk, E_iRingOk, E_iUndoOk, E_iemptyLine, E_iPrintable, a0, a1, a2, a3, a4, a5, c0, c1, c2, c3, c4, d0, d1, d1', g, seekB, m3, q0]
        · simp
        · intro j hj
          have hw := w64 (j + 1) (by omega)
          have := List.all_eq_true.1 g q[j] (List.getElem_mem hj)
          simp [hj, hw, ints_get hj, E_iPrintable, this]
      · rw [loopV_go (fun j => .on ⟨[(109, V.v (.int .i64 ((j : Int)))), (108, V.v (.int .i64 ((q.length : Int)))), (107, .lst (some 4) (ints q)), (1, .ref 1 0)], [(1, [V.v (.bool vi), V.v (.int .i64 mode), .lst (some 0) (ints lt), V.v (.int .i64 la), V.v (.int .i64 cnt), V.v (.int .i64 op), V.v (.int .i64 opc), V.v (.int .i64 wt), V.v (.int .i64 0), V.v (.int .i64 0), V.v (.int .i64 last), .lst (some 1) (dPieces rp), .lst (some 2) (dLines ul), V.v (.int .i64 nav), .lst (some 3) (ints ot), V.v (.int .i64 oa), .lst (some 4) (ints q), V.v (.int .i64 hit), .lst (some 5) (ints bt), V.v (.int .i64 ba)])], [], []⟩) N ?_ ?_]
        · simp [hN, ints_get hN, E_iPrintable, g1, g, edOk]
        · simp
        · intro j hj
          have hj' : j < q.length := by omega
          have hw := w64 (j + 1) (by omega)
          simp [hj', hw, ints_get hj', E_iPrintable, g2 j hj' hj]
  · skip
    cases f1 : printable fr
    · simp [Try.func30, Try.f30, edOk, findB, E_iLineOk, h1, h2, h3, h5, h6, E_iin, E_imodeOk, E_iRingOk, E_iUndoOk, E_iemptyLine, E_iPrintable, a0, a1, a2, a3, a4, a5, f0, f1]
    cases f2 : inR fh 0 3
    · simp [Try.func30, Try.f30, edOk, findB, E_iLineOk, h1, h2, h3, h5, h6, E_iin, E_imodeOk, E_iRingOk, E_iUndoOk, E_iemptyLine, E_iPrintable, a0, a1, a2, a3, a4, a5, f0, f1, f2]
    cases c0 : inR last 0 3
    · simp [Try.func30, Try.f30, edOk, findB, E_iLineOk, h1, h2, h3, h5, h6, E_iin, E_imodeOk, E_iRingOk, E_iUndoOk, E_iemptyLine, E_iPrintable, a0, a1, a2, a3, a4, a5, f0, f1, f2, c0]
    cases c1 : ringOk rp
    · simp [Try.func30, Try.f30, edOk, findB, E_iLineOk, h1, h2, h3, h5, h6, E_iin, E_imodeOk, E_iRingOk, E_iUndoOk, E_iemptyLine, E_iPrintable, a0, a1, a2, a3, a4, a5, f0, f1, f2, c0, c1]
    cases c2 : undoOk ul
    · simp [Try.func30, Try.f30, edOk, findB, E_iLineOk, h1, h2, h3, h5, h6, E_iin, E_imodeOk, E_iRingOk, E_iUndoOk, E_iemptyLine, E_iPrintable, a0, a1, a2, a3, a4, a5, f0, f1, f2, c0, c1, c2]
    cases c3 : inR nav 0 1000000060
    · simp [Try.func30, Try.f30, edOk, findB, E_iLineOk, h1, h2, h3, h5, h6, E_iin, E_imodeOk, E_iRingOk, E_iUndoOk, E_iemptyLine, E_iPrintable, a0, a1, a2, a3, a4, a5, f0, f1, f2, c0, c1, c2, c3]
    cases c4 : inR hit 0 1000000060
    · simp [Try.func30, Try.f30, edOk, findB, E_iLineOk, h1, h2, h3, h5, h6, E_iin, E_imodeOk, E_iRingOk, E_iUndoOk, E_iemptyLine, E_iPrintable, a0, a1, a2, a3, a4, a5, f0, f1, f2, c0, c1, c2, c3, c4]
    by_cases d0 : nav = 0
    · subst d0
      cases e0 : emptyL ot oa
      · simp [Try.func30, Try.f30, edOk, findB, E_iLineOk, h1, h2, h3, h5, h6, E_iin, E_imodeOk, E_iRingOk, E_iUndoOk, E_iemptyLine, E_iPrintable, a0, a1, a2, a3, a4, a5, f0, f1, f2, c0, c1, c2, c3, c4, e0]
      by_cases d1 : q.length ≤ 40
      rotate_left
      · have d1' : 40 < (q.length : Int) := by omega
        simp [Try.func30, Try.f30, edOk, findB, E_iLineOk, h1, h2, h3, h5, h6, E_iin, E_imodeOk, E_iRingOk, E_iUndoOk, E_iemptyLine, E_iPrintable, a0, a1, a2, a3, a4, a5, f0, f1, f2, c0, c1, c2, c3, c4, e0, d1, d1']
      have d1' : ¬ (40 < (q.length : Int)) := by omega
      simp [Try.func30, Try.f30, edOk, findB, E_iLineOk, h1, h2, h3, h5, h6, E_iin, E_imodeOk, E_iRingOk, E_iUndoOk, E_iemptyLine, E_iPrintable, a0, a1, a2, a3, a4, a5, f0, f1, f2, c0, c1, c2, c3, c4, e0, d1, d1']
      rcases firstBad printable q with g | ⟨g, N, hN, g1, g2⟩
      · rw [loopV_go (fun j => .on ⟨[(109, V.v (.int .i64 ((j : Int)))), (108, V.v (.int .i64 ((q.length : Int)))), (107, .lst (some 4) (ints q)), (1, .ref 1 0)], [(1, [V.v (.bool vi), V.v (.int .i64 mode), .lst (some 0) (ints lt), V.v (.int .i64 la), V.v (.int .i64 cnt), V.v (.int .i64 op), V.v (.int .i64 opc), V.v (.int .i64 wt), V.v (.int .i64 fr), V.v (.int .i64 fh), V.v (.int .i64 last), .lst (some 1) (dPieces rp), .lst (some 2) (dLines ul), V.v (.int .i64 0), .lst (some 3) (ints ot), V.v (.int .i64 oa), .lst (some 4) (ints q), V.v (.int .i64 hit), .lst (some 5) (ints bt), V.v (.int .i64 ba)])], [], []⟩) q.length ?_ ?_]
        · by_cases m3 : mode = 3
          · simp [Try.func30, Try.f30, edOk, findB, E_iLineOk, h1, h2, h3, h5, h6, E_iin, E_imodeOk, E_iRingOk, E_iUndoOk, E_iemptyLine, E_iPrintable, a0, a1, a2, a3, a4, a5, f0, f1, f2, c0, c1, c2, c3, c4, e0, d1, d1', g, seekB, m3]
          · by_cases q0 : q = []
            · subst q0
              by_cases t0 : hit = 0
              · subst t0; cases em : emptyL bt ba <;> simp [Try.func30, Try.f30, edOk, findB, E_iLineOk, h1, h2, h3, h5, h6, E_iin, E_imodeOk, E_iRingOk, E_iUndoOk, E_iemptyLine, E_iPrintable, a0, a1, a2, a3, a4, a5, f0, f1, f2, c0, c1, c2, c3, c4, e0, d1, d1', g, seekB, m3, em]
              · simp [Try.func30, Try.f30, edOk, findB, E_iLineOk, h1, h2, h3, h5, h6, E_iin, E_imodeOk, E_iRingOk, E_iUndoOk, E_iemptyLine, E_iPrintable, a0, a1, a2, a3, a4, a5, f0, f1, f2, c0, c1, c2, c3, c4, e0, d1, d1', g, seekB, m3, t0]
            · simp [Try.func30, Try.f30, edOk, findB, E_iLineOk, h1, h2, h3, h5, h6, E_iin, E_imodeOk, E_iRingOk, E_iUndoOk, E_iemptyLine, E_iPrintable, a0, a1, a2, a3, a4, a5, f0, f1, f2, c0, c1, c2, c3, c4, e0, d1, d1', g, seekB, m3, q0]
        · simp
        · intro j hj
          have hw := w64 (j + 1) (by omega)
          have := List.all_eq_true.1 g q[j] (List.getElem_mem hj)
          simp [hj, hw, ints_get hj, E_iPrintable, this]
      · rw [loopV_go (fun j => .on ⟨[(109, V.v (.int .i64 ((j : Int)))), (108, V.v (.int .i64 ((q.length : Int)))), (107, .lst (some 4) (ints q)), (1, .ref 1 0)], [(1, [V.v (.bool vi), V.v (.int .i64 mode), .lst (some 0) (ints lt), V.v (.int .i64 la), V.v (.int .i64 cnt), V.v (.int .i64 op), V.v (.int .i64 opc), V.v (.int .i64 wt), V.v (.int .i64 fr), V.v (.int .i64 fh), V.v (.int .i64 last), .lst (some 1) (dPieces rp), .lst (some 2) (dLines ul), V.v (.int .i64 0), .lst (some 3) (ints ot), V.v (.int .i64 oa), .lst (some 4) (ints q), V.v (.int .i64 hit), .lst (some 5) (ints bt), V.v (.int .i64 ba)])], [], []⟩) N ?_ ?_]
        · simp [hN, ints_get hN, E_iPrintable, g1, g, edOk]
        · simp
        · intro j hj
          have hj' : j < q.length := by omega
          have hw := w64 (j + 1) (by omega)
          simp [hj', hw, ints_get hj', E_iPrintable, g2 j hj' hj]
    · skip
      by_cases d1 : q.length ≤ 40
      rotate_left
      · have d1' : 40 < (q.length : Int) := by omega
        simp [Try.func30, Try.f30, edOk, findB, E_iLineOk, h1, h2, h3, h5, h6, E_iin, E_imodeOk, E_iRingOk, E_iUndoOk, E_iemptyLine, E_iPrintable, a0, a1, a2, a3, a4, a5, f0, f1, f2, c0, c1, c2, c3, c4, d0, d1, d1']
      have d1' : ¬ (40 < (q.length : Int)) := by omega
      simp [Try.func30, Try.f30, edOk, findB, E_iLineOk, h1, h2, h3, h5, h6, E_iin, E_imodeOk, E_iRingOk, E_iUndoOk, E_iemptyLine, E_iPrintable, a0, a1, a2, a3, a4, a5, f0, f1, f2, c0, c1, c2, c3, c4, d0, d1, d1']
      rcases firstBad printable q with g | ⟨g, N, hN, g1, g2⟩
      · rw [loopV_go (fun j => .on ⟨[(109, V.v (.int .i64 ((j : Int)))), (108, V.v (.int .i64 ((q.length : Int)))), (107, .lst (some 4) (ints q)), (1, .ref 1 0)], [(1, [V.v (.bool vi), V.v (.int .i64 mode), .lst (some 0) (ints lt), V.v (.int .i64 la), V.v (.int .i64 cnt), V.v (.int .i64 op), V.v (.int .i64 opc), V.v (.int .i64 wt), V.v (.int .i64 fr), V.v (.int .i64 fh), V.v (.int .i64 last), .lst (some 1) (dPieces rp), .lst (some 2) (dLines ul), V.v (.int .i64 nav), .lst (some 3) (ints ot), V.v (.int .i64 oa), .lst (some 4) (ints q), V.v (.int .i64 hit), .lst (some 5) (ints bt), V.v (.int .i64 ba)])], [], []⟩) q.length ?_ ?_]
        · by_cases m3 : mode = 3
          · simp [Try.func30, Try.f30, edOk, findB, E_iLineOk, h1, h2, h3, h5, h6, E_iin, E_imodeOk, E_iRingOk, E_iUndoOk, E_iemptyLine, E_iPrintable, a0, a1, a2, a3, a4, a5, f0, f1, f2, c0, c1, c2, c3, c4, d0, d1, d1', g, seekB, m3]
          · by_cases q0 : q = []
            · subst q0
              by_cases t0 : hit = 0
              · subst t0; cases em : emptyL bt ba <;> simp [Try.func30, Try.f30, edOk, findB, E_iLineOk, h1, h2, h3, h5, h6, E_iin, E_imodeOk, E_iRingOk, E_iUndoOk, E_iemptyLine, E_iPrintable, a0, a1, a2, a3, a4, a5, f0, f1, f2, c0, c1, c2, c3, c4, d0, d1, d1', g, seekB, m3, em]
              · simp [Try.func30, Try.f30, edOk, findB, E_iLineOk, h1, h2, h3, h5, h6, E_iin, E_imodeOk, E_iRingOk, E_iUndoOk, E_iemptyLine, E_iPrintable, a0, a1, a2, a3, a4, a5, f0, f1, f2, c0, c1, c2, c3, c4, d0, d1, d1', g, seekB, m3, t0]
            · simp [Try.func30, Try.f30, edOk, findB, E_iLineOk, h1, h2, h3, h5, h6, E_iin, E_imodeOk, E_iRingOk, E_iUndoOk, E_iemptyLine, E_iPrintable, a0, a1, a2, a3, a4, a5, f0, f1, f2, c0, c1, c2, c3, c4, d0, d1, d1', g, seekB, m3, q0]
        · simp
        · intro j hj
          have hw := w64 (j + 1) (by omega)
          have := List.all_eq_true.1 g q[j] (List.getElem_mem hj)
          simp [hj, hw, ints_get hj, E_iPrintable, this]
      · rw [loopV_go (fun j => .on ⟨[(109, V.v (.int .i64 ((j : Int)))), (108, V.v (.int .i64 ((q.length : Int)))), (107, .lst (some 4) (ints q)), (1, .ref 1 0)], [(1, [V.v (.bool vi), V.v (.int .i64 mode), .lst (some 0) (ints lt), V.v (.int .i64 la), V.v (.int .i64 cnt), V.v (.int .i64 op), V.v (.int .i64 opc), V.v (.int .i64 wt), V.v (.int .i64 fr), V.v (.int .i64 fh), V.v (.int .i64 last), .lst (some 1) (dPieces rp), .lst (some 2) (dLines ul), V.v (.int .i64 nav), .lst (some 3) (ints ot), V.v (.int .i64 oa), .lst (some 4) (ints q), V.v (.int .i64 hit), .lst (some 5) (ints bt), V.v (.int .i64 ba)])], [], []⟩) N ?_ ?_]
        · simp [hN, ints_get hN, E_iPrintable, g1, g, edOk]
        · simp
        · intro j hj
          have hj' : j < q.length := by omega
          have hw := w64 (j + 1) (by omega)
          simp [hj', hw, ints_get hj', E_iPrintable, g2 j hj' hj]
end Go.Proofs.Ytacnbajcignacaa
namespace Go.Proofs.Ytacnbajcignacaa
open Go.RowKit
set_option linter.unusedSimpArgs false
set_option linter.unusedVariables false
set_option maxHeartbeats 8000000
set_option maxRecDepth 100000
def TEd.ok (e : TEd) : Bool := edOk e.Vi e.Mode e.Line.Text e.Line.At e.Count e.Op e.OpCount e.Wait e.FindR e.FindHow e.Last e.Ring.Pieces e.Undo.Lines e.Nav e.Own.Text e.Own.At e.Query e.Hit e.Back.Text e.Back.At
structure TEd.sm (e : TEd) : Prop where
  h1 : e.Line.Text.length ≤ 1000000000
  h2 : e.Own.Text.length ≤ 1000000000
  h3 : e.Back.Text.length ≤ 1000000000
  h4 : e.Query.length ≤ 1000000000
  h5 : smL (dPieces e.Ring.Pieces) = true
  h6 : smL (dLines e.Undo.Lines) = true
theorem TEd.ok_of {e : TEd} (h : e.ok = true) : lineOk e.Line.Text e.Line.At = true ∧ e.Query.length ≤ 40 ∧ e.Query.all printable = true := by
  simp only [TEd.ok, edOk, Bool.and_eq_true, decide_eq_true_eq] at h
  exact ⟨h.1, h.2.2.2.2.2.2.2.2.2.2.2.2.2.1, h.2.2.2.2.2.2.2.2.2.2.2.2.2.2.1⟩
theorem bsize (l : List UInt8) : (ByteArray.mk l.toArray).size = l.length := by simp [ByteArray.size]
theorem E_iPromptOf (e : TEd) (ps : ByteArray) (hq : e.Query.length ≤ 1000000000) : M_iPromptOf [.agg [V.v (.bool e.Vi), V.v (.int .i64 e.Mode), .lst (some 0) (ints e.Line.Text), V.v (.int .i64 e.Line.At), V.v (.int .i64 e.Count), V.v (.int .i64 e.Op), V.v (.int .i64 e.OpCount), V.v (.int .i64 e.Wait), V.v (.int .i64 e.FindR), V.v (.int .i64 e.FindHow), V.v (.int .i64 e.Last), .lst (some 1) (dPieces e.Ring.Pieces), .lst (some 2) (dLines e.Undo.Lines), V.v (.int .i64 e.Nav), .lst (some 3) (ints e.Own.Text), V.v (.int .i64 e.Own.At), .lst (some 4) (ints e.Query), V.v (.int .i64 e.Hit), .lst (some 5) (ints e.Back.Text), V.v (.int .i64 e.Back.At)], V.v (.string ps)] [] [] = some ⟨V.v (.string (promptOf e.Mode e.Query ps)), [], []⟩ := by
  unfold M_iPromptOf
  have hl := textOf_len e.Query
  by_cases hm : e.Mode = 3
  · have s1 : (ByteArray.mk #[40, 115, 101, 97, 114, 99, 104, 41, 96]).size + (ByteArray.mk (textOf e.Query).toArray).size ≤ 9223372036854775807 := by
      rw [bsize (textOf e.Query), show (ByteArray.mk #[40, 115, 101, 97, 114, 99, 104, 41, 96]).size = 9 from rfl]; omega
    have s2 : (ByteArray.mk #[40, 115, 101, 97, 114, 99, 104, 41, 96]).size + (ByteArray.mk (textOf e.Query).toArray).size + (ByteArray.mk #[39, 58, 32]).size ≤ 9223372036854775807 := by
      rw [bsize (textOf e.Query), show (ByteArray.mk #[40, 115, 101, 97, 114, 99, 104, 41, 96]).size = 9 from rfl, show (ByteArray.mk #[39, 58, 32]).size = 3 from rfl]; omega
    simp [Try.func33, Try.f33, hm, E_iTextOf e.Query hq, promptOf, s1, s2]
  · simp [Try.func33, Try.f33, hm, promptOf]
theorem E_sPromptOf (e : TEd) (ps : ByteArray) (hq : e.Query.length ≤ 1000000000) : M_sPromptOf [.agg [V.v (.bool e.Vi), V.v (.int .i64 e.Mode), .lst (some 0) (ints e.Line.Text), V.v (.int .i64 e.Line.At), V.v (.int .i64 e.Count), V.v (.int .i64 e.Op), V.v (.int .i64 e.OpCount), V.v (.int .i64 e.Wait), V.v (.int .i64 e.FindR), V.v (.int .i64 e.FindHow), V.v (.int .i64 e.Last), .lst (some 1) (dPieces e.Ring.Pieces), .lst (some 2) (dLines e.Undo.Lines), V.v (.int .i64 e.Nav), .lst (some 3) (ints e.Own.Text), V.v (.int .i64 e.Own.At), .lst (some 4) (ints e.Query), V.v (.int .i64 e.Hit), .lst (some 5) (ints e.Back.Text), V.v (.int .i64 e.Back.At)], V.v (.string ps)] [] [] = some ⟨V.v (.string (promptOf e.Mode e.Query ps)), [], []⟩ := by
  unfold M_sPromptOf
  have hl := textOf_len e.Query
  by_cases hm : e.Mode = 3
  · have s1 : (ByteArray.mk #[40, 115, 101, 97, 114, 99, 104, 41, 96]).size + (ByteArray.mk (textOf e.Query).toArray).size ≤ 9223372036854775807 := by
      rw [bsize (textOf e.Query), show (ByteArray.mk #[40, 115, 101, 97, 114, 99, 104, 41, 96]).size = 9 from rfl]; omega
    have s2 : (ByteArray.mk #[40, 115, 101, 97, 114, 99, 104, 41, 96]).size + (ByteArray.mk (textOf e.Query).toArray).size + (ByteArray.mk #[39, 58, 32]).size ≤ 9223372036854775807 := by
      rw [bsize (textOf e.Query), show (ByteArray.mk #[40, 115, 101, 97, 114, 99, 104, 41, 96]).size = 9 from rfl, show (ByteArray.mk #[39, 58, 32]).size = 3 from rfl]; omega
    simp [Try.func48, Try.f48, hm, E_sTextOf e.Query hq, promptOf, s1, s2]
  · simp [Try.func48, Try.f48, hm, promptOf]
def promptRunes (mode : Int) (q l : List Int) : List Int := if mode = 3 then [40, 115, 101, 97, 114, 99, 104, 41, 96] ++ q ++ [39, 58, 32] else l
theorem textOf_append (s t : List Int) : textOf (s ++ t) = textOf s ++ textOf t := List.flatMap_append ..
theorem print_ok {r : Int} (h : printable r = true) : runeOk r = true := by
  simp only [printable, Bool.and_eq_true] at h; exact h.1.1
theorem reads_prompt {e : TEd} {ps : ByteArray} {l : List Int} (hq : e.Query.all printable = true) (h : Reads ps.data.toList l []) : Reads (promptOf e.Mode e.Query ps).data.toList (promptRunes e.Mode e.Query l) [] := by
  unfold promptOf promptRunes
  by_cases hm : e.Mode = 3
  · rw [if_pos hm, if_pos hm]
    refine ⟨?_, fun r hr => ?_, rfl⟩
    · rw [textOf_append, textOf_append, List.append_nil]
      have h1 : textOf [40, 115, 101, 97, 114, 99, 104, 41, 96] = [40, 115, 101, 97, 114, 99, 104, 41, 96] := by decide
      have h2 : textOf [39, 58, 32] = [39, 58, 32] := by decide
      rw [h1, h2]
      simp
    · rcases List.mem_append.1 hr with hr | hr
      · rcases List.mem_append.1 hr with hr | hr
        · have : ([40, 115, 101, 97, 114, 99, 104, 41, 96] : List Int).all runeOk = true := by decide
          exact List.all_eq_true.1 this r hr
        · exact print_ok (List.all_eq_true.1 hq r hr)
      · have : ([39, 58, 32] : List Int).all runeOk = true := by decide
        exact List.all_eq_true.1 this r hr
  · rw [if_neg hm, if_neg hm]; exact h
theorem prompt_print {e : TEd} {l : List Int} (hq : e.Query.all printable = true) (hl : l.all printable = true) : (promptRunes e.Mode e.Query l).all printable = true := by
  unfold promptRunes
  split
  · rw [List.all_append, List.all_append, hq]; decide
  · exact hl
theorem prompt_len {e : TEd} {l : List Int} (hq : e.Query.length ≤ 40) (hl : l.length ≤ 60) : (promptRunes e.Mode e.Query l).length ≤ 60 := by
  unfold promptRunes
  split
  · simp; omega
  · exact hl
theorem prompt_size {e : TEd} {ps : ByteArray} (hq : e.Query.length ≤ 40) (hp : ps.size ≤ 65536) : (promptOf e.Mode e.Query ps).size ≤ 65536 := by
  have := textOf_len e.Query
  unfold promptOf
  split
  · rw [ByteArray.size_append, ByteArray.size_append, bsize (textOf e.Query), show (ByteArray.mk #[40, 115, 101, 97, 114, 99, 104, 41, 96]).size = 9 from rfl, show (ByteArray.mk #[39, 58, 32]).size = 3 from rfl]; omega
  · exact hp
end Go.Proofs.Ytacnbajcignacaa
namespace Go.Proofs.Ytacnbajcignacaa
open Go.RowKit
set_option linter.unusedSimpArgs false
set_option linter.unusedVariables false
set_option maxHeartbeats 8000000
set_option maxRecDepth 10000
theorem intss_one (l : List Int) : [[D.l (ints l)]] = intss [l] := rfl
theorem E_ireach_no (w x y Y : Int) (rows : List (List Int)) (h : Y < (rows.length : Int)) : M_i_sheet_reach [.ref 0 0, V.v (.int .i64 Y)] [[V.v (.int .i64 w), V.v (.int .i64 x), V.v (.int .i64 y), .own 0]] [intss rows] = some ⟨.tup [], [[V.v (.int .i64 w), V.v (.int .i64 x), V.v (.int .i64 y), .own 0]], [(0, intss rows)]⟩ := by
  unfold M_i_sheet_reach
  have h1 : ¬ ((rows.length : Int) ≤ Y) := by omega
  simp [Try.func36, Try.f36]
  rw [loopV_unf]
  simp [h1]
theorem E_ireach (w x y Y : Int) (c : Nat → Int) (W k n : Nat) (hw : w = W) (hW : W ≤ 200) (hn : Y = (k : Int) + n) (hk : (k : Int) + n ≤ 100000) (hc : ∀ i, k * W ≤ i → c i = 32) : M_i_sheet_reach [.ref 0 0, V.v (.int .i64 Y)] [[V.v (.int .i64 w), V.v (.int .i64 x), V.v (.int .i64 y), .own 0]] [intss (sheet c W k)] = some ⟨.tup [], [[V.v (.int .i64 w), V.v (.int .i64 x), V.v (.int .i64 y), .own 1]], [(1, intss (sheet c W (k + n + 1)))]⟩ := by
  unfold M_i_sheet_reach
  subst hw; subst hn
  simp [Try.func36, Try.f36]
  rw [loopV_go (fun j => .on ⟨[(1, V.v (.int .i64 ((k : Int) + (n : Int)))), (0, .ref 1000000000 0)], [(1000000000, [V.v (.int .i64 ((W : Int))), V.v (.int .i64 x), V.v (.int .i64 y), .own (if j = 0 then 1000000000 else 2000000000)])], [(if j = 0 then 1000000000 else 2000000000, intss (sheet c W (k + j)))], []⟩) (n + 1) ?_ ?_]
  · have h1 : ¬ ((n : Int) + 1 ≤ n) := by omega
    simp [h1]
    rw [Nat.add_assoc]
  · simp
  · intro j hj
    have hg := sheet_grow (c := c) (w := W) (k := k + j) (fun i hi => hc i (by have := Nat.mul_le_mul_right W (show k ≤ k + j by omega); omega))
    cases j with
    | zero =>
      have hg' : sheet c W (k + 1) = sheet c W k ++ [List.replicate W 32] := hg.symm
      have h1 : (k : Int) ≤ (k : Int) + n := by omega
      simp [h1]
      rw [loopV_go (fun i => .on ⟨[(16, V.v (.int .i64 ((i : Int)))), (15, V.v (.int .i64 ((W : Int)))), (4, .own 2000000000), (1, V.v (.int .i64 ((k : Int) + (n : Int)))), (0, .ref 1000000000 0)], [(1000000000, [V.v (.int .i64 ((W : Int))), V.v (.int .i64 x), V.v (.int .i64 y), .own 1000000000])], [(1000000000, intss (sheet c W (k))), (2000000000, ints (blanks i))], []⟩) W ?_ ?_]
      · simp
        simp (disch := omega) only [grd_pos]
        simp [hg', blanks, intss_one]
      · simp [blanks, ints_nil]
      · intro i hi
        have hw := w64 (i + 1) (by omega)
        have hb := blanks_len i
        simp [hi, hw, hb]
        simp (disch := omega) only [grd_pos]
        simp [hw, ← blanks_snoc]
    | succ j =>
      have hg' : sheet c W (k + (j + 1 + 1)) = sheet c W (k + (j + 1)) ++ [List.replicate W 32] := hg.symm
      have h1 : (j : Int) + 1 ≤ n := by omega
      simp [h1]
      rw [loopV_go (fun i => .on ⟨[(16, V.v (.int .i64 ((i : Int)))), (15, V.v (.int .i64 ((W : Int)))), (4, .own 2000000000), (1, V.v (.int .i64 ((k : Int) + (n : Int)))), (0, .ref 1000000000 0)], [(1000000000, [V.v (.int .i64 ((W : Int))), V.v (.int .i64 x), V.v (.int .i64 y), .own 2000000001])], [(2000000001, intss (sheet c W (k + (j + 1)))), (2000000000, ints (blanks i))], []⟩) W ?_ ?_]
      · simp
        simp (disch := omega) only [grd_pos]
        simp [hg', blanks, intss_one]
      · simp [blanks, ints_nil]
      · intro i hi
        have hw := w64 (i + 1) (by omega)
        have hb := blanks_len i
        simp [hi, hw, hb]
        simp (disch := omega) only [grd_pos]
        simp [hw, ← blanks_snoc]
end Go.Proofs.Ytacnbajcignacaa
namespace Go.Proofs.Ytacnbajcignacaa
open Go.RowKit
def upTo (z : List D) (rows : List (List D)) (j : Nat) : List (List D) := rows.take j ++ List.replicate (rows.length - j) z
theorem upTo_zero (z : List D) (rows : List (List D)) : List.replicate rows.length z = upTo z rows 0 := by simp [upTo]
theorem upTo_end (z : List D) (rows : List (List D)) : upTo z rows rows.length = rows := by simp [upTo]
@[simp] theorem upTo_len {z : List D} {rows : List (List D)} {j : Nat} (h : j ≤ rows.length) : (upTo z rows j).length = rows.length := by simp [upTo]; omega
theorem upTo_get {z : List D} {rows : List (List D)} {j : Nat} (h : j < rows.length) : (upTo z rows j)[j]? = some z := by
  unfold upTo
  rw [List.getElem?_append_right (by simp; omega), List.getElem?_replicate, if_pos (by simp; omega)]
theorem upTo_at {z : List D} {rows : List (List D)} {j : Nat} (h : j < rows.length) (h' : j < (upTo z rows j).length) : (upTo z rows j)[j] = z := by
  have := upTo_get (z := z) h
  rw [List.getElem?_eq_getElem h'] at this
  injection this
theorem upTo_set {z r : List D} {rows : List (List D)} {j : Nat} (h : rows[j]? = some r) : (upTo z rows j).set j r = upTo z rows (j + 1) := by
  have hj : j < rows.length := (List.getElem?_eq_some_iff.1 h).1
  unfold upTo
  rw [List.set_append_right _ _ (by simp; omega)]
  rw [show rows.length - j = (rows.length - (j + 1)) + 1 by omega, List.replicate_succ, List.take_add_one, h]
  have : j - (List.take j rows).length = 0 := by simp; omega
  rw [this, List.set_cons_zero]
  simp
theorem runs (n : Nat) (x0 : Int) (hx0 : 0 ≤ x0) (Pm : Nat → Int → Int → Prop) (H : ∀ j x, j < n → 0 ≤ x → x ≤ x0 → ∃ m, Pm j x m ∧ -1 ≤ m ∧ m ≤ x) :
    ∃ xs : Nat → Int, xs 0 = x0 ∧ (((∀ j, j ≤ n → 0 ≤ xs j ∧ xs j ≤ x0) ∧ ∀ j, j < n → Pm j (xs j) (xs (j + 1))) ∨ ∃ N, N < n ∧ (∀ j, j ≤ N → 0 ≤ xs j ∧ xs j ≤ x0) ∧ (∀ j, j ≤ N → Pm j (xs j) (xs (j + 1))) ∧ xs (N + 1) = -1) := by
  have H' : ∀ j x, ∃ m, j < n → 0 ≤ x → x ≤ x0 → Pm j x m ∧ -1 ≤ m ∧ m ≤ x := fun j x => by
    by_cases h : j < n ∧ 0 ≤ x ∧ x ≤ x0
    · obtain ⟨m, hm⟩ := H j x h.1 h.2.1 h.2.2; exact ⟨m, fun _ _ _ => hm⟩
    · exact ⟨0, fun a b c => absurd ⟨a, b, c⟩ h⟩
  let xs : Nat → Int := fun j => Nat.rec x0 (fun j x => Classical.choose (H' j x)) j
  have hs : ∀ j, xs (j + 1) = Classical.choose (H' j (xs j)) := fun j => rfl
  have hp : ∀ j, j < n → 0 ≤ xs j → xs j ≤ x0 → Pm j (xs j) (xs (j + 1)) ∧ -1 ≤ xs (j + 1) ∧ xs (j + 1) ≤ xs j := fun j a b c => by
    rw [hs]; exact Classical.choose_spec (H' j (xs j)) a b c
  refine ⟨xs, rfl, ?_⟩
  have all : ∀ k, k ≤ n → ((∀ j, j ≤ k → 0 ≤ xs j ∧ xs j ≤ x0) ∧ ∀ j, j < k → Pm j (xs j) (xs (j + 1))) ∨ ∃ N, N < n ∧ (∀ j, j ≤ N → 0 ≤ xs j ∧ xs j ≤ x0) ∧ (∀ j, j ≤ N → Pm j (xs j) (xs (j + 1))) ∧ xs (N + 1) = -1 := by
    intro k
    induction k with
    | zero =>
      intro _
      refine .inl ⟨fun j hj => ?_, fun j hj => by omega⟩
      have : j = 0 := by omega
      subst this
      exact ⟨hx0, Int.le_refl _⟩
    | succ k ih =>
      intro hk
      rcases ih (by omega) with ⟨h1, h2⟩ | h
      · obtain ⟨a, b, c⟩ := hp k (by omega) (h1 k (Nat.le_refl _)).1 (h1 k (Nat.le_refl _)).2
        have hpm : ∀ j, j < k + 1 → Pm j (xs j) (xs (j + 1)) := fun j hj => by
          rcases Nat.lt_or_ge j k with h | h
          · exact h2 j h
          · obtain rfl : j = k := by omega
            exact a
        by_cases hn : xs (k + 1) < 0
        · exact .inr ⟨k, by omega, h1, fun j hj => hpm j (by omega), by omega⟩
        · refine .inl ⟨fun j hj => ?_, hpm⟩
          rcases Nat.lt_or_ge j (k + 1) with h | h
          · exact h1 j (by omega)
          · obtain rfl : j = k + 1 := by omega
            have := (h1 k (Nat.le_refl _)).2
            omega
      · exact .inr h
  exact all n (Nat.le_refl _)
theorem Codec.rows_set {α : Type} (C : Codec α) (l : List α) (j : Nat) (x : α) : (C.rows l).set j (C.enc x) = C.rows (l.set j x) := by
  show (l.map C.enc).set j (C.enc x) = (l.set j x).map C.enc
  rw [List.map_set]
theorem runsG {α : Type} (n : Nat) (I : Nat → α → Prop) (a0 : α) (h0 : I 0 a0) (Pm : Nat → α → α → Prop) (H : ∀ j a, j < n → I j a → ∃ b, Pm j a b ∧ I (j + 1) b) :
    ∃ xs : Nat → α, xs 0 = a0 ∧ (∀ j, j ≤ n → I j (xs j)) ∧ ∀ j, j < n → Pm j (xs j) (xs (j + 1)) := by
  have H' : ∀ j a, ∃ b, j < n → I j a → Pm j a b ∧ I (j + 1) b := fun j a => by
    by_cases h : j < n ∧ I j a
    · obtain ⟨b, hb⟩ := H j a h.1 h.2; exact ⟨b, fun _ _ => hb⟩
    · exact ⟨a0, fun x y => absurd ⟨x, y⟩ h⟩
  let xs : Nat → α := fun j => Nat.rec a0 (fun j x => Classical.choose (H' j x)) j
  have hs : ∀ j, xs (j + 1) = Classical.choose (H' j (xs j)) := fun j => rfl
  have hI : ∀ j, j ≤ n → I j (xs j) := by
    intro j
    induction j with
    | zero => intro _; exact h0
    | succ j ih => intro hj; rw [hs]; exact (Classical.choose_spec (H' j (xs j)) (by omega) (ih (by omega))).2
  exact ⟨xs, rfl, hI, fun j hj => by rw [hs]; exact (Classical.choose_spec (H' j (xs j)) hj (hI j (by omega))).1⟩
end Go.Proofs.Ytacnbajcignacaa
namespace Go.Proofs.Ytacnbajcignacaa
open Go.RowKit
set_option linter.unusedSimpArgs false
set_option linter.unusedVariables false
set_option maxHeartbeats 8000000
set_option maxRecDepth 10000
def rise (W : Nat) (p : Int × Int) (t : List Int) (k : Nat) : Nat := if t.isEmpty then k else max k ((flow W t p).2.toNat + 1)
theorem rise_take {W : Nat} (hW : 2 ≤ W) {p : Int × Int} (hp : 0 ≤ p.1 ∧ p.1 ≤ W) (hy : 0 ≤ p.2) {t : List Int} {k j : Nat} (h : j < t.length) : rise W p (t.take (j + 1)) k = max (rise W p (t.take j) k) ((flow W (t.take (j + 1)) p).2.toNat + 1) := by
  have e1 : (t.take (j + 1)).isEmpty = false := by
    cases t with
    | nil => simp at h
    | cons => rfl
  obtain ⟨a, b, c⟩ := flow_in (w := W) (by omega) (t.take j) p hp
  obtain ⟨a', b', c'⟩ := flowS_in (w := W) (by omega) a t[j]
  rw [← flow_take h] at b' c'
  unfold rise
  rw [e1]
  cases j with
  | zero => simp
  | succ j =>
    have e2 : (t.take (j + 1)).isEmpty = false := by
      cases t with
      | nil => simp at h
      | cons => rfl
    rw [e2]
    simp only [if_false, Bool.false_eq_true]
    omega
theorem upd1_blank {c : Nat → Int} {m i : Nat} (h : ∀ i, m ≤ i → c i = 32) (hi : i < m) (r : Int) : ∀ j, m ≤ j → upd1 c i r j = 32 := fun j hj => by
  unfold upd1
  rw [if_neg (by omega), h j hj]
theorem at_lt {W k : Nat} {p : Int × Int} (h1 : p.1.toNat < W) (h2 : p.2.toNat < k) : atp W p < k * W := by
  unfold atp
  have := Nat.mul_le_mul_right W (show p.2.toNat + 1 ≤ k from h2)
  rw [Nat.add_mul] at this
  omega
theorem ink1_blank {W : Nat} {c : Nat → Int} {k : Nat} {p : Int × Int} {r : Int} (hr : 0 < wd r) (h0 : 0 ≤ p.1) (h1 : p.1 + wd r ≤ W) (h2 : p.2.toNat < k) (h : ∀ i, k * W ≤ i → c i = 32) : ∀ i, k * W ≤ i → ink1 W c p r i = 32 := by
  unfold ink1
  split
  · rename_i h3
    refine upd1_blank (upd1_blank h (at_lt (by omega) h2) r) ?_ _
    have := at_lt (W := W) (k := k) (p := (p.1 + 1, p.2)) (by simp only; omega) h2
    unfold atp at this ⊢
    simp only at this
    omega
  · exact upd1_blank h (at_lt (by omega) h2) r
theorem inks_blank {W : Nat} (hW : 2 ≤ W) {p : Int × Int} (hp : 0 ≤ p.1 ∧ p.1 ≤ W) (hy : 0 ≤ p.2) {t : List Int} (ht : t.all printable = true) {c : Nat → Int} {k : Nat} (hc : ∀ i, k * W ≤ i → c i = 32) : ∀ j, j ≤ t.length → ∀ i, rise W p (t.take j) k * W ≤ i → (inks W (t.take j) (c, p)).1 i = 32
  | 0, _ => by simpa [rise, inks] using hc
  | j + 1, h => by
    have ih := inks_blank hW hp hy ht hc j (by omega)
    have hj : j < t.length := h
    have hall : (t.take j).all printable = true := List.all_eq_true.2 fun x hx => List.all_eq_true.1 ht x (List.mem_of_mem_take hx)
    have hpr := List.all_eq_true.1 ht t[j] (List.getElem_mem hj)
    have e1 := inks_flow (w := W) (t.take j) (c, p) hall
    rw [inks_take hj, rise_take hW hp hy hj]
    obtain ⟨a, b, d⟩ := flow_in (w := W) (by omega) (t.take j) p hp
    have e2 := flow_take (w := W) (p := p) hj
    generalize hq : inks W (t.take j) (c, p) = s at *
    obtain ⟨cs, q⟩ := s
    simp only at e1 ih
    rw [← e1] at a b d e2
    have pl := plc_in (w := W) (by omega) a t[j]
    have e3 : (flow W (t.take (j + 1)) p).2 = (plc W q t[j]).2 := by rw [e2]; simp only [flowS, hpr, if_true]
    have hw : 0 < wd t[j] := by rcases wd_print hpr with e | e <;> omega
    rw [e3]
    show ∀ i, _ → ink1 W cs (plc W q t[j]) t[j] i = 32
    refine ink1_blank hw pl.1 pl.2.1 (by omega) fun i hi => ih i ?_
    exact Nat.le_trans (Nat.mul_le_mul_right W (Nat.le_max_left _ _)) hi
theorem ints_set (l : List Int) (i : Nat) (x : Int) : (ints l).set i [D.a (.int .i64 x)] = ints (l.set i x) := Codec.rows_set c_ints l i x
theorem intss_set (l : List (List Int)) (i : Nat) (x : List Int) : (intss l).set i [D.l (ints x)] = intss (l.set i x) := Codec.rows_set c_intss l i x
theorem sheet_row {c : Nat → Int} {W K Y : Nat} (h : Y < K) : (intss (sheet c W K))[Y]? = some [D.l (ints (rowAt c W Y))] := by
  rw [intss_get (by simpa using h)]
  have := sheet_get (c := c) (w := W) h
  rw [List.getElem?_eq_getElem (by simpa using h)] at this
  injection this with this
  rw [this]
@[simp] theorem sheet_at {c : Nat → Int} {W K Y : Nat} (h : Y < (sheet c W K).length) : (sheet c W K)[Y] = rowAt c W Y := by simp [sheet]
theorem sheet_put {c : Nat → Int} {W K X Y : Nat} (hx : X < W) (h : Y < K) (r : Int) : (intss (sheet c W K)).set Y [D.l ((ints (rowAt c W Y)).set X [D.a (.int .i64 r)])] = intss (sheet (upd1 c (Y * W + X) r) W K) := by
  rw [ints_set, intss_set, sheet_set hx h]
theorem E_iwrite (t : List Int) (W k : Nat) (hW : 2 ≤ W ∧ W ≤ 200) (c : Nat → Int) (x y : Int) (hx : 0 ≤ x ∧ x ≤ W) (hy : 0 ≤ y ∧ y ≤ 10000) (ht : t.all printable = true) (hl : t.length ≤ 10000) (hk : k ≤ 20000) (hc : ∀ i, k * W ≤ i → c i = 32) :
    M_i_sheet_write [.ref 0 0, .lst (some 0) (ints t)] [[V.v (.int .i64 ((W : Int))), V.v (.int .i64 x), V.v (.int .i64 y), .own 0]] [intss (sheet c W k)] =
      if rise W (x, y) t k = k then some ⟨.tup [], [[V.v (.int .i64 ((W : Int))), V.v (.int .i64 ((flow W t (x, y)).1)), V.v (.int .i64 ((flow W t (x, y)).2)), .own 0]], [(0, intss (sheet (inks W t (c, (x, y))).1 W (rise W (x, y) t k)))]⟩
      else some ⟨.tup [], [[V.v (.int .i64 ((W : Int))), V.v (.int .i64 ((flow W t (x, y)).1)), V.v (.int .i64 ((flow W t (x, y)).2)), .own 1]], [(1, intss (sheet (inks W t (c, (x, y))).1 W (rise W (x, y) t k)))]⟩ := by
  unfold M_i_sheet_write
  simp [Try.func31, Try.f31]
  rw [loopV_go (fun j => .on ⟨[(8, V.v (.int .i64 ((j : Int)))), (7, V.v (.int .i64 ((t.length : Int)))), (6, .lst (some 0) (ints t)), (0, .ref 1000000000 0)], [(1000000000, [V.v (.int .i64 ((W : Int))), V.v (.int .i64 ((flow W (t.take j) (x, y)).1)), V.v (.int .i64 ((flow W (t.take j) (x, y)).2)), .own (if rise W (x, y) (t.take j) k = k then 1000000000 else 2000000000)])], [(if rise W (x, y) (t.take j) k = k then 1000000000 else 2000000000, intss (sheet (inks W (t.take j) (c, (x, y))).1 W (rise W (x, y) (t.take j) k)))], []⟩) t.length ?_ ?_]
  · by_cases hr : rise W (x, y) t k = k <;> simp [hr]
  · simp [rise, flow, inks]
  · intro j hj
    have hw := w64 (j + 1) (by omega)
    have hbl := inks_blank hW.1 (p := (x, y)) hx hy.1 ht hc j (by omega)
    have hpr := List.all_eq_true.1 ht t[j] (List.getElem_mem hj)
    have hall : (t.take j).all printable = true := List.all_eq_true.2 fun x hx => List.all_eq_true.1 ht x (List.mem_of_mem_take hx)
    have e1 := inks_flow (w := W) (t.take j) (c, (x, y)) hall
    have e2 := flow_take (w := W) (p := (x, y)) hj
    have e3 := rise_take hW.1 (p := (x, y)) hx hy.1 (k := k) hj
    have e4 := inks_take (w := W) (s := (c, (x, y))) hj
    obtain ⟨a, b, d⟩ := flow_in (w := W) (by omega) (t.take j) (x, y) hx
    have a5 : (t.take j).length ≤ j := by simp; omega
    have hK : rise W (x, y) (t.take j) k ≤ 40000 := by unfold rise; split <;> omega
    have hK2 : k ≤ rise W (x, y) (t.take j) k := by unfold rise; split <;> omega
    generalize hq : flow W (t.take j) (x, y) = q at *
    generalize hs : inks W (t.take j) (c, (x, y)) = s at *
    generalize hKK : rise W (x, y) (t.take j) k = K at *
    obtain ⟨cs, q'⟩ := s
    simp only at e1 hbl
    subst e1
    have pl := plc_in (w := W) (by omega) a t[j]
    have hwd := wd_print hpr
    rw [e2] at e3
    simp only [flowS, hpr, if_true] at e2 e3
    have E := E_iplaced t[j] W q'.1 q'.2 (by omega) (by omega)
    rw [show ((q'.1, q'.2) : Int × Int) = q' from rfl] at E
    simp only [inkS] at e4
    generalize plc W q' t[j] = n at *
    obtain ⟨X, hX⟩ := Int.eq_ofNat_of_zero_le pl.1
    obtain ⟨Y, hY⟩ := Int.eq_ofNat_of_zero_le (show 0 ≤ n.2 by simp only at b; omega)
    obtain ⟨n1, n2⟩ := n
    simp only at hX hY
    subst hX; subst hY
    simp only at *
    have hXW : X < W := by omega
    have hX1 : (0 : Int) ≤ (X : Int) + 1 := by omega
    have hY1 : (Y : Int) < (Y : Int) + 1 := by omega
    have g1 : (X : Int) < W := by omega
    have w2 : IntKind.i64.wrap ((X : Int) + wd t[j]) = (X : Int) + wd t[j] := w64 _ (by omega)
    have w3 : IntKind.i64.wrap ((X : Int) + 1) = (X : Int) + 1 := w64 _ (by omega)
    by_cases hA : K = k
    · subst hA
      by_cases hg : Y < K
      · skip
        have E' := E_ireach_no W X Y Y (sheet cs W K) (by simp; omega)
        have hm : max K (Y + 1) = K := by omega
        have hg' : Y < K := hg
        have r1 := sheet_row (c := cs) (W := W) hg'
        rcases hwd with hd | hd
        · simp [hX1, hY1, hj, hw, ints_get hj, E, E', E_iWidth, hd, hg', hXW, g1, r1, sheet_put hXW hg', e2, e3, e4, ink1, atp, w3, hm]
        · have g2 : X + 1 < W := by omega
          have g3 : (X : Int) + 1 < W := by omega
          have w4 := w64 ((X : Int) + 2) (by omega)
          have r2 := sheet_row (c := upd1 cs (Y * W + X) t[j]) (W := W) hg'
          simp [hX1, hY1, hj, hw, ints_get hj, E, E', E_iWidth, hd, hg', hXW, g1, r1, r2, sheet_put hXW hg', sheet_put g2 hg', g2, g3, e2, e3, e4, ink1, atp, w3, w4, Nat.add_assoc, hm]
      · skip
        have E' := E_ireach W X Y Y cs W K (Y - K) rfl hW.2 (by omega) (by omega) hbl
        rw [show K + (Y - K) + 1 = Y + 1 by omega] at E'
        have hm : max K (Y + 1) = Y + 1 := by omega
        have hg' : Y < Y + 1 := by omega
        have hn1 : ¬ (Y + 1 = K) := by omega
        have r1 := sheet_row (c := cs) (W := W) hg'
        rcases hwd with hd | hd
        · simp [hX1, hY1, hj, hw, ints_get hj, E, E', E_iWidth, hd, hg', hXW, g1, r1, sheet_put hXW hg', e2, e3, e4, ink1, atp, w3, hm, hn1]
        · have g2 : X + 1 < W := by omega
          have g3 : (X : Int) + 1 < W := by omega
          have w4 := w64 ((X : Int) + 2) (by omega)
          have r2 := sheet_row (c := upd1 cs (Y * W + X) t[j]) (W := W) hg'
          simp [hX1, hY1, hj, hw, ints_get hj, E, E', E_iWidth, hd, hg', hXW, g1, r1, r2, sheet_put hXW hg', sheet_put g2 hg', g2, g3, e2, e3, e4, ink1, atp, w3, w4, Nat.add_assoc, hm, hn1]
    · by_cases hg : Y < K
      · skip
        have E' := E_ireach_no W X Y Y (sheet cs W K) (by simp; omega)
        have hm : max K (Y + 1) = K := by omega
        have hg' : Y < K := hg
        have r1 := sheet_row (c := cs) (W := W) hg'
        rcases hwd with hd | hd
        · simp [hX1, hY1, hj, hw, ints_get hj, E, E', E_iWidth, hd, hg', hXW, g1, r1, sheet_put hXW hg', e2, e3, e4, ink1, atp, w3, hm, hA]
        · have g2 : X + 1 < W := by omega
          have g3 : (X : Int) + 1 < W := by omega
          have w4 := w64 ((X : Int) + 2) (by omega)
          have r2 := sheet_row (c := upd1 cs (Y * W + X) t[j]) (W := W) hg'
          simp [hX1, hY1, hj, hw, ints_get hj, E, E', E_iWidth, hd, hg', hXW, g1, r1, r2, sheet_put hXW hg', sheet_put g2 hg', g2, g3, e2, e3, e4, ink1, atp, w3, w4, Nat.add_assoc, hm, hA]
      · skip
        have E' := E_ireach W X Y Y cs W K (Y - K) rfl hW.2 (by omega) (by omega) hbl
        rw [show K + (Y - K) + 1 = Y + 1 by omega] at E'
        have hm : max K (Y + 1) = Y + 1 := by omega
        have hg' : Y < Y + 1 := by omega
        have hn1 : ¬ (Y + 1 = k) := by omega
        have r1 := sheet_row (c := cs) (W := W) hg'
        rcases hwd with hd | hd
        · simp [hX1, hY1, hj, hw, ints_get hj, E, E', E_iWidth, hd, hg', hXW, g1, r1, sheet_put hXW hg', e2, e3, e4, ink1, atp, w3, hm, hn1, hA]
        · have g2 : X + 1 < W := by omega
          have g3 : (X : Int) + 1 < W := by omega
          have w4 := w64 ((X : Int) + 2) (by omega)
          have r2 := sheet_row (c := upd1 cs (Y * W + X) t[j]) (W := W) hg'
          simp [hX1, hY1, hj, hw, ints_get hj, E, E', E_iWidth, hd, hg', hXW, g1, r1, r2, sheet_put hXW hg', sheet_put g2 hg', g2, g3, e2, e3, e4, ink1, atp, w3, w4, Nat.add_assoc, hm, hn1, hA]
end Go.Proofs.Ytacnbajcignacaa
namespace Go.Proofs.Ytacnbajcignacaa
open Go.RowKit
set_option linter.unusedSimpArgs false
set_option linter.unusedVariables false
set_option maxHeartbeats 8000000
set_option maxRecDepth 10000
theorem win_in {c : Nat → Int} {W top h D X : Nat} (hD : D < h) (hX : X < W) (r : Int) : (win c W top h).set (D * W + X) r = win (upd1 c ((top + D) * W + X) r) W top h := by
  rw [win_set]
  · rw [Nat.add_mul, Nat.add_assoc]
  · have := Nat.mul_le_mul_right W (show D + 1 ≤ h from hD)
    rw [Nat.add_mul] at this; omega
theorem win_ink_out {c : Nat → Int} {W top h X Y : Nat} (hY : Y < top ∨ top + h ≤ Y) {r : Int} (hX : (X : Int) + wd r ≤ W) (hw : 0 < wd r) : win (ink1 W c ((X : Int), (Y : Int)) r) W top h = win c W top h := by
  have key : ∀ i, X + i < W → Y * W + X + i < top * W ∨ (top + h) * W ≤ Y * W + X + i := by
    intro i hi
    rcases hY with h1 | h1
    · have := Nat.mul_le_mul_right W (show Y + 1 ≤ top from h1)
      rw [Nat.add_mul] at this; omega
    · have := Nat.mul_le_mul_right W h1
      omega
  unfold ink1 atp
  simp only [Int.toNat_natCast]
  split
  · rename_i h2
    rw [win_out (key 1 (by omega)), win_out (i := Y * W + X) (key 0 (by omega))]
  · exact win_out (key 0 (by omega)) r
theorem E_sl27Lay (t : List Int) (W h top : Nat) (hW : 2 ≤ W ∧ W ≤ 200) (hh : h ≤ 300) (htop : top ≤ 20000) (c : Nat → Int) (gx gy x y : Int) (wr : Bool) (hx : 0 ≤ x ∧ x ≤ W) (hy : 0 ≤ y ∧ y ≤ 10000) (ht : t.all printable = true) (hl : t.length ≤ 10000) :
    M_sl27Lay [.agg [V.v (.int .i64 ((W : Int))), V.v (.int .i64 ((h : Int))), .own 0, V.v (.int .i64 gx), V.v (.int .i64 gy), V.v (.bool wr)], .lst (some 0) (ints t), V.v (.int .i64 x), V.v (.int .i64 y), V.v (.int .i64 ((top : Int)))] [] [ints (win c W top h)] =
      some ⟨.agg [V.v (.int .i64 ((W : Int))), V.v (.int .i64 ((h : Int))), .own 0, V.v (.int .i64 gx), V.v (.int .i64 gy), V.v (.bool wr)], [], [(0, ints (win (inks W t (c, (x, y))).1 W top h))]⟩ := by
  unfold M_sl27Lay
  simp [Try.func52, Try.f52]
  rw [loopV_go (fun j => .on ⟨[(16, V.v (.int .i64 ((j : Int)))), (15, V.v (.int .i64 ((t.length : Int)))), (14, .lst (some 0) (ints t)), (10, .ref 10 0), (5, .ref 5 0), (4, V.v (.int .i64 ((top : Int)))), (3, V.v (.int .i64 ((flow W (t.take j) (x, y)).2))), (2, V.v (.int .i64 ((flow W (t.take j) (x, y)).1)))], [(10, [V.v (.int .i64 0), V.v (.int .i64 0), .own 2000000000, V.v (.int .i64 0), V.v (.int .i64 0), V.v (.bool false)]), (5, [V.v (.int .i64 ((W : Int))), V.v (.int .i64 ((h : Int))), .own 1000000000, V.v (.int .i64 gx), V.v (.int .i64 gy), V.v (.bool wr)])], [(1000000000, ints (win (inks W (t.take j) (c, (x, y))).1 W top h)), (2000000000, [])], []⟩) t.length ?_ ?_]
  · simp
  · simp [flow, inks]
  · intro j hj
    have hw := w64 (j + 1) (by omega)
    have hpr := List.all_eq_true.1 ht t[j] (List.getElem_mem hj)
    have hall : (t.take j).all printable = true := List.all_eq_true.2 fun x hx => List.all_eq_true.1 ht x (List.mem_of_mem_take hx)
    have e1 := inks_flow (w := W) (t.take j) (c, (x, y)) hall
    have e2 := flow_take (w := W) (p := (x, y)) hj
    have e4 := inks_take (w := W) (s := (c, (x, y))) hj
    obtain ⟨a, b, d⟩ := flow_in (w := W) (by omega) (t.take j) (x, y) hx
    have a5 : (t.take j).length ≤ j := by simp; omega
    generalize hq : flow W (t.take j) (x, y) = q at *
    generalize hs : inks W (t.take j) (c, (x, y)) = s at *
    obtain ⟨cs, q'⟩ := s
    simp only at e1
    subst e1
    have pl := plc_in (w := W) (by omega) a t[j]
    have hwd := wd_print hpr
    simp only [flowS, hpr, if_true] at e2
    have E := E_sl27Next t[j] W q'.1 q'.2 (by omega) (by omega)
    rw [show ((q'.1, q'.2) : Int × Int) = q' from rfl] at E
    simp only [inkS] at e4
    generalize plc W q' t[j] = n at *
    obtain ⟨X, hX⟩ := Int.eq_ofNat_of_zero_le pl.1
    obtain ⟨Y, hY⟩ := Int.eq_ofNat_of_zero_le (show 0 ≤ n.2 by simp only at b; omega)
    obtain ⟨n1, n2⟩ := n
    simp only at hX hY
    subst hX; subst hY
    simp only at *
    have hXW : X < W := by omega
    have w2 : IntKind.i64.wrap ((X : Int) + wd t[j]) = (X : Int) + wd t[j] := w64 _ (by omega)
    have wy := w64 ((Y : Int) - top) (by omega)
    by_cases h1 : top ≤ Y
    · obtain ⟨D, hD⟩ : ∃ D, Y = top + D := ⟨Y - top, by omega⟩
      subst hD
      have hyd : ((top + D : Nat) : Int) - top = D := by omega
      rw [hyd] at wy
      have hyd' : (top : Int) + (D : Int) - top = D := by omega
      by_cases h2 : D < h
      · have hDW : D * W + W ≤ 60000 := by
          have := Nat.mul_le_mul (show D + 1 ≤ 300 by omega) hW.2
          rw [Nat.add_mul] at this; omega
        have hlt : D * W + W ≤ h * W := by
          have := Nat.mul_le_mul_right W (show D + 1 ≤ h from h2)
          rw [Nat.add_mul] at this; omega
        have hi1 := win_in (c := cs) (top := top) h2 hXW t[j]
        obtain ⟨DW, hdw⟩ : ∃ DW, DW = D * W := ⟨_, rfl⟩
        have hdw' : (D : Int) * (W : Int) = (DW : Int) := by rw [hdw, Int.natCast_mul]
        rw [← hdw] at hDW hlt hi1
        have w5 := w64 (DW : Int) (by omega)
        have w6 := w64 ((DW : Int) + X) (by omega)
        have f1 : (0 : Int) ≤ (DW : Int) + X := by omega
        have f2 : ((DW : Int) + X).toNat = DW + X := by omega
        have f3 : DW + X < h * W := by omega
        have f3' : (DW : Int) + X < (h : Int) * W := by rw [← Int.natCast_mul]; omega
        have f4 : (top : Int) ≤ (top : Int) + D := by omega
        have f6 : ((top : Int) + (D : Int)).toNat = top + D := by omega
        rcases hwd with hd | hd
        · have w3 := w64 ((X : Int) + 1) (by omega)
          simp [hj, hw, ints_get hj, E, E_sWidth, hd, wy, hyd', h2, hdw', w5, w6, f1, f2, f3, f3', f4, f6, ints_set, hi1, e2, e4, ink1, atp, w3]
        · have w3 := w64 ((X : Int) + 2) (by omega)
          have w7 := w64 ((DW : Int) + X + 1) (by omega)
          have f7 : (0 : Int) ≤ (DW : Int) + X + 1 := by omega
          have f8 : ((DW : Int) + X + 1).toNat = DW + X + 1 := by omega
          have f9 : DW + X + 1 < h * W := by omega
          have f9' : (DW : Int) + X + 1 < (h : Int) * W := by rw [← Int.natCast_mul]; omega
          have hi2 : (win (upd1 cs ((top + D) * W + X) t[j]) W top h).set (DW + X + 1) (-1) = win (upd1 (upd1 cs ((top + D) * W + X) t[j]) ((top + D) * W + X + 1) (-1)) W top h := by
            rw [hdw]; exact win_in (X := X + 1) h2 (by omega) (-1)
          simp [hj, hw, ints_get hj, E, E_sWidth, hd, wy, hyd', h2, hdw', w5, w6, w7, f1, f2, f3, f3', f4, f6, f7, f8, f9, f9', ints_set, hi1, hi2, e2, e4, ink1, atp, w3]
      · have f4 : (top : Int) ≤ (top : Int) + D := by omega
        have ho : win (ink1 W cs ((X : Int), (top : Int) + (D : Int)) t[j]) W top h = win cs W top h := by
          rw [← Int.natCast_add]; exact win_ink_out (.inr (by omega)) (by omega) (by omega)
        simp [hj, hw, ints_get hj, E, E_sWidth, wy, hyd', h2, f4, e2, e4, w2, ho]
    · have f4 : ¬ (top : Int) ≤ Y := by omega
      have ho := win_ink_out (c := cs) (W := W) (h := h) (X := X) (r := t[j]) (.inl (show Y < top by omega)) (by omega) (by omega)
      simp [hj, hw, ints_get hj, E, E_sWidth, f4, e2, e4, w2, ho]
theorem E_sl27Lay_own (t : List Int) (W h top : Nat) (hW : 2 ≤ W ∧ W ≤ 200) (hh : h ≤ 300) (htop : top ≤ 20000) (c : Nat → Int) (gx gy x y : Int) (wr : Bool) (hx : 0 ≤ x ∧ x ≤ W) (hy : 0 ≤ y ∧ y ≤ 10000) (ht : t.all printable = true) (hl : t.length ≤ 10000) :
    M_sl27Lay [.agg [V.v (.int .i64 ((W : Int))), V.v (.int .i64 ((h : Int))), .own 0, V.v (.int .i64 gx), V.v (.int .i64 gy), V.v (.bool wr)], .own 1, V.v (.int .i64 x), V.v (.int .i64 y), V.v (.int .i64 ((top : Int)))] [] [ints (win c W top h), ints t] =
      some ⟨.agg [V.v (.int .i64 ((W : Int))), V.v (.int .i64 ((h : Int))), .own 0, V.v (.int .i64 gx), V.v (.int .i64 gy), V.v (.bool wr)], [], [(0, ints (win (inks W t (c, (x, y))).1 W top h)), (1, ints t)]⟩ := by
  unfold M_sl27Lay
  simp [Try.func52, Try.f52]
  rw [loopV_go (fun j => .on ⟨[(16, V.v (.int .i64 ((j : Int)))), (15, V.v (.int .i64 ((t.length : Int)))), (14, .own 1000000001), (10, .ref 10 0), (5, .ref 5 0), (4, V.v (.int .i64 ((top : Int)))), (3, V.v (.int .i64 ((flow W (t.take j) (x, y)).2))), (2, V.v (.int .i64 ((flow W (t.take j) (x, y)).1)))], [(10, [V.v (.int .i64 0), V.v (.int .i64 0), .own 2000000000, V.v (.int .i64 0), V.v (.int .i64 0), V.v (.bool false)]), (5, [V.v (.int .i64 ((W : Int))), V.v (.int .i64 ((h : Int))), .own 1000000000, V.v (.int .i64 gx), V.v (.int .i64 gy), V.v (.bool wr)])], [(1000000000, ints (win (inks W (t.take j) (c, (x, y))).1 W top h)), (2000000000, []), (1000000001, ints t)], []⟩) t.length ?_ ?_]
  · simp
  · simp [flow, inks]
  · intro j hj
    have hw := w64 (j + 1) (by omega)
    have hpr := List.all_eq_true.1 ht t[j] (List.getElem_mem hj)
    have hall : (t.take j).all printable = true := List.all_eq_true.2 fun x hx => List.all_eq_true.1 ht x (List.mem_of_mem_take hx)
    have e1 := inks_flow (w := W) (t.take j) (c, (x, y)) hall
    have e2 := flow_take (w := W) (p := (x, y)) hj
    have e4 := inks_take (w := W) (s := (c, (x, y))) hj
    obtain ⟨a, b, d⟩ := flow_in (w := W) (by omega) (t.take j) (x, y) hx
    have a5 : (t.take j).length ≤ j := by simp; omega
    generalize hq : flow W (t.take j) (x, y) = q at *
    generalize hs : inks W (t.take j) (c, (x, y)) = s at *
    obtain ⟨cs, q'⟩ := s
    simp only at e1
    subst e1
    have pl := plc_in (w := W) (by omega) a t[j]
    have hwd := wd_print hpr
    simp only [flowS, hpr, if_true] at e2
    have E := E_sl27Next t[j] W q'.1 q'.2 (by omega) (by omega)
    rw [show ((q'.1, q'.2) : Int × Int) = q' from rfl] at E
    simp only [inkS] at e4
    generalize plc W q' t[j] = n at *
    obtain ⟨X, hX⟩ := Int.eq_ofNat_of_zero_le pl.1
    obtain ⟨Y, hY⟩ := Int.eq_ofNat_of_zero_le (show 0 ≤ n.2 by simp only at b; omega)
    obtain ⟨n1, n2⟩ := n
    simp only at hX hY
    subst hX; subst hY
    simp only at *
    have hXW : X < W := by omega
    have w2 : IntKind.i64.wrap ((X : Int) + wd t[j]) = (X : Int) + wd t[j] := w64 _ (by omega)
    have wy := w64 ((Y : Int) - top) (by omega)
    by_cases h1 : top ≤ Y
    · obtain ⟨D, hD⟩ : ∃ D, Y = top + D := ⟨Y - top, by omega⟩
      subst hD
      have hyd : ((top + D : Nat) : Int) - top = D := by omega
      rw [hyd] at wy
      have hyd' : (top : Int) + (D : Int) - top = D := by omega
      by_cases h2 : D < h
      · have hDW : D * W + W ≤ 60000 := by
          have := Nat.mul_le_mul (show D + 1 ≤ 300 by omega) hW.2
          rw [Nat.add_mul] at this; omega
        have hlt : D * W + W ≤ h * W := by
          have := Nat.mul_le_mul_right W (show D + 1 ≤ h from h2)
          rw [Nat.add_mul] at this; omega
        have hi1 := win_in (c := cs) (top := top) h2 hXW t[j]
        obtain ⟨DW, hdw⟩ : ∃ DW, DW = D * W := ⟨_, rfl⟩
        have hdw' : (D : Int) * (W : Int) = (DW : Int) := by rw [hdw, Int.natCast_mul]
        rw [← hdw] at hDW hlt hi1
        have w5 := w64 (DW : Int) (by omega)
        have w6 := w64 ((DW : Int) + X) (by omega)
        have f1 : (0 : Int) ≤ (DW : Int) + X := by omega
        have f2 : ((DW : Int) + X).toNat = DW + X := by omega
        have f3 : DW + X < h * W := by omega
        have f3' : (DW : Int) + X < (h : Int) * W := by rw [← Int.natCast_mul]; omega
        have f4 : (top : Int) ≤ (top : Int) + D := by omega
        have f6 : ((top : Int) + (D : Int)).toNat = top + D := by omega
        rcases hwd with hd | hd
        · have w3 := w64 ((X : Int) + 1) (by omega)
          simp [hj, hw, ints_get hj, E, E_sWidth, hd, wy, hyd', h2, hdw', w5, w6, f1, f2, f3, f3', f4, f6, ints_set, hi1, e2, e4, ink1, atp, w3]
        · have w3 := w64 ((X : Int) + 2) (by omega)
          have w7 := w64 ((DW : Int) + X + 1) (by omega)
          have f7 : (0 : Int) ≤ (DW : Int) + X + 1 := by omega
          have f8 : ((DW : Int) + X + 1).toNat = DW + X + 1 := by omega
          have f9 : DW + X + 1 < h * W := by omega
          have f9' : (DW : Int) + X + 1 < (h : Int) * W := by rw [← Int.natCast_mul]; omega
          have hi2 : (win (upd1 cs ((top + D) * W + X) t[j]) W top h).set (DW + X + 1) (-1) = win (upd1 (upd1 cs ((top + D) * W + X) t[j]) ((top + D) * W + X + 1) (-1)) W top h := by
            rw [hdw]; exact win_in (X := X + 1) h2 (by omega) (-1)
          simp [hj, hw, ints_get hj, E, E_sWidth, hd, wy, hyd', h2, hdw', w5, w6, w7, f1, f2, f3, f3', f4, f6, f7, f8, f9, f9', ints_set, hi1, hi2, e2, e4, ink1, atp, w3]
      · have f4 : (top : Int) ≤ (top : Int) + D := by omega
        have ho : win (ink1 W cs ((X : Int), (top : Int) + (D : Int)) t[j]) W top h = win cs W top h := by
          rw [← Int.natCast_add]; exact win_ink_out (.inr (by omega)) (by omega) (by omega)
        simp [hj, hw, ints_get hj, E, E_sWidth, wy, hyd', h2, f4, e2, e4, w2, ho]
    · have f4 : ¬ (top : Int) ≤ Y := by omega
      have ho := win_ink_out (c := cs) (W := W) (h := h) (X := X) (r := t[j]) (.inl (show Y < top by omega)) (by omega) (by omega)
      simp [hj, hw, ints_get hj, E, E_sWidth, f4, e2, e4, w2, ho]
end Go.Proofs.Ytacnbajcignacaa
namespace Go.Proofs.Ytacnbajcignacaa
open Go.RowKit
set_option linter.unusedSimpArgs false
set_option linter.unusedVariables false
set_option maxHeartbeats 16000000
set_option maxRecDepth 100000
theorem atEnd_no {l : List Int} {a : Int} (h : atEnd l a = false) : l = [] ∨ (l ≠ [] ∧ ¬ a = l.length) := by
  cases l with
  | nil => exact .inl rfl
  | cons x l => exact .inr ⟨by simp, by simpa [atEnd] using h⟩
theorem atEnd_yes {l : List Int} {a : Int} (h : atEnd l a = true) : 0 < l.length ∧ a = l.length := by
  simpa [atEnd, List.length_pos_iff] using h
theorem E_sl21Mode (vi : Bool) (mode : Int) (lt : List Int) (la cnt op opc wt fr fh last : Int) (rp : List TPiece) (ul : List TLine) (nav : Int) (ot : List Int) (oa : Int) (q : List Int) (hit : Int) (bt : List Int) (ba : Int) : M_sl21Mode [.agg [V.v (.bool vi), V.v (.int .i64 mode), .lst (some 0) (ints lt), V.v (.int .i64 la), V.v (.int .i64 cnt), V.v (.int .i64 op), V.v (.int .i64 opc), V.v (.int .i64 wt), V.v (.int .i64 fr), V.v (.int .i64 fh), V.v (.int .i64 last), .lst (some 1) (dPieces rp), .lst (some 2) (dLines ul), V.v (.int .i64 nav), .lst (some 3) (ints ot), V.v (.int .i64 oa), .lst (some 4) (ints q), V.v (.int .i64 hit), .lst (some 5) (ints bt), V.v (.int .i64 ba)]] [] [] = some ⟨V.v (.bool (modeB vi mode lt la op opc wt && seekB mode q hit bt ba)), [], []⟩ := by
  unfold M_sl21Mode
  by_cases m2 : mode = 2
  · subst m2
    cases vi
    · simp [Try.func110, Try.f110, modeB, seekB, E_sl21Empty, E_sl21Among_op, E_sl21Among_wait]
    cases hA : atEnd lt la
    · rcases atEnd_no hA with e | ⟨e, e2⟩
      · subst e
        by_cases q0 : q = []
        · subst q0
          by_cases t0 : hit = 0
          · subst t0
            cases em : emptyL bt ba
            · simp [Try.func110, Try.f110, modeB, seekB, E_sl21Empty, E_sl21Among_op, E_sl21Among_wait, hA, em]
            by_cases o0 : op = 0
            · subst o0
              by_cases k0 : opc = 0
              · subst k0
                by_cases w0 : wt = 0
                · subst w0
                  simp [Try.func110, Try.f110, modeB, seekB, E_sl21Empty, E_sl21Among_op, E_sl21Among_wait, hA, em]
                · skip
                  cases hW : waitC wt <;> simp [Try.func110, Try.f110, modeB, seekB, E_sl21Empty, E_sl21Among_op, E_sl21Among_wait, hA, em, w0, hW]
              · skip
                by_cases w0 : wt = 0
                · subst w0
                  simp [Try.func110, Try.f110, modeB, seekB, E_sl21Empty, E_sl21Among_op, E_sl21Among_wait, hA, em, k0]
                · skip
                  cases hW : waitC wt <;> simp [Try.func110, Try.f110, modeB, seekB, E_sl21Empty, E_sl21Among_op, E_sl21Among_wait, hA, em, k0, w0, hW]
            · skip
              cases hO : opC op
              · simp [Try.func110, Try.f110, modeB, seekB, E_sl21Empty, E_sl21Among_op, E_sl21Among_wait, hA, em, o0, hO]
              by_cases w0 : wt = 0
              · subst w0
                simp [Try.func110, Try.f110, modeB, seekB, E_sl21Empty, E_sl21Among_op, E_sl21Among_wait, hA, em, o0, hO]
              · skip
                cases hW : waitC wt <;> simp [Try.func110, Try.f110, modeB, seekB, E_sl21Empty, E_sl21Among_op, E_sl21Among_wait, hA, em, o0, hO, w0, hW]
          · skip
            simp [Try.func110, Try.f110, modeB, seekB, E_sl21Empty, E_sl21Among_op, E_sl21Among_wait, hA, t0]
        · have q1 : 0 < q.length := List.length_pos_iff.2 q0
          simp [Try.func110, Try.f110, modeB, seekB, E_sl21Empty, E_sl21Among_op, E_sl21Among_wait, hA, q0, q1]
      · have e3 : 0 < lt.length := List.length_pos_iff.2 e
        by_cases q0 : q = []
        · subst q0
          by_cases t0 : hit = 0
          · subst t0
            cases em : emptyL bt ba
            · simp [Try.func110, Try.f110, modeB, seekB, E_sl21Empty, E_sl21Among_op, E_sl21Among_wait, hA, e, e2, e3, em]
            by_cases o0 : op = 0
            · subst o0
              by_cases k0 : opc = 0
              · subst k0
                by_cases w0 : wt = 0
                · subst w0
                  simp [Try.func110, Try.f110, modeB, seekB, E_sl21Empty, E_sl21Among_op, E_sl21Among_wait, hA, e, e2, e3, em]
                · skip
                  cases hW : waitC wt <;> simp [Try.func110, Try.f110, modeB, seekB, E_sl21Empty, E_sl21Among_op, E_sl21Among_wait, hA, e, e2, e3, em, w0, hW]
              · skip
                by_cases w0 : wt = 0
                · subst w0
                  simp [Try.func110, Try.f110, modeB, seekB, E_sl21Empty, E_sl21Among_op, E_sl21Among_wait, hA, e, e2, e3, em, k0]
                · skip
                  cases hW : waitC wt <;> simp [Try.func110, Try.f110, modeB, seekB, E_sl21Empty, E_sl21Among_op, E_sl21Among_wait, hA, e, e2, e3, em, k0, w0, hW]
            · skip
              cases hO : opC op
              · simp [Try.func110, Try.f110, modeB, seekB, E_sl21Empty, E_sl21Among_op, E_sl21Among_wait, hA, e, e2, e3, em, o0, hO]
              by_cases w0 : wt = 0
              · subst w0
                simp [Try.func110, Try.f110, modeB, seekB, E_sl21Empty, E_sl21Among_op, E_sl21Among_wait, hA, e, e2, e3, em, o0, hO]
              · skip
                cases hW : waitC wt <;> simp [Try.func110, Try.f110, modeB, seekB, E_sl21Empty, E_sl21Among_op, E_sl21Among_wait, hA, e, e2, e3, em, o0, hO, w0, hW]
          · skip
            simp [Try.func110, Try.f110, modeB, seekB, E_sl21Empty, E_sl21Among_op, E_sl21Among_wait, hA, e, e2, e3, t0]
        · have q1 : 0 < q.length := List.length_pos_iff.2 q0
          simp [Try.func110, Try.f110, modeB, seekB, E_sl21Empty, E_sl21Among_op, E_sl21Among_wait, hA, e, e2, e3, q0, q1]
    · obtain ⟨e1, e2⟩ := atEnd_yes hA
      subst e2
      simp [Try.func110, Try.f110, modeB, seekB, E_sl21Empty, E_sl21Among_op, E_sl21Among_wait, hA, e1]
  by_cases m0 : mode = 0
  · subst m0
    cases vi
    · skip
      by_cases o0 : op = 0
      · subst o0
        by_cases k0 : opc = 0
        · subst k0
          by_cases w0 : wt = 0
          · subst w0
            by_cases q0 : q = []
            · subst q0
              by_cases t0 : hit = 0
              · subst t0
                cases em : emptyL bt ba
                · simp [Try.func110, Try.f110, modeB, seekB, E_sl21Empty, E_sl21Among_op, E_sl21Among_wait, em]
                simp [Try.func110, Try.f110, modeB, seekB, E_sl21Empty, E_sl21Among_op, E_sl21Among_wait, em]
              · skip
                simp [Try.func110, Try.f110, modeB, seekB, E_sl21Empty, E_sl21Among_op, E_sl21Among_wait, t0]
            · have q1 : 0 < q.length := List.length_pos_iff.2 q0
              simp [Try.func110, Try.f110, modeB, seekB, E_sl21Empty, E_sl21Among_op, E_sl21Among_wait, q0, q1]
          · skip
            simp [Try.func110, Try.f110, modeB, seekB, E_sl21Empty, E_sl21Among_op, E_sl21Among_wait, w0]
        · skip
          simp [Try.func110, Try.f110, modeB, seekB, E_sl21Empty, E_sl21Among_op, E_sl21Among_wait, k0]
      · skip
        simp [Try.func110, Try.f110, modeB, seekB, E_sl21Empty, E_sl21Among_op, E_sl21Among_wait, o0]
    · simp [Try.func110, Try.f110, modeB, seekB, E_sl21Empty, E_sl21Among_op, E_sl21Among_wait]
  by_cases m1 : mode = 1
  · subst m1
    cases vi
    · simp [Try.func110, Try.f110, modeB, seekB, E_sl21Empty, E_sl21Among_op, E_sl21Among_wait]
    · skip
      by_cases o0 : op = 0
      · subst o0
        by_cases k0 : opc = 0
        · subst k0
          by_cases w0 : wt = 0
          · subst w0
            by_cases q0 : q = []
            · subst q0
              by_cases t0 : hit = 0
              · subst t0
                cases em : emptyL bt ba
                · simp [Try.func110, Try.f110, modeB, seekB, E_sl21Empty, E_sl21Among_op, E_sl21Among_wait, em]
                simp [Try.func110, Try.f110, modeB, seekB, E_sl21Empty, E_sl21Among_op, E_sl21Among_wait, em]
              · skip
                simp [Try.func110, Try.f110, modeB, seekB, E_sl21Empty, E_sl21Among_op, E_sl21Among_wait, t0]
            · have q1 : 0 < q.length := List.length_pos_iff.2 q0
              simp [Try.func110, Try.f110, modeB, seekB, E_sl21Empty, E_sl21Among_op, E_sl21Among_wait, q0, q1]
          · skip
            simp [Try.func110, Try.f110, modeB, seekB, E_sl21Empty, E_sl21Among_op, E_sl21Among_wait, w0]
        · skip
          simp [Try.func110, Try.f110, modeB, seekB, E_sl21Empty, E_sl21Among_op, E_sl21Among_wait, k0]
      · skip
        simp [Try.func110, Try.f110, modeB, seekB, E_sl21Empty, E_sl21Among_op, E_sl21Among_wait, o0]
  by_cases m3 : mode = 3
  · subst m3
    cases vi
    · skip
      by_cases o0 : op = 0
      · subst o0
        by_cases k0 : opc = 0
        · subst k0
          by_cases w0 : wt = 0
          · subst w0
            simp [Try.func110, Try.f110, modeB, seekB, E_sl21Empty, E_sl21Among_op, E_sl21Among_wait]
          · skip
            simp [Try.func110, Try.f110, modeB, seekB, E_sl21Empty, E_sl21Among_op, E_sl21Among_wait, w0]
        · skip
          simp [Try.func110, Try.f110, modeB, seekB, E_sl21Empty, E_sl21Among_op, E_sl21Among_wait, k0]
      · skip
        simp [Try.func110, Try.f110, modeB, seekB, E_sl21Empty, E_sl21Among_op, E_sl21Among_wait, o0]
    · skip
      by_cases o0 : op = 0
      · subst o0
        by_cases k0 : opc = 0
        · subst k0
          by_cases w0 : wt = 0
          · subst w0
            simp [Try.func110, Try.f110, modeB, seekB, E_sl21Empty, E_sl21Among_op, E_sl21Among_wait]
          · skip
            simp [Try.func110, Try.f110, modeB, seekB, E_sl21Empty, E_sl21Among_op, E_sl21Among_wait, w0]
        · skip
          simp [Try.func110, Try.f110, modeB, seekB, E_sl21Empty, E_sl21Among_op, E_sl21Among_wait, k0]
      · skip
        simp [Try.func110, Try.f110, modeB, seekB, E_sl21Empty, E_sl21Among_op, E_sl21Among_wait, o0]
  by_cases ml : mode < 0
  · simp [Try.func110, Try.f110, modeB, seekB, E_sl21Empty, E_sl21Among_op, E_sl21Among_wait, m0, m1, m2, m3, ml]
  · have mh : 3 < mode := by omega
    simp [Try.func110, Try.f110, modeB, seekB, E_sl21Empty, E_sl21Among_op, E_sl21Among_wait, m0, m1, m2, m3, ml, mh]
end Go.Proofs.Ytacnbajcignacaa
namespace Go.Proofs.Ytacnbajcignacaa
open Go.RowKit
set_option linter.unusedSimpArgs false
set_option linter.unusedVariables false
set_option maxHeartbeats 16000000
set_option maxRecDepth 100000
theorem E_sEdOk (vi : Bool) (mode : Int) (lt : List Int) (la cnt op opc wt fr fh last : Int) (rp : List TPiece) (ul : List TLine) (nav : Int) (ot : List Int) (oa : Int) (q : List Int) (hit : Int) (bt : List Int) (ba : Int) (h1 : lt.length ≤ 1000000000) (h2 : ot.length ≤ 1000000000) (h3 : bt.length ≤ 1000000000) (h4 : q.length ≤ 1000000000) (h5 : smL (dPieces rp) = true) (h6 : smL (dLines ul) = true) : M_sEdOk [.agg [V.v (.bool vi), V.v (.int .i64 mode), .lst (some 0) (ints lt), V.v (.int .i64 la), V.v (.int .i64 cnt), V.v (.int .i64 op), V.v (.int .i64 opc), V.v (.int .i64 wt), V.v (.int .i64 fr), V.v (.int .i64 fh), V.v (.int .i64 last), .lst (some 1) (dPieces rp), .lst (some 2) (dLines ul), V.v (.int .i64 nav), .lst (some 3) (ints ot), V.v (.int .i64 oa), .lst (some 4) (ints q), V.v (.int .i64 hit), .lst (some 5) (ints bt), V.v (.int .i64 ba)]] [] [] = some ⟨V.v (.bool (edOk vi mode lt la cnt op opc wt fr fh last rp ul nav ot oa q hit bt ba)), [], []⟩ := by
  unfold M_sEdOk
  cases x1 : lineOk lt la
  · skip
    simp [Try.func45, Try.f45, edOk, findB, E_sLineOk, h1, h2, h3, h5, h6, E_sl21Mode, E_sRingOk, E_sUndoOk, E_sl21Empty, E_sPrintable, x1]
  cases x2 : lineOk ot oa
  · skip
    simp [Try.func45, Try.f45, edOk, findB, E_sLineOk, h1, h2, h3, h5, h6, E_sl21Mode, E_sRingOk, E_sUndoOk, E_sl21Empty, E_sPrintable, x1, x2]
  cases x3 : lineOk bt ba
  · skip
    simp [Try.func45, Try.f45, edOk, findB, E_sLineOk, h1, h2, h3, h5, h6, E_sl21Mode, E_sRingOk, E_sUndoOk, E_sl21Empty, E_sPrintable, x1, x2, x3]
  cases x4 : modeB vi mode lt la op opc wt
  · skip
    simp [Try.func45, Try.f45, edOk, findB, E_sLineOk, h1, h2, h3, h5, h6, E_sl21Mode, E_sRingOk, E_sUndoOk, E_sl21Empty, E_sPrintable, x1, x2, x3, x4]
  cases x5 : seekB mode q hit bt ba
  · skip
    simp [Try.func45, Try.f45, edOk, findB, E_sLineOk, h1, h2, h3, h5, h6, E_sl21Mode, E_sRingOk, E_sUndoOk, E_sl21Empty, E_sPrintable, x1, x2, x3, x4, x5]
  by_cases x6 : cnt < 0
  · have x8 : inR cnt 0 999 = false := inR_no (by rw [inR_iff]; omega)
    simp [Try.func45, Try.f45, edOk, findB, E_sLineOk, h1, h2, h3, h5, h6, E_sl21Mode, E_sRingOk, E_sUndoOk, E_sl21Empty, E_sPrintable, x1, x2, x3, x4, x5, x6, x8]
  by_cases x7 : 999 < cnt
  · have x8 : inR cnt 0 999 = false := inR_no (by rw [inR_iff]; omega)
    simp [Try.func45, Try.f45, edOk, findB, E_sLineOk, h1, h2, h3, h5, h6, E_sl21Mode, E_sRingOk, E_sUndoOk, E_sl21Empty, E_sPrintable, x1, x2, x3, x4, x5, x6, x7, x8]
  have x8 : inR cnt 0 999 = true := inR_iff.2 (by omega)
  by_cases x9 : opc < 0
  · have x11 : inR opc 0 999 = false := inR_no (by rw [inR_iff]; omega)
    simp [Try.func45, Try.f45, edOk, findB, E_sLineOk, h1, h2, h3, h5, h6, E_sl21Mode, E_sRingOk, E_sUndoOk, E_sl21Empty, E_sPrintable, x1, x2, x3, x4, x5, x6, x7, x8, x9, x11]
  by_cases x10 : 999 < opc
  · have x11 : inR opc 0 999 = false := inR_no (by rw [inR_iff]; omega)
    simp [Try.func45, Try.f45, edOk, findB, E_sLineOk, h1, h2, h3, h5, h6, E_sl21Mode, E_sRingOk, E_sUndoOk, E_sl21Empty, E_sPrintable, x1, x2, x3, x4, x5, x6, x7, x8, x9, x10, x11]
  have x11 : inR opc 0 999 = true := inR_iff.2 (by omega)
  by_cases x12 : last < 0
  · have x14 : inR last 0 3 = false := inR_no (by rw [inR_iff]; omega)
    simp [Try.func45, Try.f45, edOk, findB, E_sLineOk, h1, h2, h3, h5, h6, E_sl21Mode, E_sRingOk, E_sUndoOk, E_sl21Empty, E_sPrintable, x1, x2, x3, x4, x5, x6, x7, x8, x9, x10, x11, x12, x14]
  by_cases x13 : 3 < last
  · have x14 : inR last 0 3 = false := inR_no (by rw [inR_iff]; omega)
    simp [Try.func45, Try.f45, edOk, findB, E_sLineOk, h1, h2, h3, h5, h6, E_sl21Mode, E_sRingOk, E_sUndoOk, E_sl21Empty, E_sPrintable, x1, x2, x3, x4, x5, x6, x7, x8, x9, x10, x11, x12, x13, x14]
  have x14 : inR last 0 3 = true := inR_iff.2 (by omega)
  cases x15 : ringOk rp
  · skip
    simp [Try.func45, Try.f45, edOk, findB, E_sLineOk, h1, h2, h3, h5, h6, E_sl21Mode, E_sRingOk, E_sUndoOk, E_sl21Empty, E_sPrintable, x1, x2, x3, x4, x5, x6, x7, x8, x9, x10, x11, x12, x13, x14, x15]
  cases x16 : undoOk ul
  · skip
    simp [Try.func45, Try.f45, edOk, findB, E_sLineOk, h1, h2, h3, h5, h6, E_sl21Mode, E_sRingOk, E_sUndoOk, E_sl21Empty, E_sPrintable, x1, x2, x3, x4, x5, x6, x7, x8, x9, x10, x11, x12, x13, x14, x15, x16]
  by_cases f0 : fr = 0
  · subst f0
    by_cases f1 : fh = 0
    rotate_left
    · skip
      simp [Try.func45, Try.f45, edOk, findB, E_sLineOk, h1, h2, h3, h5, h6, E_sl21Mode, E_sRingOk, E_sUndoOk, E_sl21Empty, E_sPrintable, x1, x2, x3, x4, x5, x6, x7, x8, x9, x10, x11, x12, x13, x14, x15, x16, f1]
    subst f1
    by_cases x17 : nav < 0
    · have x19 : inR nav 0 1000000060 = false := inR_no (by rw [inR_iff]; omega)
      simp [Try.func45, Try.f45, edOk, findB, E_sLineOk, h1, h2, h3, h5, h6, E_sl21Mode, E_sRingOk, E_sUndoOk, E_sl21Empty, E_sPrintable, x1, x2, x3, x4, x5, x6, x7, x8, x9, x10, x11, x12, x13, x14, x15, x16, x17, x19]
    by_cases x18 : 1000000060 < nav
    · have x19 : inR nav 0 1000000060 = false := inR_no (by rw [inR_iff]; omega)
      simp [Try.func45, Try.f45, edOk, findB, E_sLineOk, h1, h2, h3, h5, h6, E_sl21Mode, E_sRingOk, E_sUndoOk, E_sl21Empty, E_sPrintable, x1, x2, x3, x4, x5, x6, x7, x8, x9, x10, x11, x12, x13, x14, x15, x16, x17, x18, x19]
    have x19 : inR nav 0 1000000060 = true := inR_iff.2 (by omega)
    by_cases x20 : hit < 0
    · have x22 : inR hit 0 1000000060 = false := inR_no (by rw [inR_iff]; omega)
      simp [Try.func45, Try.f45, edOk, findB, E_sLineOk, h1, h2, h3, h5, h6, E_sl21Mode, E_sRingOk, E_sUndoOk, E_sl21Empty, E_sPrintable, x1, x2, x3, x4, x5, x6, x7, x8, x9, x10, x11, x12, x13, x14, x15, x16, x17, x18, x19, x20, x22]
    by_cases x21 : 1000000060 < hit
    · have x22 : inR hit 0 1000000060 = false := inR_no (by rw [inR_iff]; omega)
      simp [Try.func45, Try.f45, edOk, findB, E_sLineOk, h1, h2, h3, h5, h6, E_sl21Mode, E_sRingOk, E_sUndoOk, E_sl21Empty, E_sPrintable, x1, x2, x3, x4, x5, x6, x7, x8, x9, x10, x11, x12, x13, x14, x15, x16, x17, x18, x19, x20, x21, x22]
    have x22 : inR hit 0 1000000060 = true := inR_iff.2 (by omega)
    by_cases d0 : nav = 0
    · subst d0
      cases x23 : emptyL ot oa
      · skip
        simp [Try.func45, Try.f45, edOk, findB, E_sLineOk, h1, h2, h3, h5, h6, E_sl21Mode, E_sRingOk, E_sUndoOk, E_sl21Empty, E_sPrintable, x1, x2, x3, x4, x5, x6, x7, x8, x9, x10, x11, x12, x13, x14, x15, x16, x17, x18, x19, x20, x21, x22, x23]
      by_cases d1 : q.length ≤ 40
      rotate_left
      · have d1' : 40 < (q.length : Int) := by omega
        simp [Try.func45, Try.f45, edOk, findB, E_sLineOk, h1, h2, h3, h5, h6, E_sl21Mode, E_sRingOk, E_sUndoOk, E_sl21Empty, E_sPrintable, x1, x2, x3, x4, x5, x6, x7, x8, x9, x10, x11, x12, x13, x14, x15, x16, x17, x18, x19, x20, x21, x22, x23, d1, d1']
      have d1' : ¬ (40 < (q.length : Int)) := by omega
      simp [Try.func45, Try.f45, edOk, findB, E_sLineOk, h1, h2, h3, h5, h6, E_sl21Mode, E_sRingOk, E_sUndoOk, E_sl21Empty, E_sPrintable, x1, x2, x3, x4, x5, x6, x7, x8, x9, x10, x11, x12, x13, x14, x15, x16, x17, x18, x19, x20, x21, x22, x23, d1, d1']
      rcases firstBad printable q with g | ⟨g, N, hN, g1, g2⟩
      · rw [loopV_go (fun j => .on ⟨[(138, V.v (.int .i64 ((j : Int)))), (137, V.v (.int .i64 ((q.length : Int)))), (136, .lst (some 4) (ints q))], [], [], []⟩) q.length ?_ ?_]
        · simp [Try.func45, Try.f45, edOk, findB, E_sLineOk, h1, h2, h3, h5, h6, E_sl21Mode, E_sRingOk, E_sUndoOk, E_sl21Empty, E_sPrintable, x1, x2, x3, x4, x5, x6, x7, x8, x9, x10, x11, x12, x13, x14, x15, x16, x17, x18, x19, x20, x21, x22, x23, d1, d1', g]
        · simp
        · intro j hj
          have hw := w64 (j + 1) (by omega)
          have := List.all_eq_true.1 g q[j] (List.getElem_mem hj)
          simp [hj, hw, ints_get hj, E_sPrintable, this]
      · rw [loopV_go (fun j => .on ⟨[(138, V.v (.int .i64 ((j : Int)))), (137, V.v (.int .i64 ((q.length : Int)))), (136, .lst (some 4) (ints q))], [], [], []⟩) N ?_ ?_]
        · simp [hN, ints_get hN, E_sPrintable, g1, g, edOk]
        · simp
        · intro j hj
          have hj' : j < q.length := by omega
          have hw := w64 (j + 1) (by omega)
          simp [hj', hw, ints_get hj', E_sPrintable, g2 j hj' hj]
    · have d2 : (nav != 0) = true := by simpa using d0
      by_cases d1 : q.length ≤ 40
      rotate_left
      · have d1' : 40 < (q.length : Int) := by omega
        simp [Try.func45, Try.f45, edOk, findB, E_sLineOk, h1, h2, h3, h5, h6, E_sl21Mode, E_sRingOk, E_sUndoOk, E_sl21Empty, E_sPrintable, x1, x2, x3, x4, x5, x6, x7, x8, x9, x10, x11, x12, x13, x14, x15, x16, x17, x18, x19, x20, x21, x22, d0, d2, d1, d1']
      have d1' : ¬ (40 < (q.length : Int)) := by omega
      simp [Try.func45, Try.f45, edOk, findB, E_sLineOk, h1, h2, h3, h5, h6, E_sl21Mode, E_sRingOk, E_sUndoOk, E_sl21Empty, E_sPrintable, x1, x2, x3, x4, x5, x6, x7, x8, x9, x10, x11, x12, x13, x14, x15, x16, x17, x18, x19, x20, x21, x22, d0, d2, d1, d1']
      rcases firstBad printable q with g | ⟨g, N, hN, g1, g2⟩
      · rw [loopV_go (fun j => .on ⟨[(138, V.v (.int .i64 ((j : Int)))), (137, V.v (.int .i64 ((q.length : Int)))), (136, .lst (some 4) (ints q))], [], [], []⟩) q.length ?_ ?_]
        · simp [Try.func45, Try.f45, edOk, findB, E_sLineOk, h1, h2, h3, h5, h6, E_sl21Mode, E_sRingOk, E_sUndoOk, E_sl21Empty, E_sPrintable, x1, x2, x3, x4, x5, x6, x7, x8, x9, x10, x11, x12, x13, x14, x15, x16, x17, x18, x19, x20, x21, x22, d0, d2, d1, d1', g]
        · simp
        · intro j hj
          have hw := w64 (j + 1) (by omega)
          have := List.all_eq_true.1 g q[j] (List.getElem_mem hj)
          simp [hj, hw, ints_get hj, E_sPrintable, this]
      · rw [loopV_go (fun j => .on ⟨[(138, V.v (.int .i64 ((j : Int)))), (137, V.v (.int .i64 ((q.length : Int)))), (136, .lst (some 4) (ints q))], [], [], []⟩) N ?_ ?_]
        · simp [hN, ints_get hN, E_sPrintable, g1, g, edOk]
        · simp
        · intro j hj
          have hj' : j < q.length := by omega
          have hw := w64 (j + 1) (by omega)
          simp [hj', hw, ints_get hj', E_sPrintable, g2 j hj' hj]
  · have f2 : (fr == 0) = false := by simpa using f0
    have f3 : (fr != 0) = true := by simpa using f0
    cases x24 : printable fr
    · skip
      simp [Try.func45, Try.f45, edOk, findB, E_sLineOk, h1, h2, h3, h5, h6, E_sl21Mode, E_sRingOk, E_sUndoOk, E_sl21Empty, E_sPrintable, x1, x2, x3, x4, x5, x6, x7, x8, x9, x10, x11, x12, x13, x14, x15, x16, f0, f2, f3, x24]
    by_cases x25 : fh < 0
    · have x27 : inR fh 0 3 = false := inR_no (by rw [inR_iff]; omega)
      simp [Try.func45, Try.f45, edOk, findB, E_sLineOk, h1, h2, h3, h5, h6, E_sl21Mode, E_sRingOk, E_sUndoOk, E_sl21Empty, E_sPrintable, x1, x2, x3, x4, x5, x6, x7, x8, x9, x10, x11, x12, x13, x14, x15, x16, f0, f2, f3, x24, x25, x27]
    by_cases x26 : 3 < fh
    · have x27 : inR fh 0 3 = false := inR_no (by rw [inR_iff]; omega)
      simp [Try.func45, Try.f45, edOk, findB, E_sLineOk, h1, h2, h3, h5, h6, E_sl21Mode, E_sRingOk, E_sUndoOk, E_sl21Empty, E_sPrintable, x1, x2, x3, x4, x5, x6, x7, x8, x9, x10, x11, x12, x13, x14, x15, x16, f0, f2, f3, x24, x25, x26, x27]
    have x27 : inR fh 0 3 = true := inR_iff.2 (by omega)
    by_cases x28 : nav < 0
    · have x30 : inR nav 0 1000000060 = false := inR_no (by rw [inR_iff]; omega)
      simp [Try.func45, Try.f45, edOk, findB, E_sLineOk, h1, h2, h3, h5, h6, E_sl21Mode, E_sRingOk, E_sUndoOk, E_sl21Empty, E_sPrintable, x1, x2, x3, x4, x5, x6, x7, x8, x9, x10, x11, x12, x13, x14, x15, x16, f0, f2, f3, x24, x25, x26, x27, x28, x30]
    by_cases x29 : 1000000060 < nav
    · have x30 : inR nav 0 1000000060 = false := inR_no (by rw [inR_iff]; omega)
      simp [Try.func45, Try.f45, edOk, findB, E_sLineOk, h1, h2, h3, h5, h6, E_sl21Mode, E_sRingOk, E_sUndoOk, E_sl21Empty, E_sPrintable, x1, x2, x3, x4, x5, x6, x7, x8, x9, x10, x11, x12, x13, x14, x15, x16, f0, f2, f3, x24, x25, x26, x27, x28, x29, x30]
    have x30 : inR nav 0 1000000060 = true := inR_iff.2 (by omega)
    by_cases x31 : hit < 0
    · have x33 : inR hit 0 1000000060 = false := inR_no (by rw [inR_iff]; omega)
      simp [Try.func45, Try.f45, edOk, findB, E_sLineOk, h1, h2, h3, h5, h6, E_sl21Mode, E_sRingOk, E_sUndoOk, E_sl21Empty, E_sPrintable, x1, x2, x3, x4, x5, x6, x7, x8, x9, x10, x11, x12, x13, x14, x15, x16, f0, f2, f3, x24, x25, x26, x27, x28, x29, x30, x31, x33]
    by_cases x32 : 1000000060 < hit
    · have x33 : inR hit 0 1000000060 = false := inR_no (by rw [inR_iff]; omega)
      simp [Try.func45, Try.f45, edOk, findB, E_sLineOk, h1, h2, h3, h5, h6, E_sl21Mode, E_sRingOk, E_sUndoOk, E_sl21Empty, E_sPrintable, x1, x2, x3, x4, x5, x6, x7, x8, x9, x10, x11, x12, x13, x14, x15, x16, f0, f2, f3, x24, x25, x26, x27, x28, x29, x30, x31, x32, x33]
    have x33 : inR hit 0 1000000060 = true := inR_iff.2 (by omega)
    by_cases d0 : nav = 0
    · subst d0
      cases x34 : emptyL ot oa
      · skip
        simp [Try.func45, Try.f45, edOk, findB, E_sLineOk, h1, h2, h3, h5, h6, E_sl21Mode, E_sRingOk, E_sUndoOk, E_sl21Empty, E_sPrintable, x1, x2, x3, x4, x5, x6, x7, x8, x9, x10, x11, x12, x13, x14, x15, x16, f0, f2, f3, x24, x25, x26, x27, x28, x29, x30, x31, x32, x33, x34]
      by_cases d1 : q.length ≤ 40
      rotate_left
      · have d1' : 40 < (q.length : Int) := by omega
        simp [Try.func45, Try.f45, edOk, findB, E_sLineOk, h1, h2, h3, h5, h6, E_sl21Mode, E_sRingOk, E_sUndoOk, E_sl21Empty, E_sPrintable, x1, x2, x3, x4, x5, x6, x7, x8, x9, x10, x11, x12, x13, x14, x15, x16, f0, f2, f3, x24, x25, x26, x27, x28, x29, x30, x31, x32, x33, x34, d1, d1']
      have d1' : ¬ (40 < (q.length : Int)) := by omega
      simp [Try.func45, Try.f45, edOk, findB, E_sLineOk, h1, h2, h3, h5, h6, E_sl21Mode, E_sRingOk, E_sUndoOk, E_sl21Empty, E_sPrintable, x1, x2, x3, x4, x5, x6, x7, x8, x9, x10, x11, x12, x13, x14, x15, x16, f0, f2, f3, x24, x25, x26, x27, x28, x29, x30, x31, x32, x33, x34, d1, d1']
      rcases firstBad printable q with g | ⟨g, N, hN, g1, g2⟩
      · rw [loopV_go (fun j => .on ⟨[(138, V.v (.int .i64 ((j : Int)))), (137, V.v (.int .i64 ((q.length : Int)))), (136, .lst (some 4) (ints q))], [], [], []⟩) q.length ?_ ?_]
        · simp [Try.func45, Try.f45, edOk, findB, E_sLineOk, h1, h2, h3, h5, h6, E_sl21Mode, E_sRingOk, E_sUndoOk, E_sl21Empty, E_sPrintable, x1, x2, x3, x4, x5, x6, x7, x8, x9, x10, x11, x12, x13, x14, x15, x16, f0, f2, f3, x24, x25, x26, x27, x28, x29, x30, x31, x32, x33, x34, d1, d1', g]
        · simp
        · intro j hj
          have hw := w64 (j + 1) (by omega)
          have := List.all_eq_true.1 g q[j] (List.getElem_mem hj)
          simp [hj, hw, ints_get hj, E_sPrintable, this]
      · rw [loopV_go (fun j => .on ⟨[(138, V.v (.int .i64 ((j : Int)))), (137, V.v (.int .i64 ((q.length : Int)))), (136, .lst (some 4) (ints q))], [], [], []⟩) N ?_ ?_]
        · simp [hN, ints_get hN, E_sPrintable, g1, g, edOk]
        · simp
        · intro j hj
          have hj' : j < q.length := by omega
          have hw := w64 (j + 1) (by omega)
          simp [hj', hw, ints_get hj', E_sPrintable, g2 j hj' hj]
    · have d2 : (nav != 0) = true := by simpa using d0
      by_cases d1 : q.length ≤ 40
      rotate_left
      · have d1' : 40 < (q.length : Int) := by omega
        simp [Try.func45, Try.f45, edOk, findB, E_sLineOk, h1, h2, h3, h5, h6, E_sl21Mode, E_sRingOk, E_sUndoOk, E_sl21Empty, E_sPrintable, x1, x2, x3, x4, x5, x6, x7, x8, x9, x10, x11, x12, x13, x14, x15, x16, f0, f2, f3, x24, x25, x26, x27, x28, x29, x30, x31, x32, x33, d0, d2, d1, d1']
      have d1' : ¬ (40 < (q.length : Int)) := by omega
      simp [Try.func45, Try.f45, edOk, findB, E_sLineOk, h1, h2, h3, h5, h6, E_sl21Mode, E_sRingOk, E_sUndoOk, E_sl21Empty, E_sPrintable, x1, x2, x3, x4, x5, x6, x7, x8, x9, x10, x11, x12, x13, x14, x15, x16, f0, f2, f3, x24, x25, x26, x27, x28, x29, x30, x31, x32, x33, d0, d2, d1, d1']
      rcases firstBad printable q with g | ⟨g, N, hN, g1, g2⟩
      · rw [loopV_go (fun j => .on ⟨[(138, V.v (.int .i64 ((j : Int)))), (137, V.v (.int .i64 ((q.length : Int)))), (136, .lst (some 4) (ints q))], [], [], []⟩) q.length ?_ ?_]
        · simp [Try.func45, Try.f45, edOk, findB, E_sLineOk, h1, h2, h3, h5, h6, E_sl21Mode, E_sRingOk, E_sUndoOk, E_sl21Empty, E_sPrintable, x1, x2, x3, x4, x5, x6, x7, x8, x9, x10, x11, x12, x13, x14, x15, x16, f0, f2, f3, x24, x25, x26, x27, x28, x29, x30, x31, x32, x33, d0, d2, d1, d1', g]
        · simp
        · intro j hj
          have hw := w64 (j + 1) (by omega)
          have := List.all_eq_true.1 g q[j] (List.getElem_mem hj)
          simp [hj, hw, ints_get hj, E_sPrintable, this]
      · rw [loopV_go (fun j => .on ⟨[(138, V.v (.int .i64 ((j : Int)))), (137, V.v (.int .i64 ((q.length : Int)))), (136, .lst (some 4) (ints q))], [], [], []⟩) N ?_ ?_]
        · simp [hN, ints_get hN, E_sPrintable, g1, g, edOk]
        · simp
        · intro j hj
          have hj' : j < q.length := by omega
          have hw := w64 (j + 1) (by omega)
          simp [hj', hw, ints_get hj', E_sPrintable, g2 j hj' hj]
end Go.Proofs.Ytacnbajcignacaa
namespace Go.Proofs.Ytacnbajcignacaa
open Go.RowKit
set_option linter.unusedSimpArgs false
set_option linter.unusedVariables false
set_option maxHeartbeats 8000000
set_option maxRecDepth 100000
theorem E_sGridNew (w h : Int) (hn : gridNewOk w h = true) : M_sGridNew [V.v (.int .i64 w), V.v (.int .i64 h)] [] [] = some ⟨.tup [vGrid w h (.own 0) 0 0 false, V.v (.bool true)], [], [(0, ints (blanks (w * h).toNat))]⟩ := by
  unfold M_sGridNew
  obtain ⟨a, b, h3, hp⟩ := gridNewOk_of hn
  have h1 : ¬ w < 2 := by omega
  have h2 : ¬ 200 < w := by omega
  have h4 : ¬ h < 1 := by omega
  have h5 : ¬ 200 < h := by omega
  have h6 : ¬ (8000 < w * h) := by omega
  have hw := w64 (w * h) (by omega)
  obtain ⟨n, hn⟩ := Int.eq_ofNat_of_zero_le hp
  simp [Try.func44, Try.f44, h1, h2, h4, h5, hw, h6, vGrid]
  have hw9 := w64 (n : Int) (by omega)
  rw [loopV_go (fun k => .on ⟨[(7, V.v (.int .i64 ((k : Int)))), (6, .ref 6 0), (4, .ref 4 0), (1, V.v (.int .i64 h)), (0, V.v (.int .i64 w))], [(6, [V.v (.int .i64 w), V.v (.int .i64 h), .own 2000000000, V.v (.int .i64 0), V.v (.int .i64 0), V.v (.bool false)]), (4, [V.v (.int .i64 0), V.v (.int .i64 0), .own 2000000001, V.v (.int .i64 0), V.v (.int .i64 0), V.v (.bool false)])], [(2000000001, []), (2000000000, ints (blanks k))], []⟩) n ?_ ?_]
  · simp [hn, hw9]
  · simp [blanks, ints_nil]
  · intro j hj
    have hw2 := w64 (j + 1) (by omega)
    simp [hn, hw9, hj, hw2, blanks_len, ← blanks_snoc]
    simp (disch := omega) only [grd_pos]
    simp [hw2, blanks_snoc]
end Go.Proofs.Ytacnbajcignacaa
namespace Go.Proofs.Ytacnbajcignacaa
noncomputable def M_sMakeShow : Mean := evFun Try.prog [(23, false, M_sl01New), (24, false, M_sl27Note), (25, false, M_sl27Ps), (26, false, M_sl21Draw), (27, false, M_sl01Below)] ⟨[], [], [(5, [0, 1, 2, 3, 6, 4, 5, 7, 8, 9, 10, 11, 12, 13], [(4, [0, 1, 2, 6]), (7, [0, 1, 2, 5]), (11, [5, 8])])], []⟩ 6
theorem S_sMakeShow : Sound Try.prog 6 M_sMakeShow := sound _ (cons_sound S_sl01New (cons_sound S_sl27Note (cons_sound S_sl27Ps (cons_sound S_sl21Draw (cons_sound S_sl01Below none_sound))))) hmix Try.func6 (eqOf (by kernel_rfl))
noncomputable def M_iShow : Mean := evFun Try.prog [(28, false, M_iGridNew), (29, false, M_ishortRunes), (30, false, M_iEdOk), (31, false, M_i_sheet_write), (33, false, M_iPromptOf), (32, false, M_iRunesOf), (34, false, M_iShown), (35, false, M_iplaced), (36, false, M_i_sheet_reach)] ⟨[(23, [154, 153, 152, 23, 22, 21, 12, 10], [12, 10])], [(22, [18])], [(13, [], [])], [(7, [18, 14, 12, 10, 7, 4, 3, 1], [18, 12, 10, 7]), (8, [18, 14, 12, 10, 7, 4, 3, 1], [18, 12, 10, 7]), (10, [18, 12, 10, 7, 4, 3, 1], [18, 12, 10, 7]), (12, [18, 12, 10, 7, 4, 3], [18, 12, 10, 7]), (13, [18, 12, 10, 7, 4, 3], [18, 12, 10, 7]), (19, [22, 21, 18, 12, 10, 4], [18, 12, 10]), (21, [23, 22, 21, 18, 12, 10, 4], [18, 12, 10])]⟩ 7
theorem S_iShow : Sound Try.prog 7 M_iShow := sound _ (cons_sound S_iGridNew (cons_sound S_ishortRunes (cons_sound S_iEdOk (cons_sound S_i_sheet_write (cons_sound S_iPromptOf (cons_sound S_iRunesOf (cons_sound S_iShown (cons_sound S_iplaced (cons_sound S_i_sheet_reach none_sound))))))))) hmix Try.func7 (eqOf (by kernel_rfl))
noncomputable def M_lFnShow : Mean := evFun Try.prog [(6, false, M_sMakeShow), (7, false, M_iShow), (8, false, M_iGridOk), (9, false, M_iGridRow)] ⟨[(10, [12, 10, 8, 7], [10, 8])], [], [(12, [], [])], []⟩ 3
theorem S_lFnShow : Sound Try.prog 3 M_lFnShow := sound _ (cons_sound S_sMakeShow (cons_sound S_iShow (cons_sound S_iGridOk (cons_sound S_iGridRow none_sound)))) hmix Try.func3 (eqOf (by kernel_rfl))
noncomputable def M_sShow : Mean := evFun Try.prog [(44, false, M_sGridNew), (45, false, M_sEdOk), (46, false, M_sl27Fair), (47, false, M_sRunesOf), (48, false, M_sPromptOf), (49, false, M_sFlow), (50, false, M_sShown), (51, false, M_sl27Next), (52, true, M_sl27Lay)] ⟨[], [], [(22, [], [(8, []), (9, [])])], []⟩ 11
theorem S_sShow : Sound Try.prog 11 M_sShow := sound _ (cons_sound S_sGridNew (cons_sound S_sEdOk (cons_sound S_sl27Fair (cons_sound S_sRunesOf (cons_sound S_sPromptOf (cons_sound S_sFlow (cons_sound S_sShown (cons_sound S_sl27Next (cons_sound S_sl27Lay none_sound))))))))) hmix Try.func11 (eqOf (by kernel_rfl))
noncomputable def M_lFnExactShow : Mean := evFun Try.prog [(10, false, M_lszEd), (12, false, M_ltoEd), (11, false, M_sShow), (7, false, M_iShow), (13, false, M_leqGrid), (14, false, M_leqEd), (15, true, M_lmarkEd), (16, true, M_lmarkGrid), (17, false, M_lheldGrid)] ⟨[], [], [(14, [], [])], []⟩ 4
theorem S_lFnExactShow : Sound Try.prog 4 M_lFnExactShow := sound _ (cons_sound S_lszEd (cons_sound S_ltoEd (cons_sound S_sShow (cons_sound S_iShow (cons_sound S_leqGrid (cons_sound S_leqEd (cons_sound S_lmarkEd (cons_sound S_lmarkGrid (cons_sound S_lheldGrid none_sound))))))))) hmix Try.func4 (eqOf (by kernel_rfl))
end Go.Proofs.Ytacnbajcignacaa
namespace Go.Proofs.Ytacnbajcignacaa
open Go.RowKit
set_option linter.unusedSimpArgs false
set_option linter.unusedVariables false
set_option maxHeartbeats 16000000
set_option maxRecDepth 100000
def shY0 (W : Nat) (n : List Int) : Int := if n.isEmpty then 0 else (flow W n (0, 0)).2 + 1
def shP1 (W : Nat) (n p : List Int) : Int × Int := flow W p (0, shY0 W n)
def shP2 (W : Nat) (n p bf : List Int) : Int × Int := flow W bf (shP1 W n p)
def shCur (W : Nat) (n p bf rs : List Int) : Int × Int := plc W (shP2 W n p bf) (rs.head?.getD 32)
def shTop (W H : Nat) (n p bf rs : List Int) : Nat := ((shCur W n p bf rs).2 - H + 1).toNat
def shC (W : Nat) (n p bf rs : List Int) : Nat → Int := (inks W (bf ++ rs) ((inks W p ((inks W n (fun _ => 32, (0, 0))).1, (0, shY0 W n))).1, shP1 W n p)).1
theorem E_sShow_no (e : TEd) (hsm : e.sm) (note ps : ByteArray) (ln lp : List Int) (rn rp : List UInt8) (hn : Reads note.data.toList ln rn) (hp : Reads ps.data.toList lp rp) (w h : Int) (hno : (gridNewOk w h && (e.ok && (fairB note ln rn && fairB ps lp rp))) = false) :
    M_sShow [V.v (.string note), V.v (.string ps), .agg [V.v (.bool e.Vi), V.v (.int .i64 e.Mode), .lst (some 0) (ints e.Line.Text), V.v (.int .i64 e.Line.At), V.v (.int .i64 e.Count), V.v (.int .i64 e.Op), V.v (.int .i64 e.OpCount), V.v (.int .i64 e.Wait), V.v (.int .i64 e.FindR), V.v (.int .i64 e.FindHow), V.v (.int .i64 e.Last), .lst (some 1) (dPieces e.Ring.Pieces), .lst (some 2) (dLines e.Undo.Lines), V.v (.int .i64 e.Nav), .lst (some 3) (ints e.Own.Text), V.v (.int .i64 e.Own.At), .lst (some 4) (ints e.Query), V.v (.int .i64 e.Hit), .lst (some 5) (ints e.Back.Text), V.v (.int .i64 e.Back.At)], V.v (.int .i64 w), V.v (.int .i64 h)] [] [] = some ⟨.tup [vGrid 0 0 (.own 0) 0 0 false, V.v (.bool false)], [], [(0, [])]⟩ := by
  unfold M_sShow
  have hE := E_sEdOk e.Vi e.Mode e.Line.Text e.Line.At e.Count e.Op e.OpCount e.Wait e.FindR e.FindHow e.Last e.Ring.Pieces e.Undo.Lines e.Nav e.Own.Text e.Own.At e.Query e.Hit e.Back.Text e.Back.At hsm.h1 hsm.h2 hsm.h3 hsm.h4 hsm.h5 hsm.h6
  have h0 : edOk e.Vi e.Mode e.Line.Text e.Line.At e.Count e.Op e.OpCount e.Wait e.FindR e.FindHow e.Last e.Ring.Pieces e.Undo.Lines e.Nav e.Own.Text e.Own.At e.Query e.Hit e.Back.Text e.Back.At = e.ok := rfl
  rw [h0] at hE
  have b1 := E_sl27Fair note ln rn hn
  have b2 := E_sl27Fair ps lp rp hp
  cases hg : gridNewOk w h
  · simp [Try.func11, Try.f11, E_sGridNew_no _ _ hg, vGrid]
  have g1 := E_sGridNew w h hg
  cases hok : e.ok
  · rw [hok] at hE
    simp [Try.func11, Try.f11, g1, hE, vGrid]
  rw [hok] at hE
  cases hf : fairB note ln rn
  · rw [hf] at b1
    simp [Try.func11, Try.f11, g1, hE, b1, vGrid]
  rw [hf] at b1
  cases hf2 : fairB ps lp rp
  · rw [hf2] at b2
    simp [Try.func11, Try.f11, g1, hE, b1, b2, vGrid]
  rw [hg, hok, hf, hf2] at hno
  cases hno
theorem fair_of {s : ByteArray} {l : List Int} {r : List UInt8} (h : fairB s l r = true) : s.size ≤ 65536 ∧ r = [] ∧ l.length ≤ 60 ∧ l.all printable = true := by
  simp only [fairB, Bool.and_eq_true, decide_eq_true_eq] at h
  obtain ⟨⟨⟨a, b⟩, c⟩, d⟩ := h
  exact ⟨a, by simpa using b, c, d⟩
theorem grid_nat {w h : Int} (hg : gridNewOk w h = true) : ∃ W H : Nat, w = W ∧ h = H ∧ (2 ≤ W ∧ W ≤ 200) ∧ (1 ≤ H ∧ H ≤ 200) := by
  obtain ⟨a, b, -, -⟩ := gridNewOk_of hg
  obtain ⟨W, hW⟩ := Int.eq_ofNat_of_zero_le (show 0 ≤ w by omega)
  obtain ⟨H, hH⟩ := Int.eq_ofNat_of_zero_le (show 0 ≤ h by omega)
  exact ⟨W, H, hW, hH, by omega, by omega⟩
theorem lineOk_of {t : List Int} {a : Int} (h : lineOk t a = true) : t.length ≤ 400 ∧ t.all typed = true ∧ ∃ A : Nat, a = A ∧ A ≤ t.length := by
  simp only [lineOk, textOk, Bool.and_eq_true, decide_eq_true_eq] at h
  obtain ⟨⟨h1, h2⟩, h3⟩ := h
  obtain ⟨a1, a2⟩ := inR_of h3
  obtain ⟨A, hA⟩ := Int.eq_ofNat_of_zero_le a1
  exact ⟨h1, h2, A, hA, by omega⟩
structure ShB (W : Nat) (n p bf rs : List Int) : Prop where
  y0 : 0 ≤ shY0 W n ∧ shY0 W n ≤ 61
  x1 : 0 ≤ (shP1 W n p).1 ∧ (shP1 W n p).1 ≤ W
  y1 : 0 ≤ (shP1 W n p).2 ∧ (shP1 W n p).2 ≤ 121
  x2 : 0 ≤ (shP2 W n p bf).1 ∧ (shP2 W n p bf).1 ≤ W
  y2 : 0 ≤ (shP2 W n p bf).2 ∧ (shP2 W n p bf).2 ≤ 921
  x3 : 0 ≤ (shCur W n p bf rs).1 ∧ (shCur W n p bf rs).1 < W
  y3 : (shP2 W n p bf).2 ≤ (shCur W n p bf rs).2 ∧ (shCur W n p bf rs).2 ≤ 922
theorem shB {W : Nat} (hW : 2 ≤ W) {n p bf rs : List Int} (hn : n.length ≤ 60) (hp : p.length ≤ 60) (hb : bf.length ≤ 800) (hr : rs.all printable = true) : ShB W n p bf rs := by
  have hW' : (2 : Int) ≤ W := by omega
  obtain ⟨-, a2, a3⟩ := flow_in hW' n (0, 0) ⟨Int.le_refl _, by omega⟩
  simp only at a2 a3
  have y0 : 0 ≤ shY0 W n ∧ shY0 W n ≤ 61 := by unfold shY0; split <;> omega
  obtain ⟨b1, b2, b3⟩ := flow_in hW' p (0, shY0 W n) ⟨Int.le_refl _, by simp only; omega⟩
  simp only at b2 b3
  obtain ⟨c1, c2, c3⟩ := flow_in hW' bf (shP1 W n p) b1
  have d := plc_in hW' c1 (rs.head?.getD 32)
  have hwd : 0 < wd (rs.head?.getD 32) := by
    have : printable (rs.head?.getD 32) = true := by
      cases rs with
      | nil => decide
      | cons r rs => exact List.all_eq_true.1 hr r (by simp)
    rcases wd_print this with e | e <;> omega
  refine ⟨y0, b1, ⟨?_, ?_⟩, c1, ⟨?_, ?_⟩, ⟨d.1, ?_⟩, ⟨d.2.2.1, ?_⟩⟩
  · show 0 ≤ (flow W p _).2; omega
  · show (flow W p _).2 ≤ 121; omega
  · have : (shP1 W n p).2 = (flow W p (0, shY0 W n)).2 := rfl
    show 0 ≤ (flow W bf _).2; omega
  · have : (shP1 W n p).2 = (flow W p (0, shY0 W n)).2 := rfl
    show (flow W bf _).2 ≤ 921; omega
  · show (plc W (flow W bf (shP1 W n p)) _).1 < W; omega
  · have : (shP1 W n p).2 = (flow W p (0, shY0 W n)).2 := rfl
    show (plc W (flow W bf (shP1 W n p)) _).2 ≤ 922; omega
theorem blanks_win (W H T : Nat) : blanks ((W : Int) * (H : Int)).toNat = win (fun _ => 32) W T H := by
  rw [← Int.natCast_mul, Int.toNat_natCast, Nat.mul_comm]
  unfold win blanks
  apply List.ext_getElem (by simp)
  intro i h1 h2; simp
theorem i32_in (n : Int) (h : 0 ≤ n ∧ n ≤ 2147483647) : IntKind.i32.wrap n = n := by
  simp [IntKind.wrap, IntKind.bits, IntKind.signed]; omega
theorem E_sShow (e : TEd) (hsm : e.sm) (note ps : ByteArray) (ln lp : List Int) (hn : Reads note.data.toList ln []) (hp : Reads ps.data.toList lp []) (W H : Nat) (hg : gridNewOk W H = true) (hok : e.ok = true) (f1 : fairB note ln [] = true) (f2 : fairB ps lp [] = true) (A : Nat) (hA : e.Line.At = A) :
    M_sShow [V.v (.string note), V.v (.string ps), .agg [V.v (.bool e.Vi), V.v (.int .i64 e.Mode), .lst (some 0) (ints e.Line.Text), V.v (.int .i64 e.Line.At), V.v (.int .i64 e.Count), V.v (.int .i64 e.Op), V.v (.int .i64 e.OpCount), V.v (.int .i64 e.Wait), V.v (.int .i64 e.FindR), V.v (.int .i64 e.FindHow), V.v (.int .i64 e.Last), .lst (some 1) (dPieces e.Ring.Pieces), .lst (some 2) (dLines e.Undo.Lines), V.v (.int .i64 e.Nav), .lst (some 3) (ints e.Own.Text), V.v (.int .i64 e.Own.At), .lst (some 4) (ints e.Query), V.v (.int .i64 e.Hit), .lst (some 5) (ints e.Back.Text), V.v (.int .i64 e.Back.At)], V.v (.int .i64 ((W : Int))), V.v (.int .i64 ((H : Int)))] [] [] = some ⟨.tup [vGrid W H (.own 0) (shCur W ln (promptRunes e.Mode e.Query lp) (shown (e.Line.Text.take A)) (shown (e.Line.Text.drop A))).1 ((shCur W ln (promptRunes e.Mode e.Query lp) (shown (e.Line.Text.take A)) (shown (e.Line.Text.drop A))).2 - shTop W H ln (promptRunes e.Mode e.Query lp) (shown (e.Line.Text.take A)) (shown (e.Line.Text.drop A))) false, V.v (.bool true)], [], [(0, ints (win (shC W ln (promptRunes e.Mode e.Query lp) (shown (e.Line.Text.take A)) (shown (e.Line.Text.drop A))) W (shTop W H ln (promptRunes e.Mode e.Query lp) (shown (e.Line.Text.take A)) (shown (e.Line.Text.drop A))) H))]⟩ := by
  unfold M_sShow
  have hE := E_sEdOk e.Vi e.Mode e.Line.Text e.Line.At e.Count e.Op e.OpCount e.Wait e.FindR e.FindHow e.Last e.Ring.Pieces e.Undo.Lines e.Nav e.Own.Text e.Own.At e.Query e.Hit e.Back.Text e.Back.At hsm.h1 hsm.h2 hsm.h3 hsm.h4 hsm.h5 hsm.h6
  have h0 : edOk e.Vi e.Mode e.Line.Text e.Line.At e.Count e.Op e.OpCount e.Wait e.FindR e.FindHow e.Last e.Ring.Pieces e.Undo.Lines e.Nav e.Own.Text e.Own.At e.Query e.Hit e.Back.Text e.Back.At = true := hok
  rw [h0] at hE
  have b1 := E_sl27Fair note ln [] hn
  have b2 := E_sl27Fair ps lp [] hp
  rw [f1] at b1
  rw [f2] at b2
  have g1 := E_sGridNew W H hg
  obtain ⟨⟨w1, w2⟩, ⟨h1, h2⟩, -, -⟩ := gridNewOk_of hg
  obtain ⟨n1, -, n3, n4⟩ := fair_of f1
  obtain ⟨p1, -, p3, p4⟩ := fair_of f2
  obtain ⟨ok1, ok2, ok3⟩ := TEd.ok_of hok
  obtain ⟨t1, t2, A', hA', t3⟩ := lineOk_of ok1
  obtain rfl : A' = A := by rw [hA] at hA'; omega
  have R1 := E_sRunesOf note ln [] hn n1
  have R2 := E_sRunesOf _ _ [] (reads_prompt ok3 hp) (prompt_size ok2 p1)
  have P1 := E_sPromptOf e ps (by omega)
  rw [hA] at hE P1
  have q1 := prompt_len (e := e) (l := lp) ok2 p3
  have q2 := prompt_print (e := e) ok3 p4
  have c1 := shown_len (e.Line.Text.take A')
  have c2 := shown_len (e.Line.Text.drop A')
  have c3 := shown_len e.Line.Text
  have c4 : shown e.Line.Text = shown (e.Line.Text.take A') ++ shown (e.Line.Text.drop A') := by rw [← shown_append, List.take_append_drop]
  have d1 : (e.Line.Text.take A').length ≤ 400 := by simp; omega
  have d2 : (e.Line.Text.drop A').length ≤ 400 := by simp; omega
  have S1 := E_sShown (e.Line.Text.take A') (by omega)
  have S2 := E_sShown (e.Line.Text.drop A') (by omega)
  have S3 := E_sShown e.Line.Text (by omega)
  have s1 := shown_print (e.Line.Text.take A')
  have s2 := shown_print (e.Line.Text.drop A')
  have s3 := shown_print e.Line.Text
  generalize hP : promptRunes e.Mode e.Query lp = pr at *
  generalize hB : shown (e.Line.Text.take A') = bf at *
  generalize hR : shown (e.Line.Text.drop A') = rs at *
  have hb := shB (W := W) (by omega) (n := ln) (p := pr) (bf := bf) (rs := rs) n3 q1 (by omega) s2
  rw [c4] at S3 s3
  have wW : (2 : Int) ≤ W ∧ (W : Int) ≤ 1000000 := by omega
  have z0 : (0 : Int) ≤ 0 ∧ (0 : Int) ≤ W := by omega
  have F1 : M_sFlow [.lst (some 0) (ints ln), V.v (.int .i64 ((W : Int))), V.v (.int .i64 0), V.v (.int .i64 0)] [] [] = some ⟨.tup [V.v (.int .i64 ((flow W ln (0, 0)).1)), V.v (.int .i64 ((flow W ln (0, 0)).2))], [], []⟩ := E_sFlow ln W 0 0 wW z0 (by omega) (by omega)
  have F2 : M_sFlow [.lst (some 0) (ints pr), V.v (.int .i64 ((W : Int))), V.v (.int .i64 0), V.v (.int .i64 (shY0 W ln))] [] [] = some ⟨.tup [V.v (.int .i64 ((shP1 W ln pr).1)), V.v (.int .i64 ((shP1 W ln pr).2))], [], []⟩ := E_sFlow pr W 0 (shY0 W ln) wW z0 (by have := hb.y0; omega) (by omega)
  have F3 : M_sFlow [.lst (some 0) (ints bf), V.v (.int .i64 ((W : Int))), V.v (.int .i64 ((shP1 W ln pr).1)), V.v (.int .i64 ((shP1 W ln pr).2))] [] [] = some ⟨.tup [V.v (.int .i64 ((shP2 W ln pr bf).1)), V.v (.int .i64 ((shP2 W ln pr bf).2))], [], []⟩ := E_sFlow bf W _ _ wW hb.x1 (by have := hb.y1; omega) (by omega)
  have NX : M_sl27Next [V.v (.int .i64 (rs.head?.getD 32)), V.v (.int .i64 ((W : Int))), V.v (.int .i64 ((shP2 W ln pr bf).1)), V.v (.int .i64 ((shP2 W ln pr bf).2))] [] [] = some ⟨.tup [V.v (.int .i64 ((shCur W ln pr bf rs).1)), V.v (.int .i64 ((shCur W ln pr bf rs).2))], [], []⟩ := E_sl27Next (rs.head?.getD 32) W _ _ (by have := hb.x2; omega) (by have := hb.y2; omega)
  obtain ⟨T, hT⟩ : ∃ T, T = shTop W H ln pr bf rs := ⟨_, rfl⟩
  have hT2 : T ≤ 922 := by rw [hT]; unfold shTop; have := hb.y3; omega
  have L1 := E_sl27Lay_own ln W H T (by omega) (by omega) (by omega) (fun _ => 32) 0 0 0 0 false z0 (by omega) n4 (by omega)
  have L2 := E_sl27Lay_own pr W H T (by omega) (by omega) (by omega) (inks W ln (fun _ => 32, (0, 0))).1 0 0 0 (shY0 W ln) false z0 (by have := hb.y0; omega) q2 (by omega)
  have L3 : M_sl27Lay [.agg [V.v (.int .i64 ((W : Int))), V.v (.int .i64 ((H : Int))), .own 0, V.v (.int .i64 0), V.v (.int .i64 0), V.v (.bool false)], .own 1, V.v (.int .i64 ((shP1 W ln pr).1)), V.v (.int .i64 ((shP1 W ln pr).2)), V.v (.int .i64 ((T : Int)))] [] [ints (win (inks W pr ((inks W ln (fun _ => 32, (0, 0))).1, (0, shY0 W ln))).1 W T H), ints (bf ++ rs)] =
      some ⟨.agg [V.v (.int .i64 ((W : Int))), V.v (.int .i64 ((H : Int))), .own 0, V.v (.int .i64 0), V.v (.int .i64 0), V.v (.bool false)], [], [(0, ints (win (shC W ln pr bf rs) W T H)), (1, ints (bf ++ rs))]⟩ :=
    E_sl27Lay_own (bf ++ rs) W H T (by omega) (by omega) (by omega) _ 0 0 _ _ false hb.x1 (by have := hb.y1; omega) s3 (by rw [List.length_append]; omega)
  rw [← hT]
  rw [blanks_win W H T] at g1
  have hT3 : T = ((shCur W ln pr bf rs).2 - H + 1).toNat := hT
  have y0e : shY0 W ln = if ln.isEmpty then 0 else (flow W ln (0, 0)).2 + 1 := rfl
  obtain ⟨B1, B2, B3, B4, B5, B6, B7⟩ := hb
  clear hT
  generalize shC W ln pr bf rs = C3 at *
  generalize (inks W pr ((inks W ln (fun _ => 32, (0, 0))).1, (0, shY0 W ln))).1 = C2 at *
  generalize (inks W ln (fun _ => 32, (0, 0))).1 = C1 at *
  generalize shCur W ln pr bf rs = cur at *
  generalize shP2 W ln pr bf = P2 at *
  generalize shP1 W ln pr = P1' at *
  generalize shY0 W ln = y0 at *
  generalize flow W ln (0, 0) = fl at *
  have k1 := w64 (cur.2 - H) (by omega)
  have k2 := w64 (cur.2 - H + 1) (by omega)
  have k3 := w64 (cur.2 - T) (by omega)
  have k4 : (0 : Int) ≤ (A' : Int) := by omega
  have k9 := w64 cur.2 (by omega)
  have k5 : (A' : Int) ≤ (e.Line.Text.length : Int) := by omega
  have k6 : List.take (e.Line.Text.length - A') (List.drop A' e.Line.Text) = List.drop A' e.Line.Text := List.take_of_length_le (by simp)
  have key : ∀ nx : Int, rs.head?.getD 32 = nx → 0 ≤ nx ∧ nx ≤ 2147483647 → True := fun _ _ _ => trivial
  have hnx : 0 ≤ rs.head?.getD 32 ∧ rs.head?.getD 32 ≤ 1114111 := by
    cases rs with
    | nil => simp
    | cons r rs => exact runeOk_range (print_ok (List.all_eq_true.1 s2 r (by simp)))
  have w32 := w64 32 (by omega)
  by_cases ht : cur.2 - H + 1 < 0
  · have hT0 : T = 0 := by omega
    subst hT0
    simp only [Int.natCast_zero, Int.ofNat_zero, Int.cast_ofNat_Int] at L1 L2 L3 k3
    cases rs with
    | nil =>
      simp only [List.head?_nil, Option.getD_none] at NX
      simp only [List.append_nil] at L3 S3
      by_cases hln : ln = []
      · subst hln
        simp at y0e
        subst y0e
        simp [Try.func11, Try.f11, g1, hE, b1, b2, R1, R2, P1, F1, F2, F3, L1, L2, L3, S1, S2, S3, vGrid, hA, k1, k2, k3, k4, k5, k6, k9, NX, w32, ht]
      · have hl0 : 0 < ln.length := List.length_pos_iff.2 hln
        have hem : ln.isEmpty = false := by simpa using hln
        rw [hem] at y0e
        simp only [if_false, Bool.false_eq_true] at y0e
        have wf := w64 (fl.2 + 1) (by omega)
        rw [← y0e] at wf
        simp [Try.func11, Try.f11, g1, hE, b1, b2, R1, R2, P1, F1, F2, F3, L1, L2, L3, S1, S2, S3, vGrid, hA, k1, k2, k3, k4, k5, k6, k9, NX, w32, ht, hln, hl0, ← y0e, wf]
    | cons r rs =>
      simp only [List.head?_cons, Option.getD_some] at NX hnx
      simp only [ints_app] at L3 S3
      have c32 := i32_in r (by omega)
      have c64 := w64 r (by omega)
      by_cases hln : ln = []
      · subst hln
        simp at y0e
        subst y0e
        simp [Try.func11, Try.f11, g1, hE, b1, b2, R1, R2, P1, F1, F2, F3, L1, L2, L3, S1, S2, S3, vGrid, hA, k1, k2, k3, k4, k5, k6, k9, NX, w32, c32, c64, ht]
      · have hl0 : 0 < ln.length := List.length_pos_iff.2 hln
        have hem : ln.isEmpty = false := by simpa using hln
        rw [hem] at y0e
        simp only [if_false, Bool.false_eq_true] at y0e
        have wf := w64 (fl.2 + 1) (by omega)
        rw [← y0e] at wf
        simp [Try.func11, Try.f11, g1, hE, b1, b2, R1, R2, P1, F1, F2, F3, L1, L2, L3, S1, S2, S3, vGrid, hA, k1, k2, k3, k4, k5, k6, k9, NX, w32, c32, c64, ht, hln, hl0, ← y0e, wf]
  · have kT : cur.2 - H + 1 = (T : Int) := by omega
    rw [kT] at k2 ht
    cases rs with
    | nil =>
      simp only [List.head?_nil, Option.getD_none] at NX
      simp only [List.append_nil] at L3 S3
      by_cases hln : ln = []
      · subst hln
        simp at y0e
        subst y0e
        simp [Try.func11, Try.f11, g1, hE, b1, b2, R1, R2, P1, F1, F2, F3, L1, L2, L3, S1, S2, S3, vGrid, hA, k1, k2, k3, k4, k5, k6, k9, NX, w32, kT, ht]
      · have hl0 : 0 < ln.length := List.length_pos_iff.2 hln
        have hem : ln.isEmpty = false := by simpa using hln
        rw [hem] at y0e
        simp only [if_false, Bool.false_eq_true] at y0e
        have wf := w64 (fl.2 + 1) (by omega)
        rw [← y0e] at wf
        simp [Try.func11, Try.f11, g1, hE, b1, b2, R1, R2, P1, F1, F2, F3, L1, L2, L3, S1, S2, S3, vGrid, hA, k1, k2, k3, k4, k5, k6, k9, NX, w32, kT, ht, hln, hl0, ← y0e, wf]
    | cons r rs =>
      simp only [List.head?_cons, Option.getD_some] at NX hnx
      simp only [ints_app] at L3 S3
      have c32 := i32_in r (by omega)
      have c64 := w64 r (by omega)
      by_cases hln : ln = []
      · subst hln
        simp at y0e
        subst y0e
        simp [Try.func11, Try.f11, g1, hE, b1, b2, R1, R2, P1, F1, F2, F3, L1, L2, L3, S1, S2, S3, vGrid, hA, k1, k2, k3, k4, k5, k6, k9, NX, w32, c32, c64, kT, ht]
      · have hl0 : 0 < ln.length := List.length_pos_iff.2 hln
        have hem : ln.isEmpty = false := by simpa using hln
        rw [hem] at y0e
        simp only [if_false, Bool.false_eq_true] at y0e
        have wf := w64 (fl.2 + 1) (by omega)
        rw [← y0e] at wf
        simp [Try.func11, Try.f11, g1, hE, b1, b2, R1, R2, P1, F1, F2, F3, L1, L2, L3, S1, S2, S3, vGrid, hA, k1, k2, k3, k4, k5, k6, k9, NX, w32, c32, c64, kT, ht, hln, hl0, ← y0e, wf]
end Go.Proofs.Ytacnbajcignacaa
