/- The statement of this claim is proved in the last of these texts: by an abstract evaluator that is sound, and by what the functions compute. -/
import Derived.Test.YtjhdikdopdcfcaaGreatDoorPkFnSearch11
import Derived.Test.YtjhdikdopdcfcaaGreatDoorCards
import Derived.Test.YtjhdikdopdcfcaaGreatDoorTie
import Derived.ProofKit
import Derived.OpenShut
import Derived.Deep.DeepHandedRow
import Derived.Stop.LaidErr
import Derived.Shelf.Vars
namespace Go.Proofs.YtjhdikdopdcfcaaGreatDoor
open Go.RowKit
set_option linter.unusedSimpArgs false
set_option linter.unusedVariables false
set_option linter.unusedSectionVars false
set_option maxHeartbeats 8000000
set_option maxRecDepth 10000
@[simp, go_sem] theorem valOp_build (P : Program) (s : S) (n : TypeId) (ps : Array (Nat × Operand)) : valOp P s (.build n ps) = bnd (P.underlying n) fun d => bnd (structD d) fun fs => grd (fieldsOk P n = true) (bnd (zeroV P n) fun z => bnd (mapSome (evPair s) ps.toList) fun vs => bnd (fillRow P fs z vs) fun cs => some (.agg cs)) := id rfl
@[simp, go_sem] theorem valOp_pick (P : Program) (s : S) (c x y : Operand) : valOp P s (.pick c x y) = bnd (s.ev c) fun c => bnd (boolOf c) fun b => s.ev (if b then x else y) := id rfl
def hasT (l : List ByteArray) (sub : List UInt8) (i : Nat) : Bool := Lib.contains (l.getD i ⟨#[]⟩).data.toList sub
theorem getD_bts {l : List ByteArray} {i : Nat} (h : i < l.length) : l.getD i ⟨#[]⟩ = l[i] := by rw [List.getD_eq_getElem?_getD, List.getElem?_eq_getElem h]; rfl
theorem findBack_skip {f : Int} {sub : List UInt8} {fr : Int} {l : List ByteArray} (n0 : Nat) : ∀ n, n0 ≤ n → (∀ i, n0 ≤ i → i < n → fr < f + i) → findBack f sub fr l n = findBack f sub fr l n0
  | n, h, hs => by
    induction n with
    | zero => rw [show n0 = 0 by omega]
    | succ n ih =>
      by_cases e : n0 = n + 1
      · rw [e]
      · have e2 : findBack f sub fr l (n + 1) = findBack f sub fr l n := by
          show (if f + n ≤ fr ∧ (l[n]?.map fun s => Lib.contains s.data.toList sub) = some true then f + n else findBack f sub fr l n) = _
          exact if_neg (by have := hs n (by omega) (by omega); omega)
        rw [e2]
        exact ih (by omega) (fun i h1 h2 => hs i h1 (by omega))
theorem findBack_spec {f : Int} {sub : List UInt8} {fr : Int} {l : List ByteArray} : ∀ n : Nat, (∀ i : Nat, i < n → f + i ≤ fr) → n ≤ l.length →
    (findBack f sub fr l n = 0 ∧ ∀ i, i < n → hasT l sub i = false) ∨ (∃ i : Nat, i < n ∧ hasT l sub i = true ∧ (∀ j, i < j → j < n → hasT l sub j = false) ∧ findBack f sub fr l n = f + i)
  | 0, _, _ => .inl ⟨rfl, fun i h => absurd h (Nat.not_lt_zero _)⟩
  | n + 1, h1, h2 => by
    have hn : n < l.length := by omega
    have hh : hasT l sub n = Lib.contains l[n].data.toList sub := by unfold hasT; rw [getD_bts hn]
    unfold findBack
    rw [List.getElem?_eq_getElem hn]
    cases hc : hasT l sub n
    · rw [if_neg (by rw [hh] at hc; simp [hc])]
      rcases findBack_spec (f := f) (sub := sub) (fr := fr) (l := l) n (fun i hi => h1 i (by omega)) (by omega) with ⟨q1, q2⟩ | ⟨i, q1, q2, q3, q4⟩
      · refine .inl ⟨q1, fun i hi => ?_⟩
        by_cases e : i = n
        · rw [e]; exact hc
        · exact q2 i (by omega)
      · refine .inr ⟨i, by omega, q2, fun j hj hj2 => ?_, q4⟩
        by_cases e : j = n
        · rw [e]; exact hc
        · exact q3 j hj (by omega)
    · rw [hh] at hc
      rw [if_pos ⟨h1 n (by omega), by simp [hc]⟩]
      exact .inr ⟨n, by omega, by rw [hh]; exact hc, fun j hj hj2 => by omega, rfl⟩
theorem E_contains (s t : ByteArray) (hs : s.size < 4294967281) : M_strings_Contains [V.v (.string s), V.v (.string t)] [] [] = some ⟨V.v (.bool (Lib.contains s.data.toList t.data.toList)), [], []⟩ := by
  unfold M_strings_Contains
  simp only
  rw [if_pos hs]
theorem E_index (s t : ByteArray) (hs : s.size < 4294967281) : M_strings_Index [V.v (.string s), V.v (.string t)] [] [] = some ⟨V.v (.int .i64 (Lib.index s.data.toList t.data.toList)), [], []⟩ := by
  unfold M_strings_Index
  simp only
  rw [if_pos hs]
theorem E_iHistFind (f : Int) (l : List ByteArray) (hh : HistI f l) (s : ByteArray) (fr : Int) (hfr : -2 ≤ fr ∧ fr ≤ 2000000000) : M_iHistFind [.agg [V.v (.int .i64 f), .lst (some 0) (strs l)], V.v (.string s), V.v (.int .i64 fr), V.v (.int .i64 ((-1))), V.v (.bool false)] [] [] = some ⟨V.v (.int .i64 (findBack f s.data.toList fr l l.length)), [], []⟩ := by
  have h1 := hh.first
  have h2 := hh.len
  have e1 := E_iHistOk f l hh
  have w1 := w64 (f + l.length) (by omega)
  have w2 := w64 (f + l.length - 1) (by omega)
  obtain ⟨n0, hn0, hle, hup, hdn⟩ : ∃ n0 : Nat, n0 ≤ l.length ∧ (∀ i : Nat, i < n0 → f + i ≤ fr) ∧ (∀ i : Nat, n0 ≤ i → i < l.length → fr < f + i) ∧ ((n0 = 0 ∧ min fr (f + l.length - 1) < f) ∨ (0 < n0 ∧ min fr (f + l.length - 1) = f + n0 - 1)) := by
    by_cases c : fr < f
    · exact ⟨0, by omega, fun i hi => by omega, fun i _ _ => by omega, .inl ⟨rfl, by omega⟩⟩
    · refine ⟨min (fr - f + 1).toNat l.length, by omega, fun i hi => by omega, fun i _ _ => by omega, ?_⟩
      by_cases c2 : l.length = 0
      · exact .inl ⟨by omega, by omega⟩
      · exact .inr ⟨by omega, by omega⟩
  rw [findBack_skip n0 l.length hn0 hup]
  have ge : ∀ i (hi : i < l.length), M_strings_Contains [V.v (.string (l[i])), V.v (.string s)] [] [] = some ⟨V.v (.bool (hasT l s.data.toList i)), [], []⟩ := fun i hi => by
    have := hh.each _ (List.getElem_mem hi)
    rw [E_contains _ _ (by omega)]
    unfold hasT
    rw [getD_bts hi]
  generalize hE : M_iHistFind _ _ _ = R
  unfold M_iHistFind at hE
  simp [Tryz.func10, Tryz.f10, e1, w1, w2] at hE
  generalize hm : min fr (f + ↑l.length - 1) = m0 at *
  have inl : ∀ x : Int, M_iin [V.v (.int .i64 x), V.v (.int .i64 f), V.v (.int .i64 (f + ↑l.length - 1))] [] [] = some ⟨V.v (.bool (inR x f (f + ↑l.length - 1))), [], []⟩ := fun x => E_iin _ _ _
  generalize hla : f + ↑l.length - 1 = la at *
  rcases findBack_spec (f := f) (sub := s.data.toList) (fr := fr) (l := l) n0 hle hn0 with ⟨q1, q2⟩ | ⟨i, q1, q2, q3, q4⟩
  · rw [q1]
    rw [loopV_go (fun j => .on ⟨[(12, V.v (.int .i64 (m0 - j))), (11, V.v (.int .i64 la)), (5, .ref 5 0), (4, V.v (.bool false)), (3, V.v (.int .i64 ((-1)))), (1, V.v (.string s))], [(5, [V.v (.int .i64 f), .lst (some 0) (strs l)])], [], []⟩) n0 ?_ ?_] at hE
    · have hno : inR (m0 - n0) f la = false := by
        cases hq : inR (m0 - n0) f la
        · rfl
        · have := inR_iff.1 hq; omega
      simp [inl, hno] at hE
      exact hE.symm
    · simp
    · intro j hj
      have hi : n0 - 1 - j < l.length := by omega
      have g1 := ge (n0 - 1 - j) hi
      rw [q2 _ (by omega)] at g1
      have hin : inR (m0 - j) f la = true := inR_iff.2 (by omega)
      have hx : m0 - j - f = ((n0 - 1 - j : Nat) : Int) := by omega
      have w3 := w64 ((n0 - 1 - j : Nat) : Int) (by omega)
      have w4 := w64 (m0 - j + -1) (by omega)
      have hs : m0 - ((j + 1 : Nat) : Int) = m0 - j + -1 := by omega
      simp only [hs]
      generalize m0 - (j : Int) = x at *
      have hix : ((n0 - 1 - j : Nat) : Int) < l.length := by omega
      generalize n0 - 1 - j = i at *
      simp [inl, hin, hx, w3, w4, hi, hix, strs_get hi, g1]
  · rw [q4]
    rw [loopV_go (fun j => .on ⟨[(12, V.v (.int .i64 (m0 - j))), (11, V.v (.int .i64 la)), (5, .ref 5 0), (4, V.v (.bool false)), (3, V.v (.int .i64 ((-1)))), (1, V.v (.string s))], [(5, [V.v (.int .i64 f), .lst (some 0) (strs l)])], [], []⟩) (n0 - 1 - i) ?_ ?_] at hE
    · have hi : i < l.length := by omega
      have g1 := ge i hi
      rw [q2] at g1
      have hx0 : m0 - ((n0 - 1 - i : Nat) : Int) = f + i := by omega
      rw [hx0] at hE
      have hin : inR (f + i) f la = true := inR_iff.2 (by omega)
      have hx : f + (i : Int) - f = i := by omega
      have w3 := w64 (i : Int) (by omega)
      have hix : (i : Int) < l.length := by omega
      generalize hy : f + (i : Int) = y at *
      simp [inl, hin, hx, w3, hi, hix, strs_get hi, g1] at hE
      exact hE.symm
    · simp
    · intro j hj
      have hi : n0 - 1 - j < l.length := by omega
      have g1 := ge (n0 - 1 - j) hi
      rw [q3 _ (by omega) (by omega)] at g1
      have hin : inR (m0 - j) f la = true := inR_iff.2 (by omega)
      have hx : m0 - j - f = ((n0 - 1 - j : Nat) : Int) := by omega
      have w3 := w64 ((n0 - 1 - j : Nat) : Int) (by omega)
      have w4 := w64 (m0 - j + -1) (by omega)
      have hs : m0 - ((j + 1 : Nat) : Int) = m0 - j + -1 := by omega
      simp only [hs]
      generalize m0 - (j : Int) = x at *
      have hix : ((n0 - 1 - j : Nat) : Int) < l.length := by omega
      generalize n0 - 1 - j = i' at *
      simp [inl, hin, hx, w3, w4, hi, hix, strs_get hi, g1]
theorem E_iRunesOf_all (s : ByteArray) (hs : s.size ≤ 65536) : ∃ b, M_iRunesOf [V.v (.string s)] [] [] = some ⟨.tup [.own 0, V.v (.bool b)], [], [(0, ints (runesOf s))]⟩ := by
  have hr := runes_reads s.data.toList
  have e1 := E_iRunesOf s _ _ hr hs
  refine ⟨(runesR s.data.toList).isEmpty, e1.trans ?_⟩
  unfold runesOf
  by_cases hz : runesR s.data.toList = []
  · have hz' : (runesR s.data.toList).isEmpty = true := by rw [hz]; rfl
    rw [if_pos hz, if_pos hz']
  · have hz' : ¬ (runesR s.data.toList).isEmpty = true := by simpa using hz
    rw [if_neg hz, if_neg hz']
    rfl
section
variable (e : TEd) (h : EOk e) {f : Int} {l : List ByteArray} (hh : HistI f l)
include h hh
theorem K_iShowHit (n : Int) (q : List Int) (hm : e.Mode = 3) (hq : q.all printable = true) (hq2 : q.length ≤ 41) (hn : n = 0 ∨ (f ≤ n ∧ n ≤ f + l.length - 1)) : M_iShowHit [.agg [V.v (.bool e.Vi), V.v (.int .i64 e.Mode), .lst (some 0) (ints e.Line.Text), V.v (.int .i64 e.Line.At), V.v (.int .i64 e.Count), V.v (.int .i64 e.Op), V.v (.int .i64 e.OpCount), V.v (.int .i64 e.Wait), V.v (.int .i64 e.FindR), V.v (.int .i64 e.FindHow), V.v (.int .i64 e.Last), .lst (some 1) (dPieces e.Ring.Pieces), .lst (some 2) (dLines e.Undo.Lines), V.v (.int .i64 e.Nav), .lst (some 3) (ints e.Own.Text), V.v (.int .i64 e.Own.At), .lst (some 4) (ints e.Query), V.v (.int .i64 e.Hit), .lst (some 5) (ints e.Back.Text), V.v (.int .i64 e.Back.At)], .agg [V.v (.int .i64 f), .lst (some 6) (strs l)], V.v (.int .i64 n), .lst (some 7) (ints q)] [] [] = some (sR (showHit e f l n q)) := by
  have h1 := hh.first
  have h2 := hh.len
  have e1 := E_iEdOk' e (eok_iff.2 h)
  have e2 := K_icopyEd e h
  unfold showHit
  by_cases hql : q.length ≤ 40
  · rw [if_pos hql]
    have hql' : ¬ (40 : Int) < q.length := by omega
    have e3 := E_iHistGet_all f l hh n
    have e4 := E_iTextOf q (by omega)
    have e5 := E_icopyLine e.Back.Text (some 0) e.Back.At (by have := (line_len h.back).1; omega)
    have e6 := E_icopyInts q (some 0) (by omega)
    generalize hE : M_iShowHit _ _ _ = R
    unfold M_iShowHit at hE
    simp only [hm] at e1 e2 hE
    simp [Tryz.func119, Tryz.f119, e1, hql, hql'] at hE
    rw [loopV_go (fun j => .on ⟨[(36, V.v (.int .i64 ((j : Int)))), (35, V.v (.int .i64 ((q.length : Int)))), (34, .lst (some 7) (ints q)), (8, .ref 8 0), (5, .ref 5 0), (4, .ref 4 0), (3, .lst (some 7) (ints q)), (2, V.v (.int .i64 n))], [(8, [V.v (.bool false), V.v (.int .i64 0), .own 2000000000, V.v (.int .i64 0), V.v (.int .i64 0), V.v (.int .i64 0), V.v (.int .i64 0), V.v (.int .i64 0), V.v (.int .i64 0), V.v (.int .i64 0), V.v (.int .i64 0), .own 2000000001, .own 2000000002, V.v (.int .i64 0), .own 2000000003, V.v (.int .i64 0), .own 2000000004, V.v (.int .i64 0), .own 2000000005, V.v (.int .i64 0)]), (5, [V.v (.int .i64 f), .lst (some 6) (strs l)]), (4, [V.v (.bool e.Vi), V.v (.int .i64 3), .lst (some 0) (ints e.Line.Text), V.v (.int .i64 e.Line.At), V.v (.int .i64 e.Count), V.v (.int .i64 e.Op), V.v (.int .i64 e.OpCount), V.v (.int .i64 e.Wait), V.v (.int .i64 e.FindR), V.v (.int .i64 e.FindHow), V.v (.int .i64 e.Last), .lst (some 1) (dPieces e.Ring.Pieces), .lst (some 2) (dLines e.Undo.Lines), V.v (.int .i64 e.Nav), .lst (some 3) (ints e.Own.Text), V.v (.int .i64 e.Own.At), .lst (some 4) (ints e.Query), V.v (.int .i64 e.Hit), .lst (some 5) (ints e.Back.Text), V.v (.int .i64 e.Back.At)])], [(2000000005, []), (2000000004, []), (2000000003, []), (2000000002, []), (2000000001, []), (2000000000, [])], []⟩) q.length ?_ ?_] at hE
    · have hzl := E_iLineOf_all ⟨#[]⟩ (by decide)
      have hz : lineOf ⟨#[]⟩ = some [] := by
        unfold lineOf
        obtain ⟨q1, q2⟩ := runes_of_reads reads_nil
        rw [q1, q2, if_pos ⟨rfl, by decide⟩]
      rw [hz] at hzl
      simp only [ints_nil, List.length_nil, Int.natCast_zero] at hzl
      have hdl : (⟨(textOf q).toArray⟩ : ByteArray).data.toList = textOf q := rfl
      cases hg : histAt f l n with
      | none =>
        rw [hg] at e3
        have e7 := E_index ⟨#[]⟩ ⟨(textOf q).toArray⟩ (by decide)
        simp [e3, hzl, e4, e7] at hE
        exact hE.symm
      | some s =>
        rw [hg] at e3
        have hss := histAt_in hh hg
        have e7 := E_index s ⟨(textOf q).toArray⟩ (by omega)
        rw [hdl] at e7
        have e8 := E_iLineOf_all s (by omega)
        simp only
        cases hl : lineOf s with
        | none =>
          rw [hl] at e8
          simp [e3, e8, e4, e7] at hE
          exact hE.symm
        | some t =>
          rw [hl] at e8
          simp only
          obtain ⟨to1, to2⟩ := lineOf_ok hl
          have htl : t.length ≤ 400 := by simp only [textOk, Bool.and_eq_true, decide_eq_true_eq] at to1; exact to1.1
          have hge := Lib.index_ge s.data.toList (textOf q)
          by_cases hi : 0 ≤ Lib.index s.data.toList (textOf q)
          · rw [if_pos hi]
            have hroom := Lib.index_room s.data.toList (textOf q) hi
            have hsz : (s.data.toList.length : Int) = s.size := by rw [Array.length_toList]; rfl
            obtain ⟨I, hI⟩ := Int.eq_ofNat_of_zero_le hi
            have hI2 : I ≤ s.size := by omega
            rw [hI] at e7 ⊢
            rw [Int.toNat_natCast]
            obtain ⟨b9, e9⟩ := E_iRunesOf_all (s.extract 0 I) (by simp [ByteArray.size_extract]; omega)
            have hext : (s.extract 0 I).data.toList = s.data.toList.take I := by simp [ByteArray.data_extract]
            have hle := runesOf_le to2 I (s.extract 0 I) hext
            have hI3 : (I : Int) ≤ s.size := by omega
            have hI0 : ¬ (I : Int) < 0 := by omega
            generalize runesOf (s.extract 0 I) = front at *
            by_cases hn0 : e.Nav = 0
            · simp only [hn0] at e2 hE ⊢
              simp [e2, e3, e4, e5, e6, e7, e8, e9, hI2, hI3, hI0] at hE
              exact hE.symm.trans (by rw [← hm, if_pos trivial]; rfl)
            · simp [e2, e3, e4, e5, e6, e7, e8, e9, hI2, hI3, hI0, hn0] at hE
              exact hE.symm.trans (by rw [if_neg hn0, ← hm]; rfl)
          · rw [if_neg hi]
            have hi' : Lib.index s.data.toList (textOf q) < 0 := by omega
            simp [e3, e8, e4, e7, hi'] at hE
            exact hE.symm
    · simp
    · intro j hj
      have hw := w64 ((j : Int) + 1) (by omega)
      have hp := List.all_eq_true.1 hq q[j] (List.getElem_mem hj)
      simp [hj, hw, ints_get hj, E_iPrintable, hp]
  · rw [if_neg hql]
    have hql' : (40 : Int) < q.length := by omega
    generalize hE : M_iShowHit _ _ _ = R
    unfold M_iShowHit at hE
    simp only [hm] at e1 e2 hE
    simp [Tryz.func119, Tryz.f119, e1, hql'] at hE
    exact hE.symm
theorem K_ihunt (q : List Int) (fr : Int) (hm : e.Mode = 3) (hq : q.all printable = true) (hq2 : q.length ≤ 41) (hfr : -2 ≤ fr ∧ fr ≤ 2000000000) : M_ihunt [.agg [V.v (.bool e.Vi), V.v (.int .i64 e.Mode), .lst (some 0) (ints e.Line.Text), V.v (.int .i64 e.Line.At), V.v (.int .i64 e.Count), V.v (.int .i64 e.Op), V.v (.int .i64 e.OpCount), V.v (.int .i64 e.Wait), V.v (.int .i64 e.FindR), V.v (.int .i64 e.FindHow), V.v (.int .i64 e.Last), .lst (some 1) (dPieces e.Ring.Pieces), .lst (some 2) (dLines e.Undo.Lines), V.v (.int .i64 e.Nav), .lst (some 3) (ints e.Own.Text), V.v (.int .i64 e.Own.At), .lst (some 4) (ints e.Query), V.v (.int .i64 e.Hit), .lst (some 5) (ints e.Back.Text), V.v (.int .i64 e.Back.At)], .agg [V.v (.int .i64 f), .lst (some 6) (strs l)], .lst (some 7) (ints q), V.v (.int .i64 fr)] [] [] = some (kR (huntE e f l q fr)) := by
  have h1 := hh.first
  have h2 := hh.len
  have hlast : 0 ≤ histLast f l ∧ histLast f l ≤ 1000000059 := by unfold histLast; split <;> omega
  have e0 := K_icopyEd e h
  have e1 := E_iHistLast f l hh
  have e2 := E_iTextOf q (by omega)
  have e3 := E_iHistFind f l hh ⟨(textOf q).toArray⟩ (if e.Hit = 0 then histLast f l else fr) (by split <;> omega)
  have hdl : (⟨(textOf q).toArray⟩ : ByteArray).data.toList = textOf q := rfl
  rw [hdl] at e3
  have e4 := K_iShowHit e h hh (findBack f (textOf q) (if e.Hit = 0 then histLast f l else fr) l l.length) q hm hq hq2 (by
    rcases findBack_le (sub := textOf q) (fr := if e.Hit = 0 then histLast f l else fr) (l := l) h1.1 l.length with h | ⟨k, h3, h4⟩
    · exact .inl h
    · exact .inr (by omega))
  unfold huntE
  generalize findBack f (textOf q) (if e.Hit = 0 then histLast f l else fr) l l.length = n at *
  generalize hE : M_ihunt _ _ _ = R
  unfold M_ihunt at hE
  cases hs : showHit e f l n q with
  | none =>
    rw [hs] at e4
    simp only
    by_cases hz : e.Hit = 0
    · rw [if_pos hz] at e3
      simp only [hz] at e0 e4 hE
      simp [Tryz.func83, Tryz.f83, e0, e1, e2, e3, e4] at hE
      exact hE.symm.trans (by rw [← hz])
    · rw [if_neg hz] at e3
      simp [Tryz.func83, Tryz.f83, e0, e1, e2, e3, e4, hz] at hE
      exact hE.symm
  | some x =>
    rw [hs] at e4
    simp only
    by_cases hz : e.Hit = 0
    · rw [if_pos hz] at e3
      simp only [hz] at e0 e4 hE
      simp [Tryz.func83, Tryz.f83, e0, e1, e2, e3, e4] at hE
      exact hE.symm
    · rw [if_neg hz] at e3
      simp [Tryz.func83, Tryz.f83, e0, e1, e2, e3, e4, hz] at hE
      exact hE.symm
theorem K_isearch_rune (r : Int) (hm : e.Mode = 3) (hp : printable r = true) : M_iSearchKey [.agg [V.v (.bool e.Vi), V.v (.int .i64 e.Mode), .lst (some 0) (ints e.Line.Text), V.v (.int .i64 e.Line.At), V.v (.int .i64 e.Count), V.v (.int .i64 e.Op), V.v (.int .i64 e.OpCount), V.v (.int .i64 e.Wait), V.v (.int .i64 e.FindR), V.v (.int .i64 e.FindHow), V.v (.int .i64 e.Last), .lst (some 1) (dPieces e.Ring.Pieces), .lst (some 2) (dLines e.Undo.Lines), V.v (.int .i64 e.Nav), .lst (some 3) (ints e.Own.Text), V.v (.int .i64 e.Own.At), .lst (some 4) (ints e.Query), V.v (.int .i64 e.Hit), .lst (some 5) (ints e.Back.Text), V.v (.int .i64 e.Back.At)], .agg [V.v (.int .i64 f), .lst (some 6) (strs l)], .agg [V.v (.int .i64 1), V.v (.int .i64 r)]] [] [] = some (kR (huntE e f l (e.Query ++ [r]) e.Hit)) := by
  have e1 := K_icanKey e h hh 1 r hp
  have hql := h.ql
  have hhit := h.hit
  have e2 := E_icopyInts e.Query (some 0) (by omega)
  have e3 := K_ihunt e h hh (e.Query ++ [r]) e.Hit hm (by rw [List.all_append, h.qp]; simp [hp]) (by simp; omega) (by omega)
  have g1 : (e.Query.length + 1) * 8 ≤ 140737488355328 := by omega
  have g2 : e.Query.length + 1 ≤ 4611686018427387904 := by omega
  have g3 : e.Query.length ≤ 4611686018427387903 := by omega
  generalize huntE e f l (e.Query ++ [r]) e.Hit = p at *
  rw [ints_app] at e3
  simp only [ints_cons, ints_nil] at e3
  generalize hE : M_iSearchKey _ _ _ = R
  unfold M_iSearchKey at hE
  simp only [hm] at e1 e3 hE
  simp [Tryz.func66, Tryz.f66, e1, e2, e3, g1, g2, g3] at hE
  exact hE.symm
end
end Go.Proofs.YtjhdikdopdcfcaaGreatDoor
namespace Go.Proofs.YtjhdikdopdcfcaaGreatDoor
open Go.RowKit
set_option linter.unusedSimpArgs false
set_option linter.unusedVariables false
set_option maxHeartbeats 16000000
set_option maxRecDepth 100000
theorem E_lsameInts_all (a b : List Int) (ha : a.length ≤ 1000000) (hb : b.length ≤ 1000000) : M_lsameInts [.lst (some 0) (ints a), .lst (some 1) (ints b)] [] [] = some ⟨V.v (.bool (decide (a = b))), [], []⟩ := by
  unfold M_lsameInts
  by_cases hl : a.length = b.length
  · have hli : (a.length : Int) = b.length := by omega
    simp [Tryz.func9, Tryz.f9, hl, hli]
    rcases firstDiff a b hl with h | ⟨N, h1, h2, h3, h4⟩
    · subst h
      rw [loopV_go (fun j => .on ⟨[(13, V.v (.int .i64 ((j : Int)))), (12, V.v (.int .i64 ((a.length : Int)))), (1, .lst (some 1) (ints a)), (0, .lst (some 0) (ints a))], [], [], []⟩) a.length ?_ ?_]
      · simp
      · simp
      · intro j hj
        have hw := w64 ((j : Int) + 1) (by omega)
        simp [hj, hw, ints_get hj]
    · have hab : ¬ a = b := fun e => by subst e; exact h3 rfl
      rw [loopV_go (fun j => .on ⟨[(13, V.v (.int .i64 ((j : Int)))), (12, V.v (.int .i64 ((b.length : Int)))), (1, .lst (some 1) (ints b)), (0, .lst (some 0) (ints a))], [], [], []⟩) N ?_ ?_]
      · simp [h1, h2, ints_get h1, ints_get h2, h3, hab]
      · simp
      · intro j hj
        have j1 : j < a.length := by omega
        have j2 : j < b.length := by omega
        have hw := w64 ((j : Int) + 1) (by omega)
        simp [j1, j2, hw, ints_get j1, ints_get j2, h4 j j1 j2 hj]
  · have hli : ¬ (a.length : Int) = b.length := by omega
    have hab : ¬ a = b := fun e => hl (by rw [e])
    simp [Tryz.func9, Tryz.f9, hl, hli, hab]
def edN (t : List Int) (a : Nat) (r : List TPiece) (last : Int) : TEd := { zEd with Line := ⟨t, a⟩, Ring := ⟨r⟩, Last := last }
theorem edN_ok {t : List Int} {a : Nat} {r : List TPiece} {last : Int} (h1 : t.all typed = true) (h2 : t.length ≤ 16) (h3 : a ≤ t.length) (h4 : ringOk r = true) (h5 : 0 ≤ last ∧ last ≤ 3) : (edN t a r last).ok = true := by
  have q1 : lineOk t a = true := by
    simp only [lineOk, textOk, h1, Bool.and_true, Bool.and_eq_true, decide_eq_true_eq]
    exact ⟨by omega, inR_iff.2 (by omega)⟩
  have q2 : inR last 0 3 = true := inR_iff.2 h5
  have q5 : modeB false 0 t a 0 0 0 = true := by simp [modeB]
  simp only [TEd.ok, edOk, edN, zEd, q1, q2, h4, q5]
  rfl
theorem tk_mod (m c : UInt8) (k : Int) (hk : (k = 2 ∧ m = 67) ∨ (k = 3 ∧ m = 77)) (h1 : textOf [(c.toNat : Int)] = [c]) (h2 : [m, 45, c] = textOf [(m.toNat : Int), 45, (c.toNat : Int)]) (h3 : ∀ r ∈ [(m.toNat : Int), 45, (c.toNat : Int)], runeOk r = true) (hok : keyOk k (c.toNat : Int) = true) (h4 : ∀ j, j < 13 → ¬ keyNames[j]? = some ⟨#[m, 45, c]⟩) :
    M_iTextKey [V.v (.string (⟨#[m, 45, c]⟩))] [] [] = some ⟨.tup [.agg [V.v (.int .i64 k), V.v (.int .i64 ((c.toNat : Int)))], V.v (.bool true)], [], []⟩ := by
  have e2 : M_iKeyOk [.agg [V.v (.int .i64 k), V.v (.int .i64 ((c.toNat : Int)))]] [] [] = some ⟨V.v (.bool true), [], []⟩ := by
    have := K_iKeyOk zEd (eok_iff.1 (by decide)) (f := 1) (l := []) ⟨by omega, by simp, by simp⟩ k (c.toNat : Int)
    rw [hok] at this
    exact this
  exact E_iTextKey_mod m c k hk h1 ⟨by rw [List.append_nil]; exact h2, h3, rfl⟩ e2 h4
end Go.Proofs.YtjhdikdopdcfcaaGreatDoor
namespace Go.Proofs.YtjhdikdopdcfcaaGreatDoor
open Go.RowKit
set_option linter.unusedSimpArgs false
set_option linter.unusedVariables false
set_option maxHeartbeats 4000000
theorem by8_cont {x : Int} (h : 128 ≤ x ∧ x ≤ 255) : 128 ≤ (by8 x).toNat := by
  have := by8_nat (x := x) (by omega)
  omega
theorem cont_byte {r : Int} (h : runeOk r = true) {i : Nat} (h0 : 0 < i) (hi : i < (runeBytes r).length) : 128 ≤ ((runeBytes r)[i]).toNat := by
  rcases runeBytes_cases h with ⟨a, b, e⟩ | ⟨a, b, e⟩ | ⟨a, b, e⟩ | ⟨a, b, e⟩
  · simp only [e, List.length_cons, List.length_nil] at hi
    omega
  · simp only [e, List.length_cons, List.length_nil] at hi
    match i, h0, hi with
    | 1, _, _ => simp only [e, List.getElem_cons_succ, List.getElem_cons_zero]; exact by8_cont (by omega)
  · simp only [e, List.length_cons, List.length_nil] at hi
    match i, h0, hi with
    | 1, _, _ => simp only [e, List.getElem_cons_succ, List.getElem_cons_zero]; exact by8_cont (by omega)
    | 2, _, _ => simp only [e, List.getElem_cons_succ, List.getElem_cons_zero]; exact by8_cont (by omega)
  · simp only [e, List.length_cons, List.length_nil] at hi
    match i, h0, hi with
    | 1, _, _ => simp only [e, List.getElem_cons_succ, List.getElem_cons_zero]; exact by8_cont (by omega)
    | 2, _, _ => simp only [e, List.getElem_cons_succ, List.getElem_cons_zero]; exact by8_cont (by omega)
    | 3, _, _ => simp only [e, List.getElem_cons_succ, List.getElem_cons_zero]; exact by8_cont (by omega)
theorem boundary : ∀ (t : List Int) (I : Nat) (c : UInt8), (∀ r ∈ t, runeOk r = true) → (textOf t)[I]? = some c → c.toNat < 128 → ∃ t1 t2, t = t1 ++ t2 ∧ textOf t1 = (textOf t).take I
  | [], I, c, _, h, _ => by simp [textOf] at h
  | r :: t, I, c, hr, h, hc => by
    by_cases h0 : I = 0
    · exact ⟨[], r :: t, rfl, by rw [h0]; rfl⟩
    rw [textOf_cons] at h ⊢
    have hro := hr r (by simp)
    by_cases hI : I < (runeBytes r).length
    · exfalso
      rw [List.getElem?_append_left hI, List.getElem?_eq_getElem hI] at h
      injection h with h
      have := cont_byte hro (by omega) hI
      rw [h] at this
      omega
    · rw [List.getElem?_append_right (by omega)] at h
      obtain ⟨t1, t2, e1, e2⟩ := boundary t (I - (runeBytes r).length) c (fun x hx => hr x (by simp [hx])) h hc
      refine ⟨r :: t1, t2, by rw [e1]; rfl, ?_⟩
      rw [textOf_cons, e2, List.take_append, List.take_of_length_le (l := runeBytes r) (by omega)]
theorem occ_runes {s : List UInt8} {t q : List Int} (hr : Reads s t []) (c : Int) (q' : List Int) (hq : q = c :: q') (hc : 0 ≤ c ∧ c < 128) (hqo : ∀ r ∈ q, runeOk r = true) {I : Nat} (ho : Lib.occAt s (textOf q) I = true) :
    ∃ t1 t2, t = t1 ++ (q ++ t2) ∧ textOf t1 = s.take I := by
  obtain ⟨h1, h2, -⟩ := hr
  rw [List.append_nil] at h1
  unfold Lib.occAt at ho
  rw [List.isPrefixOf_iff_prefix] at ho
  obtain ⟨rest, hrest⟩ := ho
  have hcb : runeBytes c = [by8 c] := by
    have hco := hqo c (by rw [hq]; simp)
    rcases runeBytes_cases hco with ⟨a, b, e⟩ | ⟨a, b, e⟩ | ⟨a, b, e⟩ | ⟨a, b, e⟩
    · exact e
    · omega
    · omega
    · omega
  have hfirst : s[I]? = some (by8 c) := by
    have : (s.drop I)[0]? = some (by8 c) := by rw [← hrest, hq, textOf_cons, hcb]; rfl
    rw [List.getElem?_drop] at this
    simpa using this
  have hlt : (by8 c).toNat < 128 := by
    have := by8_nat (x := c) (by omega)
    omega
  rw [h1] at hfirst
  obtain ⟨t1, t2, e1, e2⟩ := boundary t I (by8 c) h2 hfirst hlt
  have e3 : textOf t2 = s.drop I := by
    have hx : s = textOf t1 ++ textOf t2 := by rw [h1, e1, textOf_app]
    have hy : s = s.take I ++ s.drop I := (List.take_append_drop I s).symm
    rw [← h1] at e2
    rw [e2] at hx
    exact List.append_cancel_left (hx.symm.trans hy)
  obtain ⟨t3, e4, e5⟩ := prefix_runes q t2 rest hqo (fun r hr => h2 r (by rw [e1]; simp [hr])) (by rw [e3, hrest])
  exact ⟨t1, t3, by rw [e1, e4], by rw [e2, ← h1]⟩
theorem shown_at {x y : TEd} {f : Int} {l : List ByteArray} {n : Int} {q : List Int} (c : Int) (q' : List Int) (hq : q = c :: q') (hc : 0 ≤ c ∧ c < 128) (hqo : ∀ r ∈ q, runeOk r = true) (hs : showHit x f l n q = some y) :
    ∃ (s : ByteArray) (t : List Int) (at_ : Nat), histAt f l n = some s ∧ Reads s.data.toList t [] ∧ textOk t = true ∧ y.Line = ⟨t, at_⟩ ∧ y.Query = q ∧ y.Hit = n ∧ y.Nav = n ∧ y.Mode = x.Mode ∧ at_ + q.length ≤ t.length ∧ (t.drop at_).take q.length = q := by
  unfold showHit at hs
  split at hs
  · split at hs
    · cases hs
    rename_i s hg
    split at hs
    · cases hs
    rename_i t ht
    split at hs
    · rename_i hi
      injection hs with hs
      subst hs
      obtain ⟨tok, tr⟩ := lineOf_ok ht
      have hocc : ∃ I : Nat, Lib.index s.data.toList (textOf q) = I ∧ Lib.occAt s.data.toList (textOf q) I = true := by
        rcases Lib.index_spec s.data.toList (textOf q) with ⟨h1, -⟩ | ⟨i, h1, h2, h3, -⟩
        · omega
        · exact ⟨i, h1, h3⟩
      obtain ⟨I, hI, hocc⟩ := hocc
      obtain ⟨t1, t2, e1, e2⟩ := occ_runes tr c q' hq hc hqo hocc
      have hext : (s.extract 0 (Lib.index s.data.toList (textOf q)).toNat).data.toList = s.data.toList.take I := by
        rw [hI]; simp [ByteArray.data_extract]
      have hr1 : Reads (s.data.toList.take I) t1 [] := ⟨by rw [List.append_nil, e2], fun r hr => tr.2.1 r (by rw [e1]; simp [hr]), rfl⟩
      obtain ⟨u1, u2⟩ := runes_of_reads hr1
      have hat : runesOf (s.extract 0 (Lib.index s.data.toList (textOf q)).toNat) = t1 := by
        unfold runesOf
        rw [hext, u1, u2]; rfl
      refine ⟨s, t, t1.length, hg, tr, tok, by rw [hat], rfl, rfl, rfl, rfl, ?_, ?_⟩
      · rw [e1]; simp
      · rw [e1, List.drop_left, List.take_left]
    · cases hs
  · cases hs
theorem shown_some {x : TEd} {f : Int} {l : List ByteArray} (hh : HistI f l) (hc : ∀ s ∈ l, Cmd s) {fr : Int} {q : List Int} (hq : q.length ≤ 40) (h : showHit x f l (findBack f (textOf q) fr l l.length) q = none) : findBack f (textOf q) fr l l.length = 0 := by
  have key : ∀ n : Nat, n ≤ l.length → findBack f (textOf q) fr l n = 0 ∨ ∃ k : Nat, k < l.length ∧ findBack f (textOf q) fr l n = f + k ∧ hasT l (textOf q) k = true := by
    intro n
    induction n with
    | zero => intro _; exact .inl rfl
    | succ n ih =>
      intro hn
      unfold findBack
      split
      · rename_i hcn
        have hn2 : n < l.length := by omega
        rw [List.getElem?_eq_getElem hn2] at hcn
        refine .inr ⟨n, hn2, rfl, ?_⟩
        unfold hasT
        rw [getD_bts hn2]
        simpa using hcn.2
      · exact ih (by omega)
  rcases key l.length (Nat.le_refl _) with h0 | ⟨k, k1, k2, k3⟩
  · exact h0
  · exfalso
    rw [k2] at h
    have hg : histAt f l (f + k) = some l[k] := by
      unfold histAt
      rw [if_pos (by omega), show (f + (k : Int) - f).toNat = k by omega, List.getElem?_eq_getElem k1]
    obtain ⟨t, t1, t2, t3, t4⟩ := hc l[k] (List.getElem_mem k1)
    obtain ⟨u1, u2⟩ := runes_of_reads t1
    have hl : lineOf l[k] = some t := by
      unfold lineOf
      rw [u1, u2, if_pos ⟨rfl, t2⟩]
    unfold hasT at k3
    rw [getD_bts k1] at k3
    have hi : 0 ≤ Lib.index l[k].data.toList (textOf q) := by simpa [Lib.contains] using k3
    unfold showHit at h
    rw [if_pos hq, hg] at h
    simp only [hl] at h
    rw [if_pos hi] at h
    cases h
end Go.Proofs.YtjhdikdopdcfcaaGreatDoor
namespace Go.Proofs.YtjhdikdopdcfcaaGreatDoor
open Go.RowKit
set_option linter.unusedSimpArgs false
set_option linter.unusedVariables false
set_option maxHeartbeats 16000000
set_option maxRecDepth 100000
theorem tk_Cr : M_iTextKey [V.v (.string (⟨#[67, 45, 114]⟩))] [] [] = some ⟨.tup [.agg [V.v (.int .i64 2), V.v (.int .i64 114)], V.v (.bool true)], [], []⟩ := tk_mod 67 114 2 (.inl ⟨rfl, rfl⟩) (by decide) (by decide) (by decide) (by decide) (by decide)
theorem tk_s : M_iTextKey [V.v (.string (⟨#[115]⟩))] [] [] = some ⟨.tup [.agg [V.v (.int .i64 1), V.v (.int .i64 115)], V.v (.bool true)], [], []⟩ := E_iTextKey_rune ⟨#[115]⟩ 115 (reads_one (c := 115) (by decide) (by decide)) (by decide) (by decide) (by decide) (by decide) (by decide)
theorem K_iEdKey_hunt {f : Int} {l : List ByteArray} (hh : HistI f l) (e : TEd) (h : EOk e) (hm : e.Mode = 3) (r : Int) (hp : printable r = true) : M_iEdKey [.agg [V.v (.bool e.Vi), V.v (.int .i64 e.Mode), .lst (some 0) (ints e.Line.Text), V.v (.int .i64 e.Line.At), V.v (.int .i64 e.Count), V.v (.int .i64 e.Op), V.v (.int .i64 e.OpCount), V.v (.int .i64 e.Wait), V.v (.int .i64 e.FindR), V.v (.int .i64 e.FindHow), V.v (.int .i64 e.Last), .lst (some 1) (dPieces e.Ring.Pieces), .lst (some 2) (dLines e.Undo.Lines), V.v (.int .i64 e.Nav), .lst (some 3) (ints e.Own.Text), V.v (.int .i64 e.Own.At), .lst (some 4) (ints e.Query), V.v (.int .i64 e.Hit), .lst (some 5) (ints e.Back.Text), V.v (.int .i64 e.Back.At)], .agg [V.v (.int .i64 f), .lst (some 6) (strs l)], .agg [V.v (.int .i64 1), V.v (.int .i64 r)]] [] [] = some (kR (huntE e f l (e.Query ++ [r]) e.Hit)) := by
  have e1 := K_isearch_rune e h hh r hm hp
  generalize huntE e f l (e.Query ++ [r]) e.Hit = p at *
  generalize hE : M_iEdKey _ _ _ = R
  unfold M_iEdKey at hE
  simp only [hm] at e1 hE
  simp [Tryz.func44, Tryz.f44, e1] at hE
  exact hE.symm
theorem typed_Crls {f : Int} {l : List ByteArray} (hh : HistI f l) (e : TEd) (h : EOk e) (hm : e.Mode = 0) (e1 e2 e3 : TEd) (a2 a3 : Int) (he1 : e1 = (seekE e).1) (he2 : huntE e1 f l (e1.Query ++ [108]) e1.Hit = (e2, a2)) (he3 : huntE e2 f l (e2.Query ++ [115]) e2.Hit = (e3, a3)) (hm2 : e2.Mode = 3) :
    M_iEdTyped [.agg [V.v (.bool e.Vi), V.v (.int .i64 e.Mode), .lst (some 0) (ints e.Line.Text), V.v (.int .i64 e.Line.At), V.v (.int .i64 e.Count), V.v (.int .i64 e.Op), V.v (.int .i64 e.OpCount), V.v (.int .i64 e.Wait), V.v (.int .i64 e.FindR), V.v (.int .i64 e.FindHow), V.v (.int .i64 e.Last), .lst (some 1) (dPieces e.Ring.Pieces), .lst (some 2) (dLines e.Undo.Lines), V.v (.int .i64 e.Nav), .lst (some 3) (ints e.Own.Text), V.v (.int .i64 e.Own.At), .lst (some 4) (ints e.Query), V.v (.int .i64 e.Hit), .lst (some 5) (ints e.Back.Text), V.v (.int .i64 e.Back.At)], .agg [V.v (.int .i64 f), .lst (some 6) (strs l)], V.v (.string (⟨#[67, 45, 114, 32, 108, 32, 115]⟩))] [] [] = some ⟨.tup [.agg [V.v (.bool e3.Vi), V.v (.int .i64 e3.Mode), .own 0, V.v (.int .i64 e3.Line.At), V.v (.int .i64 e3.Count), V.v (.int .i64 e3.Op), V.v (.int .i64 e3.OpCount), V.v (.int .i64 e3.Wait), V.v (.int .i64 e3.FindR), V.v (.int .i64 e3.FindHow), V.v (.int .i64 e3.Last), .own 1, .own 2, V.v (.int .i64 e3.Nav), .own 3, V.v (.int .i64 e3.Own.At), .own 4, V.v (.int .i64 e3.Hit), .own 5, V.v (.int .i64 e3.Back.At)], .own 6], [], [(0, ints e3.Line.Text), (1, dPieces e3.Ring.Pieces), (2, dLines e3.Undo.Lines), (3, ints e3.Own.Text), (4, ints e3.Query), (5, ints e3.Back.Text), (6, ints [0, a2, a3])]⟩ ∧ EOk e3 := by
  have o1 : EOk e1 := by rw [he1]; exact h.seek_
  have m1 : e1.Mode = 3 := by rw [he1]; rfl
  have o2 : EOk e2 := by
    have := o1.hunt m1 hh (q := e1.Query ++ [108]) (by rw [List.all_append, o1.qp]; decide) e1.Hit
    rw [he2] at this; exact this
  have o3 : EOk e3 := by
    have := o2.hunt hm2 hh (q := e2.Query ++ [115]) (by rw [List.all_append, o2.qp]; decide) e2.Hit
    rw [he3] at this; exact this
  have k1 := K_iEdKey_emacs e h hh 2 114 (by decide) hm (by omega)
  have hk1 : edKeyE e f l 2 114 = (e1, 0) := by
    unfold edKeyE
    rw [if_pos hm, he1]; rfl
  rw [hk1] at k1
  have k2 := K_iEdKey_hunt hh e1 o1 m1 108 (by decide)
  rw [he2] at k2
  have k3 := K_iEdKey_hunt hh e2 o2 hm2 115 (by decide)
  rw [he3] at k3
  refine ⟨?_, o3⟩
  refine E_iEdTyped e e3 f l ⟨#[67, 45, 114, 32, 108, 32, 115]⟩ [⟨#[67, 45, 114]⟩, ⟨#[108]⟩, ⟨#[115]⟩] [⟨2, 114⟩, ⟨1, 108⟩, ⟨1, 115⟩] [0, a2, a3] (by decide) (by decide +kernel) rfl (by decide) (fun j hj => ?_) ?_
  · match j, hj with
    | 0, _ => exact tk_Cr
    | 1, _ => exact tk_l
    | 2, _ => exact tk_s
    | n + 3, h => exact absurd h (by simp)
  · refine E_iEdKeys e (eok_iff.2 h) f l hh [⟨2, 114⟩, ⟨1, 108⟩, ⟨1, 115⟩] (by decide) (fun k hk => ?_) (fun j => match j with | 0 => e | 1 => e1 | 2 => e2 | _ => e3) (fun j => match j with | 0 => 0 | 1 => a2 | _ => a3) rfl (fun j hj => ?_)
    · simp only [List.mem_cons, List.not_mem_nil, or_false] at hk
      have kk := fun (k r : Int) (hk : keyOk k r = true) => by
        have := K_iKeyOk e h hh k r
        rw [hk] at this
        exact this
      rcases hk with rfl | rfl | rfl
      · exact kk 2 114 (by decide)
      · exact kk 1 108 (by decide)
      · exact kk 1 115 (by decide)
    · match j, hj with
      | 0, _ => exact k1
      | 1, _ => exact k2
      | 2, _ => exact k3
      | n + 3, h => exact absurd h (by simp)
theorem E_iLineText (t : List Int) (a : Int) (h : lineOk t a = true) : M_iLineText [.agg [.lst (some 0) (ints t), V.v (.int .i64 a)]] [] [] = some ⟨V.v (.string (⟨(textOf t).toArray⟩)), [], []⟩ := by
  have hl : t.length ≤ 400 := by simp only [lineOk, textOk, Bool.and_eq_true, decide_eq_true_eq] at h; exact h.1.1
  have e1 := E_iLineOk t a (by omega)
  have e2 := E_iTextOf t (by omega)
  rw [h] at e1
  unfold M_iLineText
  simp [Tryz.func13, Tryz.f13, e1, e2]
theorem reads_eq {s : ByteArray} {t : List Int} (h : Reads s.data.toList t []) : (⟨(textOf t).toArray⟩ : ByteArray) = s := by
  have := h.1
  rw [List.append_nil] at this
  cases s with | mk d =>
  simp only at this
  rw [← this]
section
variable (b : List UInt8) (h1 : ¬ 1048576 < b.length) (t : List Int) (a : Nat) (r : List TPiece) (last f : Int) (l : List ByteArray) (hh : HistI f l)
  (hM : M_sMakeEmacs [.lst (some 0) (byts b)] [] [] = some ⟨.tup [.agg [V.v (.bool false), V.v (.int .i64 0), .own 0, V.v (.int .i64 (a : Int)), V.v (.int .i64 0), V.v (.int .i64 0), V.v (.int .i64 0), V.v (.int .i64 0), V.v (.int .i64 0), V.v (.int .i64 0), V.v (.int .i64 last), .own 1, .own 2, V.v (.int .i64 0), .own 3, V.v (.int .i64 0), .own 4, V.v (.int .i64 0), .own 5, V.v (.int .i64 0)], .agg [V.v (.int .i64 f), .own 6]], [], [(0, ints t), (1, dPieces r), (2, []), (3, []), (4, []), (5, []), (6, strs l)]⟩)
include h1 hh hM
theorem search_found (y : TEd) (a2 a3 : Int) (hw : M_iEdTyped [.agg [V.v (.bool ((edN t a r last).Vi)), V.v (.int .i64 ((edN t a r last).Mode)), .lst (some 0) (ints ((edN t a r last).Line.Text)), V.v (.int .i64 ((edN t a r last).Line.At)), V.v (.int .i64 ((edN t a r last).Count)), V.v (.int .i64 ((edN t a r last).Op)), V.v (.int .i64 ((edN t a r last).OpCount)), V.v (.int .i64 ((edN t a r last).Wait)), V.v (.int .i64 ((edN t a r last).FindR)), V.v (.int .i64 ((edN t a r last).FindHow)), V.v (.int .i64 ((edN t a r last).Last)), .lst (some 1) (dPieces ((edN t a r last).Ring.Pieces)), .lst (some 2) (dLines ((edN t a r last).Undo.Lines)), V.v (.int .i64 ((edN t a r last).Nav)), .lst (some 3) (ints ((edN t a r last).Own.Text)), V.v (.int .i64 ((edN t a r last).Own.At)), .lst (some 4) (ints ((edN t a r last).Query)), V.v (.int .i64 ((edN t a r last).Hit)), .lst (some 5) (ints ((edN t a r last).Back.Text)), V.v (.int .i64 ((edN t a r last).Back.At))], .agg [V.v (.int .i64 f), .lst (some 6) (strs l)], V.v (.string (⟨#[67, 45, 114, 32, 108, 32, 115]⟩))] [] [] = some ⟨.tup [.agg [V.v (.bool y.Vi), V.v (.int .i64 y.Mode), .own 0, V.v (.int .i64 y.Line.At), V.v (.int .i64 y.Count), V.v (.int .i64 y.Op), V.v (.int .i64 y.OpCount), V.v (.int .i64 y.Wait), V.v (.int .i64 y.FindR), V.v (.int .i64 y.FindHow), V.v (.int .i64 y.Last), .own 1, .own 2, V.v (.int .i64 y.Nav), .own 3, V.v (.int .i64 y.Own.At), .own 4, V.v (.int .i64 y.Hit), .own 5, V.v (.int .i64 y.Back.At)], .own 6], [], [(0, ints y.Line.Text), (1, dPieces y.Ring.Pieces), (2, dLines y.Undo.Lines), (3, ints y.Own.Text), (4, ints y.Query), (5, ints y.Back.Text), (6, ints [0, a2, a3])]⟩) (ho : EOk y) (hm : y.Mode = 3)
    (s : ByteArray) (u : List Int) (at_ : Nat) (q : List Int) (n : Int) (g1 : histAt f l n = some s) (g2 : Reads s.data.toList u []) (g3 : textOk u = true) (g4 : y.Line = ⟨u, at_⟩) (g5 : y.Query = q) (g6 : y.Hit = n) (g7 : y.Nav = n) (g8 : at_ + q.length ≤ u.length) (g9 : (u.drop at_).take q.length = q) (g10 : q ≠ []) :
    M_lFnSearch [.lst (some 0) (byts b)] [] [] = some ⟨V.v (.bool true), [], []⟩ := by
  have h1' : ¬ (1048576 : Int) < b.length := by omega
  have e1 := E_iEdOk' y (eok_iff.2 ho)
  have e2 := E_iHistGet_all f l hh n
  rw [g1] at e2
  have hu : u.length ≤ 400 := by simp only [textOk, Bool.and_eq_true, decide_eq_true_eq] at g3; exact g3.1
  have hlo : lineOk u at_ = true := by
    unfold lineOk
    rw [g3, inR_iff.2 (by omega)]; rfl
  have e3 := E_iLineText u at_ hlo
  rw [reads_eq g2] at e3
  have e4 := E_lsameInts_all q q (by omega) (by omega)
  rw [decide_eq_true rfl] at e4
  have hn : ¬ n = 0 := by
    have := hh.first
    unfold histAt at g1
    split at g1
    · omega
    · cases g1
  have w := w64 ((at_ : Int) + q.length) (by omega)
  have q1 : (at_ : Int) + q.length ≤ u.length := by omega
  have q2 : (at_ : Int) ≤ (at_ : Int) + q.length := by omega
  have q3 : ((at_ : Int) + q.length).toNat = at_ + q.length := by omega
  have q4 : 0 ≤ (at_ : Int) + q.length := by omega
  have q5 : at_ + q.length - at_ = q.length := by omega
  have q6 : ¬ (q.length : Int) = 0 := by have := List.length_pos_iff.2 g10; omega
  have q7 : 0 < q.length := List.length_pos_iff.2 g10
  simp only [g4, g5, g6, g7, hm] at hw e1
  simp only [edN, zEd, ints_nil, ints_cons, show dLines [] = [] from rfl] at hM hw
  unfold M_lFnSearch
  simp [Tryz.func4, Tryz.f4, h1, h1', hM, hw, e1, e2, e3, e4, hn, w, q1, q2, q3, q4, q5, q6, q7, g8, g9, g10]
theorem search_none (y : TEd) (a2 a3 : Int) (hw : M_iEdTyped [.agg [V.v (.bool ((edN t a r last).Vi)), V.v (.int .i64 ((edN t a r last).Mode)), .lst (some 0) (ints ((edN t a r last).Line.Text)), V.v (.int .i64 ((edN t a r last).Line.At)), V.v (.int .i64 ((edN t a r last).Count)), V.v (.int .i64 ((edN t a r last).Op)), V.v (.int .i64 ((edN t a r last).OpCount)), V.v (.int .i64 ((edN t a r last).Wait)), V.v (.int .i64 ((edN t a r last).FindR)), V.v (.int .i64 ((edN t a r last).FindHow)), V.v (.int .i64 ((edN t a r last).Last)), .lst (some 1) (dPieces ((edN t a r last).Ring.Pieces)), .lst (some 2) (dLines ((edN t a r last).Undo.Lines)), V.v (.int .i64 ((edN t a r last).Nav)), .lst (some 3) (ints ((edN t a r last).Own.Text)), V.v (.int .i64 ((edN t a r last).Own.At)), .lst (some 4) (ints ((edN t a r last).Query)), V.v (.int .i64 ((edN t a r last).Hit)), .lst (some 5) (ints ((edN t a r last).Back.Text)), V.v (.int .i64 ((edN t a r last).Back.At))], .agg [V.v (.int .i64 f), .lst (some 6) (strs l)], V.v (.string (⟨#[67, 45, 114, 32, 108, 32, 115]⟩))] [] [] = some ⟨.tup [.agg [V.v (.bool y.Vi), V.v (.int .i64 y.Mode), .own 0, V.v (.int .i64 y.Line.At), V.v (.int .i64 y.Count), V.v (.int .i64 y.Op), V.v (.int .i64 y.OpCount), V.v (.int .i64 y.Wait), V.v (.int .i64 y.FindR), V.v (.int .i64 y.FindHow), V.v (.int .i64 y.Last), .own 1, .own 2, V.v (.int .i64 y.Nav), .own 3, V.v (.int .i64 y.Own.At), .own 4, V.v (.int .i64 y.Hit), .own 5, V.v (.int .i64 y.Back.At)], .own 6], [], [(0, ints y.Line.Text), (1, dPieces y.Ring.Pieces), (2, dLines y.Undo.Lines), (3, ints y.Own.Text), (4, ints y.Query), (5, ints y.Back.Text), (6, ints [0, a2, a3])]⟩) (ho : EOk y) (hm : y.Mode = 3) (hz : y.Hit = 0)
    (hf : findBack f [108] (histLast f l) l l.length = 0) :
    M_lFnSearch [.lst (some 0) (byts b)] [] [] = some ⟨V.v (.bool true), [], []⟩ := by
  have h1' : ¬ (1048576 : Int) < b.length := by omega
  have h1f := hh.first
  have h2f := hh.len
  have hlast : 0 ≤ histLast f l ∧ histLast f l ≤ 1000000059 := by unfold histLast; split <;> omega
  have e1 := E_iEdOk' y (eok_iff.2 ho)
  have e2 := E_iHistLast f l hh
  have e3 := E_iHistFind f l hh ⟨#[108]⟩ (histLast f l) (by omega)
  rw [show (⟨#[108]⟩ : ByteArray).data.toList = [108] from rfl, hf] at e3
  simp only [hm, hz] at hw e1
  simp only [edN, zEd, ints_nil, ints_cons, show dLines [] = [] from rfl] at hM hw
  unfold M_lFnSearch
  simp [Tryz.func4, Tryz.f4, h1, h1', hM, hw, e1, e2, e3]
end
theorem E_lFnSearch (b : List UInt8) (hok : okR [.l (byts b)] = true) : M_lFnSearch [.lst (some 0) (byts b)] [] [] = some ⟨V.v (.bool true), [], []⟩ := by
  by_cases h1 : 1048576 < b.length
  · have h1' : (1048576 : Int) < b.length := by omega
    unfold M_lFnSearch
    simp [Tryz.func4, Tryz.f4, h1, h1']
  obtain ⟨t, a, r, last, f, l, hM, p1, p2, p3, p4, p5, hh, hc⟩ := EX_sMakeEmacs b (by omega)
  have ok := eok_iff.1 (edN_ok p1 p2 p3 p4 p5)
  have ro : ∀ q : List Int, (q = [108] ∨ q = [115] ∨ q = [108, 115]) → ∀ x ∈ q, runeOk x = true := by
    rintro q (rfl | rfl | rfl) <;> decide
  obtain ⟨e1, he1⟩ : ∃ e1, e1 = (seekE (edN t a r last)).1 := ⟨_, rfl⟩
  have q1 : e1.Query = [] := by rw [he1]; rfl
  have z1 : e1.Hit = 0 := by rw [he1]; rfl
  have m1 : e1.Mode = 3 := by rw [he1]; rfl
  have t108 : textOf [108] = [108] := by decide
  cases hs1 : showHit e1 f l (findBack f (textOf (e1.Query ++ [108])) (if e1.Hit = 0 then histLast f l else e1.Hit) l l.length) (e1.Query ++ [108]) with
  | none =>
    have he2 : huntE e1 f l (e1.Query ++ [108]) e1.Hit = (e1, 1) := by unfold huntE; rw [hs1]
    have hn := shown_some hh hc (by rw [q1]; decide) hs1
    rw [q1, z1, if_pos rfl, List.nil_append, t108] at hn
    cases hs2 : showHit e1 f l (findBack f (textOf (e1.Query ++ [115])) (if e1.Hit = 0 then histLast f l else e1.Hit) l l.length) (e1.Query ++ [115]) with
    | none =>
      have he3 : huntE e1 f l (e1.Query ++ [115]) e1.Hit = (e1, 1) := by unfold huntE; rw [hs2]
      obtain ⟨w1, w2⟩ := typed_Crls hh _ ok rfl e1 e1 e1 1 1 he1 he2 he3 m1
      exact search_none b h1 t a r last f l hh hM e1 1 1 w1 w2 m1 z1 hn
    | some y =>
      have he3 : huntE e1 f l (e1.Query ++ [115]) e1.Hit = (y, 0) := by unfold huntE; rw [hs2]
      obtain ⟨w1, w2⟩ := typed_Crls hh _ ok rfl e1 e1 y 1 0 he1 he2 he3 m1
      rw [q1] at hs2
      obtain ⟨s, u, at_, g1, g2, g3, g4, g5, g6, g7, g8, g9, g10⟩ := shown_at 115 [] rfl (by omega) (ro _ (.inr (.inl rfl))) hs2
      exact search_found b h1 t a r last f l hh hM y 1 0 w1 w2 (g8.trans m1) s u at_ _ _ g1 g2 g3 g4 g5 g6 g7 g9 g10 (by simp)
  | some y1 =>
    have he2 : huntE e1 f l (e1.Query ++ [108]) e1.Hit = (y1, 0) := by unfold huntE; rw [hs1]
    rw [q1] at hs1
    obtain ⟨s, u, at_, g1, g2, g3, g4, g5, g6, g7, g8, g9, g10⟩ := shown_at 108 [] rfl (by omega) (ro _ (.inl rfl)) hs1
    have m2 := g8.trans m1
    cases hs2 : showHit y1 f l (findBack f (textOf (y1.Query ++ [115])) (if y1.Hit = 0 then histLast f l else y1.Hit) l l.length) (y1.Query ++ [115]) with
    | none =>
      have he3 : huntE y1 f l (y1.Query ++ [115]) y1.Hit = (y1, 1) := by unfold huntE; rw [hs2]
      obtain ⟨w1, w2⟩ := typed_Crls hh _ ok rfl e1 y1 y1 0 1 he1 he2 he3 m2
      exact search_found b h1 t a r last f l hh hM y1 0 1 w1 w2 m2 s u at_ _ _ g1 g2 g3 g4 g5 g6 g7 g9 g10 (by simp)
    | some y =>
      have he3 : huntE y1 f l (y1.Query ++ [115]) y1.Hit = (y, 0) := by unfold huntE; rw [hs2]
      obtain ⟨w1, w2⟩ := typed_Crls hh _ ok rfl e1 y1 y 0 0 he1 he2 he3 m2
      have g5' : y1.Query ++ [115] = [108, 115] := by rw [g5]; rfl
      rw [g5'] at hs2
      obtain ⟨s', u', at', k1, k2, k3, k4, k5, k6, k7, k8, k9, k10⟩ := shown_at 108 [115] rfl (by omega) (ro _ (.inr (.inr rfl))) hs2
      exact search_found b h1 t a r last f l hh hM y 0 0 w1 w2 (k8.trans m2) s' u' at' _ _ k1 k2 k3 k4 k5 k6 k7 k9 k10 (by simp)
end Go.Proofs.YtjhdikdopdcfcaaGreatDoor
namespace Go.Proofs.YtjhdikdopdcfcaaGreatDoor
open Go.ChangeShapes Go.WideShapes Go.ChangeAt Go.RowKit
theorem ownKnob_door : ownKnob Tryz.prog.godebug = none := by kernel_rfl
theorem zwOf {W : World} (h : W.ShapedOpen Tryz.prog) : ZW W := ⟨trivial, Tryz.laysM146.s1_3 W h⟩
def lay (cs : Array Value) : Obj → Obj
  | .cells _ t frozen => .cells cs t frozen
  | o => o
noncomputable def laidWorld (os : Os) : World :=
  { World.holding Tryz.prog os ⟨#[], #[], []⟩ with heap := ((World.holding Tryz.prog os ⟨#[], #[], []⟩).heap.modify 2 (lay #[.int .u8 128, .int .u8 191, .int .u8 160, .int .u8 191, .int .u8 128, .int .u8 159, .int .u8 144, .int .u8 191, .int .u8 128, .int .u8 143, .int .u8 0, .int .u8 0, .int .u8 0, .int .u8 0, .int .u8 0, .int .u8 0, .int .u8 0, .int .u8 0, .int .u8 0, .int .u8 0, .int .u8 0, .int .u8 0, .int .u8 0, .int .u8 0, .int .u8 0, .int .u8 0, .int .u8 0, .int .u8 0, .int .u8 0, .int .u8 0, .int .u8 0, .int .u8 0])).modify 1 (lay (List.replicate 128 (Value.int .u8 240) ++ List.replicate 66 (Value.int .u8 241) ++ List.replicate 30 (Value.int .u8 2) ++ List.replicate 1 (Value.int .u8 19) ++ List.replicate 12 (Value.int .u8 3) ++ List.replicate 1 (Value.int .u8 35) ++ List.replicate 2 (Value.int .u8 3) ++ List.replicate 1 (Value.int .u8 52) ++ List.replicate 3 (Value.int .u8 4) ++ List.replicate 1 (Value.int .u8 68) ++ List.replicate 11 (Value.int .u8 241)).toArray) }
end Go.Proofs.YtjhdikdopdcfcaaGreatDoor
namespace Go.Proofs.YtjhdikdopdcfcaaGreatDoor.fnSearch
open Go.ChangeShapes Go.WideShapes Go.ChangeAt Go.RowKit
open Go.ChangeMaps (open_string shut_string)
set_option linter.unusedVariables false
theorem law_FnSearch (l0 : List UInt8) (p0 : Value) (W : World) (hz : ZW W) (g0 : okR [.l (byts l0)] = true) (z0 : RdD (heapOf W) (.l (byts l0)) p0) :
    Calls Tryz.prog 4 #[p0] W fun e W' => e = .returned (.bool true) ∧ Ext W W' :=
  S_lFnSearch.top_v hz (us := [p0]) (ls := [p0]) (E_lFnSearch l0 g0)
    ⟨_, _, rfl, top_arg_l rfl z0, rfl⟩
set_option maxRecDepth 100000 in
theorem laid_met (os : Os) : laidMet Tryz.prog Rows.fnSearchRow.laid ((laidWorld os).forCall (fun _ _ => 0) ⟨#[], #[.slice none 0 0], []⟩).memory :=
  laidMet_of_run' 8 (by kernel_rfl) (by kernel_rfl)
set_option maxRecDepth 100000 in
theorem reads (os : Os) {H : Type} (enc : TypeId × Value → H) : ∃ places, DataW.whole enc Tryz.prog ((laidWorld os).forCall (fun _ _ => 0) ⟨#[], #[.slice none 0 0], []⟩).memory Tryz.f4.params.toList Rows.fnSearchSpec.vars false (#[.slice none 0 0] : Array Value).toList 8 = some ([.nil], [], places) :=
  ⟨[], by kernel_rfl⟩
set_option maxRecDepth 100000 in
theorem lifted (os : Os) (started : os.Started) (H : Type) (enc : TypeId × Value → H) (F : Stop.Interp) :
    ReturnsInHanded {} Tryz.checked os 4 .any ((OpenSpec.ofChange Rows.fnSearchSpec).preRow enc Tryz.prog Tryz.f4 Rows.fnSearchRow.domain false Rows.fnSearchRow.laid) (((OpenSpec.ofChange Rows.fnSearchSpec).at F).post enc Tryz.prog Tryz.f4 false true false false) := by
  obtain ⟨places, hx⟩ := reads os enc
  refine returnsInHanded_of_row (C := Tryz.checked) (s := OpenSpec.ofChange Rows.fnSearchSpec) ownKnob_door started (by kernel_rfl) Tryz.func4
    (witness_row_at (enc := enc) (C := Tryz.checked) false (laidWorld os) #[.slice none 0 0] rfl (by kernel_rfl) (by kernel_rfl) (by kernel_rfl)
      (OpenSpec.preRow_of_cond 8 hx (by kernel_rfl) (fun k hk => by cases hk) (by kernel_rfl) (laid_met os))) ?_
  intro W base args ds gs before hval0 hW _ _ _ hL hsh _
  have hval : ∀ (j : Nat) t v, Tryz.f4.params[j]? = some t → args[j]? = some v → Value.okWide Tryz.prog W .any base t v := hval0
  have hW' := hW
  obtain ⟨p, q, hA0, hV, rfl, hfz, hnd⟩ := hW
  have hA : DataW.TrodAll enc Tryz.prog W 0 (fun _ => true) true Tryz.f4.params.toList args.toList ds p := hA0
  rw [Tryz.params4] at hA hval
  obtain ⟨v0, vs0, d0, ds0, pp0, q0, hargs, rfl, rfl, h0, r0⟩ := trodAll_cons hA
  obtain ⟨rfl, rfl, rfl⟩ := trodAll_nil r0
  obtain rfl : args = #[v0] := by cases args; simp_all
  obtain ⟨rfl, rfl⟩ := trodVars_none hV
  have k0 := h0
  have lt0 : ∀ x ∈ pp0, x.block < W.heap.size := by obtain ⟨m, hm⟩ := k0; exact DataW.trod_lt m _ _ _ hm
  obtain ⟨l0, g0, z0⟩ := open_bytes_top (hval 0 22 v0 rfl rfl) h0
  clear hA0 hval0
  refine (law_FnSearch l0 v0 W (zwOf hsh) g0 z0).mono fun e W' ⟨he, bel⟩ => ?_
  subst he
  exact ⟨_, rfl, _, _, _, [], _, [], hW', trodAll_mk1 (shut_bool Tryz.underlying4 _), (trodAll_cons_mk (Below.trod laidOut_prog (by kernel_rfl) (of_decide_eq_true (by kernel_rfl)) k0 bel lt0) trodAll_mk0), rfl, Below.frame bel _, fun h => by cases h⟩
theorem said : Rows.FnSearchSaid :=
  OpenClaim.holds_of_cond 4 Tryz.f4 rfl rfl rfl rfl rfl rfl rfl ⟨rfl, rfl, rfl, rfl, rfl⟩ rfl rfl rfl rfl rfl (by kernel_rfl) Tryz.func4 (by kernel_rfl)
    (of_decide_eq_true (by kernel_rfl)) (by unfold Func.isWrapper; first | (rw [if_pos (by decide +kernel)]; kernel_rfl) | (rw [if_neg (by decide +kernel)]; exact ⟨rfl, rfl⟩))
    (fun os started H enc _ F => by rw [OpenClaim.pre_eq_preRow]; exact lifted os started H enc F)
theorem plain (f : FuncId) (fn : Func) (hf : Tryz.pinned.checked.prog.funcNamed "loop.example/g00600/laws.FnSearch" = some f) (hfn : Tryz.pinned.checked.prog.funcs[f]? = some fn) :
    false = Tryz.pinned.checked.prog.looks [] ∧ ∀ (j : Nat) t, fn.params[j]? = some t → Tryz.pinned.checked.prog.wantsStandIn t = false := by
  obtain rfl : f = 4 := Option.some.inj ((show Tryz.prog.funcNamed "loop.example/g00600/laws.FnSearch" = some 4 by kernel_rfl).symm.trans hf) |>.symm
  obtain rfl : fn = Tryz.f4 := (Option.some.inj (Tryz.func4.symm.trans hfn)).symm
  refine ⟨by kernel_rfl, fun j t ht => ?_⟩
  rw [Tryz.params4] at ht
  have hm := Array.mem_of_getElem? ht
  simp only [List.mem_toArray, List.mem_cons, List.not_mem_nil, or_false] at hm
  subst hm
  exact (show Tryz.prog.wantsStandIn 22 = false by kernel_rfl)
theorem card : Rows.FnSearchCardSaid :=
  Claim7.holds_tied_plain_at .later [] _ _ _ _ said (fun _ h => by cases h) (by kernel_rfl) (fun _ h => by cases h) fnSearch_row_tie rfl ⟨rfl, rfl⟩ (by kernel_rfl) rfl plain (by kernel_rfl)
#print axioms card
end Go.Proofs.YtjhdikdopdcfcaaGreatDoor.fnSearch
