/-
  Soundness of the evaluator, eighth part: structs and lists that are written out.
-/
import Derived.Test.YtacnbajcignacaaGreatSnd7
import Derived.Great.BuildSlice
namespace Go.Proofs.YtacnbajcignacaaGreat
open Go.RowKit
set_option linter.unusedSimpArgs false
set_option linter.unusedVariables false

section
variable {P : Program} {c : Ctx} {s : S} {y : Lay} {a : Act} {w : World}
theorem places_of : ∀ {fs : List Field}, (fs.all fun f => sizedT P f.type) = true → ∃ places, fs.mapM (fun f => (P.info? f.type).map fun i => (f.offset, i.size)) = some places ∧ ∀ (i : Nat) (f : Field), fs[i]? = some f → places[i]? = some (f.offset, P.cellsOf f.type)
  | [], _ => ⟨[], rfl, fun i f h => by simp at h⟩
  | f :: fs, h => by
    simp only [List.all_cons, Bool.and_eq_true] at h
    obtain ⟨pl, h1, h2⟩ := places_of h.2
    obtain ⟨i, hi⟩ := Option.isSome_iff_exists.1 h.1
    refine ⟨(f.offset, i.size) :: pl, by simp [List.mapM_cons, hi, h1], fun j f' e => ?_⟩
    cases j with
    | zero => simp at e; subst e; simp [Program.cellsOf, hi]
    | succ j => simp at e ⊢; exact h2 j f' e
theorem put_cells {off : Nat} {vs cur : Array Value} (h : off + vs.size ≤ cur.size) : (vs.zipIdx.foldl (fun cs (x : Value × Nat) => cs.setIfInBounds (off + x.2) x.1) cur).toList = cur.toList.take off ++ vs.toList ++ cur.toList.drop (off + vs.size) := by
  obtain ⟨h1, h2⟩ := Great.foldl_set off vs.toList 0 cur
  have e : vs.zipIdx.foldl (fun cs (x : Value × Nat) => cs.setIfInBounds (off + x.2) x.1) cur = (vs.toList.zipIdx 0).foldl (fun cs (x : Value × Nat) => cs.setIfInBounds (off + x.2) x.1) cur := by
    rw [← Array.foldl_toList, Array.toList_zipIdx]
  rw [e]
  apply List.ext_getElem?
  intro k
  rw [Array.getElem?_toList, h2 k]
  simp only [Nat.add_zero, Array.length_toList]
  by_cases k1 : k < off
  · rw [if_neg (by omega), List.append_assoc, List.getElem?_append_left (by rw [List.length_take, Array.length_toList]; omega), List.getElem?_take, if_pos k1, Array.getElem?_toList]
  · by_cases k2 : k < off + vs.size
    · rw [if_pos (by omega), List.append_assoc, List.getElem?_append_right (by rw [List.length_take, Array.length_toList]; omega), List.length_take, Array.length_toList, Nat.min_eq_left (by omega), List.getElem?_append_left (by rw [Array.length_toList]; omega)]
    · rw [if_neg (by omega), List.getElem?_append_right (by rw [List.length_append, List.length_take, Array.length_toList, Array.length_toList]; omega), List.length_append, List.length_take, Array.length_toList, Array.length_toList, List.getElem?_drop, Array.getElem?_toList]
      congr 1; omega
theorem fillRow_sound (A : At c s y a w) {fs : Array Field} {places : List (Nat × Nat)} (hp : ∀ (i : Nat) (f : Field), fs[i]? = some f → places[i]? = some (f.offset, P.cellsOf f.type)) :
    ∀ {ps : List (Nat × Operand)} {vs : List (Nat × V)} {cs cs' : List V} {us : Array Value}, mapSome (evPair s) ps = some vs → RVs (relOf c s y) cs us.toList → fillRow P fs cs vs = some cs' → ∃ us', Instr.fill (places.toArray[·]?) us (ps.map fun x => (x.1, a.eval x.2)) = some us' ∧ RVs (relOf c s y) cs' us'.toList
  | [], vs, cs, cs', us, h1, h2, h3 => by
    simp only [mapSome] at h1; injection h1 with h1; subst h1
    simp only [fillRow] at h3; injection h3 with h3; subst h3
    exact ⟨us, rfl, h2⟩
  | (i, x) :: ps, vs, cs, cs', us, h1, h2, h3 => by
    simp only [mapSome] at h1
    obtain ⟨⟨i', v⟩, h4, h1⟩ := bnd_eq_some h1
    obtain ⟨vs', h5, h1⟩ := bnd_eq_some h1
    injection h1 with h1; subst h1
    unfold evPair at h4
    obtain ⟨v', h6, h4⟩ := bnd_eq_some h4
    injection h4 with h4; injection h4 with h7 h8; subst h7; subst h8
    simp only [fillRow] at h3
    obtain ⟨f, hf, h3⟩ := bnd_eq_some h3
    obtain ⟨⟨hl, hle, ho⟩, h3⟩ := grd_eq_some h3
    obtain ⟨ec, -⟩ := A.cells (A.ev h6) ho
    have l1 := ec.len
    have l2 := h2.len
    rw [Array.length_toList] at l1 l2
    have hfit : f.offset + (a.eval x).cells.size ≤ us.size := by rw [l1, l2]; exact hle
    have := setAt_sound ec h2 (off := f.offset) (by rw [Array.length_toList, Array.length_toList]; exact hfit)
    rw [Array.length_toList, ← put_cells hfit] at this
    obtain ⟨us', k1, k2⟩ := fillRow_sound A hp h5 this h3
    refine ⟨us', ?_, k2⟩
    simp only [List.map_cons]
    unfold Instr.fill
    have hpl : places.toArray[i]? = some (f.offset, P.cellsOf f.type) := by simpa using hp i f hf
    simp only [hpl]
    rw [if_neg (by simp only [Bool.or_eq_true, decide_eq_true_eq, not_or]; constructor
                   · simp [l1, hl]
                   · omega)]
    exact k1
theorem step_build {o : Oper} {t : TypeId} {ps : Array (Nat × Operand)} (ho : o.op = .build t ps) (hd' : dstOk c.n o.dst = true) {fs : Array Field} {z cs : List V} {vs : List (Nat × V)} (hu : P.underlying t = some (.struct fs)) (hfo : fieldsOk P t = true) (hz : zeroV P t = some z) (hvs : mapSome (evPair s) ps.toList = some vs) (h : fillRow P fs z vs = some cs) :
    Step P c o s (s.put o.dst (.agg cs)) := step_value hd' fun yy a w A => by
  obtain ⟨i, z', h1, h2, h3⟩ := zeroV_sound hz
  unfold fieldsOk at hfo
  rw [hu] at hfo
  obtain ⟨places, p1, p2⟩ := places_of (P := P) (fs := fs.toList) hfo
  obtain ⟨us', k1, k2⟩ := fillRow_sound A (places := places) (fun i f e => p2 i f (by simpa using e)) hvs (h3 _) h
  refine ⟨.agg us', ?_, us'.toList, by simp, k2⟩
  have hb : P.built t (ps.map fun (i, x) => (i, a.eval x)).toList = some us' := by
    unfold Program.built
    simp only [h1, hu, h2, p1]
    rw [Array.toList_map]
    exact k1
  unfold execOp; simp only [ho, Sem.run_bind, run_build w t _ us' hb]
  rfl

/-! lists: cells and what is under them -/
def dP (d : D) (u : Value) : Pc := ⟨fun w F => OwnD w d u F, fun h k => h.st k⟩
def pcs : List D → List Value → List Pc
  | d :: ds, u :: us => dP d u :: pcs ds us
  | _, _ => []
theorem pcs_app : ∀ {ds es : List D} {us vs : List Value}, us.length = ds.length → pcs (ds ++ es) (us ++ vs) = pcs ds us ++ pcs es vs
  | [], es, [], vs, _ => rfl
  | [], es, _ :: _, vs, h => by simp at h
  | d :: ds, es, [], vs, h => by simp at h
  | d :: ds, es, u :: us, vs, h => by
    simp only [List.cons_append, pcs]
    rw [pcs_app (by simpa using h)]
theorem Sep.pcsIn {w : World} {L : List Pc} : ∀ {ds : List D} {us : List Value} {F : List Nat}, us.length = ds.length → Sep w (pcs ds us ++ L) F →
    ∃ (fs : Nat → List Nat) (G : List Nat), F = (List.range ds.length).flatMap fs ++ G ∧ Sep w L G ∧ ∀ (i : Nat) (d : D) (u : Value), ds[i]? = some d → us[i]? = some u → OwnD w d u (fs i)
  | [], [], F, _, S => ⟨fun _ => [], F, rfl, S, fun i d u e => by simp at e⟩
  | [], _ :: _, F, h, _ => by simp at h
  | d :: ds, [], F, h, _ => by simp at h
  | d :: ds, u :: us, F, h, S => by
    obtain ⟨F1, G1, rfl, a, g⟩ := Sep.uncons S
    obtain ⟨fs, G, rfl, g2, h2⟩ := Sep.pcsIn (by simpa using h) g
    refine ⟨fun i => match i with | 0 => F1 | i + 1 => fs i, G, ?_, g2, fun i d' u' e1 e2 => ?_⟩
    · rw [List.length_cons, List.range_succ_eq_map, List.flatMap_cons, List.flatMap_map, List.append_assoc]
    · cases i with
      | zero => simp at e1 e2; subst e1; subst e2; exact a
      | succ i => exact h2 i d' u' (by simpa using e1) (by simpa using e2)
theorem Sep.pcsOf {w : World} {L : List Pc} : ∀ {ds : List D} {us : List Value} {fs : Nat → List Nat} {G : List Nat}, us.length = ds.length → Sep w L G → (∀ (i : Nat) (d : D) (u : Value), ds[i]? = some d → us[i]? = some u → OwnD w d u (fs i)) →
    Sep w (pcs ds us ++ L) ((List.range ds.length).flatMap fs ++ G)
  | [], [], fs, G, _, S, _ => S
  | [], _ :: _, _, _, h, _, _ => by simp at h
  | d :: ds, [], _, _, h, _, _ => by simp at h
  | d :: ds, u :: us, fs, G, h, S, k => by
    rw [List.length_cons, List.range_succ_eq_map, List.flatMap_cons, List.flatMap_map, List.append_assoc]
    exact Sep.cons (h := dP d u) (k 0 d u rfl rfl) (Sep.pcsOf (fs := fun i => fs (i + 1)) (by simpa using h) S fun i d' u' e1 e2 => k (i + 1) d' u' (by simpa using e1) (by simpa using e2))
/-- the cells of a list, taken apart -/
theorem St.split {W w : World} {rows : List (List D)} {u : Value} {L : List Pc} (S : St W w (ownP u rows :: L)) :
    (rows = [] ∧ ∃ g c, u = .slice g 0 c ∧ (g = none → c = 0) ∧ c = 0 ∧ St W w L) ∨ ∃ (g c k : Nat) (T : TypeId) (cs : Array Value) (us : List Value), rows ≠ [] ∧ u = .slice (some ⟨g, 0, none⟩) rows.length c ∧ rows.length ≤ c ∧ c ≤ maxLen ∧ 0 < k ∧ (∀ r ∈ rows, r.length = k) ∧ cs.size = c * k ∧
      us.length = rows.flatten.length ∧ cs.toList.take (rows.length * k) = us ∧ St W w (rowP g T cs :: (pcs rows.flatten us ++ L)) := by
  obtain ⟨F, s, n, hb⟩ := S.sep
  obtain ⟨F1, G, rfl, o, g⟩ := s.uncons
  have o : OwnD w (.l rows) u F1 := o
  by_cases hr : rows = []
  · subst hr
    left
    refine ⟨rfl, ?_⟩
    cases o with
    | nil => exact ⟨none, 0, rfl, fun _ => rfl, rfl, S.drop⟩
    | l _ n' c g' k T cs us fs h1 h2 h3 h4 h5 h6 h00 h7 h8 h9 =>
      have hc := h00 rfl
      subst hc
      have : n' = 0 := by simpa using h1.symm
      subst this
      exact ⟨some ⟨g', 0, none⟩, 0, rfl, (fun h => nomatch h), rfl, S.drop⟩
  · right
    cases o with
    | nil => exact absurd rfl hr
    | l _ n' c g' k T cs us fs h1 h2 h3 h4 h5 h6 h00 h7 h8 h9 =>
      subst h1
      have hfl := flat_len rows h5
      have hck : rows.length * k ≤ cs.size := by rw [h6]; exact Nat.mul_le_mul_right _ h2
      have hlen : (cs.toList.take (rows.length * k)).length = rows.flatten.length := by rw [List.length_take, Array.length_toList, hfl]; exact Nat.min_eq_left hck
      refine ⟨g', c, k, T, cs, cs.toList.take (rows.length * k), hr, rfl, h2, h3, h4, h5, h6, hlen, rfl, S.ext, g' :: ((List.range rows.flatten.length).flatMap fs ++ G), ?_, by simpa using n, by simpa using hb⟩
      refine Sep.cons (h := rowP g' T cs) (F := [g']) ⟨rfl, h7⟩ (Sep.pcsOf hlen g fun i d u e1 e2 => ?_)
      have hi : i < rows.length * k := by rw [← hfl]; exact (List.getElem?_eq_some_iff.1 e1).1
      rw [List.getElem?_take, if_pos hi, Array.getElem?_toList, h8 i d e1] at e2
      injection e2 with e2; subst e2
      exact h9 i d e1
/-- and put together -/
theorem St.join {W w : World} {rows : List (List D)} {g cc k : Nat} {T : TypeId} {cs : Array Value} {us : List Value} {L : List Pc} (S : St W w (rowP g T cs :: (pcs rows.flatten us ++ L))) (hl : us.length = rows.flatten.length) (h1 : rows.length ≤ cc) (h2 : cc ≤ maxLen) (h3 : 0 < k) (h4 : ∀ r ∈ rows, r.length = k) (h5 : cs.size = cc * k)
    (h0 : rows = [] → cc = 0) (h6 : cs.toList.take (rows.length * k) = us) : St W w (ownP (.slice (some ⟨g, 0, none⟩) rows.length cc) rows :: L) := by
  obtain ⟨F, s, n, hb⟩ := S.sep
  obtain ⟨F1, G1, rfl, ⟨rfl, o⟩, g1⟩ := s.uncons
  obtain ⟨fs, G, rfl, g2, h7⟩ := Sep.pcsIn hl g1
  refine ⟨S.ext, (g :: (List.range rows.flatten.length).flatMap fs) ++ G, Sep.cons (h := ownP _ rows) ?_ g2, by simpa using n, by simpa using hb⟩
  have hfl := flat_len rows h4
  refine OwnD.l rows rows.length cc g k T cs (fun i => us[i]?.getD undef) fs rfl h1 h2 h3 h4 h5 h0 o (fun i d e => ?_) (fun i d e => ?_)
  · have hi := (List.getElem?_eq_some_iff.1 e).1
    have hi2 : i < us.length := by rw [hl]; exact hi
    have : us[i]? = cs[i]? := by rw [← h6, List.getElem?_take, if_pos (by rw [← hfl]; exact hi), Array.getElem?_toList]
    rw [← this, List.getElem?_eq_getElem hi2]; rfl
  · have hi := (List.getElem?_eq_some_iff.1 e).1
    have hi2 : i < us.length := by rw [hl]; exact hi
    exact h7 i d _ e (by rw [List.getElem?_eq_getElem hi2]; rfl)
/-- cells that lead nowhere -/
theorem St.atoms {W w : World} {L : List Pc} (S : St W w L) : ∀ {ds : List D} {us : List Value}, (∀ d ∈ ds, flatD d = true) → (∀ (i : Nat) (x : Value) (u : Value), ds[i]? = some (.a x) → us[i]? = some u → u = x) → St W w (pcs ds us ++ L)
  | [], us, _, _ => by cases us <;> exact S
  | _ :: _, [], _, _ => S
  | d :: ds, u :: us, h, k => by
    cases d with
    | l r => have := h (.l r) (by simp); cases this
    | a x =>
      have := k 0 x u rfl rfl
      subst this
      exact (St.atoms S (ds := ds) (us := us) (fun d hd => h d (by simp [hd])) fun i x' u' e1 e2 => k (i + 1) x' u' (by simpa using e1) (by simpa using e2)).more (Ext.refl w) (h := dP (.a u) u) (F := []) (.a u) List.nodup_nil (fun b hb => by cases hb)
end
end Go.Proofs.YtacnbajcignacaaGreat
