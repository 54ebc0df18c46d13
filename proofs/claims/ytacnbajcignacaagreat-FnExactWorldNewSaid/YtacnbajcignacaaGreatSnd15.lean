/-
  Soundness of the evaluator, fifteenth part: what comes back.
-/
import Derived.Test.YtacnbajcignacaaGreatSnd14
namespace Go.Proofs.YtacnbajcignacaaGreat
open Go.RowKit
set_option linter.unusedSimpArgs false
set_option linter.unusedVariables false

theorem perm_of_mem {l1 : List Nat} : ∀ {l2 : List Nat}, l1.Nodup → l2.Nodup → (∀ x, x ∈ l1 ↔ x ∈ l2) → l1.Perm l2 := by
  induction l1 with
  | nil =>
    intro l2 _ _ h
    cases l2 with
    | nil => exact List.Perm.refl _
    | cons x l => exact absurd ((h x).2 (by simp)) (by simp)
  | cons a t ih =>
    intro l2 n1 n2 h
    have ha : a ∈ l2 := (h a).1 (by simp)
    obtain ⟨p, q, rfl⟩ := List.append_of_mem ha
    have n3 := List.perm_middle.nodup_iff.1 n2
    have n4 := List.nodup_cons.1 n3
    have n5 := List.nodup_cons.1 n1
    refine (List.Perm.cons a (ih n5.2 n4.2 fun x => ?_)).trans List.perm_middle.symm
    constructor
    · intro hx
      have := (h x).1 (by simp [hx])
      rcases List.mem_append.1 this with h1 | h1
      · exact List.mem_append_left _ h1
      · rcases List.mem_cons.1 h1 with h1 | h1
        · subst h1; exact absurd hx n5.1
        · exact List.mem_append_right _ h1
    · intro hx
      have : x ∈ a :: t := (h x).2 (by
        rcases List.mem_append.1 hx with h1 | h1
        · exact List.mem_append_left _ h1
        · exact List.mem_append_right _ (List.mem_cons_of_mem _ h1))
      rcases List.mem_cons.1 this with h1 | h1
      · subst h1; exact absurd hx n4.1
      · exact h1
section
variable {α : Type}
theorem key_look {k : Nat} {l : List (Nat × α)} : k ∈ l.map (·.1) ↔ ∃ x, look k l = some x := by
  constructor
  · intro h
    cases e : look k l with
    | none => exact absurd h (look_none e)
    | some x => exact ⟨x, rfl⟩
  · intro ⟨x, h⟩
    exact List.mem_map.2 ⟨_, look_mem h, rfl⟩
theorem look_upd {k : Nat} {x : α} : ∀ {l : List (Nat × α)} (j : Nat), look j (upd k x l) = if j = k then (look j l).map (fun _ => x) else look j l
  | [], j => by simp only [upd, look]; split <;> rfl
  | (i, y) :: r, j => by
    unfold upd
    by_cases h : k = i
    · subst h; rw [if_pos rfl]; simp only [look]
      by_cases h3 : j = k
      · subst h3; rw [if_pos rfl, if_pos rfl, if_pos rfl]; rfl
      · rw [if_neg h3, if_neg h3, if_neg h3]
    · rw [if_neg h]; simp only [look]
      by_cases h3 : j = i
      · subst h3; rw [if_pos rfl, if_pos rfl, if_neg fun e => h e.symm]
      · rw [if_neg h3, if_neg h3, look_upd j]
theorem drop1_mem {k : Nat} : ∀ {l : List (Nat × α)} {q : Nat}, q ∈ (drop1 k l).map (·.1) ↔ q ∈ l.map (·.1) ∧ q ≠ k := by
  intro l q
  rw [key_look, key_look]
  rw [look_drop1]
  by_cases h : q = k
  · rw [if_pos h]; simp [h]
  · rw [if_neg h]; simp [h]
theorem drop1_nodup {k : Nat} : ∀ {l : List (Nat × α)}, (l.map (·.1)).Nodup → ((drop1 k l).map (·.1)).Nodup
  | [], h => h
  | (i, z) :: r, h => by
    simp only [List.map_cons, List.nodup_cons] at h
    unfold drop1
    split
    · exact drop1_nodup h.2
    · rw [List.map_cons, List.nodup_cons]
      exact ⟨fun hx => h.1 (drop1_mem.1 hx).1, drop1_nodup h.2⟩
theorem map_look {β : Type} {f : Nat × α → β} (d : α) {l : List (Nat × α)} (n : (l.map (·.1)).Nodup) : l.map f = (l.map (·.1)).map fun k => f (k, (look k l).getD d) := by
  rw [List.map_map]
  apply List.map_congr_left
  intro x hx
  have := look_of_mem n (k := x.1) (x := x.2) hx
  simp only [Function.comp, this, Option.getD_some]
theorem withIdx_look : ∀ {l : List α} {n : Nat} (i : Nat), look (n + i) (withIdx n l) = l[i]?
  | [], n, i => by simp only [withIdx, look]; simp
  | x :: r, n, 0 => by simp only [withIdx, look]; simp
  | x :: r, n, i + 1 => by
    simp only [withIdx, look]
    rw [if_neg (by omega), show n + (i + 1) = n + 1 + i by omega, withIdx_look i]
    simp
theorem withIdx_keys : ∀ {l : List α} {n : Nat}, (withIdx n l).map (·.1) = List.range' n l.length
  | [], n => rfl
  | x :: r, n => by
    simp only [withIdx, List.map_cons, List.length_cons, List.range'_succ]
    rw [withIdx_keys]
theorem withIdx_nodup {l : List α} {n : Nat} : ((withIdx n l).map (·.1)).Nodup := by
  rw [withIdx_keys]; exact List.nodup_range'
end
theorem pos_get : ∀ {l : List Nat} {i : Nat} {b n : Nat}, l.Nodup → l[i]? = some b → pos b l n = some (n + i)
  | [], i, b, n, _, h => by simp at h
  | a :: r, 0, b, n, _, h => by simp at h; subst h; simp only [pos]; simp
  | a :: r, i + 1, b, n, nd, h => by
    simp only [pos]
    have h : r[i]? = some b := by simpa using h
    have nd := List.nodup_cons.1 nd
    rw [if_neg (fun e => nd.1 (by rw [← e]; exact List.mem_of_getElem? h)), pos_get nd.2 h]
    congr 1; omega

/-! lists that were handed over -/
/-- v does not name a list that is gone -/
def Left (rt : List (Nat × List (List D))) (ps : List Nat) (i : Nat) (v : V) : Prop := ∀ j p, ps[j]? = some p → look (i + j) rt = none → mentions p v = false
theorem backTrees_fro (rt : List (Nat × List (List D))) : ∀ (ps : List Nat) (i : Nat) (s : S), (backTrees rt ps i s).fro = s.fro
  | [], _, _ => rfl
  | p :: ps, i, s => by
    simp only [backTrees]
    rw [backTrees_fro rt ps]
    cases look i rt <;> rfl
theorem backTrees_keys (rt : List (Nat × List (List D))) : ∀ (ps : List Nat) (i : Nat) (s : S), (backTrees rt ps i s).box.map (·.1) = s.box.map (·.1)
  | [], _, _ => rfl
  | p :: ps, i, s => by
    simp only [backTrees]
    rw [backTrees_keys rt ps]
    cases look i rt with
    | none => exact killB_keys p s.box
    | some r => rfl
theorem backTrees_env {rt : List (Nat × List (List D))} : ∀ {ps : List Nat} {i : Nat} {s : S} {t : Nat} {v : V}, look t (backTrees rt ps i s).env = some v → v = .dead ∨ (look t s.env = some v ∧ Left rt ps i v)
  | [], _, _, _, _, h => .inr ⟨h, fun j p e => by simp at e⟩
  | p :: ps, i, s, t, v, h => by
    simp only [backTrees] at h
    rcases backTrees_env h with h1 | ⟨h1, h2⟩
    · exact .inl h1
    · cases e : look i rt with
      | some r =>
        rw [e] at h1
        refine .inr ⟨h1, fun j q e1 e2 => ?_⟩
        cases j with
        | zero => rw [Nat.add_zero, e] at e2; cases e2
        | succ j => exact h2 j q (by simpa using e1) (by rw [show i + 1 + j = i + (j + 1) by omega]; exact e2)
      | none =>
        rw [e] at h1
        have h1 : look t (killE p s.env) = some v := h1
        rw [look_killE] at h1
        obtain ⟨v0, h3, h4⟩ := Option.map_eq_some_iff.1 h1
        cases e3 : mentions p v0 with
        | true => rw [e3, if_pos rfl] at h4; exact .inl h4.symm
        | false =>
          rw [e3, if_neg (by simp)] at h4; subst h4
          refine .inr ⟨h3, fun j q e1 e2 => ?_⟩
          cases j with
          | zero => simp at e1; subst e1; exact e3
          | succ j => exact h2 j q (by simpa using e1) (by rw [show i + 1 + j = i + (j + 1) by omega]; exact e2)
theorem killC_len (p : Nat) : ∀ (l : List V), (killC p l).length = l.length
  | [] => rfl
  | v :: r => by simp only [killC, List.length_cons, killC_len p r]
theorem killC_get {p : Nat} : ∀ {l : List V} {k : Nat} {v : V}, (killC p l)[k]? = some v → v = .dead ∨ (l[k]? = some v ∧ mentions p v = false)
  | [], k, v, h => by simp [killC] at h
  | x :: r, 0, v, h => by
    simp only [killC, List.getElem?_cons_zero, Option.some.injEq] at h
    cases e : mentions p x with
    | true => rw [e, if_pos rfl] at h; exact .inl h.symm
    | false => rw [e, if_neg (by simp)] at h; subst h; exact .inr ⟨by simp, e⟩
  | x :: r, k + 1, v, h => by
    simp only [killC, List.getElem?_cons_succ] at h ⊢
    exact killC_get h
theorem backTrees_box {rt : List (Nat × List (List D))} : ∀ {ps : List Nat} {i : Nat} {s : S} {b : Nat} {cs : List V}, (b, cs) ∈ (backTrees rt ps i s).box → ∃ cs0, (b, cs0) ∈ s.box ∧ cs.length = cs0.length ∧ ∀ (k : Nat) (v : V), cs[k]? = some v → v = .dead ∨ (cs0[k]? = some v ∧ Left rt ps i v)
  | [], _, _, b, cs, h => ⟨cs, h, rfl, fun k v e => .inr ⟨e, fun j p e => by simp at e⟩⟩
  | p :: ps, i, s, b, cs, h => by
    simp only [backTrees] at h
    obtain ⟨cs1, h1, h2, h3⟩ := backTrees_box h
    cases e : look i rt with
    | some r =>
      rw [e] at h1
      refine ⟨cs1, h1, h2, fun k v ek => (h3 k v ek).imp _root_.id fun h4 => ⟨h4.1, fun j q e1 e2 => ?_⟩⟩
      cases j with
      | zero => rw [Nat.add_zero, e] at e2; cases e2
      | succ j => exact h4.2 j q (by simpa using e1) (by rw [show i + 1 + j = i + (j + 1) by omega]; exact e2)
    | none =>
      rw [e] at h1
      obtain ⟨cs0, h5, rfl⟩ := mem_killB (show (b, cs1) ∈ killB p s.box from h1)
      refine ⟨cs0, h5, h2.trans (killC_len p cs0), fun k v ek => ?_⟩
      rcases h3 k v ek with h6 | ⟨h6, h7⟩
      · exact .inl h6
      · rcases killC_get h6 with h8 | ⟨h8, h9⟩
        · exact .inl h8
        · refine .inr ⟨h8, fun j q e1 e2 => ?_⟩
          cases j with
          | zero => simp at e1; subst e1; exact h9
          | succ j => exact h7 j q (by simpa using e1) (by rw [show i + 1 + j = i + (j + 1) by omega]; exact e2)
theorem backTrees_tree {rt : List (Nat × List (List D))} : ∀ {ps : List Nat} {i : Nat} {s : S}, ps.Nodup → (∀ p ∈ ps, p ∈ s.tree.map (·.1)) → (s.tree.map (·.1)).Nodup → ((backTrees rt ps i s).tree.map (·.1)).Nodup ∧ ∀ n, look n (backTrees rt ps i s).tree = match pos n ps i with | some m => look m rt | none => look n s.tree
  | [], i, s, _, _, nd => ⟨nd, fun n => rfl⟩
  | p :: ps, i, s, n1, hp, nd => by
    have n2 := List.nodup_cons.1 n1
    simp only [backTrees]
    have h1 : ∀ q ∈ ps, q ∈ (backOne s p (look i rt)).tree.map (·.1) := by
      intro q hq
      have := hp q (by simp [hq])
      cases look i rt with
      | some r => show q ∈ (upd p r s.tree).map (·.1); rw [upd_keys]; exact this
      | none => exact drop1_mem.2 ⟨this, fun e => n2.1 (by rw [← e]; exact hq)⟩
    have h2 : ((backOne s p (look i rt)).tree.map (·.1)).Nodup := by
      cases look i rt with
      | some r => show ((upd p r s.tree).map (·.1)).Nodup; rw [upd_keys]; exact nd
      | none => exact drop1_nodup nd
    obtain ⟨a1, a2⟩ := backTrees_tree (rt := rt) (i := i + 1) n2.2 h1 h2
    refine ⟨a1, fun n => ?_⟩
    rw [a2 n]
    simp only [pos]
    by_cases h : n = p
    · subst h
      rw [if_pos rfl]
      cases e : pos n ps (i + 1) with
      | some m => exfalso; obtain ⟨d, _, e2⟩ := pos_some e; exact n2.1 (List.mem_of_getElem? e2)
      | none =>
        simp only
        obtain ⟨r0, hr0⟩ := key_look.1 (hp n (by simp))
        cases e3 : look i rt with
        | some r => show look n (upd n r s.tree) = some r; rw [look_upd, if_pos rfl, hr0]; rfl
        | none => show look n (drop1 n s.tree) = none; rw [look_drop1, if_pos rfl]
    · rw [if_neg h]
      cases e : pos n ps (i + 1) with
      | some m => rfl
      | none =>
        simp only
        cases e3 : look i rt with
        | some r => show look n (upd p r s.tree) = _; rw [look_upd, if_neg h]
        | none => show look n (drop1 p s.tree) = _; rw [look_drop1, if_neg h]

/-! new lists -/
theorem addTrees_spec {ld : Lend} {t : Nat} : ∀ {rt : List (Nat × List (List D))} {s s' : S}, addTrees ld t rt s = some s' → (rt.map (·.1)).Nodup → (s.tree.map (·.1)).Nodup → (∀ q q', nameOf ld t q = nameOf ld t q' → ¬ q < ld.tree.length → ¬ q' < ld.tree.length → q = q') →
    s'.env = s.env ∧ s'.box = s.box ∧ s'.fro = s.fro ∧ (s'.tree.map (·.1)).Nodup ∧ (∀ n, n ∈ s'.tree.map (·.1) ↔ n ∈ s.tree.map (·.1) ∨ ∃ q, q ∈ rt.map (·.1) ∧ ¬ q < ld.tree.length ∧ nameOf ld t q = n) ∧
    (∀ q rows, (q, rows) ∈ rt → ¬ q < ld.tree.length → look (nameOf ld t q) s'.tree = some rows ∧ look (nameOf ld t q) s.tree = none ∧ look (nameOf ld t q) s.fro = none ∧ nameOf ld t q < 1000000000) ∧ (∀ n rows, look n s.tree = some rows → look n s'.tree = some rows)
  | [], s, s', h, _, nd, _ => by
    simp only [addTrees] at h; injection h with h; subst h
    exact ⟨rfl, rfl, rfl, nd, (fun n => by simp), (fun q rows h => by cases h), fun n rows h => h⟩
  | (q, rows) :: r, s, s', h, n1, nd, inj => by
    simp only [List.map_cons, List.nodup_cons] at n1
    simp only [addTrees] at h
    by_cases hq : q < ld.tree.length
    · rw [if_pos hq] at h
      obtain ⟨a1, a2, a3, a4, a5, a6, a7⟩ := addTrees_spec h n1.2 nd inj
      refine ⟨a1, a2, a3, a4, fun n => ?_, fun q' rows' hm hq' => ?_, a7⟩
      · rw [a5 n]
        constructor
        · rintro (h | ⟨q', h1, h2, h3⟩)
          · exact .inl h
          · exact .inr ⟨q', by simp only [List.map_cons, List.mem_cons]; exact .inr h1, h2, h3⟩
        · rintro (h | ⟨q', h1, h2, h3⟩)
          · exact .inl h
          · simp only [List.map_cons, List.mem_cons] at h1
            rcases h1 with h1 | h1
            · subst h1; exact absurd hq h2
            · exact .inr ⟨q', h1, h2, h3⟩
      · rcases List.mem_cons.1 hm with hm | hm
        · injection hm with h1 h2; subst h1; exact absurd hq hq'
        · exact a6 q' rows' hm hq'
    · rw [if_neg hq] at h
      obtain ⟨⟨hf, hlt9⟩, h⟩ := grd_eq_some h
      unfold fresh at hf
      rw [Bool.and_eq_true] at hf
      have f1 := isNone_eq hf.1
      have f2 := isNone_eq hf.2
      obtain ⟨a1, a2, a3, a4, a5, a6, a7⟩ := addTrees_spec (s := { s with tree := (nameOf ld t q, rows) :: s.tree }) h n1.2 (by rw [List.map_cons, List.nodup_cons]; exact ⟨look_none f1, nd⟩) inj
      have hself : look (nameOf ld t q) s'.tree = some rows := a7 _ _ (by show look _ ((nameOf ld t q, rows) :: s.tree) = _; simp only [look, if_true])
      refine ⟨a1, a2, a3, a4, fun n => ?_, fun q' rows' hm hq' => ?_, fun n rows' hn => ?_⟩
      · rw [a5 n]
        show n ∈ nameOf ld t q :: s.tree.map (·.1) ∨ _ ↔ _
        simp only [List.map_cons, List.mem_cons]
        constructor
        · rintro ((h | h) | ⟨q', h1, h2, h3⟩)
          · exact .inr ⟨q, .inl rfl, hq, h.symm⟩
          · exact .inl h
          · exact .inr ⟨q', .inr h1, h2, h3⟩
        · rintro (h | ⟨q', h1, h2, h3⟩)
          · exact .inl (.inr h)
          · rcases h1 with h1 | h1
            · subst h1; exact .inl (.inl h3.symm)
            · exact .inr ⟨q', h1, h2, h3⟩
      · rcases List.mem_cons.1 hm with hm | hm
        · injection hm with h1 h2; subst h1; subst h2; exact ⟨hself, f1, f2, hlt9⟩
        · obtain ⟨b1, b2, b3⟩ := a6 q' rows' hm hq'
          refine ⟨b1, ?_, b3⟩
          have b2 : look (nameOf ld t q') ((nameOf ld t q, rows) :: s.tree) = none := b2
          simp only [look] at b2
          split at b2
          · cases b2
          · exact b2
      · refine a7 n rows' ?_
        show look n ((nameOf ld t q, rows) :: s.tree) = _
        simp only [look]
        split
        · rename_i e; rw [e, f1] at hn; cases hn
        · exact hn
theorem backBoxes_spec {ld : Lend} {t : Nat} : ∀ {bs : List Nat} {css : List (List V)} {s s' : S}, backBoxes ld t bs css s = some s' → bs.Nodup → (∀ b ∈ bs, b ∈ s.box.map (·.1)) → (s.box.map (·.1)).Nodup →
    s'.env = s.env ∧ s'.tree = s.tree ∧ s'.fro = s.fro ∧ s'.box.map (·.1) = s.box.map (·.1) ∧ css.length = bs.length ∧ (∀ b cs, (b, cs) ∈ s'.box → (∃ (i : Nat) (cs0 : List V), bs[i]? = some b ∧ css[i]? = some cs0 ∧ backL ld t cs0 = some cs) ∨ (b ∉ bs ∧ (b, cs) ∈ s.box))
  | [], [], s, s', h, _, _, _ => by
    simp only [backBoxes] at h; injection h with h; subst h
    exact ⟨rfl, rfl, rfl, rfl, rfl, fun b cs h => .inr ⟨by simp, h⟩⟩
  | [], _ :: _, s, s', h, _, _, _ => by simp only [backBoxes] at h; cases h
  | _ :: _, [], s, s', h, _, _, _ => by simp only [backBoxes] at h; cases h
  | b :: bs, cs :: css, s, s', h, n1, hb, nb => by
    simp only [backBoxes] at h
    obtain ⟨cs1, h1, h⟩ := bnd_eq_some h
    have n2 := List.nodup_cons.1 n1
    obtain ⟨a1, a2, a3, a4, a5, a6⟩ := backBoxes_spec (s := { s with box := upd b cs1 s.box }) h n2.2 (fun b' hb' => by show b' ∈ (upd b cs1 s.box).map (·.1); rw [upd_keys]; exact hb b' (by simp [hb'])) (by show ((upd b cs1 s.box).map (·.1)).Nodup; rw [upd_keys]; exact nb)
    refine ⟨a1, a2, a3, by rw [a4]; exact upd_keys s.box, by rw [List.length_cons, List.length_cons, a5], fun b' cs' hm => ?_⟩
    rcases a6 b' cs' hm with ⟨i, cs0, e1, e2, e3⟩ | ⟨e1, e2⟩
    · exact .inl ⟨i + 1, cs0, by simpa using e1, by simpa using e2, e3⟩
    · rcases mem_upd nb (show (b', cs') ∈ upd b cs1 s.box from e2) with ⟨e3, e4⟩ | ⟨e3, e4⟩
      · subst e3; subst e4; exact .inl ⟨0, cs, rfl, rfl, h1⟩
      · exact .inr ⟨by simp only [List.mem_cons, not_or]; exact ⟨e3, e1⟩, e4⟩
end Go.Proofs.YtacnbajcignacaaGreat
