/-
  Soundness of the evaluator, twenty-fifth part: the head of a loop, whole.
-/
import Derived.Test.YtacnbajcignacaaGreatSnd24
namespace Go.Proofs.YtacnbajcignacaaGreat
open Go.RowKit
set_option linter.unusedSimpArgs false
set_option linter.unusedVariables false

theorem refs_go {bs : List Nat} : ∀ {cs : List V}, cs.all (refsOk bs) = true → refsOk.go bs cs = true
  | [], _ => rfl
  | c :: r, h => by
    simp only [List.all_cons, Bool.and_eq_true] at h
    simp only [refsOk.go, h.1, refs_go h.2, Bool.and_self]
theorem desc_lt : ∀ {l : List Nat} {a : Nat}, desc (a :: l) = true → ∀ b ∈ l, b < a
  | [], a, _, b, hb => by cases hb
  | x :: r, a, h, b, hb => by
    simp only [desc, Bool.and_eq_true, decide_eq_true_eq] at h
    rcases List.mem_cons.1 hb with hb | hb
    · subst hb; exact h.1
    · exact Nat.lt_trans (desc_lt h.2 b hb) h.1
theorem desc_nodup : ∀ {l : List Nat}, desc l = true → l.Nodup
  | [], _ => List.nodup_nil
  | a :: r, h => by
    refine List.nodup_cons.2 ⟨fun hx => Nat.lt_irrefl _ (desc_lt h a hx), ?_⟩
    cases r with
    | nil => exact List.nodup_nil
    | cons b r => simp only [desc, Bool.and_eq_true] at h; exact desc_nodup h.2
theorem keep_spec {α : Type} {l : List (Nat × α)} : ∀ {ts : List Nat} {r : List (Nat × α)}, mapSome (fun t => bnd (look t l) fun v => some (t, v)) ts = some r → r.map (·.1) = ts ∧ ∀ t v, (t, v) ∈ r → look t l = some v
  | [], r, h => by simp only [mapSome] at h; injection h with h; subst h; exact ⟨rfl, fun t v h => by cases h⟩
  | t :: ts, r, h => by
    simp only [mapSome] at h
    obtain ⟨x, h1, h⟩ := bnd_eq_some h
    obtain ⟨z, h2, h⟩ := bnd_eq_some h
    obtain ⟨v, h3, h1⟩ := bnd_eq_some h1
    injection h with h; subst h
    injection h1 with h1; subst h1
    obtain ⟨k1, k2⟩ := keep_spec h2
    refine ⟨by rw [List.map_cons, k1], fun t' v' hm => ?_⟩
    rcases List.mem_cons.1 hm with hm | hm
    · injection hm with e1 e2; subst e1; subst e2; exact h3
    · exact k2 t' v' hm
theorem ownNil_nil (n t : Nat) (r : List (Nat × V)) : ownNil n ((t, .nil) :: r) = ((t, .own n) :: (ownNil (n + 1) r).1, n :: (ownNil (n + 1) r).2) := rfl
theorem ownNil_other {n t : Nat} {v : V} {r : List (Nat × V)} (h : v ≠ .nil) : ownNil n ((t, v) :: r) = ((t, v) :: (ownNil n r).1, (ownNil n r).2) := by
  cases v <;> first | rfl | exact absurd rfl h
theorem ownNil_spec : ∀ (l : List (Nat × V)) (n : Nat), (ownNil n l).2 = List.range' n (ownNil n l).2.length ∧ ∀ t v, look t (ownNil n l).1 = some v → look t l = some v ∨ (look t l = some .nil ∧ ∃ k ∈ (ownNil n l).2, v = .own k)
  | [], n => ⟨rfl, fun t v h => by cases h⟩
  | (t0, v0) :: r, n => by
    by_cases hv : v0 = .nil
    · subst hv
      obtain ⟨k1, k2⟩ := ownNil_spec r (n + 1)
      rw [ownNil_nil]
      refine ⟨by simp only [List.length_cons, List.range'_succ]; rw [← k1], fun t v h => ?_⟩
      simp only [look] at h ⊢
      by_cases e : t = t0
      · rw [if_pos e] at h ⊢; injection h with h; exact .inr ⟨rfl, n, List.mem_cons_self, h.symm⟩
      · rw [if_neg e] at h ⊢
        rcases k2 t v h with h | ⟨h, k, hk, hv⟩
        · exact .inl h
        · exact .inr ⟨h, k, List.mem_cons_of_mem _ hk, hv⟩
    · obtain ⟨k1, k2⟩ := ownNil_spec r n
      rw [ownNil_other hv]
      refine ⟨k1, fun t v h => ?_⟩
      simp only [look] at h ⊢
      by_cases e : t = t0
      · rw [if_pos e] at h ⊢; exact .inl h
      · rw [if_neg e] at h ⊢; exact k2 t v h
theorem ownNilL_nil (n : Nat) (r : List V) : ownNilL n (.nil :: r) = (.own n :: (ownNilL (n + 1) r).1, n :: (ownNilL (n + 1) r).2) := rfl
theorem ownNilL_other {n : Nat} {v : V} {r : List V} (h : v ≠ .nil) : ownNilL n (v :: r) = (v :: (ownNilL n r).1, (ownNilL n r).2) := by
  cases v <;> first | rfl | exact absurd rfl h
theorem ownNilL_spec : ∀ (l : List V) (n : Nat), (ownNilL n l).2 = List.range' n (ownNilL n l).2.length ∧ (ownNilL n l).1.length = l.length ∧ ∀ (i : Nat) (v : V), (ownNilL n l).1[i]? = some v → l[i]? = some v ∨ (l[i]? = some .nil ∧ ∃ k ∈ (ownNilL n l).2, v = .own k)
  | [], n => ⟨rfl, rfl, fun i v h => by simp [ownNilL] at h⟩
  | v0 :: r, n => by
    by_cases hv : v0 = .nil
    · subst hv
      obtain ⟨k1, k3, k2⟩ := ownNilL_spec r (n + 1)
      rw [ownNilL_nil]
      refine ⟨by simp only [List.length_cons, List.range'_succ]; rw [← k1], by simp only [List.length_cons, k3], fun i v h => ?_⟩
      cases i with
      | zero => simp at h; exact .inr ⟨rfl, n, List.mem_cons_self, h.symm⟩
      | succ i =>
        rcases k2 i v (by simpa using h) with h | ⟨h, k, hk, hv⟩
        · exact .inl (by simpa using h)
        · exact .inr ⟨by simpa using h, k, List.mem_cons_of_mem _ hk, hv⟩
    · obtain ⟨k1, k3, k2⟩ := ownNilL_spec r n
      rw [ownNilL_other hv]
      refine ⟨k1, by simp only [List.length_cons, k3], fun i v h => ?_⟩
      cases i with
      | zero => exact .inl (by simpa using h)
      | succ i => simpa using k2 i v (by simpa using h)
theorem ownNilB_cons (n b : Nat) (cs : List V) (r : List (Nat × List V)) : ownNilB n ((b, cs) :: r) = ((b, (ownNilL n cs).1) :: (ownNilB (n + (ownNilL n cs).2.length) r).1, (ownNilL n cs).2 ++ (ownNilB (n + (ownNilL n cs).2.length) r).2) := rfl
theorem ownNilB_spec : ∀ (l : List (Nat × List V)) (n : Nat), (ownNilB n l).2 = List.range' n (ownNilB n l).2.length ∧ (ownNilB n l).1.map (·.1) = l.map (·.1) ∧ ∀ b cs, (b, cs) ∈ (ownNilB n l).1 → ∃ cs0, (b, cs0) ∈ l ∧ cs.length = cs0.length ∧ ∀ (i : Nat) (v : V), cs[i]? = some v → cs0[i]? = some v ∨ (cs0[i]? = some .nil ∧ ∃ k ∈ (ownNilB n l).2, v = .own k)
  | [], n => ⟨rfl, rfl, fun b cs h => by cases h⟩
  | (b0, cs0) :: r, n => by
    rw [ownNilB_cons]
    obtain ⟨k1, k3, k2⟩ := ownNilL_spec cs0 n
    obtain ⟨m1, m3, m2⟩ := ownNilB_spec r (n + (ownNilL n cs0).2.length)
    refine ⟨?_, by simp only [List.map_cons, m3], fun b cs h => ?_⟩
    · show (ownNilL n cs0).2 ++ (ownNilB (n + (ownNilL n cs0).2.length) r).2 = List.range' n ((ownNilL n cs0).2 ++ (ownNilB (n + (ownNilL n cs0).2.length) r).2).length
      rw [List.length_append, ← List.range'_append_1, ← k1, ← m1]
    · rcases List.mem_cons.1 h with h | h
      · injection h with e1 e2; subst e1; subst e2
        refine ⟨cs0, List.mem_cons_self, k3, fun i v e => (k2 i v e).imp _root_.id fun ⟨h1, k, h2, h3⟩ => ⟨h1, k, List.mem_append_left _ h2, h3⟩⟩
      · obtain ⟨cs1, h1, h2, h3⟩ := m2 b cs h
        exact ⟨cs1, List.mem_cons_of_mem _ h1, h2, fun i v e => (h3 i v e).imp _root_.id fun ⟨h1, k, h2, h3⟩ => ⟨h1, k, List.mem_append_right _ h2, h3⟩⟩
theorem metIn_spec {tree : List (Nat × List (List D))} : ∀ {l : List Nat} {i : Nat}, (∀ x ∈ metIn tree l i, (x.2.1 = x.1 ∧ 1000000000 ≤ x.1 ∧ x.1 < 2000000000) ∨ 2000000000 + i ≤ x.2.1) ∧ (∀ x ∈ metIn tree l i, look x.1 tree = some x.2.2 ∧ x.1 ∈ l) ∧ (∀ p ∈ l, p ∈ tree.map (·.1) → p ∈ (metIn tree l i).map (·.1)) ∧ (l.Nodup → ((metIn tree l i).map (·.1)).Nodup ∧ ((metIn tree l i).map (·.2.1)).Nodup)
  | [], i => ⟨(fun x h => by cases h), (fun x h => by cases h), (fun p h => by cases h), fun _ => ⟨List.nodup_nil, List.nodup_nil⟩⟩
  | p :: r, i => by
    simp only [metIn]
    cases e : look p tree with
    | some rows =>
      simp only [metOne]
      by_cases hp : 1000000000 ≤ p ∧ p < 2000000000
      · obtain ⟨k1, k2, k3, k4⟩ := metIn_spec (tree := tree) (l := r) (i := i)
        rw [if_pos hp]
        refine ⟨fun x hx => ?_, fun x hx => ?_, fun q hq hin => ?_, fun n => ?_⟩
        · rcases List.mem_cons.1 hx with hx | hx
          · subst hx; exact .inl ⟨rfl, hp⟩
          · exact k1 x hx
        · rcases List.mem_cons.1 hx with hx | hx
          · subst hx; exact ⟨e, List.mem_cons_self⟩
          · exact ⟨(k2 x hx).1, List.mem_cons_of_mem _ (k2 x hx).2⟩
        · rw [List.map_cons]
          rcases List.mem_cons.1 hq with hq | hq
          · subst hq; exact List.mem_cons_self
          · exact List.mem_cons_of_mem _ (k3 q hq hin)
        · have n2 := List.nodup_cons.1 n
          rw [List.map_cons, List.map_cons]
          refine ⟨List.nodup_cons.2 ⟨fun hx => ?_, (k4 n2.2).1⟩, List.nodup_cons.2 ⟨fun hx => ?_, (k4 n2.2).2⟩⟩
          · obtain ⟨x, hx, e2⟩ := List.mem_map.1 hx
            have := (k2 x hx).2
            rw [e2] at this; exact n2.1 this
          · obtain ⟨x, hx, e2⟩ := List.mem_map.1 hx
            have e2 : x.2.1 = p := e2
            rcases k1 x hx with h | h
            · have := (k2 x hx).2
              rw [← h.1, e2] at this; exact n2.1 this
            · omega
      · obtain ⟨k1, k2, k3, k4⟩ := metIn_spec (tree := tree) (l := r) (i := i + 1)
        rw [if_neg hp]
        refine ⟨fun x hx => ?_, fun x hx => ?_, fun q hq hin => ?_, fun n => ?_⟩
        · rcases List.mem_cons.1 hx with hx | hx
          · subst hx; exact .inr (Nat.le_refl _)
          · exact (k1 x hx).imp _root_.id fun h => by omega
        · rcases List.mem_cons.1 hx with hx | hx
          · subst hx; exact ⟨e, List.mem_cons_self⟩
          · exact ⟨(k2 x hx).1, List.mem_cons_of_mem _ (k2 x hx).2⟩
        · rw [List.map_cons]
          rcases List.mem_cons.1 hq with hq | hq
          · subst hq; exact List.mem_cons_self
          · exact List.mem_cons_of_mem _ (k3 q hq hin)
        · have n2 := List.nodup_cons.1 n
          rw [List.map_cons, List.map_cons]
          refine ⟨List.nodup_cons.2 ⟨fun hx => ?_, (k4 n2.2).1⟩, List.nodup_cons.2 ⟨fun hx => ?_, (k4 n2.2).2⟩⟩
          · obtain ⟨x, hx, e2⟩ := List.mem_map.1 hx
            have := (k2 x hx).2
            rw [e2] at this; exact n2.1 this
          · obtain ⟨x, hx, e2⟩ := List.mem_map.1 hx
            have e2 : x.2.1 = 2000000000 + i := e2
            rcases k1 x hx with h | h <;> omega
    | none =>
      obtain ⟨k1, k2, k3, k4⟩ := metIn_spec (tree := tree) (l := r) (i := i)
      simp only [metOne]
      refine ⟨k1, fun x hx => ⟨(k2 x hx).1, List.mem_cons_of_mem _ (k2 x hx).2⟩, fun q hq hin => ?_, fun n => k4 (List.nodup_cons.1 n).2⟩
      rcases List.mem_cons.1 hq with hq | hq
      · subst hq; obtain ⟨x, hx⟩ := key_look.1 hin; rw [e] at hx; cases hx
      · exact k3 q hq hin
section
variable {c : Ctx} {s : S} {y : Lay} {a : Act} {w : World}
/-- new names for the lists -/
theorem At.rename (A : At c s y a w) {m : List (Nat × Nat × List (List D))} (h1 : (m.map (·.2.1)).Nodup) (h2 : ∀ x ∈ m, look x.1 s.tree = some x.2.2) (h3 : (m.map (·.1)).Nodup) (h4 : ∀ x ∈ m, x.2.1 ∉ s.fro.map (·.1)) (h5 : ∀ x ∈ m, 2 * parBase ≤ x.2.1 ∨ x.2.1 = x.1)
    (hE : ∀ t v, look t s.env = some v → ∀ p, mentions p v = true → p ∈ s.tree.map (·.1) → p ∈ m.map (·.1)) (hB : ∀ b cs, (b, cs) ∈ s.box → ∀ p, mentions.any p cs = true → p ∈ s.tree.map (·.1) → p ∈ m.map (·.1)) : Good c (S.head2 m s.env s.box s.fro) a w := by
  let inv : List (Nat × Nat) := m.map fun x => (x.2.1, x.1)
  let mp : List (Nat × Nat) := m.map fun x => (x.1, x.2.1)
  have kinv : inv.map (·.1) = m.map (·.2.1) := by show (m.map _).map _ = _; rw [List.map_map]; rfl
  have kmp : mp.map (·.1) = m.map (·.1) := by show (m.map _).map _ = _; rw [List.map_map]; rfl
  have linv : ∀ x ∈ m, look x.2.1 inv = some x.1 := fun x hx => look_of_mem (by rw [kinv]; exact h1) (List.mem_map.2 ⟨x, hx, rfl⟩)
  have lmp : ∀ x ∈ m, look x.1 mp = some x.2.1 := fun x hx => look_of_mem (by rw [kmp]; exact h3) (List.mem_map.2 ⟨x, hx, rfl⟩)
  let y2 : Lay := { y with hd := fun n => match look n inv with | some p => y.hd p | none => y.hd n }
  have hd_new : ∀ x ∈ m, y2.hd x.2.1 = y.hd x.1 := fun x hx => by show (match look x.2.1 inv with | some p => y.hd p | none => y.hd x.2.1) = _; rw [linv x hx]
  have hd_old : ∀ n, n ∉ m.map (·.2.1) → y2.hd n = y.hd n := fun n hn => by
    show (match look n inv with | some p => y.hd p | none => y.hd n) = _
    cases e : look n inv with
    | none => rfl
    | some p => exact absurd (by rw [← kinv]; exact key_look.2 ⟨p, e⟩) hn
  have fro_not : ∀ n, n ∈ s.fro.map (·.1) → n ∉ m.map (·.2.1) := fun n hn hx => by
    obtain ⟨x, hx7, rfl⟩ := List.mem_map.1 hx
    exact h4 x hx7 hn
  have An := A.nt
  rw [List.map_append, List.nodup_append] at An
  have ktree : ((m.map (·.2)).reverse).map (·.1) = (m.map (·.2.1)).reverse := by rw [List.map_reverse, List.map_map]; rfl
  have ht : ∀ p, (p ∈ s.tree.map (·.1) → p ∈ m.map (·.1)) → (relOf c s y).Lt p → (relOf c (S.head2 m s.env s.box s.fro) y2).Lt (ren mp p) ∧ (relOf c (S.head2 m s.env s.box s.fro) y2).hd (ren mp p) = (relOf c s y).hd p := by
    intro p hp hin
    have hin : p ∈ (s.tree ++ s.fro).map (·.1) := hin
    rw [List.map_append, List.mem_append] at hin
    by_cases hm : p ∈ m.map (·.1)
    · obtain ⟨x, hx, rfl⟩ := List.mem_map.1 hm
      have e : ren mp x.1 = x.2.1 := by unfold ren; rw [lmp x hx]; rfl
      rw [e]
      refine ⟨?_, hd_new x hx⟩
      show x.2.1 ∈ ((m.map (·.2)).reverse ++ s.fro).map (·.1)
      rw [List.map_append, ktree, List.mem_append, List.mem_reverse]
      exact .inl (List.mem_map.2 ⟨x, hx, rfl⟩)
    · have e : ren mp p = p := by
        unfold ren
        cases e : look p mp with
        | none => rfl
        | some q => exact absurd (by rw [← kmp]; exact key_look.2 ⟨q, e⟩) hm
      rw [e]
      have hf : p ∈ s.fro.map (·.1) := hin.resolve_left fun h => hm (hp h)
      refine ⟨?_, hd_old p (fro_not p hf)⟩
      show p ∈ ((m.map (·.2)).reverse ++ s.fro).map (·.1)
      rw [List.map_append, List.mem_append]; exact .inr hf
  have hb : ∀ b, (relOf c s y).Lb b → (relOf c (S.head2 m s.env s.box s.fro) y2).Lb b ∧ (relOf c (S.head2 m s.env s.box s.fro) y2).bl b = (relOf c s y).bl b := fun b h => ⟨by
    show b ∈ (s.box.map fun x => (x.1, renL mp x.2)).map (·.1)
    rw [List.map_map]; exact h, rfl⟩
  have kbox : (s.box.map fun x => (x.1, renL mp x.2)).map (·.1) = s.box.map (·.1) := by rw [List.map_map]; rfl
  refine ⟨y2, A.defers, A.size, ?_, fun t v e => ?_, fun b cs h => ?_, fun p rows hp => ?_, by show ((s.box.map fun x => (x.1, renL mp x.2)).map (·.1)).Nodup; rw [kbox]; exact A.nb, ?_, A.fix.1, fun i g1 g2 => ⟨(A.fix.2 i g1 g2).1, Eq.trans ?_ (A.fix.2 i g1 g2).2⟩⟩
  · show St c.W w (boxPs y.bl y.T y.us (s.box.map fun x => (x.1, renL mp x.2)) ++ (treePs y2.hd (m.map (·.2)).reverse ++ (froPs y.w0 y.F s.fro ++ c.L)))
    rw [boxPs_keys, kbox, ← boxPs_keys]
    have e2 : treePs y2.hd (m.map (·.2)).reverse = ((m.map (·.1)).map fun p => ownP (y.hd p) ((look p s.tree).getD [])).reverse := by
      unfold treePs
      rw [List.map_reverse, List.map_map, List.map_map]
      congr 1
      refine List.map_congr_left fun x hx => ?_
      simp only [Function.comp]
      rw [hd_new x hx, h2 x hx]; rfl
    rw [e2]
    have p := (minus_perm An.1 h3 (fun q hq => by obtain ⟨x, hx, rfl⟩ := List.mem_map.1 hq; exact key_look.2 ⟨_, h2 x hx⟩)).map fun p => ownP (y.hd p) ((look p s.tree).getD [])
    rw [← treePs_keys _ An.1, List.map_append] at p
    have S1 := A.st.perm (List.Perm.append_left _ (List.Perm.append_right _ (p.trans (List.Perm.append_right _ (List.reverse_perm _).symm))))
    have q := perm5 (boxPs y.bl y.T y.us s.box) [] ((m.map (·.1)).map fun p => ownP (y.hd p) ((look p s.tree).getD [])).reverse (((s.tree.map (·.1)).filter fun k => !(m.map (·.1)).contains k).map fun p => ownP (y.hd p) ((look p s.tree).getD [])) (froPs y.w0 y.F s.fro ++ c.L)
    simp only [List.append_nil, List.nil_append] at q
    have S2 := S1.perm q
    have q2 : ∀ (X Y Z W : List Pc), (X ++ (Y ++ (Z ++ W))).Perm (Z ++ (X ++ (Y ++ W))) := by
      intro X Y Z W
      rw [← List.append_assoc X Y, ← List.append_assoc X Y, ← List.append_assoc (X ++ Y), ← List.append_assoc Z]
      exact List.Perm.append_right _ List.perm_append_comm
    exact St.dropL (S2.perm (q2 _ _ _ _))
  · have e : look t (s.env.map fun x => (x.1, renV mp x.2)) = some v := e
    have : ∀ (l : List (Nat × V)), look t (l.map fun x => (x.1, renV mp x.2)) = (look t l).map (renV mp) := by
      intro l; induction l with
      | nil => rfl
      | cons x l ih =>
        simp only [List.map_cons, look]
        by_cases ht : t = x.1
        · rw [if_pos ht, if_pos ht]; rfl
        · rw [if_neg ht, if_neg ht]; exact ih
    rw [this] at e
    obtain ⟨v0, e1, rfl⟩ := Option.map_eq_some_iff.1 e
    exact RV.ren (ρ := relOf c s y) (ρ' := relOf c (S.head2 m s.env s.box s.fro) y2) rfl rfl rfl hb (fun p hp hin => ht p (hE t v0 e1 p hp) hin) (A.env t v0 e1)
  · obtain ⟨x, hx, e⟩ := List.mem_map.1 (show (b, cs) ∈ s.box.map fun x => (x.1, renL mp x.2) from h)
    injection e with e1 e2; subst e1; subst e2
    exact RVs.ren (ρ := relOf c s y) (ρ' := relOf c (S.head2 m s.env s.box s.fro) y2) rfl rfl rfl hb (fun p hp hin => ht p (hB x.1 x.2 hx p hp) hin) (A.box x.1 x.2 hx)
  · have hp : (p, rows) ∈ s.fro := hp
    have e := hd_old p (fro_not p (List.mem_map.2 ⟨_, hp, rfl⟩))
    show OwnD (y.w0 p) _ (y2.hd p) (y.F p)
    rw [e]; exact A.fro p rows hp
  · show (((m.map (·.2)).reverse ++ s.fro).map (·.1)).Nodup
    rw [List.map_append, ktree, List.nodup_append]
    refine ⟨(List.reverse_perm _).nodup_iff.2 h1, An.2.1, fun x hx z hz e => ?_⟩
    subst e
    exact fro_not x hz (List.mem_reverse.1 hx)
  · by_cases hx : i ∈ m.map (·.2.1)
    · obtain ⟨x, hx7, rfl⟩ := List.mem_map.1 hx
      rcases h5 x hx7 with h | h
      · omega
      · rw [hd_new x hx7, h]
    · exact hd_old i hx
theorem met_env {l : List (Nat × V)} {t : Nat} {v : V} (h : look t l = some v) {p : Nat} (hp : mentions p v = true) : mentions.any p (l.map (·.2)) = true := by
  induction l with
  | nil => cases h
  | cons x l ih =>
    simp only [look] at h
    simp only [List.map_cons, mentions.any, Bool.or_eq_true]
    split at h
    · injection h with h; rw [h]; exact .inl hp
    · exact .inr (ih h)
theorem any_append {p : Nat} : ∀ {l r : List V}, mentions.any p (l ++ r) = (mentions.any p l || mentions.any p r)
  | [], r => by simp [mentions.any]
  | v :: l, r => by simp only [List.cons_append, mentions.any, any_append, Bool.or_assoc]
theorem met_box {l : List (Nat × List V)} {b : Nat} {cs : List V} (h : (b, cs) ∈ l) {p : Nat} (hp : mentions.any p cs = true) : mentions.any p (l.flatMap (·.2)) = true := by
  induction l with
  | nil => cases h
  | cons x l ih =>
    rw [List.flatMap_cons, any_append, Bool.or_eq_true]
    rcases List.mem_cons.1 h with h | h
    · subst h; exact .inl hp
    · exact .inr (ih h)
theorem head_sound {ts bs : List Nat} {s' : S} (h : s.head ts bs = some s') (g : Good c s a w) : Good c s' a w := by
  unfold S.head at h
  obtain ⟨env, h1, h⟩ := bnd_eq_some h
  obtain ⟨box, h2, h⟩ := bnd_eq_some h
  obtain ⟨h3, h⟩ := grd_eq_some h
  injection h with h; subst h
  simp only [Bool.and_eq_true, decide_eq_true_eq] at h3
  obtain ⟨⟨⟨⟨⟨⟨d1, d2⟩, d3⟩, d4⟩, d5⟩, d6⟩, d7⟩ := h3
  obtain ⟨k1, k2⟩ := keep_spec h1
  obtain ⟨m1, m2⟩ := keep_spec h2
  obtain ⟨y, A⟩ := g
  have A1 : At c { s with env := env, box := box } y a w := A.restrict (bs := bs) (fun t v e => ⟨k2 t v (look_mem e), List.all_eq_true.1 d3 _ (look_mem e)⟩) (fun b cs hb => ⟨look_mem (m2 b cs hb), refs_go (List.all_eq_true.1 d4 _ hb)⟩) m1 (desc_nodup d2)
  obtain ⟨e1, e2⟩ := ownNil_spec env 3000000000
  obtain ⟨f1, f3, f2⟩ := ownNilB_spec box (3000000000 + (ownNil 3000000000 env).2.length)
  generalize hE : ownNil 3000000000 env = E at *
  generalize hBx : ownNilB (3000000000 + E.2.length) box = B at *
  have hps : E.2 ++ B.2 = List.range' 3000000000 (E.2.length + B.2.length) := by
    rw [← List.range'_append_1, ← e1, ← f1]
  have hge : ∀ k ∈ E.2 ++ B.2, 3000000000 ≤ k := fun k hk => by rw [hps, List.mem_range'_1] at hk; exact hk.1
  have hlow : ∀ k, k ∈ (s.tree ++ s.fro).map (·.1) → k < 3000000000 := by
    intro k hk
    rw [List.map_append, List.mem_append] at hk
    rcases hk with hk | hk
    · obtain ⟨x, hx, rfl⟩ := List.mem_map.1 hk
      have := List.all_eq_true.1 d5 x hx
      simpa using this
    · obtain ⟨x, hx, rfl⟩ := List.mem_map.1 hk
      have := List.all_eq_true.1 d6 x hx
      simp at this; omega
  have g2 : Good c { env := E.1, box := B.1, tree := s.tree ++ (E.2 ++ B.2).map (fun p => (p, [])), fro := s.fro } a w :=
    A1.nils (ps := E.2 ++ B.2) (by rw [hps]; exact List.nodup_range') (fun k hk hin => by have := hge k hk; have := hlow k hin; omega) (fun k hk => by have := hge k hk; unfold parBase; omega)
      (fun t v e => (e2 t v e).imp _root_.id fun ⟨q1, k, q2, q3⟩ => ⟨q1, k, List.mem_append_left _ q2, q3⟩) f3
      (fun b cs hb => by
        obtain ⟨cs0, q1, q2, q3⟩ := f2 b cs hb
        exact ⟨cs0, q1, q2, fun i v e => (q3 i v e).imp _root_.id fun ⟨r1, k, r2, r3⟩ => ⟨r1, k, List.mem_append_right _ r2, r3⟩⟩)
  obtain ⟨y2, A2⟩ := g2
  unfold S.head1
  obtain ⟨a1, a2, a3⟩ := metL_sub [] (E.1.map (·.2))
  obtain ⟨b1, b2, b3⟩ := metL_sub (metL [] (E.1.map (·.2))) (B.1.flatMap (·.2))
  obtain ⟨n1, n2, n3, n4⟩ := metIn_spec (tree := s.tree ++ (E.2 ++ B.2).map (fun p => (p, []))) (l := metL (metL [] (E.1.map (·.2))) (B.1.flatMap (·.2))) (i := 1000 * s.fro.length)
  generalize hM : metIn (s.tree ++ (E.2 ++ B.2).map (fun p => (p, []))) (metL (metL [] (E.1.map (·.2))) (B.1.flatMap (·.2))) (1000 * s.fro.length) = M at *
  have An := A2.nt
  rw [List.map_append, List.nodup_append] at An
  have nn := n4 (b3 (a3 List.nodup_nil))
  exact A2.rename (m := M) nn.2 (fun x hx => (n2 x hx).1) nn.1 (fun x hx hf => by
      rcases n1 x hx with h7 | h7
      · rw [h7.1] at hf
        exact An.2.2 x.1 (key_look.2 ⟨_, (n2 x hx).1⟩) x.1 hf rfl
      · obtain ⟨z, hz, e⟩ := List.mem_map.1 hf
        have := List.all_eq_true.1 d6 z hz
        rw [← e] at h7
        simp at this; omega) (fun x hx => (n1 x hx).elim (fun h => .inr h.1) fun h => .inl (by unfold parBase; omega))
    (fun t v e p hp hpt => n3 p (b1 p (a2 p (met_env e hp))) hpt) (fun b cs hb p hp hpt => n3 p (b2 p (met_box hb hp)) hpt)
theorem marks_ok (gh : Ghost) : MarksOk gh := by
  refine ⟨fun c id s s' h a w g => ?_, fun c id s s' h a w g => reg_sound h g⟩
  unfold Ghost.head headAt at h
  split at h
  · exact head_sound h g
  · injection h with h; subst h; exact g
end
end Go.Proofs.YtacnbajcignacaaGreat
