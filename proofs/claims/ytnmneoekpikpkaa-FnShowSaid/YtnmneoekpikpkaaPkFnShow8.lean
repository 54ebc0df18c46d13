/- Part 8 of a proof in several texts (an abstract evaluator, what the functions compute). -/
import Derived.Test.YtnmneoekpikpkaaPkFnShow7
import Derived.Test.YtnmneoekpikpkaaProg
namespace Go.Proofs.Ytnmneoekpikpkaa
open Go.RowKit
set_option linter.unusedSimpArgs false
set_option linter.unusedVariables false
theorem refs_go {bs : List Nat} : ∀ {cs : List V}, cs.all (refsOk bs) = true → refsOk.go bs cs = true
  | [], _ => rfl
  | c :: r, h => by
    simp only [List.all_cons, Bool.and_eq_true] at h
    simp only [refsOk.go, h.1, refs_go h.2, Bool.and_self]
theorem desc_lt : ∀ {l : List Nat} {a : Nat}, desc (a :: l) = true → ∀ b ∈ l, b < a
  | [], a, _, b, hb => by cases hb
  | x :: r, a, h, b, hb => by
    simp only [desc, Bool.and_eq_true, decide_eq_true_eq] at h
    rcases List.mem_cons.1 hb with hb | hb
    · subst hb; exact h.1
    · exact Nat.lt_trans (desc_lt h.2 b hb) h.1
theorem desc_nodup : ∀ {l : List Nat}, desc l = true → l.Nodup
  | [], _ => List.nodup_nil
  | a :: r, h => by
    refine List.nodup_cons.2 ⟨fun hx => Nat.lt_irrefl _ (desc_lt h a hx), ?_⟩
    cases r with
    | nil => exact List.nodup_nil
    | cons b r => simp only [desc, Bool.and_eq_true] at h; exact desc_nodup h.2
theorem keep_spec {α : Type} {l : List (Nat × α)} : ∀ {ts : List Nat} {r : List (Nat × α)}, mapSome (fun t => bnd (look t l) fun v => some (t, v)) ts = some r → r.map (·.1) = ts ∧ ∀ t v, (t, v) ∈ r → look t l = some v
  | [], r, h => by simp only [mapSome] at h; injection h with h; subst h; exact ⟨rfl, fun t v h => by cases h⟩
  | t :: ts, r, h => by
    simp only [mapSome] at h
    obtain ⟨x, h1, h⟩ := bnd_eq_some h
    obtain ⟨z, h2, h⟩ := bnd_eq_some h
    obtain ⟨v, h3, h1⟩ := bnd_eq_some h1
    injection h with h; subst h
    injection h1 with h1; subst h1
    obtain ⟨k1, k2⟩ := keep_spec h2
    refine ⟨by rw [List.map_cons, k1], fun t' v' hm => ?_⟩
    rcases List.mem_cons.1 hm with hm | hm
    · injection hm with e1 e2; subst e1; subst e2; exact h3
    · exact k2 t' v' hm
theorem ownNil_nil (n t : Nat) (r : List (Nat × V)) : ownNil n ((t, .nil) :: r) = ((t, .own n) :: (ownNil (n + 1) r).1, n :: (ownNil (n + 1) r).2) := rfl
theorem ownNil_other {n t : Nat} {v : V} {r : List (Nat × V)} (h : v ≠ .nil) : ownNil n ((t, v) :: r) = ((t, v) :: (ownNil n r).1, (ownNil n r).2) := by
  cases v <;> first | rfl | exact absurd rfl h
theorem ownNil_spec : ∀ (l : List (Nat × V)) (n : Nat), (ownNil n l).2 = List.range' n (ownNil n l).2.length ∧ ∀ t v, look t (ownNil n l).1 = some v → look t l = some v ∨ (look t l = some .nil ∧ ∃ k ∈ (ownNil n l).2, v = .own k)
  | [], n => ⟨rfl, fun t v h => by cases h⟩
  | (t0, v0) :: r, n => by
    by_cases hv : v0 = .nil
    · subst hv
      obtain ⟨k1, k2⟩ := ownNil_spec r (n + 1)
      rw [ownNil_nil]
      refine ⟨by simp only [List.length_cons, List.range'_succ]; rw [← k1], fun t v h => ?_⟩
      simp only [look] at h ⊢
      by_cases e : t = t0
      · rw [if_pos e] at h ⊢; injection h with h; exact .inr ⟨rfl, n, List.mem_cons_self, h.symm⟩
      · rw [if_neg e] at h ⊢
        rcases k2 t v h with h | ⟨h, k, hk, hv⟩
        · exact .inl h
        · exact .inr ⟨h, k, List.mem_cons_of_mem _ hk, hv⟩
    · obtain ⟨k1, k2⟩ := ownNil_spec r n
      rw [ownNil_other hv]
      refine ⟨k1, fun t v h => ?_⟩
      simp only [look] at h ⊢
      by_cases e : t = t0
      · rw [if_pos e] at h ⊢; exact .inl h
      · rw [if_neg e] at h ⊢; exact k2 t v h
theorem ownNilL_nil (n : Nat) (r : List V) : ownNilL n (.nil :: r) = (.own n :: (ownNilL (n + 1) r).1, n :: (ownNilL (n + 1) r).2) := rfl
theorem ownNilL_other {n : Nat} {v : V} {r : List V} (h : v ≠ .nil) : ownNilL n (v :: r) = (v :: (ownNilL n r).1, (ownNilL n r).2) := by
  cases v <;> first | rfl | exact absurd rfl h
theorem ownNilL_spec : ∀ (l : List V) (n : Nat), (ownNilL n l).2 = List.range' n (ownNilL n l).2.length ∧ (ownNilL n l).1.length = l.length ∧ ∀ (i : Nat) (v : V), (ownNilL n l).1[i]? = some v → l[i]? = some v ∨ (l[i]? = some .nil ∧ ∃ k ∈ (ownNilL n l).2, v = .own k)
  | [], n => ⟨rfl, rfl, fun i v h => by simp [ownNilL] at h⟩
  | v0 :: r, n => by
    by_cases hv : v0 = .nil
    · subst hv
      obtain ⟨k1, k3, k2⟩ := ownNilL_spec r (n + 1)
      rw [ownNilL_nil]
      refine ⟨by simp only [List.length_cons, List.range'_succ]; rw [← k1], by simp only [List.length_cons, k3], fun i v h => ?_⟩
      cases i with
      | zero => simp at h; exact .inr ⟨rfl, n, List.mem_cons_self, h.symm⟩
      | succ i =>
        rcases k2 i v (by simpa using h) with h | ⟨h, k, hk, hv⟩
        · exact .inl (by simpa using h)
        · exact .inr ⟨by simpa using h, k, List.mem_cons_of_mem _ hk, hv⟩
    · obtain ⟨k1, k3, k2⟩ := ownNilL_spec r n
      rw [ownNilL_other hv]
      refine ⟨k1, by simp only [List.length_cons, k3], fun i v h => ?_⟩
      cases i with
      | zero => exact .inl (by simpa using h)
      | succ i => simpa using k2 i v (by simpa using h)
theorem ownNilB_cons (n b : Nat) (cs : List V) (r : List (Nat × List V)) : ownNilB n ((b, cs) :: r) = ((b, (ownNilL n cs).1) :: (ownNilB (n + (ownNilL n cs).2.length) r).1, (ownNilL n cs).2 ++ (ownNilB (n + (ownNilL n cs).2.length) r).2) := rfl
theorem ownNilB_spec : ∀ (l : List (Nat × List V)) (n : Nat), (ownNilB n l).2 = List.range' n (ownNilB n l).2.length ∧ (ownNilB n l).1.map (·.1) = l.map (·.1) ∧ ∀ b cs, (b, cs) ∈ (ownNilB n l).1 → ∃ cs0, (b, cs0) ∈ l ∧ cs.length = cs0.length ∧ ∀ (i : Nat) (v : V), cs[i]? = some v → cs0[i]? = some v ∨ (cs0[i]? = some .nil ∧ ∃ k ∈ (ownNilB n l).2, v = .own k)
  | [], n => ⟨rfl, rfl, fun b cs h => by cases h⟩
  | (b0, cs0) :: r, n => by
    rw [ownNilB_cons]
    obtain ⟨k1, k3, k2⟩ := ownNilL_spec cs0 n
    obtain ⟨m1, m3, m2⟩ := ownNilB_spec r (n + (ownNilL n cs0).2.length)
    refine ⟨?_, by simp only [List.map_cons, m3], fun b cs h => ?_⟩
    · show (ownNilL n cs0).2 ++ (ownNilB (n + (ownNilL n cs0).2.length) r).2 = List.range' n ((ownNilL n cs0).2 ++ (ownNilB (n + (ownNilL n cs0).2.length) r).2).length
      rw [List.length_append, ← List.range'_append_1, ← k1, ← m1]
    · rcases List.mem_cons.1 h with h | h
      · injection h with e1 e2; subst e1; subst e2
        refine ⟨cs0, List.mem_cons_self, k3, fun i v e => (k2 i v e).imp _root_.id fun ⟨h1, k, h2, h3⟩ => ⟨h1, k, List.mem_append_left _ h2, h3⟩⟩
      · obtain ⟨cs1, h1, h2, h3⟩ := m2 b cs h
        exact ⟨cs1, List.mem_cons_of_mem _ h1, h2, fun i v e => (h3 i v e).imp _root_.id fun ⟨h1, k, h2, h3⟩ => ⟨h1, k, List.mem_append_right _ h2, h3⟩⟩
theorem metIn_spec {tree : List (Nat × List (List D))} : ∀ {l : List Nat} {i : Nat}, (∀ x ∈ metIn tree l i, (x.2.1 = x.1 ∧ 1000000000 ≤ x.1 ∧ x.1 < 2000000000) ∨ 2000000000 + i ≤ x.2.1) ∧ (∀ x ∈ metIn tree l i, look x.1 tree = some x.2.2 ∧ x.1 ∈ l) ∧ (∀ p ∈ l, p ∈ tree.map (·.1) → p ∈ (metIn tree l i).map (·.1)) ∧ (l.Nodup → ((metIn tree l i).map (·.1)).Nodup ∧ ((metIn tree l i).map (·.2.1)).Nodup)
  | [], i => ⟨(fun x h => by cases h), (fun x h => by cases h), (fun p h => by cases h), fun _ => ⟨List.nodup_nil, List.nodup_nil⟩⟩
  | p :: r, i => by
    simp only [metIn]
    cases e : look p tree with
    | some rows =>
      simp only [metOne]
      by_cases hp : 1000000000 ≤ p ∧ p < 2000000000
      · obtain ⟨k1, k2, k3, k4⟩ := metIn_spec (tree := tree) (l := r) (i := i)
        rw [if_pos hp]
        refine ⟨fun x hx => ?_, fun x hx => ?_, fun q hq hin => ?_, fun n => ?_⟩
        · rcases List.mem_cons.1 hx with hx | hx
          · subst hx; exact .inl ⟨rfl, hp⟩
          · exact k1 x hx
        · rcases List.mem_cons.1 hx with hx | hx
          · subst hx; exact ⟨e, List.mem_cons_self⟩
          · exact ⟨(k2 x hx).1, List.mem_cons_of_mem _ (k2 x hx).2⟩
        · rw [List.map_cons]
          rcases List.mem_cons.1 hq with hq | hq
          · subst hq; exact List.mem_cons_self
          · exact List.mem_cons_of_mem _ (k3 q hq hin)
        · have n2 := List.nodup_cons.1 n
          rw [List.map_cons, List.map_cons]
          refine ⟨List.nodup_cons.2 ⟨fun hx => ?_, (k4 n2.2).1⟩, List.nodup_cons.2 ⟨fun hx => ?_, (k4 n2.2).2⟩⟩
          · obtain ⟨x, hx, e2⟩ := List.mem_map.1 hx
            have := (k2 x hx).2
            rw [e2] at this; exact n2.1 this
          · obtain ⟨x, hx, e2⟩ := List.mem_map.1 hx
            have e2 : x.2.1 = p := e2
            rcases k1 x hx with h | h
            · have := (k2 x hx).2
              rw [← h.1, e2] at this; exact n2.1 this
            · omega
      · obtain ⟨k1, k2, k3, k4⟩ := metIn_spec (tree := tree) (l := r) (i := i + 1)
        rw [if_neg hp]
        refine ⟨fun x hx => ?_, fun x hx => ?_, fun q hq hin => ?_, fun n => ?_⟩
        · rcases List.mem_cons.1 hx with hx | hx
          · subst hx; exact .inr (Nat.le_refl _)
          · exact (k1 x hx).imp _root_.id fun h => by omega
        · rcases List.mem_cons.1 hx with hx | hx
          · subst hx; exact ⟨e, List.mem_cons_self⟩
          · exact ⟨(k2 x hx).1, List.mem_cons_of_mem _ (k2 x hx).2⟩
        · rw [List.map_cons]
          rcases List.mem_cons.1 hq with hq | hq
          · subst hq; exact List.mem_cons_self
          · exact List.mem_cons_of_mem _ (k3 q hq hin)
        · have n2 := List.nodup_cons.1 n
          rw [List.map_cons, List.map_cons]
          refine ⟨List.nodup_cons.2 ⟨fun hx => ?_, (k4 n2.2).1⟩, List.nodup_cons.2 ⟨fun hx => ?_, (k4 n2.2).2⟩⟩
          · obtain ⟨x, hx, e2⟩ := List.mem_map.1 hx
            have := (k2 x hx).2
            rw [e2] at this; exact n2.1 this
          · obtain ⟨x, hx, e2⟩ := List.mem_map.1 hx
            have e2 : x.2.1 = 2000000000 + i := e2
            rcases k1 x hx with h | h <;> omega
    | none =>
      obtain ⟨k1, k2, k3, k4⟩ := metIn_spec (tree := tree) (l := r) (i := i)
      simp only [metOne]
      refine ⟨k1, fun x hx => ⟨(k2 x hx).1, List.mem_cons_of_mem _ (k2 x hx).2⟩, fun q hq hin => ?_, fun n => k4 (List.nodup_cons.1 n).2⟩
      rcases List.mem_cons.1 hq with hq | hq
      · subst hq; obtain ⟨x, hx⟩ := key_look.1 hin; rw [e] at hx; cases hx
      · exact k3 q hq hin
section
variable {c : Ctx} {s : S} {y : Lay} {a : Act} {w : World}
theorem At.rename (A : At c s y a w) {m : List (Nat × Nat × List (List D))} (h1 : (m.map (·.2.1)).Nodup) (h2 : ∀ x ∈ m, look x.1 s.tree = some x.2.2) (h3 : (m.map (·.1)).Nodup) (h4 : ∀ x ∈ m, x.2.1 ∉ s.fro.map (·.1)) (h5 : ∀ x ∈ m, 2 * parBase ≤ x.2.1 ∨ x.2.1 = x.1)
    (hE : ∀ t v, look t s.env = some v → ∀ p, mentions p v = true → p ∈ s.tree.map (·.1) → p ∈ m.map (·.1)) (hB : ∀ b cs, (b, cs) ∈ s.box → ∀ p, mentions.any p cs = true → p ∈ s.tree.map (·.1) → p ∈ m.map (·.1)) : Good c (S.head2 m s.env s.box s.fro) a w := by
  let inv : List (Nat × Nat) := m.map fun x => (x.2.1, x.1)
  let mp : List (Nat × Nat) := m.map fun x => (x.1, x.2.1)
  have kinv : inv.map (·.1) = m.map (·.2.1) := by show (m.map _).map _ = _; rw [List.map_map]; rfl
  have kmp : mp.map (·.1) = m.map (·.1) := by show (m.map _).map _ = _; rw [List.map_map]; rfl
  have linv : ∀ x ∈ m, look x.2.1 inv = some x.1 := fun x hx => look_of_mem (by rw [kinv]; exact h1) (List.mem_map.2 ⟨x, hx, rfl⟩)
  have lmp : ∀ x ∈ m, look x.1 mp = some x.2.1 := fun x hx => look_of_mem (by rw [kmp]; exact h3) (List.mem_map.2 ⟨x, hx, rfl⟩)
  let y2 : Lay := { y with hd := fun n => match look n inv with | some p => y.hd p | none => y.hd n }
  have hd_new : ∀ x ∈ m, y2.hd x.2.1 = y.hd x.1 := fun x hx => by show (match look x.2.1 inv with | some p => y.hd p | none => y.hd x.2.1) = _; rw [linv x hx]
  have hd_old : ∀ n, n ∉ m.map (·.2.1) → y2.hd n = y.hd n := fun n hn => by
    show (match look n inv with | some p => y.hd p | none => y.hd n) = _
    cases e : look n inv with
    | none => rfl
    | some p => exact absurd (by rw [← kinv]; exact key_look.2 ⟨p, e⟩) hn
  have fro_not : ∀ n, n ∈ s.fro.map (·.1) → n ∉ m.map (·.2.1) := fun n hn hx => by
    obtain ⟨x, hx7, rfl⟩ := List.mem_map.1 hx
    exact h4 x hx7 hn
  have An := A.nt
  rw [List.map_append, List.nodup_append] at An
  have ktree : ((m.map (·.2)).reverse).map (·.1) = (m.map (·.2.1)).reverse := by rw [List.map_reverse, List.map_map]; rfl
  have ht : ∀ p, (p ∈ s.tree.map (·.1) → p ∈ m.map (·.1)) → (relOf c s y).Lt p → (relOf c (S.head2 m s.env s.box s.fro) y2).Lt (ren mp p) ∧ (relOf c (S.head2 m s.env s.box s.fro) y2).hd (ren mp p) = (relOf c s y).hd p := by
    intro p hp hin
    have hin : p ∈ (s.tree ++ s.fro).map (·.1) := hin
    rw [List.map_append, List.mem_append] at hin
    by_cases hm : p ∈ m.map (·.1)
    · obtain ⟨x, hx, rfl⟩ := List.mem_map.1 hm
      have e : ren mp x.1 = x.2.1 := by unfold ren; rw [lmp x hx]; rfl
      rw [e]
      refine ⟨?_, hd_new x hx⟩
      show x.2.1 ∈ ((m.map (·.2)).reverse ++ s.fro).map (·.1)
      rw [List.map_append, ktree, List.mem_append, List.mem_reverse]
      exact .inl (List.mem_map.2 ⟨x, hx, rfl⟩)
    · have e : ren mp p = p := by
        unfold ren
        cases e : look p mp with
        | none => rfl
        | some q => exact absurd (by rw [← kmp]; exact key_look.2 ⟨q, e⟩) hm
      rw [e]
      have hf : p ∈ s.fro.map (·.1) := hin.resolve_left fun h => hm (hp h)
      refine ⟨?_, hd_old p (fro_not p hf)⟩
      show p ∈ ((m.map (·.2)).reverse ++ s.fro).map (·.1)
      rw [List.map_append, List.mem_append]; exact .inr hf
  have hb : ∀ b, (relOf c s y).Lb b → (relOf c (S.head2 m s.env s.box s.fro) y2).Lb b ∧ (relOf c (S.head2 m s.env s.box s.fro) y2).bl b = (relOf c s y).bl b := fun b h => ⟨by
    show b ∈ (s.box.map fun x => (x.1, renL mp x.2)).map (·.1)
    rw [List.map_map]; exact h, rfl⟩
  have kbox : (s.box.map fun x => (x.1, renL mp x.2)).map (·.1) = s.box.map (·.1) := by rw [List.map_map]; rfl
  refine ⟨y2, A.defers, A.size, ?_, fun t v e => ?_, fun b cs h => ?_, fun p rows hp => ?_, by show ((s.box.map fun x => (x.1, renL mp x.2)).map (·.1)).Nodup; rw [kbox]; exact A.nb, ?_, A.fix.1, fun i g1 g2 => ⟨(A.fix.2 i g1 g2).1, Eq.trans ?_ (A.fix.2 i g1 g2).2⟩⟩
  · show St c.W w (boxPs y.bl y.T y.us (s.box.map fun x => (x.1, renL mp x.2)) ++ (treePs y2.hd (m.map (·.2)).reverse ++ (froPs y.w0 y.F s.fro ++ c.L)))
    rw [boxPs_keys, kbox, ← boxPs_keys]
    have e2 : treePs y2.hd (m.map (·.2)).reverse = ((m.map (·.1)).map fun p => treeP (y.hd p) ((look p s.tree).getD [])).reverse := by
      unfold treePs
      rw [List.map_reverse, List.map_map, List.map_map]
      congr 1
      refine List.map_congr_left fun x hx => ?_
      simp only [Function.comp]
      rw [hd_new x hx, h2 x hx]; rfl
    rw [e2]
    have p := (minus_perm An.1 h3 (fun q hq => by obtain ⟨x, hx, rfl⟩ := List.mem_map.1 hq; exact key_look.2 ⟨_, h2 x hx⟩)).map fun p => treeP (y.hd p) ((look p s.tree).getD [])
    rw [← treePs_keys _ An.1, List.map_append] at p
    have S1 := A.st.perm (List.Perm.append_left _ (List.Perm.append_right _ (p.trans (List.Perm.append_right _ (List.reverse_perm _).symm))))
    have q := perm5 (boxPs y.bl y.T y.us s.box) [] ((m.map (·.1)).map fun p => treeP (y.hd p) ((look p s.tree).getD [])).reverse (((s.tree.map (·.1)).filter fun k => !(m.map (·.1)).contains k).map fun p => treeP (y.hd p) ((look p s.tree).getD [])) (froPs y.w0 y.F s.fro ++ c.L)
    simp only [List.append_nil, List.nil_append] at q
    have S2 := S1.perm q
    have q2 : ∀ (X Y Z W : List Pc), (X ++ (Y ++ (Z ++ W))).Perm (Z ++ (X ++ (Y ++ W))) := by
      intro X Y Z W
      rw [← List.append_assoc X Y, ← List.append_assoc X Y, ← List.append_assoc (X ++ Y), ← List.append_assoc Z]
      exact List.Perm.append_right _ List.perm_append_comm
    exact St.dropL (S2.perm (q2 _ _ _ _))
  · have e : look t (s.env.map fun x => (x.1, renV mp x.2)) = some v := e
    have : ∀ (l : List (Nat × V)), look t (l.map fun x => (x.1, renV mp x.2)) = (look t l).map (renV mp) := by
      intro l; induction l with
      | nil => rfl
      | cons x l ih =>
        simp only [List.map_cons, look]
        by_cases ht : t = x.1
        · rw [if_pos ht, if_pos ht]; rfl
        · rw [if_neg ht, if_neg ht]; exact ih
    rw [this] at e
    obtain ⟨v0, e1, rfl⟩ := Option.map_eq_some_iff.1 e
    exact RV.ren (ρ := relOf c s y) (ρ' := relOf c (S.head2 m s.env s.box s.fro) y2) rfl rfl rfl hb (fun p hp hin => ht p (hE t v0 e1 p hp) hin) (A.env t v0 e1)
  · obtain ⟨x, hx, e⟩ := List.mem_map.1 (show (b, cs) ∈ s.box.map fun x => (x.1, renL mp x.2) from h)
    injection e with e1 e2; subst e1; subst e2
    exact RVs.ren (ρ := relOf c s y) (ρ' := relOf c (S.head2 m s.env s.box s.fro) y2) rfl rfl rfl hb (fun p hp hin => ht p (hB x.1 x.2 hx p hp) hin) (A.box x.1 x.2 hx)
  · have hp : (p, rows) ∈ s.fro := hp
    have e := hd_old p (fro_not p (List.mem_map.2 ⟨_, hp, rfl⟩))
    show TreeD (y.w0 p) _ (y2.hd p) (y.F p)
    rw [e]; exact A.fro p rows hp
  · show (((m.map (·.2)).reverse ++ s.fro).map (·.1)).Nodup
    rw [List.map_append, ktree, List.nodup_append]
    refine ⟨(List.reverse_perm _).nodup_iff.2 h1, An.2.1, fun x hx z hz e => ?_⟩
    subst e
    exact fro_not x hz (List.mem_reverse.1 hx)
  · by_cases hx : i ∈ m.map (·.2.1)
    · obtain ⟨x, hx7, rfl⟩ := List.mem_map.1 hx
      rcases h5 x hx7 with h | h
      · omega
      · rw [hd_new x hx7, h]
    · exact hd_old i hx
theorem met_env {l : List (Nat × V)} {t : Nat} {v : V} (h : look t l = some v) {p : Nat} (hp : mentions p v = true) : mentions.any p (l.map (·.2)) = true := by
  induction l with
  | nil => cases h
  | cons x l ih =>
    simp only [look] at h
    simp only [List.map_cons, mentions.any, Bool.or_eq_true]
    split at h
    · injection h with h; rw [h]; exact .inl hp
    · exact .inr (ih h)
theorem any_append {p : Nat} : ∀ {l r : List V}, mentions.any p (l ++ r) = (mentions.any p l || mentions.any p r)
  | [], r => by simp [mentions.any]
  | v :: l, r => by simp only [List.cons_append, mentions.any, any_append, Bool.or_assoc]
theorem met_box {l : List (Nat × List V)} {b : Nat} {cs : List V} (h : (b, cs) ∈ l) {p : Nat} (hp : mentions.any p cs = true) : mentions.any p (l.flatMap (·.2)) = true := by
  induction l with
  | nil => cases h
  | cons x l ih =>
    rw [List.flatMap_cons, any_append, Bool.or_eq_true]
    rcases List.mem_cons.1 h with h | h
    · subst h; exact .inl hp
    · exact .inr (ih h)
theorem head_sound {ts bs : List Nat} {s' : S} (h : s.head ts bs = some s') (g : Good c s a w) : Good c s' a w := by
  unfold S.head at h
  obtain ⟨env, h1, h⟩ := bnd_eq_some h
  obtain ⟨box, h2, h⟩ := bnd_eq_some h
  obtain ⟨h3, h⟩ := grd_eq_some h
  injection h with h; subst h
  simp only [Bool.and_eq_true, decide_eq_true_eq] at h3
  obtain ⟨⟨⟨⟨⟨⟨d1, d2⟩, d3⟩, d4⟩, d5⟩, d6⟩, d7⟩ := h3
  obtain ⟨k1, k2⟩ := keep_spec h1
  obtain ⟨m1, m2⟩ := keep_spec h2
  obtain ⟨y, A⟩ := g
  have A1 : At c { s with env := env, box := box } y a w := A.restrict (bs := bs) (fun t v e => ⟨k2 t v (look_mem e), List.all_eq_true.1 d3 _ (look_mem e)⟩) (fun b cs hb => ⟨look_mem (m2 b cs hb), refs_go (List.all_eq_true.1 d4 _ hb)⟩) m1 (desc_nodup d2)
  obtain ⟨e1, e2⟩ := ownNil_spec env 3000000000
  obtain ⟨f1, f3, f2⟩ := ownNilB_spec box (3000000000 + (ownNil 3000000000 env).2.length)
  generalize hE : ownNil 3000000000 env = E at *
  generalize hBx : ownNilB (3000000000 + E.2.length) box = B at *
  have hps : E.2 ++ B.2 = List.range' 3000000000 (E.2.length + B.2.length) := by
    rw [← List.range'_append_1, ← e1, ← f1]
  have hge : ∀ k ∈ E.2 ++ B.2, 3000000000 ≤ k := fun k hk => by rw [hps, List.mem_range'_1] at hk; exact hk.1
  have hlow : ∀ k, k ∈ (s.tree ++ s.fro).map (·.1) → k < 3000000000 := by
    intro k hk
    rw [List.map_append, List.mem_append] at hk
    rcases hk with hk | hk
    · obtain ⟨x, hx, rfl⟩ := List.mem_map.1 hk
      have := List.all_eq_true.1 d5 x hx
      simpa using this
    · obtain ⟨x, hx, rfl⟩ := List.mem_map.1 hk
      have := List.all_eq_true.1 d6 x hx
      simp at this; omega
  have g2 : Good c { env := E.1, box := B.1, tree := s.tree ++ (E.2 ++ B.2).map (fun p => (p, [])), fro := s.fro } a w :=
    A1.nils (ps := E.2 ++ B.2) (by rw [hps]; exact List.nodup_range') (fun k hk hin => by have := hge k hk; have := hlow k hin; omega) (fun k hk => by have := hge k hk; unfold parBase; omega)
      (fun t v e => (e2 t v e).imp _root_.id fun ⟨q1, k, q2, q3⟩ => ⟨q1, k, List.mem_append_left _ q2, q3⟩) f3
      (fun b cs hb => by
        obtain ⟨cs0, q1, q2, q3⟩ := f2 b cs hb
        exact ⟨cs0, q1, q2, fun i v e => (q3 i v e).imp _root_.id fun ⟨r1, k, r2, r3⟩ => ⟨r1, k, List.mem_append_right _ r2, r3⟩⟩)
  obtain ⟨y2, A2⟩ := g2
  unfold S.head1
  obtain ⟨a1, a2, a3⟩ := metL_sub [] (E.1.map (·.2))
  obtain ⟨b1, b2, b3⟩ := metL_sub (metL [] (E.1.map (·.2))) (B.1.flatMap (·.2))
  obtain ⟨n1, n2, n3, n4⟩ := metIn_spec (tree := s.tree ++ (E.2 ++ B.2).map (fun p => (p, []))) (l := metL (metL [] (E.1.map (·.2))) (B.1.flatMap (·.2))) (i := 1000 * s.fro.length)
  generalize hM : metIn (s.tree ++ (E.2 ++ B.2).map (fun p => (p, []))) (metL (metL [] (E.1.map (·.2))) (B.1.flatMap (·.2))) (1000 * s.fro.length) = M at *
  have An := A2.nt
  rw [List.map_append, List.nodup_append] at An
  have nn := n4 (b3 (a3 List.nodup_nil))
  exact A2.rename (m := M) nn.2 (fun x hx => (n2 x hx).1) nn.1 (fun x hx hf => by
      rcases n1 x hx with h7 | h7
      · rw [h7.1] at hf
        exact An.2.2 x.1 (key_look.2 ⟨_, (n2 x hx).1⟩) x.1 hf rfl
      · obtain ⟨z, hz, e⟩ := List.mem_map.1 hf
        have := List.all_eq_true.1 d6 z hz
        rw [← e] at h7
        simp at this; omega) (fun x hx => (n1 x hx).elim (fun h => .inr h.1) fun h => .inl (by unfold parBase; omega))
    (fun t v e p hp hpt => n3 p (b1 p (a2 p (met_env e hp))) hpt) (fun b cs hb p hp hpt => n3 p (b2 p (met_box hb hp)) hpt)
theorem marks_ok (gh : Ghost) : MarksOk gh := by
  have key : ∀ (c : Ctx) (o : Option (List Nat × List Nat)) (s s' : S) (a : Act) (w : World), headAt s o = some s' → Good c s a w → Good c s' a w := fun c o s s' a w h g => by
    unfold headAt at h
    split at h
    · exact head_sound h g
    · injection h with h; subst h; exact g
  refine ⟨fun c id s s' h a w g => key c _ s s' a w h g, fun c id s s' h a w g => ?_⟩
  unfold Ghost.reg at h
  obtain ⟨s1, h1, h⟩ := bnd_eq_some h
  exact regAt_sound h (key c _ s s1 a w h1 g)
end
end Go.Proofs.Ytnmneoekpikpkaa
namespace Go.Proofs.Ytnmneoekpikpkaa
open Go.RowKit
set_option linter.unusedSimpArgs false
set_option linter.unusedVariables false
def fnOk (gh : Ghost) (fn : Func) : Bool := match fn.body with
  | some x => !(fn.name == "runtime.NumGoroutine") && decide (fn.ntmps ≤ 1000000) && codeOk gh fn.ntmps x
  | none => false
theorem sound {P : Program} {G : List (FuncId × Bool × Mean)} (gh : Ghost) {f : FuncId} {fn : Func} (hG : ∀ f M, look f G = some M → Sound P f M.2) (hm : P.follows .mixedOrders = true) (hf : P.funcs[f]? = some fn) (h : fnOk gh fn = true) : Sound P f (evFun P G gh f) := by
  unfold fnOk at h
  split at h
  · rename_i x hb
    simp only [Bool.and_eq_true, decide_eq_true_eq] at h
    exact fun_sound hG (marks_ok gh) hf hb (by simpa using h.1.1) h.1.2 h.2 hm
  · cases h
theorem none_sound {P : Program} : ∀ f M, look f ([] : List (FuncId × Bool × Mean)) = some M → Sound P f M.2 := fun _ _ h => by cases h
theorem cons_sound {P : Program} {f : FuncId} {m : Bool} {M : Mean} {G : List (FuncId × Bool × Mean)} (h : Sound P f M) (k : ∀ f M, look f G = some M → Sound P f M.2) : ∀ g N, look g ((f, m, M) :: G) = some N → Sound P g N.2 := by
  intro g N e
  simp only [look] at e
  split at e
  · rename_i e2; injection e with e; subst e2; subst e; exact h
  · exact k g N e
theorem never {P : Program} {f : FuncId} {fn : Func} (hf : P.funcs[f]? = some fn) (h1 : (fn.name == "runtime.NumGoroutine") = false) (h2 : fn.body.isNone = false) : Sound P f fun _ _ _ => none :=
  ⟨⟨fn, hf, h1, h2⟩, fun _ _ _ _ _ h => by cases h⟩
end Go.Proofs.Ytnmneoekpikpkaa
namespace Go.Proofs.Ytnmneoekpikpkaa
open Go.RowKit
set_option linter.unusedSimpArgs false
set_option linter.unusedVariables false
section
variable {P : Program}
theorem plainC_same {ρ ρ' : Rel} (hK : ρ'.K = ρ.K) (hs : ρ'.src = ρ.src) : ∀ {vs : List V} {us : List Value}, vs.all plainC = true → RVs ρ vs us → RVs ρ' vs us
  | [], _, _, h => h
  | v :: vs, us, ha, h => by
    rw [List.all_cons, Bool.and_eq_true] at ha
    obtain ⟨u, q, h1, h2, h3⟩ := h
    refine ⟨u, q, h1, ?_, plainC_same hK hs ha.2 h3⟩
    cases v
    case v x => exact h2
    case lst o rows => exact ⟨by rw [hK]; exact h2.1, fun j e => by rw [hs]; exact h2.2 j e⟩
    all_goals cases ha.1
theorem newOut_sound {c c0 : Ctx} {s : S} {y y0 : Lay} {a : Act} {w : World} (A : At c s y a w) (hW : c0.W = c.W) (hL : c0.L = c.L) (hK : c0.K = c.K) (hs : c0.src = c.src) {v : V} {u : Value} (hu : RV (relOf c s y) v u) {r : Res} (h : newOut s v = some r) : ∃ y', Ends c0 0 0 r y0 u y' w := by
  unfold newOut at h
  split at h
  · rename_i b
    obtain ⟨cs, h1, h⟩ := bnd_eq_some h
    obtain ⟨h2, h⟩ := grd_eq_some h
    injection h with h; subst h
    obtain ⟨l1, l2, e1, -, -⟩ := look_split h1
    let y2 : Lay := { bl := fun _ => y.bl b, hd := fun _ => nilHd, T := fun _ => y.T b, us := fun _ => y.us b, w0 := y.w0, F := y.F }
    have hS : St c.W w ([rowP (y.bl b) (y.T b) (y.us b)] ++ c.L) := by
      have S0 := A.st
      rw [e1] at S0
      have p : (boxPs y.bl y.T y.us (l1 ++ (b, cs) :: l2) ++ (treePs y.hd s.tree ++ (froPs y.w0 y.F s.fro ++ c.L))).Perm ((boxPs y.bl y.T y.us (l1 ++ l2) ++ (treePs y.hd s.tree ++ froPs y.w0 y.F s.fro)) ++ ([rowP (y.bl b) (y.T b) (y.us b)] ++ c.L)) := by
        have q1 : (boxPs y.bl y.T y.us (l1 ++ (b, cs) :: l2)).Perm (rowP (y.bl b) (y.T b) (y.us b) :: boxPs y.bl y.T y.us (l1 ++ l2)) := by
          unfold boxPs
          rw [List.map_append, List.map_append, List.map_cons]
          exact List.perm_middle
        refine (List.Perm.append_right _ q1).trans ?_
        have q2 := (List.perm_middle (a := rowP (y.bl b) (y.T b) (y.us b)) (l₁ := boxPs y.bl y.T y.us (l1 ++ l2) ++ (treePs y.hd s.tree ++ froPs y.w0 y.F s.fro)) (l₂ := c.L)).symm
        have e2 : (rowP (y.bl b) (y.T b) (y.us b) :: boxPs y.bl y.T y.us (l1 ++ l2)) ++ (treePs y.hd s.tree ++ (froPs y.w0 y.F s.fro ++ c.L)) = rowP (y.bl b) (y.T b) (y.us b) :: ((boxPs y.bl y.T y.us (l1 ++ l2) ++ (treePs y.hd s.tree ++ froPs y.w0 y.F s.fro)) ++ c.L) := by simp only [List.cons_append, List.append_assoc]
        rw [e2]
        exact q2
      exact St.dropL (S0.perm p)
    refine ⟨y2, ⟨?_, fun b' cs' hb => ?_, fun p rows hp => (by cases hp), by simp [resS, withIdx], by simp [resS]⟩, ?_, .inr ⟨rfl, rfl, cs, rfl⟩, fun i hi => by omega, fun q hq => by omega⟩
    · rw [hW, hL]
      exact hS
    · have hb : (b', cs') ∈ [(0, cs)] := hb
      simp only [List.mem_singleton, Prod.mk.injEq] at hb
      obtain ⟨rfl, rfl⟩ := hb
      exact plainC_same (ρ := relOf c s y) hK hs h2 (A.box b cs' (look_mem h1))
    · exact ⟨List.mem_singleton_self _, hu.2⟩
  · cases h
theorem new_sound {G : List (FuncId × Bool × Mean)} (hG : ∀ f M, look f G = some M → Sound P f M.2) {gh : Ghost} (hM : MarksOk gh) {f : FuncId} {fn : Func} {x : Code} (hf : P.funcs[f]? = some fn) (hb : fn.body = some x) (hn : (fn.name == "runtime.NumGoroutine") = false) (hsm : fn.ntmps ≤ 1000000) (hx : codeOk gh fn.ntmps x = true) (hm : P.follows .mixedOrders = true) : Sound P f (evNew P G gh f) := by
  refine ⟨⟨fn, hf, hn, by rw [hb]; rfl⟩, fun c args boxes trees r h y us w m hargs => ?_⟩
  unfold evNew at h
  rw [hf, bnd_some, hb, bnd_some] at h
  obtain ⟨⟨hal, hbl9, htl9⟩, h7⟩ := grd_eq_some h
  clear h
  obtain rfl : boxes = [] := List.eq_nil_of_length_eq_zero hbl9
  obtain rfl : trees = [] := List.eq_nil_of_length_eq_zero htl9
  obtain ⟨e, h1, h⟩ := bnd_eq_some h7
  obtain ⟨un, hun⟩ := unB_ex
  have hle : us.length ≤ 1000 := by rw [hargs.len]; exact hal
  have hsz0 : (startA fn.ntmps us).tmps.size = us.length + (fn.ntmps - us.length) := by
    show (us.toArray ++ Array.replicate (fn.ntmps - us.toArray.size) undef).size = _
    rw [Array.size_append, Array.size_replicate, List.size_toArray]
  have hsz : fn.ntmps ≤ (startA fn.ntmps us).tmps.size := by rw [hsz0]; omega
  have hpb : (startA fn.ntmps us).tmps.size ≤ parBase := by rw [hsz0]; unfold parBase; omega
  have A := enter_sound m hargs fn.ntmps hun hpb
  refine calls_of_wp hf hb ?_
  refine code_sound (c := { c with n := (startA fn.ntmps us).tmps.size, bF := fun b => y.bl (un b), hF := fun p => y.hd (un p) }) (calls_ok hG) hM hm x (.on (startS args [] [])) e (startA fn.ntmps us) w _ (codeOk_mono hsz x hx) h1 ⟨_, A⟩ fun a' w' g => ?_
  obtain ⟨ex, q⟩ := e
  have fin : ∀ s, GoodQ { c with n := (startA fn.ntmps us).tmps.size, bF := fun b => y.bl (un b), hF := fun p => y.hd (un p) } (.on s) a' w' → (bnd (mapSome (resV P s) fn.results.toList) fun vs => newOut s (tupOf vs)) = some r → a'.defers = [] ∧ ∃ v, (results fn a'.tmps).run P w' = .ok v w' ∧ ∃ u y', Ending.returned v = .returned u ∧ Ends c 0 0 r y u y' w' := by
    intro s ⟨y1, A1⟩ hr
    obtain ⟨vs, hvs, hr⟩ := bnd_eq_some hr
    obtain ⟨u, k1, k2⟩ := results_sound A1 hvs
    obtain ⟨y', k3⟩ := newOut_sound (c0 := c) (y0 := y) A1 rfl rfl rfl rfl k2 hr
    exact ⟨A1.defers, u, k1, u, y', rfl, k3⟩
  cases ex with
  | normal =>
    cases q with
    | off => exact g.elim
    | on s => exact fin s g h
  | ret =>
    cases q with
    | off => exact g.elim
    | on s => exact fin s g h
  | exit i => simp only [leaveN] at h; cases h
theorem soundN {G : List (FuncId × Bool × Mean)} (gh : Ghost) {f : FuncId} {fn : Func} (hG : ∀ f M, look f G = some M → Sound P f M.2) (hm : P.follows .mixedOrders = true) (hf : P.funcs[f]? = some fn) (h : fnOk gh fn = true) : Sound P f (evNew P G gh f) := by
  unfold fnOk at h
  split at h
  · rename_i x hb
    simp only [Bool.and_eq_true, decide_eq_true_eq] at h
    exact new_sound hG (marks_ok gh) hf hb (by simpa using h.1.1) h.1.2 h.2 hm
  · cases h
end
end Go.Proofs.Ytnmneoekpikpkaa
namespace Go.Proofs.Ytnmneoekpikpkaa
open Go.RowKit
set_option linter.unusedSimpArgs false
set_option linter.unusedVariables false
def topC (w : World) (us : List Value) : Ctx where
  W := w
  L := []
  K := heapOf w
  src := fun j => us[j]?.getD undef
  n := 0
  hK := fun _ S _ _ h => row_ext h S.ext
  bF := fun _ => 0
  hF := fun _ => nilHd
def topY (w : World) : Lay where
  bl := fun _ => 0
  hd := fun _ => nilHd
  T := fun _ => 0
  us := fun _ => #[]
  w0 := fun _ => w
  F := fun _ => []
def topR (w : World) (us : List Value) : Rel := relOf (topC w us) (resS [] (withIdx 0 [])) (topY w)
theorem top_mem (w : World) (us : List Value) : Mem (topC w us) (resS [] (withIdx 0 [])) (topY w) w :=
  ⟨St.refl w, (fun _ _ h => nomatch h), (fun _ _ h => nomatch h), List.nodup_nil, List.nodup_nil⟩
theorem Sound.top {P : Program} {f : FuncId} {M : Mean} (h : Sound P f M) {w : World} {ls us : List Value} {args : List V} {r : Res} (hM : M args [] [] = some r) (ha : RVs (topR w ls) args us) :
    Calls P f us.toArray w fun e w' => ∃ u y', e = .returned u ∧ Ends (topC w ls) 0 0 r (topY w) u y' w' :=
  h.run (topC w ls) args [] [] r hM (topY w) us w (top_mem w ls) ha
theorem Sound.top_v {P : Program} {f : FuncId} {M : Mean} (h : Sound P f M) {w : World} {ls us : List Value} {args : List V} {x : Value} {bs : List (List V)} {ts : List (Nat × List (List D))} (hM : M args [] [] = some ⟨.v x, bs, ts⟩) (ha : RVs (topR w ls) args us) :
    Calls P f us.toArray w fun e w' => e = .returned x ∧ Ext w w' :=
  (h.top hM ha).mono fun e w' ⟨u, y', he, E⟩ => ⟨by rw [he, show u = x from E.val], E.mem.st.ext⟩
theorem top_arg_v (w : World) (ls : List Value) (x : Value) : RV (topR w ls) (.v x) x := rfl
theorem top_arg_l {w : World} {ls : List Value} {j : Nat} {u : Value} {rows : List (List D)} (hj : ls[j]? = some u) (h : RdD (heapOf w) (.l rows) u) : RV (topR w ls) (.lst (some j) rows) u :=
  ⟨h, fun i e => by injection e with e; subst e; show ls[j]?.getD undef = u; rw [hj]; rfl⟩
theorem Sound.top_own {P : Program} {f : FuncId} {M : Mean} (h : Sound P f M) {w : World} {ls us : List Value} {args : List V} {q : Nat} {rows : List (List D)} {bs : List (List V)} (hM : M args [] [] = some ⟨.own q, bs, [(q, rows)]⟩) (ha : RVs (topR w ls) args us) :
    Calls P f us.toArray w fun e w' => ∃ u, e = .returned u ∧ Ext w w' ∧ RdD (heapOf w') (.l rows) u := by
  refine (h.top hM ha).mono fun e w' ⟨u, y', he, E⟩ => ⟨u, he, E.mem.st.ext, ?_⟩
  have hu : u = (y'.hd q).v := E.val.2
  obtain ⟨F, o⟩ := E.mem.st.tree_at (h := y'.hd q) (rows := rows) (List.mem_append_right _ (List.mem_append_left _ (by show treeP _ _ ∈ treePs y'.hd [(q, rows)]; exact List.mem_cons_self)))
  rw [hu]
  exact o.own.rd fun _ _ _ e => e
end Go.Proofs.Ytnmneoekpikpkaa
namespace Go.Proofs.Ytnmneoekpikpkaa
theorem hmix : Try.prog.follows .mixedOrders = true := by kernel_rfl
noncomputable def M_sl01New : Mean := evNew Try.prog [] ⟨[(3, [4, 3, 0], [])], [], [], []⟩ 8
theorem S_sl01New : Sound Try.prog 8 M_sl01New := soundN _ none_sound hmix Try.func8 (eqOf (by kernel_rfl))
noncomputable def M_sl01Byte : Mean := evFun Try.prog [] ⟨[], [], [(2, [], []), (3, [], []), (4, [], [])], []⟩ 32
theorem S_sl01Byte : Sound Try.prog 32 M_sl01Byte := sound _ none_sound hmix Try.func32 (eqOf (by kernel_rfl))
noncomputable def M_sl01Below : Mean := evFun Try.prog [(32, false, M_sl01Byte)] ⟨[], [], [], []⟩ 12
theorem S_sl01Below : Sound Try.prog 12 M_sl01Below := sound _ (cons_sound S_sl01Byte none_sound) hmix Try.func12 (eqOf (by kernel_rfl))
noncomputable def M_sl27Note : Mean := evFun Try.prog [(12, false, M_sl01Below)] ⟨[], [], [], []⟩ 9
theorem S_sl27Note : Sound Try.prog 9 M_sl27Note := sound _ (cons_sound S_sl01Below none_sound) hmix Try.func9 (eqOf (by kernel_rfl))
noncomputable def M_sl27Ps : Mean := evFun Try.prog [(12, false, M_sl01Below)] ⟨[], [], [], []⟩ 10
theorem S_sl27Ps : Sound Try.prog 10 M_sl27Ps := sound _ (cons_sound S_sl01Below none_sound) hmix Try.func10 (eqOf (by kernel_rfl))
noncomputable def M_sEdNew : Mean := evFun Try.prog [] ⟨[], [], [], []⟩ 25
theorem S_sEdNew : Sound Try.prog 25 M_sEdNew := sound _ none_sound hmix Try.func25 (eqOf (by kernel_rfl))
noncomputable def M_sl02Rune : Mean := evFun Try.prog [(12, false, M_sl01Below)] ⟨[], [], [], []⟩ 29
theorem S_sl02Rune : Sound Try.prog 29 M_sl02Rune := sound _ (cons_sound S_sl01Below none_sound) hmix Try.func29 (eqOf (by kernel_rfl))
noncomputable def M_sl02Runes : Mean := evFun Try.prog [(12, false, M_sl01Below), (29, false, M_sl02Rune)] ⟨[(3, [6, 5, 0], [1000000000])], [], [], []⟩ 31
theorem S_sl02Runes : Sound Try.prog 31 M_sl02Runes := sound _ (cons_sound S_sl01Below (cons_sound S_sl02Rune none_sound)) hmix Try.func31 (eqOf (by kernel_rfl))
noncomputable def M_sl13Runes : Mean := evFun Try.prog [(31, false, M_sl02Runes), (12, false, M_sl01Below)] ⟨[(3, [13, 12, 5, 0], [1000000000])], [], [], []⟩ 42
theorem S_sl13Runes : Sound Try.prog 42 M_sl13Runes := sound _ (cons_sound S_sl02Runes (cons_sound S_sl01Below none_sound)) hmix Try.func42 (eqOf (by kernel_rfl))
noncomputable def M_sl13Draw : Mean := evFun Try.prog [(42, false, M_sl13Runes), (12, false, M_sl01Below)] ⟨[], [], [], []⟩ 26
theorem S_sl13Draw : Sound Try.prog 26 M_sl13Draw := sound _ (cons_sound S_sl13Runes (cons_sound S_sl01Below none_sound)) hmix Try.func26 (eqOf (by kernel_rfl))
noncomputable def M_sRuneOk : Mean := evFun Try.prog [] ⟨[], [], [], []⟩ 61
theorem S_sRuneOk : Sound Try.prog 61 M_sRuneOk := sound _ none_sound hmix Try.func61 (eqOf (by kernel_rfl))
noncomputable def M_sPrintable : Mean := evFun Try.prog [(61, false, M_sRuneOk)] ⟨[], [], [], []⟩ 60
theorem S_sPrintable : Sound Try.prog 60 M_sPrintable := sound _ (cons_sound S_sRuneOk none_sound) hmix Try.func60 (eqOf (by kernel_rfl))
noncomputable def M_sl13Typed : Mean := evFun Try.prog [(60, false, M_sPrintable)] ⟨[], [], [], []⟩ 59
theorem S_sl13Typed : Sound Try.prog 59 M_sl13Typed := sound _ (cons_sound S_sPrintable none_sound) hmix Try.func59 (eqOf (by kernel_rfl))
noncomputable def M_sl13AllTyped : Mean := evFun Try.prog [(59, false, M_sl13Typed)] ⟨[(2, [7, 6, 5], [])], [], [], []⟩ 57
theorem S_sl13AllTyped : Sound Try.prog 57 M_sl13AllTyped := sound _ (cons_sound S_sl13Typed none_sound) hmix Try.func57 (eqOf (by kernel_rfl))
noncomputable def M_sl15Piece : Mean := evFun Try.prog [(57, false, M_sl13AllTyped)] ⟨[], [], [], []⟩ 54
theorem S_sl15Piece : Sound Try.prog 54 M_sl15Piece := sound _ (cons_sound S_sl13AllTyped none_sound) hmix Try.func54 (eqOf (by kernel_rfl))
noncomputable def M_sRingOk : Mean := evFun Try.prog [(54, false, M_sl15Piece)] ⟨[(2, [8, 7, 6, 1], [1])], [], [], []⟩ 53
theorem S_sRingOk : Sound Try.prog 53 M_sRingOk := sound _ (cons_sound S_sl15Piece none_sound) hmix Try.func53 (eqOf (by kernel_rfl))
noncomputable def M_sl15Copy : Mean := evFun Try.prog [] ⟨[(3, [10, 9, 8, 3, 2], [3, 2])], [], [(5, [], [(7, [0, 1]), (8, []), (10, [])])], []⟩ 55
theorem S_sl15Copy : Sound Try.prog 55 M_sl15Copy := sound _ none_sound hmix Try.func55 (eqOf (by kernel_rfl))
noncomputable def M_sl13Join : Mean := evFun Try.prog [] ⟨[], [], [], []⟩ 56
theorem S_sl13Join : Sound Try.prog 56 M_sl13Join := sound _ none_sound hmix Try.func56 (eqOf (by kernel_rfl))
noncomputable def M_sRingPut : Mean := evFun Try.prog [(53, false, M_sRingOk), (54, false, M_sl15Piece), (55, false, M_sl15Copy), (56, false, M_sl13Join)] ⟨[], [], [(12, [0, 1, 2, 3, 5, 6, 4, 7, 8], [(4, [5, 6]), (7, [])])], []⟩ 43
theorem S_sRingPut : Sound Try.prog 43 M_sRingPut := sound _ (cons_sound S_sRingOk (cons_sound S_sl15Piece (cons_sound S_sl15Copy (cons_sound S_sl13Join none_sound)))) hmix Try.func43 (eqOf (by kernel_rfl))
noncomputable def M_sl15Ring : Mean := evFun Try.prog [(12, false, M_sl01Below), (42, false, M_sl13Runes), (43, false, M_sRingPut)] ⟨[(3, [4, 3, 2, 0], [1000000000, 3, 2])], [], [(5, [0, 1, 3, 2, 4, 5, 6, 7, 8, 9], [(2, [0, 3]), (4, [0]), (9, [8])])], []⟩ 27
theorem S_sl15Ring : Sound Try.prog 27 M_sl15Ring := sound _ (cons_sound S_sl01Below (cons_sound S_sl13Runes (cons_sound S_sRingPut none_sound))) hmix Try.func27 (eqOf (by kernel_rfl))
noncomputable def M_sLineOk : Mean := evFun Try.prog [(57, false, M_sl13AllTyped)] ⟨[], [], [], []⟩ 45
theorem S_sLineOk : Sound Try.prog 45 M_sLineOk := sound _ (cons_sound S_sl13AllTyped none_sound) hmix Try.func45 (eqOf (by kernel_rfl))
noncomputable def M_sUndoOk : Mean := evFun Try.prog [(45, false, M_sLineOk)] ⟨[(2, [8, 7, 6, 1], [1])], [], [], []⟩ 44
theorem S_sUndoOk : Sound Try.prog 44 M_sUndoOk := sound _ (cons_sound S_sLineOk none_sound) hmix Try.func44 (eqOf (by kernel_rfl))
noncomputable def M_sl15Line : Mean := evFun Try.prog [] ⟨[], [], [(1, [], [(7, [])])], []⟩ 48
theorem S_sl15Line : Sound Try.prog 48 M_sl15Line := sound _ none_sound hmix Try.func48 (eqOf (by kernel_rfl))
noncomputable def M_sl15Lines : Mean := evFun Try.prog [(48, false, M_sl15Line)] ⟨[(3, [10, 9, 8, 3, 2], [3, 2])], [], [(5, [], [(4, [0, 1]), (5, []), (7, [])])], []⟩ 46
theorem S_sl15Lines : Sound Try.prog 46 M_sl15Lines := sound _ (cons_sound S_sl15Line none_sound) hmix Try.func46 (eqOf (by kernel_rfl))
noncomputable def M_sl15Same : Mean := evFun Try.prog [] ⟨[(4, [13, 12, 1, 0], [])], [], [(6, [], [])], []⟩ 47
theorem S_sl15Same : Sound Try.prog 47 M_sl15Same := sound _ none_sound hmix Try.func47 (eqOf (by kernel_rfl))
noncomputable def M_sUndoPut : Mean := evFun Try.prog [(44, false, M_sUndoOk), (45, false, M_sLineOk), (46, false, M_sl15Lines), (47, false, M_sl15Same), (48, false, M_sl15Line)] ⟨[], [], [(5, [], []), (7, [], [(4, [0, 1]), (5, []), (7, [])])], []⟩ 28
theorem S_sUndoPut : Sound Try.prog 28 M_sUndoPut := sound _ (cons_sound S_sUndoOk (cons_sound S_sLineOk (cons_sound S_sl15Lines (cons_sound S_sl15Same (cons_sound S_sl15Line none_sound))))) hmix Try.func28 (eqOf (by kernel_rfl))
noncomputable def M_sl21Clip : Mean := evFun Try.prog [] ⟨[], [], [], []⟩ 30
theorem S_sl21Clip : Sound Try.prog 30 M_sl21Clip := sound _ none_sound hmix Try.func30 (eqOf (by kernel_rfl))
noncomputable def G_sl21Draw : List (FuncId × Bool × Mean) := [(12, false, M_sl01Below), (25, false, M_sEdNew), (26, false, M_sl13Draw), (27, false, M_sl15Ring), (28, false, M_sUndoPut), (29, false, M_sl02Rune), (30, false, M_sl21Clip), (31, false, M_sl02Runes)]
def gh_sl21Draw : Ghost := ⟨[], [], [(5, [], [(3, [0, 1]), (9, [7])])], [(6, [3, 2, 0], [1000000000, 3, 2]), (9, [3, 2, 0], [1000000000, 3, 2]), (12, [3, 2, 0], [1000000000, 3, 2]), (15, [3, 2, 0], [1000000000, 3, 2]), (18, [3, 2, 0], [1000000000, 3, 2]), (22, [3, 2, 0], [1000000000, 3, 2]), (29, [3, 2, 0], [1000000000, 3, 2])]⟩
noncomputable def M_sl21Draw : Mean := evFun Try.prog G_sl21Draw gh_sl21Draw 11
theorem S_sl21Draw : Sound Try.prog 11 M_sl21Draw := sound _ (cons_sound S_sl01Below (cons_sound S_sEdNew (cons_sound S_sl13Draw (cons_sound S_sl15Ring (cons_sound S_sUndoPut (cons_sound S_sl02Rune (cons_sound S_sl21Clip (cons_sound S_sl02Runes none_sound)))))))) hmix Try.func11 (eqOf (by kernel_rfl))
noncomputable def M_iin : Mean := evFun Try.prog [] ⟨[], [], [], []⟩ 22
theorem S_iin : Sound Try.prog 22 M_iin := sound _ none_sound hmix Try.func22 (eqOf (by kernel_rfl))
noncomputable def M_iGridNew : Mean := evFun Try.prog [(22, false, M_iin)] ⟨[(5, [28, 27, 6, 4], [6, 4])], [], [], []⟩ 13
theorem S_iGridNew : Sound Try.prog 13 M_iGridNew := sound _ (cons_sound S_iin none_sound) hmix Try.func13 (eqOf (by kernel_rfl))
noncomputable def M_iRuneOk : Mean := evFun Try.prog [(22, false, M_iin)] ⟨[], [], [], []⟩ 49
theorem S_iRuneOk : Sound Try.prog 49 M_iRuneOk := sound _ (cons_sound S_iin none_sound) hmix Try.func49 (eqOf (by kernel_rfl))
noncomputable def M_iRuneBytes : Mean := evFun Try.prog [(49, false, M_iRuneOk)] ⟨[], [], [], []⟩ 41
theorem S_iRuneBytes : Sound Try.prog 41 M_iRuneBytes := sound _ (cons_sound S_iRuneOk none_sound) hmix Try.func41 (eqOf (by kernel_rfl))
noncomputable def M_iRuneRead : Mean := evFun Try.prog [(22, false, M_iin), (41, false, M_iRuneBytes)] ⟨[(17, [57, 56, 55, 8, 7, 1, 0], [])], [], [(21, [], [])], []⟩ 40
theorem S_iRuneRead : Sound Try.prog 40 M_iRuneRead := sound _ (cons_sound S_iin (cons_sound S_iRuneBytes none_sound)) hmix Try.func40 (eqOf (by kernel_rfl))
noncomputable def M_iRunesOf : Mean := evFun Try.prog [(40, false, M_iRuneRead)] ⟨[(6, [6, 5, 4], [])], [], [], []⟩ 17
theorem S_iRunesOf : Sound Try.prog 17 M_iRunesOf := sound _ (cons_sound S_iRuneRead none_sound) hmix Try.func17 (eqOf (by kernel_rfl))
noncomputable def M_iPrintable : Mean := evFun Try.prog [(49, false, M_iRuneOk), (22, false, M_iin)] ⟨[], [], [], []⟩ 33
theorem S_iPrintable : Sound Try.prog 33 M_iPrintable := sound _ (cons_sound S_iRuneOk (cons_sound S_iin none_sound)) hmix Try.func33 (eqOf (by kernel_rfl))
noncomputable def M_ishortRunes : Mean := evFun Try.prog [(17, false, M_iRunesOf), (33, false, M_iPrintable)] ⟨[(5, [22, 21, 20, 4], [])], [], [], []⟩ 14
theorem S_ishortRunes : Sound Try.prog 14 M_ishortRunes := sound _ (cons_sound S_iRunesOf (cons_sound S_iPrintable none_sound)) hmix Try.func14 (eqOf (by kernel_rfl))
noncomputable def M_iadmissible : Mean := evFun Try.prog [(33, false, M_iPrintable)] ⟨[], [], [], []⟩ 58
theorem S_iadmissible : Sound Try.prog 58 M_iadmissible := sound _ (cons_sound S_iPrintable none_sound) hmix Try.func58 (eqOf (by kernel_rfl))
noncomputable def M_iareAdmissible : Mean := evFun Try.prog [(58, false, M_iadmissible)] ⟨[(2, [7, 6, 5], [])], [], [], []⟩ 50
theorem S_iareAdmissible : Sound Try.prog 50 M_iareAdmissible := sound _ (cons_sound S_iadmissible none_sound) hmix Try.func50 (eqOf (by kernel_rfl))
noncomputable def M_iLineOk : Mean := evFun Try.prog [(50, false, M_iareAdmissible), (22, false, M_iin)] ⟨[], [], [], []⟩ 34
theorem S_iLineOk : Sound Try.prog 34 M_iLineOk := sound _ (cons_sound S_iareAdmissible (cons_sound S_iin none_sound)) hmix Try.func34 (eqOf (by kernel_rfl))
noncomputable def M_iisAtEnd : Mean := evFun Try.prog [] ⟨[], [], [], []⟩ 51
theorem S_iisAtEnd : Sound Try.prog 51 M_iisAtEnd := sound _ none_sound hmix Try.func51 (eqOf (by kernel_rfl))
noncomputable def M_iisAmong : Mean := evFun Try.prog [] ⟨[(2, [5, 1, 0], [])], [], [], []⟩ 52
theorem S_iisAmong : Sound Try.prog 52 M_iisAmong := sound _ none_sound hmix Try.func52 (eqOf (by kernel_rfl))
noncomputable def M_imodeOk : Mean := evFun Try.prog [(51, false, M_iisAtEnd), (52, false, M_iisAmong)] ⟨[], [], [], []⟩ 35
theorem S_imodeOk : Sound Try.prog 35 M_imodeOk := sound _ (cons_sound S_iisAtEnd (cons_sound S_iisAmong none_sound)) hmix Try.func35 (eqOf (by kernel_rfl))
noncomputable def M_iRingOk : Mean := evFun Try.prog [(50, false, M_iareAdmissible)] ⟨[(2, [8, 7, 6, 1], [1])], [], [], []⟩ 36
theorem S_iRingOk : Sound Try.prog 36 M_iRingOk := sound _ (cons_sound S_iareAdmissible none_sound) hmix Try.func36 (eqOf (by kernel_rfl))
noncomputable def M_iUndoOk : Mean := evFun Try.prog [(34, false, M_iLineOk)] ⟨[(2, [8, 7, 6, 1], [1])], [], [], []⟩ 37
theorem S_iUndoOk : Sound Try.prog 37 M_iUndoOk := sound _ (cons_sound S_iLineOk none_sound) hmix Try.func37 (eqOf (by kernel_rfl))
noncomputable def M_iemptyLine : Mean := evFun Try.prog [] ⟨[], [], [], []⟩ 38
theorem S_iemptyLine : Sound Try.prog 38 M_iemptyLine := sound _ none_sound hmix Try.func38 (eqOf (by kernel_rfl))
noncomputable def M_iEdOk : Mean := evFun Try.prog [(34, false, M_iLineOk), (22, false, M_iin), (35, false, M_imodeOk), (33, false, M_iPrintable), (36, false, M_iRingOk), (37, false, M_iUndoOk), (38, false, M_iemptyLine)] ⟨[(10, [109, 108, 107, 1], [1])], [], [], []⟩ 15
theorem S_iEdOk : Sound Try.prog 15 M_iEdOk := sound _ (cons_sound S_iLineOk (cons_sound S_iin (cons_sound S_imodeOk (cons_sound S_iPrintable (cons_sound S_iRingOk (cons_sound S_iUndoOk (cons_sound S_iemptyLine none_sound))))))) hmix Try.func15 (eqOf (by kernel_rfl))
noncomputable def M_iWidth : Mean := evFun Try.prog [(33, false, M_iPrintable), (22, false, M_iin)] ⟨[(4, [18, 17, 16, 0], [])], [], [], []⟩ 39
theorem S_iWidth : Sound Try.prog 39 M_iWidth := sound _ (cons_sound S_iPrintable (cons_sound S_iin none_sound)) hmix Try.func39 (eqOf (by kernel_rfl))
noncomputable def M_iplaced : Mean := evFun Try.prog [(39, false, M_iWidth)] ⟨[], [], [], []⟩ 20
theorem S_iplaced : Sound Try.prog 20 M_iplaced := sound _ (cons_sound S_iWidth none_sound) hmix Try.func20 (eqOf (by kernel_rfl))
noncomputable def M_i_sheet_reach : Mean := evFun Try.prog [] ⟨[(3, [16, 15, 4, 1, 0], [1000000000]), (0, [1, 0], [1000000000])], [], [], []⟩ 21
theorem S_i_sheet_reach : Sound Try.prog 21 M_i_sheet_reach := sound _ none_sound hmix Try.func21 (eqOf (by kernel_rfl))
noncomputable def M_i_sheet_write : Mean := evFun Try.prog [(20, false, M_iplaced), (21, false, M_i_sheet_reach), (39, false, M_iWidth)] ⟨[(1, [8, 7, 6, 0], [1000000000])], [], [(3, [], [(21, [1, 18]), (24, [])]), (5, [], [(16, [])]), (7, [], [(16, [])]), (8, [], [(9, [])])], []⟩ 16
theorem S_i_sheet_write : Sound Try.prog 16 M_i_sheet_write := sound _ (cons_sound S_iplaced (cons_sound S_i_sheet_reach (cons_sound S_iWidth none_sound))) hmix Try.func16 (eqOf (by kernel_rfl))
noncomputable def M_iTextOf : Mean := evFun Try.prog [(41, false, M_iRuneBytes)] ⟨[(3, [8, 7, 6, 3], [])], [], [], []⟩ 24
theorem S_iTextOf : Sound Try.prog 24 M_iTextOf := sound _ (cons_sound S_iRuneBytes none_sound) hmix Try.func24 (eqOf (by kernel_rfl))
noncomputable def M_iPromptOf : Mean := evFun Try.prog [(24, false, M_iTextOf)] ⟨[], [], [], []⟩ 18
theorem S_iPromptOf : Sound Try.prog 18 M_iPromptOf := sound _ (cons_sound S_iTextOf none_sound) hmix Try.func18 (eqOf (by kernel_rfl))
noncomputable def M_iShown : Mean := evFun Try.prog [(33, false, M_iPrintable)] ⟨[(3, [8, 7, 6, 3], [])], [], [], []⟩ 19
theorem S_iShown : Sound Try.prog 19 M_iShown := sound _ (cons_sound S_iPrintable none_sound) hmix Try.func19 (eqOf (by kernel_rfl))
noncomputable def M_icellOk : Mean := evFun Try.prog [(39, false, M_iWidth)] ⟨[], [], [(1, [], [])], []⟩ 23
theorem S_icellOk : Sound Try.prog 23 M_icellOk := sound _ (cons_sound S_iWidth none_sound) hmix Try.func23 (eqOf (by kernel_rfl))
noncomputable def M_iGridOk : Mean := evFun Try.prog [(22, false, M_iin), (23, false, M_icellOk)] ⟨[(6, [64, 63, 1], [1])], [], [], []⟩ 6
theorem S_iGridOk : Sound Try.prog 6 M_iGridOk := sound _ (cons_sound S_iin (cons_sound S_icellOk none_sound)) hmix Try.func6 (eqOf (by kernel_rfl))
noncomputable def M_iGridRow : Mean := evFun Try.prog [(6, false, M_iGridOk), (22, false, M_iin), (24, false, M_iTextOf)] ⟨[(5, [6, 5], [])], [], [], []⟩ 7
theorem S_iGridRow : Sound Try.prog 7 M_iGridRow := sound _ (cons_sound S_iGridOk (cons_sound S_iin (cons_sound S_iTextOf none_sound))) hmix Try.func7 (eqOf (by kernel_rfl))
end Go.Proofs.Ytnmneoekpikpkaa
namespace Go.Proofs.Ytnmneoekpikpkaa
open Go.RowKit
set_option linter.unusedSimpArgs false
set_option linter.unusedVariables false
set_option maxHeartbeats 4000000
set_option maxRecDepth 10000
theorem E_iin (x a b : Int) : M_iin [V.v (.int .i64 x), V.v (.int .i64 a), V.v (.int .i64 b)] [] [] = some ⟨V.v (.bool (inR x a b)), [], []⟩ := by
  unfold M_iin
  by_cases h : a ≤ x <;> simp [Try.func22, Try.f22, h, inR]
def gridNewOk (w h : Int) : Bool := inR w 2 200 && inR h 1 200 && decide (w * h ≤ 8000)
theorem gridNewOk_of {w h : Int} (hn : gridNewOk w h = true) : (2 ≤ w ∧ w ≤ 200) ∧ (1 ≤ h ∧ h ≤ 200) ∧ w * h ≤ 8000 ∧ 0 ≤ w * h := by
  simp only [gridNewOk, Bool.and_eq_true, decide_eq_true_eq, inR_iff] at hn
  exact ⟨hn.1.1, hn.1.2, hn.2, Int.mul_nonneg (by omega) (by omega)⟩
theorem mul_range {w h : Int} (a : 2 ≤ w ∧ w ≤ 200) (b : 1 ≤ h ∧ h ≤ 200) : 0 ≤ w * h ∧ w * h ≤ 40000 :=
  ⟨Int.mul_nonneg (by omega) (by omega), by have := Int.mul_le_mul a.2 b.2 (by omega) (by omega); omega⟩
def vGrid (w h : Int) (p : V) (x y : Int) (wr : Bool) : V := .agg [V.v (.int .i64 w), V.v (.int .i64 h), p, V.v (.int .i64 x), V.v (.int .i64 y), V.v (.bool wr)]
theorem E_iGridNew_no (w h : Int) (hn : gridNewOk w h = false) : M_iGridNew [V.v (.int .i64 w), V.v (.int .i64 h)] [] [] = some ⟨.tup [vGrid 0 0 (.own 0) 0 0 false, V.v (.bool false)], [], [(0, [])]⟩ := by
  unfold M_iGridNew
  by_cases h1 : inR w 2 200 = true
  · by_cases h2 : inR h 1 200 = true
    · have hr := mul_range (inR_of h1) (inR_of h2)
      have hw := w64 (w * h) (by omega)
      have h3 : 8000 < w * h := by simpa [gridNewOk, h1, h2] using hn
      simp [Try.func13, Try.f13, E_iin, h1, h2, hw, h3, vGrid]
    · simp [Try.func13, Try.f13, E_iin, h1, h2, vGrid]
  · simp [Try.func13, Try.f13, E_iin, h1, vGrid]
def blanks (n : Nat) : List Int := List.replicate n 32
theorem blanks_snoc (n : Nat) : ints (blanks n) ++ [[D.a (.int .i64 32)]] = ints (blanks (n + 1)) := by rw [ints_snoc, blanks, ← List.replicate_succ']; rfl
theorem blanks_len (n : Nat) : (blanks n).length = n := List.length_replicate ..
theorem E_iGridNew (w h : Int) (hn : gridNewOk w h = true) : M_iGridNew [V.v (.int .i64 w), V.v (.int .i64 h)] [] [] = some ⟨.tup [vGrid w h (.own 0) 0 0 false, V.v (.bool true)], [], [(0, ints (blanks (w * h).toNat))]⟩ := by
  unfold M_iGridNew
  obtain ⟨a, b, h3, hp⟩ := gridNewOk_of hn
  have h1 := inR_iff.2 a
  have h2 := inR_iff.2 b
  have h3' : ¬ (8000 < w * h) := by omega
  have hw := w64 (w * h) (by omega)
  obtain ⟨n, hn⟩ := Int.eq_ofNat_of_zero_le hp
  simp [Try.func13, Try.f13, E_iin, h1, h2, hw, h3', vGrid]
  rw [hn] at h3
  rw [loopV_go (fun k => .on ⟨[(28, V.v (.int .i64 ((k : Int)))), (27, V.v (.int .i64 (w * h))), (6, .ref 6 0), (4, .ref 4 0)], [(6, [V.v (.int .i64 w), V.v (.int .i64 h), .own 2000000000, V.v (.int .i64 0), V.v (.int .i64 0), V.v (.bool false)]), (4, [V.v (.int .i64 0), V.v (.int .i64 0), .own 2000000001, V.v (.int .i64 0), V.v (.int .i64 0), V.v (.bool false)])], [(2000000001, []), (2000000000, ints (blanks k))], []⟩) n ?_ ?_]
  · simp [hn]
  · simp [blanks, ints_nil]
  · intro j hj
    have hw := w64 (j + 1) (by omega)
    simp [hn, hj, hw, blanks_len, ← blanks_snoc]
    simp (disch := omega) only [grd_pos]
    simp [hw, blanks_snoc]
end Go.Proofs.Ytnmneoekpikpkaa
namespace Go.Proofs.Ytnmneoekpikpkaa
open Go.RowKit
mutual
def bnD (B : Nat) : D → Bool
  | .a _ => true
  | .l rows => decide (rows.length ≤ B) && bnT B rows
  | .gone => false
def bnR (B : Nat) : List D → Bool
  | [] => true
  | d :: r => bnD B d && bnR B r
def bnT (B : Nat) : List (List D) → Bool
  | [] => true
  | r :: rows => bnR B r && bnT B rows
end
def bnL (B : Nat) (rows : List (List D)) : Bool := decide (rows.length ≤ B) && bnT B rows
abbrev smL (rows : List (List D)) : Bool := bnL 1000000000 rows
abbrev smR (r : List D) : Bool := bnR 1000000000 r
abbrev lgL (rows : List (List D)) : Bool := bnL 9223372036854775807 rows
abbrev lgR (r : List D) : Bool := bnR 9223372036854775807 r
variable {B : Nat}
@[simp] theorem bnD_a (v : Value) : bnD B (.a v) = true := id rfl
@[simp] theorem bnD_l (rows : List (List D)) : bnD B (.l rows) = bnL B rows := id rfl
@[simp] theorem bnR_nil : bnR B [] = true := id rfl
@[simp] theorem bnR_cons (d : D) (r : List D) : bnR B (d :: r) = (bnD B d && bnR B r) := id rfl
@[simp] theorem bnL_nil : bnL B [] = true := by simp [bnL, bnT]
theorem bnL_len {rows : List (List D)} (h : bnL B rows = true) : rows.length ≤ B := by
  unfold bnL at h; rw [Bool.and_eq_true, decide_eq_true_eq] at h; exact h.1
theorem bnT_at : ∀ {rows : List (List D)} {j : Nat} {r : List D}, bnT B rows = true → rows[j]? = some r → bnR B r = true
  | [], j, r, _, e => by simp at e
  | x :: rows, j, r, h, e => by
    have h : (bnR B x && bnT B rows) = true := h
    rw [Bool.and_eq_true] at h
    cases j with
    | zero => simp at e; subst e; exact h.1
    | succ j => exact bnT_at h.2 (by simpa using e)
theorem bnT_of : ∀ {rows : List (List D)}, (∀ (j : Nat) (r : List D), rows[j]? = some r → bnR B r = true) → bnT B rows = true
  | [], _ => rfl
  | x :: rows, h => by
    show (bnR B x && bnT B rows) = true
    rw [h 0 x rfl, bnT_of fun j r e => h (j + 1) r (by simpa using e)]; rfl
theorem bnL_at {rows : List (List D)} {j : Nat} {r : List D} (h : bnL B rows = true) (e : rows[j]? = some r) : bnR B r = true := by
  unfold bnL at h; rw [Bool.and_eq_true] at h; exact bnT_at h.2 e
theorem bnL_of {rows : List (List D)} (hl : rows.length ≤ B) (h : ∀ (j : Nat) (r : List D), rows[j]? = some r → bnR B r = true) : bnL B rows = true := by
  unfold bnL; rw [bnT_of h, decide_eq_true hl]; rfl
theorem smL_len {rows : List (List D)} (h : smL rows = true) : rows.length ≤ 1000000000 := bnL_len h
theorem smL_at {rows : List (List D)} {j : Nat} {r : List D} (h : smL rows = true) (e : rows[j]? = some r) : smR r = true := bnL_at h e
theorem bnT_flat : ∀ {rows : List (List D)}, rowsFlat rows = true → bnT B rows = true
  | [], _ => rfl
  | r :: rows, h => by
    have h : (r.all flatD && rowsFlat rows) = true := h
    rw [Bool.and_eq_true] at h
    have : ∀ l : List D, l.all flatD = true → bnR B l = true := by
      intro l; induction l with
      | nil => intro _; rfl
      | cons d l ih =>
        intro h
        rw [List.all_cons, Bool.and_eq_true] at h
        rw [bnR_cons, ih h.2]
        cases d with
        | a v => rfl
        | l rows => cases h.1
        | gone => cases h.1
    show (bnR B r && bnT B rows) = true
    rw [this r h.1, bnT_flat h.2]; rfl
theorem bnL_flat {rows : List (List D)} (h : rowsFlat rows = true) (hl : rows.length ≤ B) : bnL B rows = true := by
  unfold bnL; rw [bnT_flat h, decide_eq_true hl]; rfl
theorem bnL_ints {l : List Int} (h : l.length ≤ B) : bnL B (ints l) = true := bnL_flat (ints_flat l) (by simpa using h)
theorem bnL_byts {l : List UInt8} (h : l.length ≤ B) : bnL B (byts l) = true := bnL_flat (byts_flat l) (by simpa using h)
theorem bnL_strs {l : List ByteArray} (h : l.length ≤ B) : bnL B (strs l) = true := bnL_flat (strs_flat l) (by simpa using h)
theorem smL_ints {l : List Int} (h : l.length ≤ 1000000000) : smL (ints l) = true := bnL_ints h
theorem smL_byts {l : List UInt8} (h : l.length ≤ 1000000000) : smL (byts l) = true := bnL_byts h
theorem smL_strs {l : List ByteArray} (h : l.length ≤ 1000000000) : smL (strs l) = true := bnL_strs h
end Go.Proofs.Ytnmneoekpikpkaa
namespace Go.Proofs.Ytnmneoekpikpkaa
open Go.RowKit
set_option linter.unusedSimpArgs false
set_option linter.unusedVariables false
set_option maxHeartbeats 4000000
set_option maxRecDepth 10000
def runeOk (r : Int) : Bool := inR r 0 1114111 && !inR r 55296 57343
def printable (r : Int) : Bool := runeOk r && decide (32 ≤ r) && !inR r 127 159
def typed (r : Int) : Bool := printable r || r == 9 || r == 10
theorem firstBad {α : Type} (p : α → Bool) (l : List α) : l.all p = true ∨ (l.all p = false ∧ ∃ N, ∃ h : N < l.length, p l[N] = false ∧ ∀ j (hj : j < l.length), j < N → p l[j] = true) := by
  induction l with
  | nil => exact .inl rfl
  | cons x l ih =>
    cases hx : p x
    · exact .inr ⟨by simp [hx], 0, by simp, hx, fun j hj h => by omega⟩
    · rcases ih with h | ⟨h, N, hN, h1, h2⟩
      · exact .inl (by simp [hx, h])
      · refine .inr ⟨by simp [hx, h], N + 1, by simpa using hN, by simpa using h1, fun j hj hlt => ?_⟩
        cases j with
        | zero => simpa using hx
        | succ j => simpa using h2 j (by simpa using hj) (by omega)
theorem E_iRuneOk (r : Int) : M_iRuneOk [V.v (.int .i64 r)] [] [] = some ⟨V.v (.bool (runeOk r)), [], []⟩ := by
  unfold M_iRuneOk
  cases h1 : inR r 0 1114111 <;> cases h2 : inR r 55296 57343 <;> simp [Try.func49, Try.f49, E_iin, runeOk, h1, h2]
theorem E_sRuneOk (r : Int) : M_sRuneOk [V.v (.int .i64 r)] [] [] = some ⟨V.v (.bool (runeOk r)), [], []⟩ := by
  unfold M_sRuneOk
  by_cases h1 : 0 ≤ r <;> by_cases h2 : r ≤ 1114111 <;> by_cases h3 : r < 55296 <;> by_cases h4 : 57343 < r <;> simp [Try.func61, Try.f61, runeOk, inR, h1, h2, h3, h4] <;> omega
theorem E_iPrintable (r : Int) : M_iPrintable [V.v (.int .i64 r)] [] [] = some ⟨V.v (.bool (printable r)), [], []⟩ := by
  unfold M_iPrintable
  cases h1 : runeOk r <;> by_cases h3 : 32 ≤ r <;> cases h2 : inR r 127 159 <;> simp [Try.func33, Try.f33, E_iin, E_iRuneOk, printable, h1, h2, h3]
theorem E_sPrintable (r : Int) : M_sPrintable [V.v (.int .i64 r)] [] [] = some ⟨V.v (.bool (printable r)), [], []⟩ := by
  unfold M_sPrintable
  cases h1 : runeOk r <;> by_cases h3 : 32 ≤ r <;> by_cases h4 : r < 127 <;> by_cases h5 : 159 < r <;> simp [Try.func60, Try.f60, E_sRuneOk, printable, inR, h1, h3, h4, h5] <;> omega
theorem E_iadmissible (r : Int) : M_iadmissible [V.v (.int .i64 r)] [] [] = some ⟨V.v (.bool (typed r)), [], []⟩ := by
  unfold M_iadmissible
  by_cases h3 : r = 9
  · subst h3; cases h1 : printable 9 <;> simp [Try.func58, Try.f58, E_iPrintable, typed, h1]
  by_cases h4 : r = 10
  · subst h4; cases h1 : printable 10 <;> simp [Try.func58, Try.f58, E_iPrintable, typed, h1]
  cases h1 : printable r <;> simp [Try.func58, Try.f58, E_iPrintable, typed, h1, h3, h4]
theorem E_sl13Typed (r : Int) : M_sl13Typed [V.v (.int .i64 r)] [] [] = some ⟨V.v (.bool (typed r)), [], []⟩ := by
  unfold M_sl13Typed
  by_cases h3 : r = 9
  · subst h3; cases h1 : printable 9 <;> simp [Try.func59, Try.f59, E_sPrintable, typed, h1]
  by_cases h4 : r = 10
  · subst h4; cases h1 : printable 10 <;> simp [Try.func59, Try.f59, E_sPrintable, typed, h1]
  cases h1 : printable r <;> simp [Try.func59, Try.f59, E_sPrintable, typed, h1, h3, h4]
theorem E_sl13AllTyped (l : List Int) (hl : l.length ≤ 1000000000) : M_sl13AllTyped [.lst (some 0) (ints l)] [] [] = some ⟨V.v (.bool (l.all typed)), [], []⟩ := by
  unfold M_sl13AllTyped
  simp [Try.func57, Try.f57]
  rcases firstBad typed l with h | ⟨h, N, hN, h1, h2⟩
  · rw [loopV_go (fun j => .on ⟨[(7, V.v (.int .i64 ((j : Int)))), (6, V.v (.int .i64 ((l.length : Int)))), (5, .lst (some 0) (ints l))], [], [], []⟩) l.length ?_ ?_]
    · simp [h]
    · simp
    · intro j hj
      have hw := w64 (j + 1) (by omega)
      have := List.all_eq_true.1 h l[j] (List.getElem_mem hj)
      simp [hj, hw, ints_get hj, E_sl13Typed, this]
  · rw [loopV_go (fun j => .on ⟨[(7, V.v (.int .i64 ((j : Int)))), (6, V.v (.int .i64 ((l.length : Int)))), (5, .lst (some 0) (ints l))], [], [], []⟩) N ?_ ?_]
    · simp [h, hN, h1, ints_get hN, E_sl13Typed]
    · simp
    · intro j hj
      have hj' : j < l.length := by omega
      have hw := w64 (j + 1) (by omega)
      simp [hj', hw, ints_get hj', E_sl13Typed, h2 j hj' hj]
end Go.Proofs.Ytnmneoekpikpkaa
namespace Go.Proofs.Ytnmneoekpikpkaa
open Go.RowKit
set_option linter.unusedSimpArgs false
set_option linter.unusedVariables false
set_option maxHeartbeats 8000000
set_option maxRecDepth 10000
theorem loopV_ex {f : Q → Option (Ex × Q)} {s : Q} {R : Option (Ex × Q)} (hL : loopV f s = R) {σ : Type} (st : Nat → σ → Q) (n : Nat) (I : Nat → σ → Prop) (a0 : σ) (h0 : s = st 0 a0) (i0 : I 0 a0)
    (hs : ∀ j a, j < n → I j a → ∃ b, I (j + 1) b ∧ f (st j a) = some (.normal, st (j + 1) b)) : ∃ a, I n a ∧ nextV f (f (st n a)) = R := by
  have key : ∀ k, k ≤ n → ∃ a, I k a ∧ loopV f (st k a) = R := by
    intro k
    induction k with
    | zero => intro _; exact ⟨a0, i0, by rw [← h0]; exact hL⟩
    | succ k ih =>
      intro hk
      obtain ⟨a, ha, e⟩ := ih (by omega)
      obtain ⟨b, hb, e2⟩ := hs k a (by omega) ha
      rw [loopV_unf, e2, nextV_normal] at e
      exact ⟨b, hb, e⟩
  obtain ⟨a, ha, e⟩ := key n (Nat.le_refl _)
  exact ⟨a, ha, by rw [← loopV_unf]; exact e⟩
theorem land_small (A m : Nat) (hm : m < 9223372036854775808) : 0 ≤ IntKind.i64.wrap ((A &&& m : Nat) : Int) ∧ IntKind.i64.wrap ((A &&& m : Nat) : Int) ≤ m := by
  have h : A &&& m ≤ m := Nat.and_le_right
  rw [w64 _ (by omega)]
  omega
theorem bits64 : IntKind.i64.bits = 64 := rfl
def curV (b : List UInt8) (i h : Int) : List V := [.lst (some 0) (byts b), V.v (.int .i64 i), V.v (.int .i64 h)]
theorem EX_sl01New (b : List UInt8) (hb : b.length ≤ 1048576) : ∃ h, M_sl01New [.lst (some 0) (byts b)] [] [] = some ⟨.ref 0 0, [curV b 0 h], []⟩ := by
  generalize hE : M_sl01New [.lst (some 0) (byts b)] [] [] = R
  unfold M_sl01New at hE
  have w0 := w64 (600128 + (b.length : Int)) (by omega)
  simp [Try.func8, Try.f8, bits64, w0] at hE
  generalize hL : loopV _ _ = L at hE
  obtain ⟨h, -, e⟩ := loopV_ex hL (σ := Int) (fun j h => .on ⟨[(4, V.v (.int .i64 ((j : Int)))), (3, V.v (.int .i64 h)), (0, .lst (some 0) (byts b))], [], [], []⟩) (min b.length 4000) (fun _ _ => True) (600128 + (b.length : Int)) (by simp) trivial (fun j h hj _ => by
    have h1 : j < b.length := by omega
    have h2 : (j : Int) < 4000 := by omega
    have hw := w64 (j + 1) (by omega)
    simp [h1, h2, hw, byts_get h1, bits64])
  subst e
  by_cases h1 : b.length ≤ 4000
  · have h2 : min b.length 4000 = b.length := by omega
    rw [h2] at hE
    simp at hE
    exact ⟨h, hE.symm⟩
  · have h2 : min b.length 4000 = 4000 := by omega
    have h3 : 4000 < b.length := by omega
    have h4 : (4000 : Int) < b.length := by omega
    rw [h2] at hE
    simp [h3, h4] at hE
    exact ⟨h, hE.symm⟩
theorem EX_sl01Byte (b : List UInt8) (i h : Int) (hb : b.length ≤ 1048576) (hi : 0 ≤ i ∧ i ≤ b.length) : ∃ x i' h', M_sl01Byte [.ref 0 0] [curV b i h] [] = some ⟨V.v (.int .i64 x), [curV b i' h'], []⟩ ∧ (0 ≤ x ∧ x ≤ 255) ∧ 0 ≤ i' ∧ i' ≤ b.length := by
  obtain ⟨k, rfl⟩ := Int.eq_ofNat_of_zero_le hi.1
  generalize hE : M_sl01Byte [.ref 0 0] [curV b k h] [] = R
  unfold M_sl01Byte curV at hE
  by_cases h1 : k < b.length
  · have hw := w64 ((k : Int) + 1) (by omega)
    simp [Try.func32, Try.f32, h1, bits64, byts_get h1, hw] at hE
    exact ⟨_, _, _, hE.symm, land_small _ 255 (by omega), by omega, by omega⟩
  · simp [Try.func32, Try.f32, h1, bits64] at hE
    exact ⟨_, _, _, hE.symm, land_small _ 255 (by omega), hi⟩
theorem EX_sl01Below (b : List UInt8) (i h n : Int) (hb : b.length ≤ 1048576) (hi : 0 ≤ i ∧ i ≤ b.length) (hn : 0 < n) : ∃ x i' h', M_sl01Below [.ref 0 0, V.v (.int .i64 n)] [curV b i h] [] = some ⟨V.v (.int .i64 x), [curV b i' h'], []⟩ ∧ (0 ≤ x ∧ x < n) ∧ 0 ≤ i' ∧ i' ≤ b.length := by
  have h0 : ¬ n ≤ 0 := by omega
  have hn0 : ¬ n = 0 := by omega
  have tm : ∀ x : Int, 0 ≤ x → 0 ≤ x.tmod n ∧ x.tmod n < n := fun x hx => ⟨Int.tmod_nonneg n hx, Int.tmod_lt_of_pos x hn⟩
  obtain ⟨x1, i1, h1, e1, r1, j1⟩ := EX_sl01Byte b i h hb hi
  unfold curV at e1
  unfold M_sl01Below curV
  by_cases h2 : n ≤ 256
  · refine ⟨x1.tmod n, i1, h1, ?_, tm x1 r1.1, j1⟩
    simp [Try.func12, Try.f12, h0, hn0, h2, e1]
  · obtain ⟨x2, i2, h2', e2, r2, j2⟩ := EX_sl01Byte b i1 h1 hb j1
    obtain ⟨x3, i3, h3, e3, r3, j3⟩ := EX_sl01Byte b i2 h2' hb j2
    obtain ⟨x4, i4, h4, e4, r4, j4⟩ := EX_sl01Byte b i3 h3 hb j3
    unfold curV at e2 e3 e4
    have q1 := w64 (x1 * 16777216) (by omega)
    have q2 := w64 (x2 * 65536) (by omega)
    have q3 := w64 (x1 * 16777216 + x2 * 65536) (by omega)
    have q4 := w64 (x3 * 256) (by omega)
    have q5 := w64 (x1 * 16777216 + x2 * 65536 + x3 * 256) (by omega)
    have q6 := w64 (x1 * 16777216 + x2 * 65536 + x3 * 256 + x4) (by omega)
    refine ⟨(x1 * 16777216 + x2 * 65536 + x3 * 256 + x4).tmod n, i4, h4, ?_, tm _ (by omega), j4⟩
    simp [Try.func12, Try.f12, h0, hn0, h2, e1, e2, e3, e4, q1, q2, q3, q4, q5, q6]
theorem pr_range {r : Int} (h : (33 ≤ r ∧ r ≤ 126) ∨ (160 ≤ r ∧ r ≤ 500) ∨ (19968 ≤ r ∧ r ≤ 22000)) : printable r = true := by
  have h1 : inR r 0 1114111 = true := inR_iff.2 (by omega)
  have h2 : inR r 55296 57343 = false := inR_no (by rw [inR_iff]; omega)
  have h3 : inR r 127 159 = false := inR_no (by rw [inR_iff]; omega)
  have h4 : 32 ≤ r := by omega
  simp [printable, runeOk, h1, h2, h3, h4]
theorem EX_sl02Rune (b : List UInt8) (i h : Int) (hb : b.length ≤ 1048576) (hi : 0 ≤ i ∧ i ≤ b.length) : ∃ x i' h', M_sl02Rune [.ref 0 0] [curV b i h] [] = some ⟨V.v (.int .i64 x), [curV b i' h'], []⟩ ∧ printable x = true ∧ 0 ≤ i' ∧ i' ≤ b.length := by
  obtain ⟨k, i1, h1, e1, r1, j1⟩ := EX_sl01Below b i h 12 hb hi (by omega)
  unfold curV at e1
  generalize hE : M_sl02Rune [.ref 0 0] [curV b i h] [] = R
  unfold M_sl02Rune curV at hE
  by_cases k9 : k < 9
  · obtain ⟨q, i2, h2, e2, r2, j2⟩ := EX_sl01Below b i1 h1 16 hb j1 (by omega)
    unfold curV at e2
    obtain ⟨m, rfl⟩ := Int.eq_ofNat_of_zero_le r2.1
    have hm : m = 0 ∨ m = 1 ∨ m = 2 ∨ m = 3 ∨ m = 4 ∨ m = 5 ∨ m = 6 ∨ m = 7 ∨ m = 8 ∨ m = 9 ∨ m = 10 ∨ m = 11 ∨ m = 12 ∨ m = 13 ∨ m = 14 ∨ m = 15 := by omega
    have hm2 : (m : Int) < 16 := by omega
    rcases hm with rfl | rfl | rfl | rfl | rfl | rfl | rfl | rfl | rfl | rfl | rfl | rfl | rfl | rfl | rfl | rfl <;>
      (simp [Try.func29, Try.f29, e1, k9, e2] at hE; exact ⟨_, _, _, hE.symm, by decide, j2⟩)
  by_cases k10 : k = 9
  · subst k10
    obtain ⟨q, i2, h2, e2, r2, j2⟩ := EX_sl01Below b i1 h1 94 hb j1 (by omega)
    unfold curV at e2
    have w := w64 (33 + q) (by omega)
    simp [Try.func29, Try.f29, e1, e2, w] at hE
    exact ⟨_, _, _, hE.symm, pr_range (by omega), j2⟩
  by_cases k11 : k = 10
  · subst k11
    obtain ⟨q, i2, h2, e2, r2, j2⟩ := EX_sl01Below b i1 h1 300 hb j1 (by omega)
    unfold curV at e2
    have w := w64 (160 + q) (by omega)
    simp [Try.func29, Try.f29, e1, e2, w] at hE
    exact ⟨_, _, _, hE.symm, pr_range (by omega), j2⟩
  obtain ⟨q, i2, h2, e2, r2, j2⟩ := EX_sl01Below b i1 h1 2000 hb j1 (by omega)
  unfold curV at e2
  have w := w64 (19968 + q) (by omega)
  simp [Try.func29, Try.f29, e1, e2, k9, k10, k11, w] at hE
  exact ⟨_, _, _, hE.symm, pr_range (by omega), j2⟩
theorem EX_sl02Runes (b : List UInt8) (i h n : Int) (hb : b.length ≤ 1048576) (hi : 0 ≤ i ∧ i ≤ b.length) (hn : 0 ≤ n ∧ n ≤ 1000) : ∃ (l : List Int) (i' h' : Int), M_sl02Runes [.ref 0 0, V.v (.int .i64 n)] [curV b i h] [] = some ⟨.own 0, [curV b i' h'], [(0, ints l)]⟩ ∧ l.all printable = true ∧ (l.length : Int) ≤ n ∧ 0 ≤ i' ∧ i' ≤ b.length := by
  obtain ⟨k, i1, h1, e1, r1, j1⟩ := EX_sl01Below b i h (n + 1) hb hi (by omega)
  unfold curV at e1
  have w := w64 (n + 1) (by omega)
  obtain ⟨m, rfl⟩ := Int.eq_ofNat_of_zero_le r1.1
  generalize hE : M_sl02Runes [.ref 0 0, V.v (.int .i64 n)] [curV b i h] [] = R
  unfold M_sl02Runes curV at hE
  simp [Try.func31, Try.f31, w, e1] at hE
  generalize hL : loopV _ _ = L at hE
  obtain ⟨⟨l, i2, h2⟩, ⟨a1, a2, a3⟩, e⟩ := loopV_ex hL (σ := List Int × Int × Int) (fun j a => .on ⟨[(6, V.v (.int .i64 ((m : Int) - j))), (5, .own 2000000000), (0, .ref 1000000000 0)], [(1000000000, [.lst (some 0) (byts b), V.v (.int .i64 a.2.1), V.v (.int .i64 a.2.2)])], [(2000000000, ints a.1)], []⟩) m (fun j a => a.1.all printable = true ∧ a.1.length = j ∧ 0 ≤ a.2.1 ∧ a.2.1 ≤ b.length) ([], i1, h1) (by simp [ints_nil]) ⟨rfl, rfl, j1⟩ (fun j a hj ⟨p1, p2, p3⟩ => by
    obtain ⟨l, i2, h2⟩ := a
    simp only at p1 p2 p3
    obtain ⟨x, i3, h3, e3, p4, j3⟩ := EX_sl02Rune b i2 h2 hb p3
    unfold curV at e3
    have g : (0 : Int) < (m : Int) - j := by omega
    have hw := w64 ((m : Int) - j - 1) (by omega)
    have hw2 : (m : Int) - j - 1 = (m : Int) - ((j : Int) + 1) := by omega
    rw [hw2] at hw
    refine ⟨(l ++ [x], i3, h3), ⟨by simp [p1, p4], by simp [p2], j3⟩, ?_⟩
    simp [hj, e3, hw2, hw, p2]
    simp (disch := omega) only [grd_pos]
    simp [hw2, hw, ints_cons, ints_nil])
  subst e
  simp at hE
  simp only at a1 a2 a3
  exact ⟨l, i2, h2, hE.symm, a1, by omega, a3⟩
theorem ints_setD (l : List Int) (i : Nat) (x : Int) : (ints l).set i [D.a (.int .i64 x)] = ints (l.set i x) := by
  show (l.map c_ints.enc).set i (c_ints.enc x) = (l.set i x).map c_ints.enc
  rw [List.map_set]
theorem all_set {p : Int → Bool} {l : List Int} {i : Nat} {x : Int} (h : l.all p = true) (hx : p x = true) : (l.set i x).all p = true := by
  refine List.all_eq_true.2 fun y hy => ?_
  rcases List.mem_or_eq_of_mem_set hy with h1 | h1
  · exact List.all_eq_true.1 h y h1
  · rw [h1]; exact hx
theorem printable_typed {r : Int} (h : printable r = true) : typed r = true := by simp [typed, h]
theorem EX_sl13Runes (b : List UInt8) (i h n : Int) (hb : b.length ≤ 1048576) (hi : 0 ≤ i ∧ i ≤ b.length) (hn : 0 ≤ n ∧ n ≤ 1000) : ∃ (l : List Int) (i' h' : Int), M_sl13Runes [.ref 0 0, V.v (.int .i64 n)] [curV b i h] [] = some ⟨.own 0, [curV b i' h'], [(0, ints l)]⟩ ∧ l.all typed = true ∧ (l.length : Int) ≤ n ∧ 0 ≤ i' ∧ i' ≤ b.length := by
  obtain ⟨l0, i1, h1, e1, q1, q2, j1⟩ := EX_sl02Runes b i h n hb hi hn
  unfold curV at e1
  have q3 : l0.all typed = true := List.all_eq_true.2 fun x hx => printable_typed (List.all_eq_true.1 q1 x hx)
  generalize hE : M_sl13Runes [.ref 0 0, V.v (.int .i64 n)] [curV b i h] [] = R
  unfold M_sl13Runes curV at hE
  simp [Try.func42, Try.f42, e1] at hE
  generalize hL : loopV _ _ = L at hE
  obtain ⟨⟨l, i2, h2⟩, ⟨a1, a2, a3⟩, e⟩ := loopV_ex hL (σ := List Int × Int × Int) (fun j a => .on ⟨[(13, V.v (.int .i64 ((j : Int)))), (12, V.v (.int .i64 ((l0.length : Int)))), (5, .own 2000000000), (0, .ref 1000000000 0)], [(1000000000, [.lst (some 0) (byts b), V.v (.int .i64 a.2.1), V.v (.int .i64 a.2.2)])], [(2000000000, ints a.1)], []⟩) l0.length (fun j a => a.1.all typed = true ∧ a.1.length = l0.length ∧ 0 ≤ a.2.1 ∧ a.2.1 ≤ b.length) (l0, i1, h1) (by simp) ⟨q3, rfl, j1⟩ (fun j a hj ⟨p1, p2, p3⟩ => by
    obtain ⟨l, i2, h2⟩ := a
    simp only at p1 p2 p3
    obtain ⟨x, i3, h3, e3, p4, j3⟩ := EX_sl01Below b i2 h2 14 hb p3 (by omega)
    unfold curV at e3
    have hw := w64 ((j : Int) + 1) (by omega)
    have hjl : j < l.length := by omega
    by_cases x0 : x = 0
    · subst x0
      refine ⟨(l.set j 9, i3, h3), ⟨all_set p1 (by decide), by simp [p2], j3⟩, ?_⟩
      simp [hj, hjl, hw, e3, ints_setD]
    by_cases x1 : x = 1
    · subst x1
      refine ⟨(l.set j 10, i3, h3), ⟨all_set p1 (by decide), by simp [p2], j3⟩, ?_⟩
      simp [hj, hjl, hw, e3, ints_setD]
    by_cases x2 : x = 2
    · subst x2
      obtain ⟨z, i4, h4, e4, p5, j4⟩ := EX_sl01Below b i3 h3 26 hb j3 (by omega)
      unfold curV at e4
      have w := w64 (65 + z) (by omega)
      refine ⟨(l.set j (65 + z), i4, h4), ⟨all_set p1 (printable_typed (pr_range (by omega))), by simp [p2], j4⟩, ?_⟩
      simp [hj, hjl, hw, e3, e4, w, ints_setD]
    refine ⟨(l, i3, h3), ⟨p1, p2, j3⟩, ?_⟩
    simp [hj, hjl, hw, e3, x0, x1, x2])
  subst e
  simp at hE
  simp only at a1 a2 a3
  exact ⟨l, i2, h2, hE.symm, a1, by omega, a3⟩
theorem EX_sl13Draw (b : List UInt8) (i h : Int) (hb : b.length ≤ 1048576) (hi : 0 ≤ i ∧ i ≤ b.length) : ∃ (l : List Int) (a : Nat) (i' h' : Int), M_sl13Draw [.ref 0 0] [curV b i h] [] = some ⟨.agg [.own 0, V.v (.int .i64 ((a : Int)))], [curV b i' h'], [(0, ints l)]⟩ ∧ l.all typed = true ∧ l.length ≤ 16 ∧ a ≤ l.length ∧ 0 ≤ i' ∧ i' ≤ b.length := by
  obtain ⟨l, i1, h1, e1, q1, q2, j1⟩ := EX_sl13Runes b i h 16 hb hi (by omega)
  obtain ⟨x, i2, h2, e2, q3, j2⟩ := EX_sl01Below b i1 h1 ((l.length : Int) + 1) hb j1 (by omega)
  obtain ⟨a, rfl⟩ := Int.eq_ofNat_of_zero_le q3.1
  unfold curV at e1 e2
  have w := w64 ((l.length : Int) + 1) (by omega)
  refine ⟨l, a, i2, h2, ?_, q1, by omega, by omega, j2⟩
  unfold M_sl13Draw curV
  simp [Try.func26, Try.f26, e1, e2, w]
end Go.Proofs.Ytnmneoekpikpkaa
namespace Go.Proofs.Ytnmneoekpikpkaa
open Go.RowKit
set_option linter.unusedSimpArgs false
set_option linter.unusedVariables false
set_option maxHeartbeats 4000000
set_option maxRecDepth 10000
def textOk (l : List Int) : Bool := decide (l.length ≤ 400) && l.all typed
def lineOk (t : List Int) (a : Int) : Bool := textOk t && inR a 0 t.length
def emptyL (t : List Int) (a : Int) : Bool := decide (t.length = 0) && (a == 0)
theorem E_iareAdmissible (l : List Int) (hl : l.length ≤ 1000000000) : M_iareAdmissible [.lst (some 0) (ints l)] [] [] = some ⟨V.v (.bool (textOk l)), [], []⟩ := by
  unfold M_iareAdmissible
  simp [Try.func50, Try.f50]
  by_cases hn : l.length ≤ 400
  · rcases firstBad typed l with h | ⟨h, N, hN, h1, h2⟩
    · rw [loopV_go (fun j => .on ⟨[(7, V.v (.int .i64 ((j : Int)))), (6, V.v (.int .i64 ((l.length : Int)))), (5, .lst (some 0) (ints l))], [], [], []⟩) l.length ?_ ?_]
      · simp [textOk, h, hn]
      · simp
      · intro j hj
        have hw := w64 (j + 1) (by omega)
        have := List.all_eq_true.1 h l[j] (List.getElem_mem hj)
        have h4 : ¬ (400 ≤ (j : Int)) := by omega
        simp [hj, hw, ints_get hj, E_iadmissible, this, h4]
    · rw [loopV_go (fun j => .on ⟨[(7, V.v (.int .i64 ((j : Int)))), (6, V.v (.int .i64 ((l.length : Int)))), (5, .lst (some 0) (ints l))], [], [], []⟩) N ?_ ?_]
      · have h4 : ¬ (400 ≤ (N : Int)) := by omega
        simp [textOk, h, hN, h1, ints_get hN, E_iadmissible, h4]
      · simp
      · intro j hj
        have hj' : j < l.length := by omega
        have hw := w64 (j + 1) (by omega)
        have h4 : ¬ (400 ≤ (j : Int)) := by omega
        simp [hj', hw, ints_get hj', E_iadmissible, h2 j hj' hj, h4]
  · rcases firstBad typed (l.take 400) with h | ⟨h, N, hN, h1, h2⟩
    · obtain ⟨N, hN⟩ : ∃ N : Nat, N = 400 := ⟨_, rfl⟩
      rw [loopV_go (fun j => .on ⟨[(7, V.v (.int .i64 ((j : Int)))), (6, V.v (.int .i64 ((l.length : Int)))), (5, .lst (some 0) (ints l))], [], [], []⟩) N ?_ ?_]
      · have h5 : N < l.length := by omega
        have h6 : 400 ≤ (N : Int) := by omega
        simp [textOk, hn, h5, ints_get h5, h6]
      · simp
      · intro j hj
        have hj' : j < l.length := by omega
        have hw := w64 (j + 1) (by omega)
        have h3 : typed l[j] = true := by
          have := List.all_eq_true.1 h ((l.take 400)[j]'(by simp; omega)) (List.getElem_mem _)
          simpa using this
        have h4 : ¬ (400 ≤ (j : Int)) := by omega
        simp [hj', hw, ints_get hj', E_iadmissible, h3, h4]
    · have hN' : N < 400 ∧ N < l.length := by simp at hN; omega
      rw [loopV_go (fun j => .on ⟨[(7, V.v (.int .i64 ((j : Int)))), (6, V.v (.int .i64 ((l.length : Int)))), (5, .lst (some 0) (ints l))], [], [], []⟩) N ?_ ?_]
      · have h4 : ¬ (400 ≤ (N : Int)) := by omega
        have h5 : typed l[N] = false := by simpa using h1
        simp [textOk, hn, hN'.2, h5, ints_get hN'.2, E_iadmissible, h4]
      · simp
      · intro j hj
        have hj' : j < l.length := by omega
        have hw := w64 (j + 1) (by omega)
        have h4 : ¬ (400 ≤ (j : Int)) := by omega
        have h3 : typed l[j] = true := by
          have := h2 j (by simp; omega) hj
          simpa using this
        simp [hj', hw, ints_get hj', E_iadmissible, h3, h4]
theorem E_sl15Piece (l : List Int) (hl : l.length ≤ 1000000000) : M_sl15Piece [.lst (some 0) (ints l)] [] [] = some ⟨V.v (.bool (textOk l)), [], []⟩ := by
  unfold M_sl15Piece
  by_cases hn : l.length ≤ 400
  · have : (l.length : Int) ≤ 400 := by omega
    cases h : l.all typed <;> simp [Try.func54, Try.f54, textOk, hn, this, E_sl13AllTyped l hl, h]
  · have : ¬ (l.length : Int) ≤ 400 := by omega
    simp [Try.func54, Try.f54, textOk, hn, this]
theorem E_iLineOk (l : List Int) (a : Int) (hl : l.length ≤ 1000000000) : M_iLineOk [.agg [.lst (some 0) (ints l), V.v (.int .i64 a)]] [] [] = some ⟨V.v (.bool (lineOk l a)), [], []⟩ := by
  unfold M_iLineOk
  cases h : textOk l <;> simp [Try.func34, Try.f34, lineOk, E_iareAdmissible l hl, E_iin, h]
theorem E_sLineOk (l : List Int) (a : Int) (hl : l.length ≤ 1000000000) : M_sLineOk [.agg [.lst (some 0) (ints l), V.v (.int .i64 a)]] [] [] = some ⟨V.v (.bool (lineOk l a)), [], []⟩ := by
  unfold M_sLineOk
  by_cases hn : l.length ≤ 400
  · have : (l.length : Int) ≤ 400 := by omega
    cases h : l.all typed <;> by_cases h1 : 0 ≤ a <;> by_cases h2 : a ≤ (l.length : Int) <;> simp [Try.func45, Try.f45, lineOk, textOk, inR, hn, this, E_sl13AllTyped l hl, h, h1, h2]
  · have : ¬ (l.length : Int) ≤ 400 := by omega
    simp [Try.func45, Try.f45, lineOk, textOk, hn, this]
theorem E_iemptyLine (l : List Int) (a : Int) : M_iemptyLine [.agg [.lst (some 0) (ints l), V.v (.int .i64 a)]] [] [] = some ⟨V.v (.bool (emptyL l a)), [], []⟩ := by
  unfold M_iemptyLine
  by_cases h1 : l.length = 0 <;> by_cases h2 : a = 0 <;> simp [Try.func38, Try.f38, emptyL, h1, h2]
def atEnd (l : List Int) (a : Int) : Bool := decide (0 < l.length) && (a == (l.length : Int))
theorem E_iisAtEnd (l : List Int) (a : Int) : M_iisAtEnd [.agg [.lst (some 0) (ints l), V.v (.int .i64 a)]] [] [] = some ⟨V.v (.bool (atEnd l a)), [], []⟩ := by
  unfold M_iisAtEnd
  by_cases h1 : 0 < l.length <;> by_cases h2 : a = (l.length : Int) <;> simp [Try.func51, Try.f51, atEnd, h1, h2] <;> omega
end Go.Proofs.Ytnmneoekpikpkaa
namespace Go.Proofs.Ytnmneoekpikpkaa
open Go.RowKit
set_option linter.unusedSimpArgs false
set_option linter.unusedVariables false
set_option maxHeartbeats 8000000
set_option maxRecDepth 100000
def pieceB (p : TPiece) : Bool := decide (0 < p.Text.length) && textOk p.Text
def ringOk (l : List TPiece) : Bool := l.all pieceB && decide (l.length ≤ 6)
def lineB (x : TLine) : Bool := lineOk x.Text x.At
def undoOk (l : List TLine) : Bool := l.all lineB && decide (l.length ≤ 20)
theorem E_iRingOk (l : List TPiece) (s : smL (dPieces l) = true) : M_iRingOk [.agg [.lst (some 0) (dPieces l)]] [] [] = some ⟨V.v (.bool (ringOk l)), [], []⟩ := by
  have hb : l.length ≤ 1000000000 := by simpa using smL_len s
  have sm : ∀ j (h : j < l.length), l[j].Text.length ≤ 1000000000 := fun j h => by
    have hs := smL_at s (dPieces_get h)
    simp only [bnR_cons, bnR_nil, bnD_a, bnD_l, Bool.and_true, Bool.true_and] at hs
    simpa using bnL_len hs
  unfold M_iRingOk
  simp [Try.func36, Try.f36]
  rcases firstBad pieceB l with h | ⟨h, N, hN, h1, h2⟩
  · rw [loopV_go (fun j => .on ⟨[(8, V.v (.int .i64 ((j : Int)))), (7, V.v (.int .i64 ((l.length : Int)))), (6, .lst (some 0) (dPieces l)), (1, .ref 1 0)], [(1, [.lst (some 0) (dPieces l)])], [], []⟩) l.length ?_ ?_]
    · simp [ringOk, h]; omega
    · simp
    · intro j hj
      have hw := w64 (j + 1) (by omega)
      have := List.all_eq_true.1 h l[j] (List.getElem_mem hj)
      simp only [pieceB, Bool.and_eq_true, decide_eq_true_eq] at this
      have h3 : l[j].Text ≠ [] := fun e => by simp [e] at this
      simp [hj, hw, dPieces_get hj, E_iareAdmissible _ (sm j hj), this.2, h3]
  · rw [loopV_go (fun j => .on ⟨[(8, V.v (.int .i64 ((j : Int)))), (7, V.v (.int .i64 ((l.length : Int)))), (6, .lst (some 0) (dPieces l)), (1, .ref 1 0)], [(1, [.lst (some 0) (dPieces l)])], [], []⟩) N ?_ ?_]
    · by_cases h3 : l[N].Text = []
      · simp [hN, dPieces_get hN, h3, ringOk, h]
      · have h4 : textOk l[N].Text = false := by
          simp only [pieceB] at h1
          have h5 : 0 < l[N].Text.length := List.length_pos_iff.2 h3
          simpa [h5] using h1
        simp [hN, dPieces_get hN, E_iareAdmissible _ (sm N hN), h4, h3, ringOk, h]
    · simp
    · intro j hj
      have hj' : j < l.length := by omega
      have hw := w64 (j + 1) (by omega)
      have := h2 j hj' hj
      simp only [pieceB, Bool.and_eq_true, decide_eq_true_eq] at this
      have h3 : l[j].Text ≠ [] := fun e => by simp [e] at this
      simp [hj', hw, dPieces_get hj', E_iareAdmissible _ (sm j hj'), this.2, h3]
theorem E_sRingOk (l : List TPiece) (s : smL (dPieces l) = true) : M_sRingOk [.agg [.lst (some 0) (dPieces l)]] [] [] = some ⟨V.v (.bool (ringOk l)), [], []⟩ := by
  have hb : l.length ≤ 1000000000 := by simpa using smL_len s
  have sm : ∀ j (h : j < l.length), l[j].Text.length ≤ 1000000000 := fun j h => by
    have hs := smL_at s (dPieces_get h)
    simp only [bnR_cons, bnR_nil, bnD_a, bnD_l, Bool.and_true, Bool.true_and] at hs
    simpa using bnL_len hs
  unfold M_sRingOk
  simp [Try.func53, Try.f53]
  rcases firstBad pieceB l with h | ⟨h, N, hN, h1, h2⟩
  · rw [loopV_go (fun j => .on ⟨[(8, V.v (.int .i64 ((j : Int)))), (7, V.v (.int .i64 ((l.length : Int)))), (6, .lst (some 0) (dPieces l)), (1, .ref 1 0)], [(1, [.lst (some 0) (dPieces l)])], [], []⟩) l.length ?_ ?_]
    · simp [ringOk, h]; omega
    · simp
    · intro j hj
      have hw := w64 (j + 1) (by omega)
      have := List.all_eq_true.1 h l[j] (List.getElem_mem hj)
      simp only [pieceB, Bool.and_eq_true, decide_eq_true_eq] at this
      have h3 : l[j].Text ≠ [] := fun e => by simp [e] at this
      simp [hj, hw, dPieces_get hj, E_sl15Piece _ (sm j hj), this.2, h3]
  · rw [loopV_go (fun j => .on ⟨[(8, V.v (.int .i64 ((j : Int)))), (7, V.v (.int .i64 ((l.length : Int)))), (6, .lst (some 0) (dPieces l)), (1, .ref 1 0)], [(1, [.lst (some 0) (dPieces l)])], [], []⟩) N ?_ ?_]
    · by_cases h3 : l[N].Text = []
      · simp [hN, dPieces_get hN, h3, ringOk, h]
      · have h4 : textOk l[N].Text = false := by
          simp only [pieceB] at h1
          have h5 : 0 < l[N].Text.length := List.length_pos_iff.2 h3
          simpa [h5] using h1
        simp [hN, dPieces_get hN, E_sl15Piece _ (sm N hN), h4, h3, ringOk, h]
    · simp
    · intro j hj
      have hj' : j < l.length := by omega
      have hw := w64 (j + 1) (by omega)
      have := h2 j hj' hj
      simp only [pieceB, Bool.and_eq_true, decide_eq_true_eq] at this
      have h3 : l[j].Text ≠ [] := fun e => by simp [e] at this
      simp [hj', hw, dPieces_get hj', E_sl15Piece _ (sm j hj'), this.2, h3]
theorem E_iUndoOk (l : List TLine) (s : smL (dLines l) = true) : M_iUndoOk [.agg [.lst (some 0) (dLines l)]] [] [] = some ⟨V.v (.bool (undoOk l)), [], []⟩ := by
  have hb : l.length ≤ 1000000000 := by simpa using smL_len s
  have sm : ∀ j (h : j < l.length), l[j].Text.length ≤ 1000000000 := fun j h => by
    have hs := smL_at s (dLines_get h)
    simp only [bnR_cons, bnR_nil, bnD_a, bnD_l, Bool.and_true, Bool.true_and] at hs
    simpa using bnL_len hs
  unfold M_iUndoOk
  simp [Try.func37, Try.f37]
  rcases firstBad lineB l with h | ⟨h, N, hN, h1, h2⟩
  · rw [loopV_go (fun j => .on ⟨[(8, V.v (.int .i64 ((j : Int)))), (7, V.v (.int .i64 ((l.length : Int)))), (6, .lst (some 0) (dLines l)), (1, .ref 1 0)], [(1, [.lst (some 0) (dLines l)])], [], []⟩) l.length ?_ ?_]
    · simp [undoOk, h]; omega
    · simp
    · intro j hj
      have hw := w64 (j + 1) (by omega)
      have := List.all_eq_true.1 h l[j] (List.getElem_mem hj)
      simp only [lineB] at this
      simp [hj, hw, dLines_get hj, E_iLineOk _ _ (sm j hj), this]
  · rw [loopV_go (fun j => .on ⟨[(8, V.v (.int .i64 ((j : Int)))), (7, V.v (.int .i64 ((l.length : Int)))), (6, .lst (some 0) (dLines l)), (1, .ref 1 0)], [(1, [.lst (some 0) (dLines l)])], [], []⟩) N ?_ ?_]
    · simp only [lineB] at h1
      simp [hN, dLines_get hN, E_iLineOk _ _ (sm N hN), h1, undoOk, h]
    · simp
    · intro j hj
      have hj' : j < l.length := by omega
      have hw := w64 (j + 1) (by omega)
      have := h2 j hj' hj
      simp only [lineB] at this
      simp [hj', hw, dLines_get hj', E_iLineOk _ _ (sm j hj'), this]
theorem E_sUndoOk (l : List TLine) (s : smL (dLines l) = true) : M_sUndoOk [.agg [.lst (some 0) (dLines l)]] [] [] = some ⟨V.v (.bool (undoOk l)), [], []⟩ := by
  have hb : l.length ≤ 1000000000 := by simpa using smL_len s
  have sm : ∀ j (h : j < l.length), l[j].Text.length ≤ 1000000000 := fun j h => by
    have hs := smL_at s (dLines_get h)
    simp only [bnR_cons, bnR_nil, bnD_a, bnD_l, Bool.and_true, Bool.true_and] at hs
    simpa using bnL_len hs
  unfold M_sUndoOk
  simp [Try.func44, Try.f44]
  rcases firstBad lineB l with h | ⟨h, N, hN, h1, h2⟩
  · rw [loopV_go (fun j => .on ⟨[(8, V.v (.int .i64 ((j : Int)))), (7, V.v (.int .i64 ((l.length : Int)))), (6, .lst (some 0) (dLines l)), (1, .ref 1 0)], [(1, [.lst (some 0) (dLines l)])], [], []⟩) l.length ?_ ?_]
    · simp [undoOk, h]; omega
    · simp
    · intro j hj
      have hw := w64 (j + 1) (by omega)
      have := List.all_eq_true.1 h l[j] (List.getElem_mem hj)
      simp only [lineB] at this
      simp [hj, hw, dLines_get hj, E_sLineOk _ _ (sm j hj), this]
  · rw [loopV_go (fun j => .on ⟨[(8, V.v (.int .i64 ((j : Int)))), (7, V.v (.int .i64 ((l.length : Int)))), (6, .lst (some 0) (dLines l)), (1, .ref 1 0)], [(1, [.lst (some 0) (dLines l)])], [], []⟩) N ?_ ?_]
    · simp only [lineB] at h1
      simp [hN, dLines_get hN, E_sLineOk _ _ (sm N hN), h1, undoOk, h]
    · simp
    · intro j hj
      have hj' : j < l.length := by omega
      have hw := w64 (j + 1) (by omega)
      have := h2 j hj' hj
      simp only [lineB] at this
      simp [hj', hw, dLines_get hj', E_sLineOk _ _ (sm j hj'), this]
def opC (n : Int) : Bool := n == 100 || n == 99 || n == 121
def waitC (n : Int) : Bool := n == 102 || n == 70 || n == 116 || n == 84 || n == 114
def modeB (vi : Bool) (mode : Int) (lt : List Int) (la op opc wt : Int) : Bool :=
  ((mode == 0 && !vi) || ((mode == 1 || mode == 2) && vi) || mode == 3) && (!(mode == 2 && atEnd lt la) && ((mode == 2 || (op == 0 && wt == 0 && opc == 0)) && ((op != 0 || opc == 0) && ((op == 0 || opC op) && (wt == 0 || waitC wt)))))
def seekB (mode : Int) (q : List Int) (hit : Int) (bt : List Int) (ba : Int) : Bool := mode == 3 || (decide (q.length = 0) && (hit == 0) && emptyL bt ba)
theorem E_iisAmong_op (r : Int) : M_iisAmong [V.v (.int .i64 r), V.v (.string (⟨#[100, 99, 121]⟩))] [] [] = some ⟨V.v (.bool (opC r)), [], []⟩ := by
  unfold opC
  unfold M_iisAmong
  obtain ⟨S, hS⟩ : ∃ S : ByteArray, S = ⟨#[100, 99, 121]⟩ := ⟨_, rfl⟩
  have h0 : S.size = 3 := by rw [hS]; rfl
  have ht : S.toList = [100, 99, 121] := by rw [hS, ByteArray.toList_eq]
  have w1 := w64 100 (by omega)
  have w2 := w64 99 (by omega)
  have w3 := w64 121 (by omega)
  rw [← hS]
  simp [Try.func52, Try.f52]
  by_cases h1 : 100 = r
  · subst h1; rw [loopV_unf]; simp [w1, w2, w3, h0, ht]
  by_cases h2 : 99 = r
  · subst h2; rw [loopV_unf]; simp [w1, w2, w3, h0, ht]; rw [loopV_unf]; simp [w1, w2, w3, h0, ht]
  by_cases h3 : 121 = r
  · subst h3; rw [loopV_unf]; simp [w1, w2, w3, h0, ht]; rw [loopV_unf]; simp [w1, w2, w3, h0, ht]; rw [loopV_unf]; simp [w1, w2, w3, h0, ht]
  have k1 : ¬ r = 100 := fun e => h1 e.symm
  have k2 : ¬ r = 99 := fun e => h2 e.symm
  have k3 : ¬ r = 121 := fun e => h3 e.symm
  rw [loopV_unf]; simp [w1, w2, w3, h0, ht, h1]; rw [loopV_unf]; simp [w1, w2, w3, h0, ht, h2]; rw [loopV_unf]; simp [w1, w2, w3, h0, ht, h3]; rw [loopV_unf]; simp [w1, w2, w3, h0, ht, k1, k2, k3]
theorem E_iisAmong_wait (r : Int) : M_iisAmong [V.v (.int .i64 r), V.v (.string (⟨#[102, 70, 116, 84, 114]⟩))] [] [] = some ⟨V.v (.bool (waitC r)), [], []⟩ := by
  unfold waitC
  unfold M_iisAmong
  obtain ⟨S, hS⟩ : ∃ S : ByteArray, S = ⟨#[102, 70, 116, 84, 114]⟩ := ⟨_, rfl⟩
  have h0 : S.size = 5 := by rw [hS]; rfl
  have ht : S.toList = [102, 70, 116, 84, 114] := by rw [hS, ByteArray.toList_eq]
  have w1 := w64 102 (by omega)
  have w2 := w64 70 (by omega)
  have w3 := w64 116 (by omega)
  have w4 := w64 84 (by omega)
  have w5 := w64 114 (by omega)
  rw [← hS]
  simp [Try.func52, Try.f52]
  by_cases h1 : 102 = r
  · subst h1; rw [loopV_unf]; simp [w1, w2, w3, w4, w5, h0, ht]
  by_cases h2 : 70 = r
  · subst h2; rw [loopV_unf]; simp [w1, w2, w3, w4, w5, h0, ht]; rw [loopV_unf]; simp [w1, w2, w3, w4, w5, h0, ht]
  by_cases h3 : 116 = r
  · subst h3; rw [loopV_unf]; simp [w1, w2, w3, w4, w5, h0, ht]; rw [loopV_unf]; simp [w1, w2, w3, w4, w5, h0, ht]; rw [loopV_unf]; simp [w1, w2, w3, w4, w5, h0, ht]
  by_cases h4 : 84 = r
  · subst h4; rw [loopV_unf]; simp [w1, w2, w3, w4, w5, h0, ht]; rw [loopV_unf]; simp [w1, w2, w3, w4, w5, h0, ht]; rw [loopV_unf]; simp [w1, w2, w3, w4, w5, h0, ht]; rw [loopV_unf]; simp [w1, w2, w3, w4, w5, h0, ht]
  by_cases h5 : 114 = r
  · subst h5; rw [loopV_unf]; simp [w1, w2, w3, w4, w5, h0, ht]; rw [loopV_unf]; simp [w1, w2, w3, w4, w5, h0, ht]; rw [loopV_unf]; simp [w1, w2, w3, w4, w5, h0, ht]; rw [loopV_unf]; simp [w1, w2, w3, w4, w5, h0, ht]; rw [loopV_unf]; simp [w1, w2, w3, w4, w5, h0, ht]
  have k1 : ¬ r = 102 := fun e => h1 e.symm
  have k2 : ¬ r = 70 := fun e => h2 e.symm
  have k3 : ¬ r = 116 := fun e => h3 e.symm
  have k4 : ¬ r = 84 := fun e => h4 e.symm
  have k5 : ¬ r = 114 := fun e => h5 e.symm
  rw [loopV_unf]; simp [w1, w2, w3, w4, w5, h0, ht, h1]; rw [loopV_unf]; simp [w1, w2, w3, w4, w5, h0, ht, h2]; rw [loopV_unf]; simp [w1, w2, w3, w4, w5, h0, ht, h3]; rw [loopV_unf]; simp [w1, w2, w3, w4, w5, h0, ht, h4]; rw [loopV_unf]; simp [w1, w2, w3, w4, w5, h0, ht, h5]; rw [loopV_unf]; simp [w1, w2, w3, w4, w5, h0, ht, k1, k2, k3, k4, k5]
theorem E_imodeOk (vi : Bool) (mode : Int) (lt : List Int) (la cnt op opc wt fr fh last : Int) (rp : List TPiece) (ul : List TLine) (nav : Int) (ot : List Int) (oa : Int) (q : List Int) (hit : Int) (bt : List Int) (ba : Int) : M_imodeOk [.agg [V.v (.bool vi), V.v (.int .i64 mode), .lst (some 0) (ints lt), V.v (.int .i64 la), V.v (.int .i64 cnt), V.v (.int .i64 op), V.v (.int .i64 opc), V.v (.int .i64 wt), V.v (.int .i64 fr), V.v (.int .i64 fh), V.v (.int .i64 last), .lst (some 1) (dPieces rp), .lst (some 2) (dLines ul), V.v (.int .i64 nav), .lst (some 3) (ints ot), V.v (.int .i64 oa), .lst (some 4) (ints q), V.v (.int .i64 hit), .lst (some 5) (ints bt), V.v (.int .i64 ba)]] [] [] = some ⟨V.v (.bool (modeB vi mode lt la op opc wt)), [], []⟩ := by
  unfold M_imodeOk
  by_cases m2 : mode = 2
  · subst m2
    cases vi
    · simp [Try.func35, Try.f35, modeB]
    cases hA : atEnd lt la
    rotate_left
    · simp [Try.func35, Try.f35, modeB, E_iisAtEnd, hA]
    by_cases o0 : op = 0
    · subst o0
      by_cases c0 : opc = 0
      · subst c0
        by_cases w0 : wt = 0
        · subst w0; simp [Try.func35, Try.f35, modeB, E_iisAtEnd, hA]
        · cases hW : waitC wt <;> simp [Try.func35, Try.f35, modeB, E_iisAtEnd, hA, w0, E_iisAmong_wait, hW]
      · simp [Try.func35, Try.f35, modeB, E_iisAtEnd, hA, c0]
    · by_cases w0 : wt = 0
      · subst w0; cases hO : opC op <;> simp [Try.func35, Try.f35, modeB, E_iisAtEnd, hA, o0, E_iisAmong_op, hO]
      · cases hO : opC op <;> cases hW : waitC wt <;> simp [Try.func35, Try.f35, modeB, E_iisAtEnd, hA, o0, w0, E_iisAmong_op, E_iisAmong_wait, hO, hW]
  by_cases ok : (mode = 0 ∧ vi = false) ∨ (mode = 1 ∧ vi = true) ∨ mode = 3
  · rcases Classical.em (op = 0 ∧ wt = 0 ∧ opc = 0) with ⟨rfl, rfl, rfl⟩ | hn
    · rcases ok with ⟨rfl, rfl⟩ | ⟨rfl, rfl⟩ | rfl <;> simp [Try.func35, Try.f35, modeB]
    · by_cases o0 : op = 0
      · subst o0
        by_cases w0 : wt = 0
        · subst w0
          have c0 : ¬ opc = 0 := fun e => hn ⟨rfl, rfl, e⟩
          rcases ok with ⟨rfl, rfl⟩ | ⟨rfl, rfl⟩ | rfl <;> simp [Try.func35, Try.f35, modeB, c0]
        · rcases ok with ⟨rfl, rfl⟩ | ⟨rfl, rfl⟩ | rfl <;> simp [Try.func35, Try.f35, modeB, w0]
      · rcases ok with ⟨rfl, rfl⟩ | ⟨rfl, rfl⟩ | rfl <;> simp [Try.func35, Try.f35, modeB, o0]
  · by_cases m0 : mode = 0
    · subst m0
      cases vi
      · exact absurd (.inl ⟨rfl, rfl⟩) ok
      · simp [Try.func35, Try.f35, modeB]
    · by_cases m1 : mode = 1
      · subst m1
        cases vi
        · simp [Try.func35, Try.f35, modeB]
        · exact absurd (.inr (.inl ⟨rfl, rfl⟩)) ok
      · have m3 : ¬ mode = 3 := fun e => ok (.inr (.inr e))
        simp [Try.func35, Try.f35, modeB, m0, m1, m2, m3]
end Go.Proofs.Ytnmneoekpikpkaa
namespace Go.Proofs.Ytnmneoekpikpkaa
open Go.RowKit
set_option linter.unusedSimpArgs false
set_option linter.unusedVariables false
set_option maxHeartbeats 8000000
set_option maxRecDepth 10000
theorem E_sl13Join_n (a b : List Int) (i j k : Option Nat) (h : a.length + b.length ≤ 2000) : M_sl13Join [.lst i (ints a), .lst j (ints b), .lst k []] [] [] = some ⟨.own 0, [], [(0, ints (a ++ b))]⟩ := by
  have g1 : a.length * 8 ≤ 140737488355328 := by omega
  have g2 : a.length ≤ 4611686018427387904 := by omega
  have g3 : (a.length + b.length) * 8 ≤ 140737488355328 := by omega
  have g4 : a.length + b.length ≤ 4611686018427387904 := by omega
  have g5 : wid 1 (ints a ++ ints b) = true := by rw [← ints_app]; exact ints_wid _
  unfold M_sl13Join
  simp [Try.func56, Try.f56, g1, g2, g3, g4, g5]
theorem E_sl15Line (l : List Int) (i : Option Nat) (a : Int) (h : l.length ≤ 2000) : M_sl15Line [.agg [.lst i (ints l), V.v (.int .i64 a)]] [] [] = some ⟨.agg [.own 0, V.v (.int .i64 a)], [], [(0, ints l)]⟩ := by
  have g1 : l.length * 8 ≤ 140737488355328 := by omega
  have g2 : l.length ≤ 4611686018427387904 := by omega
  unfold M_sl15Line
  simp [Try.func48, Try.f48, g1, g2]
theorem E_sl15Copy (l : List TPiece) (i : Option Nat) (h : l.length ≤ 1000) (hp : ∀ p ∈ l, p.Text.length ≤ 2000) : M_sl15Copy [.agg [.lst i (dPieces l)]] [] [] = some ⟨.agg [.own 0], [], [(0, dPieces l)]⟩ := by
  unfold M_sl15Copy
  simp [Try.func55, Try.f55]
  rw [loopV_go (fun k => .on ⟨[(10, V.v (.int .i64 ((k : Int)))), (9, V.v (.int .i64 ((l.length : Int)))), (8, .lst i (dPieces l)), (3, .ref 3 0), (2, .ref 2 0)], [(3, [.own 2000000000]), (2, [.own 2000000001])], [(2000000001, []), (2000000000, dPieces (l.take k))], []⟩) l.length ?_ ?_]
  · simp
  · simp [show dPieces [] = [] from rfl]
  · intro k hk
    have hw := w64 ((k : Int) + 1) (by omega)
    have hq := hp l[k] (List.getElem_mem hk)
    have g1 : l[k].Text.length * 8 ≤ 140737488355328 := by omega
    have g2 : l[k].Text.length ≤ 4611686018427387904 := by omega
    have g3 : min k l.length = k := by omega
    have g4 : (k + 1) * 24 ≤ 140737488355328 := by omega
    have g5 : k ≤ 4611686018427387903 := by omega
    have g6 : dPieces (l.take (k + 1)) = dPieces (l.take k) ++ [[.l (ints l[k].Text)]] := by rw [dPieces_snoc, ← List.take_succ_eq_append_getElem hk]
    simp [hk, hw, g1, g2, g3, g4, g5, g6]
theorem E_sRingOk' (l : List TPiece) (h : ringOk l = true) : M_sRingOk [.agg [.lst (some 0) (dPieces l)]] [] [] = some ⟨V.v (.bool true), [], []⟩ := by
  have hs : smL (dPieces l) = true := by
    simp only [ringOk, Bool.and_eq_true, decide_eq_true_eq] at h
    refine bnL_of (by simp; omega) fun j r e => ?_
    have hj : j < l.length := by have := (List.getElem?_eq_some_iff.1 e).1; simpa using this
    rw [dPieces_get hj] at e
    injection e with e; subst e
    have := List.all_eq_true.1 h.1 l[j] (List.getElem_mem hj)
    simp only [pieceB, textOk, Bool.and_eq_true, decide_eq_true_eq] at this
    simp only [bnR_cons, bnR_nil, bnD_l, Bool.and_true]
    exact bnL_ints (by omega)
  rw [E_sRingOk l hs, h]
theorem EX_sRingPut (l : List TPiece) (t : List Int) (how : Int) (hl : ringOk l = true) (ht : textOk t = true) (hh : 0 ≤ how ∧ how ≤ 2) : ∃ l', M_sRingPut [.agg [.lst (some 0) (dPieces l)], .lst (some 1) (ints t), V.v (.int .i64 how)] [] [] = some ⟨.tup [.agg [.own 0], V.v (.bool true)], [], [(0, dPieces l')]⟩ ∧ ringOk l' = true := by
  have hp : ∀ p ∈ l, 0 < p.Text.length ∧ p.Text.length ≤ 400 := fun p h => by
    simp only [ringOk, Bool.and_eq_true] at hl
    have := List.all_eq_true.1 hl.1 p h
    simp only [pieceB, textOk, Bool.and_eq_true, decide_eq_true_eq] at this
    exact ⟨this.1, this.2.1⟩
  have hn : l.length ≤ 6 := by simp only [ringOk, Bool.and_eq_true, decide_eq_true_eq] at hl; exact hl.2
  have htl : t.length ≤ 400 := by simp only [textOk, Bool.and_eq_true, decide_eq_true_eq] at ht; exact ht.1
  have e1 := E_sRingOk' l hl
  have e2 := E_sl15Piece t (by omega)
  rw [ht] at e2
  have e3 := E_sl15Copy l (some 0) (by omega) (fun p h => by have := (hp p h).2; omega)
  have q1 : ¬ how < 0 := by omega
  have q2 : ¬ 2 < how := by omega
  generalize hE : M_sRingPut _ _ _ = R
  unfold M_sRingPut at hE
  by_cases h0 : t = []
  · subst h0
    simp only [show ints [] = [] from rfl] at hE e2
    simp [Try.func43, Try.f43, e1, e2, e3, q1, q2] at hE
    exact ⟨l, hE.symm, hl⟩
  have g1 : t.length * 8 ≤ 140737488355328 := by omega
  have g2 : t.length ≤ 4611686018427387904 := by omega
  have hlen : 0 < t.length := List.length_pos_iff.2 h0
  have fresh : (∃ R', R = some R' ∧ R' = ⟨.tup [.agg [.own 0], V.v (.bool true)], [], [(0, dPieces ((⟨t⟩ :: l).take 6))]⟩) → ∃ l', R = some ⟨.tup [.agg [.own 0], V.v (.bool true)], [], [(0, dPieces l')]⟩ ∧ ringOk l' = true := by
    rintro ⟨_, rfl, rfl⟩
    refine ⟨_, rfl, ?_⟩
    simp only [ringOk, Bool.and_eq_true, decide_eq_true_eq] at hl ⊢
    refine ⟨List.all_eq_true.2 fun p h => ?_, by simp; omega⟩
    rcases List.mem_cons.1 (List.mem_of_mem_take h) with rfl | h
    · simp [pieceB, ht, hlen]
    · exact List.all_eq_true.1 hl.1 p h
  cases l with
  | nil =>
    simp only [show dPieces [] = [] from rfl] at hE e1 e3
    refine fresh ⟨_, ?_, rfl⟩
    have e4 : dPieces (List.take 6 [⟨t⟩]) = [[.l (ints t)]] := rfl
    rw [e4]
    have rf : rowsFlat ([] : List (List D)) = true := rfl
    by_cases h1 : how = 0
    · subst h1
      simp [Try.func43, Try.f43, e1, e2, e3, q1, q2, h0, g1, g2, rf] at hE
      exact hE.symm
    · simp [Try.func43, Try.f43, e1, e2, e3, q1, q2, h0, h1, g1, g2, rf] at hE
      exact hE.symm
  | cons p l =>
    have hpt := hp p (by simp)
    have hll : l.length ≤ 5 := by simpa using hn
    have rf : rowsFlat (dPieces (p :: l)) = false := by simp [dPieces_cons, rowsFlat, flatD]
    have g3 : (1 + (l.length + 1)) * 24 ≤ 140737488355328 := by omega
    have g4 : 1 + (l.length + 1) ≤ 4611686018427387904 := by omega
    have q3 : p.Text ≠ [] := fun e => by rw [e] at hpt; simp at hpt
    have w1 := w64 ((p.Text.length : Int) + t.length) (by omega)
    by_cases h1 : how = 0
    · subst h1
      refine fresh ⟨_, ?_, rfl⟩
      by_cases h6 : l.length = 5
      · simp [Try.func43, Try.f43, e1, e2, e3, q1, q2, h0, g1, g2, h6, rf] at hE
        exact hE.symm
      · have h6i : ¬ (6 : Int) < (l.length : Int) + 1 + 1 := by omega
        have h6t : l.take 4 = l := List.take_of_length_le (by omega)
        simp [Try.func43, Try.f43, e1, e2, e3, q1, q2, h0, g1, g2, g3, g4, h6i, rf] at hE
        rw [show List.take 6 (⟨t⟩ :: p :: l) = ⟨t⟩ :: p :: l.take 4 from rfl, h6t]
        exact hE.symm
    by_cases h7 : p.Text.length + t.length ≤ 400
    · have h7i : (p.Text.length : Int) + t.length ≤ 400 := by omega
      have j1 := E_sl13Join_n p.Text t (some 0) (some 1) (some 2) (by omega)
      have j2 := E_sl13Join_n t p.Text (some 0) (some 1) (some 2) (by omega)
      rw [dPieces_cons] at e1 e3 hE
      have tt : t.all typed = true := by simp only [textOk, Bool.and_eq_true] at ht; exact ht.2
      have hlp := hl
      simp only [ringOk, Bool.and_eq_true, decide_eq_true_eq, List.all_cons] at hlp
      have pt : p.Text.all typed = true := by have := hlp.1.1; simp only [pieceB, textOk, Bool.and_eq_true] at this; exact this.2.2
      have both : ∀ q : List Int, 0 < q.length ∧ q.length ≤ 400 → q.all typed = true → ringOk (⟨q⟩ :: l) = true := fun q h1 h2 => by
        simp only [ringOk, Bool.and_eq_true, decide_eq_true_eq, List.all_cons]
        exact ⟨⟨by simp [pieceB, textOk, h1.1, h1.2, h2], hlp.1.2⟩, hlp.2⟩
      by_cases h2 : how = 2
      · subst h2
        simp [Try.func43, Try.f43, e1, e2, e3, h0, g1, g2, w1, h7i, j1, j2] at hE
        rw [← ints_app] at hE
        exact ⟨⟨t ++ p.Text⟩ :: l, hE.symm, both (t ++ p.Text) (by simp; omega) (by simp [tt, pt])⟩
      · simp [Try.func43, Try.f43, e1, e2, e3, q1, q2, h0, h1, h2, g1, g2, w1, h7i, j1] at hE
        rw [← ints_app] at hE
        exact ⟨⟨p.Text ++ t⟩ :: l, hE.symm, both (p.Text ++ t) (by simp; omega) (by simp [tt, pt])⟩
    · refine fresh ⟨_, ?_, rfl⟩
      have h7i : ¬ (p.Text.length : Int) + t.length ≤ 400 := by omega
      by_cases h6 : l.length = 5
      · simp [Try.func43, Try.f43, e1, e2, e3, q1, q2, h0, h1, g1, g2, w1, h7i, h6, rf] at hE
        exact hE.symm
      · have h6i : ¬ (6 : Int) < (l.length : Int) + 1 + 1 := by omega
        have h6t : l.take 4 = l := List.take_of_length_le (by omega)
        simp [Try.func43, Try.f43, e1, e2, e3, q1, q2, h0, h1, g1, g2, g3, g4, w1, h7i, h6i, rf] at hE
        rw [show List.take 6 (⟨t⟩ :: p :: l) = ⟨t⟩ :: p :: l.take 4 from rfl, h6t]
        exact hE.symm
theorem EX_sl15Ring (b : List UInt8) (i h : Int) (hb : b.length ≤ 1048576) (hi : 0 ≤ i ∧ i ≤ b.length) : ∃ (l : List TPiece) (i' h' : Int), M_sl15Ring [.ref 0 0] [curV b i h] [] = some ⟨.agg [.own 0], [curV b i' h'], [(0, dPieces l)]⟩ ∧ ringOk l = true ∧ 0 ≤ i' ∧ i' ≤ b.length := by
  obtain ⟨k, i1, h1, e1, r1, j1⟩ := EX_sl01Below b i h 8 hb hi (by omega)
  obtain ⟨m, rfl⟩ := Int.eq_ofNat_of_zero_le r1.1
  unfold curV at e1
  generalize hE : M_sl15Ring _ _ _ = R
  unfold M_sl15Ring curV at hE
  simp [Try.func27, Try.f27, e1] at hE
  generalize hL : loopV _ _ = L at hE
  obtain ⟨⟨l, i2, h2⟩, ⟨a1, a2⟩, e⟩ := loopV_ex hL (σ := List TPiece × Int × Int) (fun j a => .on ⟨[(4, V.v (.int .i64 ((m : Int) - j))), (3, .ref 3 0), (2, .ref 2 0), (0, .ref 1000000000 0)], [(1000000000, [.lst (some 0) (byts b), V.v (.int .i64 a.2.1), V.v (.int .i64 a.2.2)]), (3, [.own 2000000000]), (2, [.own 2000000001])], [(2000000001, []), (2000000000, dPieces a.1)], []⟩) m (fun j a => ringOk a.1 = true ∧ 0 ≤ a.2.1 ∧ a.2.1 ≤ b.length) ([], i1, h1) (by simp [show dPieces [] = [] from rfl]) ⟨rfl, j1⟩ (fun j a hj ⟨p1, p3⟩ => by
    obtain ⟨l, i2, h2⟩ := a
    simp only at p1 p3
    obtain ⟨t, i3, h3, e3, q1, q2, j3⟩ := EX_sl13Runes b i2 h2 5 hb p3 (by omega)
    obtain ⟨x, i4, h4, e4, q3, j4⟩ := EX_sl01Below b i3 h3 3 hb j3 (by omega)
    have tx : textOk t = true := by simp only [textOk, Bool.and_eq_true, decide_eq_true_eq]; exact ⟨by omega, q1⟩
    obtain ⟨l', e5, q4⟩ := EX_sRingPut l t x p1 tx (by omega)
    unfold curV at e3 e4
    have g : (0 : Int) < (m : Int) - j := by omega
    have hw2 : (m : Int) - j - 1 = (m : Int) - ((j : Int) + 1) := by omega
    have hw := w64 ((m : Int) - ((j : Int) + 1)) (by omega)
    refine ⟨(l', i4, h4), ⟨q4, j4⟩, ?_⟩
    simp [hj, e3, e4, e5, hw2, hw])
  subst e
  simp at hE
  simp only at a1 a2
  exact ⟨l, i2, h2, hE.symm, a1, a2⟩
theorem E_sLineOk' (t : List Int) (a : Int) (h : lineOk t a = true) : M_sLineOk [.agg [.lst (some 0) (ints t), V.v (.int .i64 a)]] [] [] = some ⟨V.v (.bool true), [], []⟩ := by
  have hl : t.length ≤ 400 := by simp only [lineOk, textOk, Bool.and_eq_true, decide_eq_true_eq] at h; exact h.1.1
  rw [E_sLineOk t a (by omega), h]
theorem E_sl15Lines0 : M_sl15Lines [.agg [.lst (some 0) []]] [] [] = some ⟨.agg [.own 0], [], [(0, [])]⟩ := by
  unfold M_sl15Lines
  simp [Try.func46, Try.f46]
  rw [loopV_unf]
  simp
theorem EX_sUndoPut0 (t : List Int) (a : Int) (ht : lineOk t a = true) : M_sUndoPut [.agg [.lst (some 0) []], .agg [.lst (some 1) (ints t), V.v (.int .i64 a)]] [] [] = some ⟨.tup [.agg [.own 0], V.v (.bool true)], [], [(0, dLines [⟨t, a⟩])]⟩ := by
  have e1 : M_sUndoOk [.agg [.lst (some 0) []]] [] [] = some ⟨V.v (.bool true), [], []⟩ := by
    have := E_sUndoOk [] rfl
    exact this
  have e2 := E_sLineOk' t a ht
  have hl : t.length ≤ 400 := by simp only [lineOk, textOk, Bool.and_eq_true, decide_eq_true_eq] at ht; exact ht.1.1
  have e3 := E_sl15Line t (some 0) a (by omega)
  have e4 := E_sl15Lines0
  unfold M_sUndoPut
  simp [Try.func28, Try.f28, e1, e2, e3, e4]
  rfl
theorem E_sEdNew (vi : Bool) : M_sEdNew [V.v (.bool vi)] [] [] = some ⟨.agg [V.v (.bool vi), V.v (.int .i64 (if vi then 1 else 0)), .own 0, V.v (.int .i64 0), V.v (.int .i64 0), V.v (.int .i64 0), V.v (.int .i64 0), V.v (.int .i64 0), V.v (.int .i64 0), V.v (.int .i64 0), V.v (.int .i64 0), .own 1, .own 2, V.v (.int .i64 0), .own 3, V.v (.int .i64 0), .own 4, V.v (.int .i64 0), .own 5, V.v (.int .i64 0)], [], [(0, []), (1, []), (2, []), (3, []), (4, []), (5, [])]⟩ := by
  unfold M_sEdNew
  cases vi <;> simp [Try.func25, Try.f25]
end Go.Proofs.Ytnmneoekpikpkaa
namespace Go.Proofs.Ytnmneoekpikpkaa
noncomputable def M_sMakeShow : Mean := evFun Try.prog [(8, false, M_sl01New), (9, false, M_sl27Note), (10, false, M_sl27Ps), (11, false, M_sl21Draw), (12, false, M_sl01Below)] ⟨[], [], [(5, [0, 1, 2, 3, 6, 4, 5, 7, 8, 9, 10, 11, 12, 13], [(4, [0, 1, 2, 6]), (7, [0, 1, 2, 5]), (11, [5, 8])])], []⟩ 4
theorem S_sMakeShow : Sound Try.prog 4 M_sMakeShow := sound _ (cons_sound S_sl01New (cons_sound S_sl27Note (cons_sound S_sl27Ps (cons_sound S_sl21Draw (cons_sound S_sl01Below none_sound))))) hmix Try.func4 (eqOf (by kernel_rfl))
noncomputable def M_iShow : Mean := evFun Try.prog [(13, false, M_iGridNew), (14, false, M_ishortRunes), (15, false, M_iEdOk), (16, false, M_i_sheet_write), (18, false, M_iPromptOf), (17, false, M_iRunesOf), (19, false, M_iShown), (20, false, M_iplaced), (21, false, M_i_sheet_reach)] ⟨[(23, [154, 153, 152, 23, 22, 21, 12, 10], [12, 10])], [(22, [18])], [(13, [], [])], [(7, [18, 14, 12, 10, 7, 4, 3, 1], [18, 12, 10, 7]), (8, [18, 14, 12, 10, 7, 4, 3, 1], [18, 12, 10, 7]), (10, [18, 12, 10, 7, 4, 3, 1], [18, 12, 10, 7]), (12, [18, 12, 10, 7, 4, 3], [18, 12, 10, 7]), (13, [18, 12, 10, 7, 4, 3], [18, 12, 10, 7]), (19, [22, 21, 18, 12, 10, 4], [18, 12, 10]), (21, [23, 22, 21, 18, 12, 10, 4], [18, 12, 10])]⟩ 5
theorem S_iShow : Sound Try.prog 5 M_iShow := sound _ (cons_sound S_iGridNew (cons_sound S_ishortRunes (cons_sound S_iEdOk (cons_sound S_i_sheet_write (cons_sound S_iPromptOf (cons_sound S_iRunesOf (cons_sound S_iShown (cons_sound S_iplaced (cons_sound S_i_sheet_reach none_sound))))))))) hmix Try.func5 (eqOf (by kernel_rfl))
noncomputable def M_lFnShow : Mean := evFun Try.prog [(4, false, M_sMakeShow), (5, false, M_iShow), (6, false, M_iGridOk), (7, false, M_iGridRow)] ⟨[(10, [12, 10, 8, 7], [10, 8])], [], [(12, [], [])], []⟩ 3
theorem S_lFnShow : Sound Try.prog 3 M_lFnShow := sound _ (cons_sound S_sMakeShow (cons_sound S_iShow (cons_sound S_iGridOk (cons_sound S_iGridRow none_sound)))) hmix Try.func3 (eqOf (by kernel_rfl))
end Go.Proofs.Ytnmneoekpikpkaa
namespace Go.Proofs.Ytnmneoekpikpkaa
open Go.RowKit
set_option linter.unusedSimpArgs false
set_option linter.unusedVariables false
def flatC : Code → List Code
  | .seq a b => flatC a ++ flatC b
  | c => [c]
section
variable (P : Program) (G : List (FuncId × Bool × Mean)) (gh : Ghost)
noncomputable def evL : List Code → Q → Option (Ex × Q)
  | [], q => some (.normal, q)
  | c :: r, q => seqV (evC P G gh c q) fun q => evL r q
theorem seqV_seqV (r : Option (Ex × Q)) (k k' : Q → Option (Ex × Q)) : seqV (seqV r k) k' = seqV r fun q => seqV (k q) k' := by
  cases r with
  | none => rfl
  | some x => obtain ⟨e, q⟩ := x; cases e <;> rfl
theorem seqV_id (r : Option (Ex × Q)) : seqV r (fun q => some (.normal, q)) = r := by
  cases r with
  | none => rfl
  | some x => obtain ⟨e, q⟩ := x; cases e <;> rfl
theorem evL_app : ∀ (l m : List Code) (q : Q), evL P G gh (l ++ m) q = seqV (evL P G gh l q) fun q => evL P G gh m q
  | [], m, q => rfl
  | c :: l, m, q => by
    show seqV (evC P G gh c q) (fun q => evL P G gh (l ++ m) q) = seqV (seqV (evC P G gh c q) fun q => evL P G gh l q) _
    rw [seqV_seqV]
    congr 1
    funext q
    exact evL_app l m q
theorem evC_flat : ∀ (c : Code) (q : Q), evC P G gh c q = evL P G gh (flatC c) q := by
  intro c
  induction c with
  | seq a b iha ihb =>
    intro q
    show _ = evL P G gh (flatC a ++ flatC b) q
    rw [evL_app, ← iha]
    have : (fun q => evL P G gh (flatC b) q) = fun q => evC P G gh b q := funext fun q => (ihb q).symm
    rw [this]
    cases q with
    | off => cases a <;> rfl
    | on s => rfl
  | _ => intro q; exact (seqV_id _).symm
def partsOf (f : FuncId) : List Code := match P.funcs[f]? with
  | some fn => match fn.body with
    | some c => flatC c
    | none => []
  | none => []
theorem evFun_parts {f : FuncId} {fn : Func} {c : Code} (h1 : P.funcs[f]? = some fn) (h2 : fn.body = some c) (args : List V) (boxes : List (List V)) (trees : List (List (List D))) :
    evFun P G gh f args boxes trees = grd (args.length ≤ 1000 ∧ boxes.length ≤ 1000 ∧ trees.length ≤ 1000) (bnd (evL P G gh ((partsOf P f).drop 0) (.on { env := (withIdx 0 (args.map enterV)).reverse, box := (withIdx parBase (boxes.map enterL)).reverse, tree := (withIdx parBase trees).reverse, fro := [] })) (leaveV P fn boxes.length trees.length)) := by
  have hp : partsOf P f = flatC c := by unfold partsOf; rw [h1]; simp only [h2]
  unfold evFun
  rw [h1, bnd_some, h2, bnd_some, hp, List.drop_zero, ← evC_flat]
theorem evFun_parts' (f : FuncId) (args : List V) (boxes : List (List V)) (trees : List (List (List D))) :
    evFun P G gh f args boxes trees = bnd P.funcs[f]? fun fn => bnd fn.body fun _ => grd (args.length ≤ 1000 ∧ boxes.length ≤ 1000 ∧ trees.length ≤ 1000) (bnd (evL P G gh ((partsOf P f).drop 0) (.on { env := (withIdx 0 (args.map enterV)).reverse, box := (withIdx parBase (boxes.map enterL)).reverse, tree := (withIdx parBase trees).reverse, fro := [] })) (leaveV P fn boxes.length trees.length)) := by
  cases h1 : P.funcs[f]? with
  | none => unfold evFun; rw [h1]; rfl
  | some fn =>
    cases h2 : fn.body with
    | none => unfold evFun; rw [h1, bnd_some, h2, bnd_some, h2]; rfl
    | some c => rw [evFun_parts P G gh h1 h2, bnd_some, h2, bnd_some]
theorem evL_cut (l : List Code) (i n : Nat) (q : Q) : evL P G gh (l.drop i) q = seqV (evL P G gh ((l.drop i).take n) q) fun q => evL P G gh (l.drop (i + n)) q := by
  rw [← evL_app, ← List.drop_drop, List.take_append_drop]
@[simp, go_sem] theorem evL_nil (q : Q) : evL P G gh [] q = some (.normal, q) := id rfl
@[simp, go_sem] theorem evL_cons (c : Code) (r : List Code) (q : Q) : evL P G gh (c :: r) q = seqV (evC P G gh c q) fun q => evL P G gh r q := id rfl
theorem evL_stage {l : List Code} {i n : Nat} {q q' : Q} (h : evL P G gh ((l.drop i).take n) q = some (.normal, q')) : evL P G gh (l.drop i) q = evL P G gh (l.drop (i + n)) q' := by
  rw [evL_cut P G gh l i n q, h]; rfl
end
end Go.Proofs.Ytnmneoekpikpkaa
namespace Go.Proofs.Ytnmneoekpikpkaa
open Go.RowKit
set_option linter.unusedSimpArgs false
set_option linter.unusedVariables false
set_option maxHeartbeats 16000000
set_option maxRecDepth 100000
def findB (fr fh : Int) : Bool := (fr == 0 && fh == 0) || (fr != 0 && (printable fr && inR fh 0 3))
def edOk (vi : Bool) (mode : Int) (lt : List Int) (la cnt op opc wt fr fh last : Int) (rp : List TPiece) (ul : List TLine) (nav : Int) (ot : List Int) (oa : Int) (q : List Int) (hit : Int) (bt : List Int) (ba : Int) : Bool :=
  lineOk lt la && (lineOk ot oa && (lineOk bt ba && (inR cnt 0 999 && (inR opc 0 999 && (modeB vi mode lt la op opc wt && (findB fr fh && (inR last 0 3 && (ringOk rp && (undoOk ul && (inR nav 0 1000000060 && (inR hit 0 1000000060 && ((nav != 0 || emptyL ot oa) && (decide (q.length ≤ 40) && (q.all printable && seekB mode q hit bt ba))))))))))))))
theorem E_iEdOk (vi : Bool) (mode : Int) (lt : List Int) (la cnt op opc wt fr fh last : Int) (rp : List TPiece) (ul : List TLine) (nav : Int) (ot : List Int) (oa : Int) (q : List Int) (hit : Int) (bt : List Int) (ba : Int) (h1 : lt.length ≤ 1000000000) (h2 : ot.length ≤ 1000000000) (h3 : bt.length ≤ 1000000000) (h4 : q.length ≤ 1000000000) (h5 : smL (dPieces rp) = true) (h6 : smL (dLines ul) = true) : M_iEdOk [.agg [V.v (.bool vi), V.v (.int .i64 mode), .lst (some 0) (ints lt), V.v (.int .i64 la), V.v (.int .i64 cnt), V.v (.int .i64 op), V.v (.int .i64 opc), V.v (.int .i64 wt), V.v (.int .i64 fr), V.v (.int .i64 fh), V.v (.int .i64 last), .lst (some 1) (dPieces rp), .lst (some 2) (dLines ul), V.v (.int .i64 nav), .lst (some 3) (ints ot), V.v (.int .i64 oa), .lst (some 4) (ints q), V.v (.int .i64 hit), .lst (some 5) (ints bt), V.v (.int .i64 ba)]] [] [] = some ⟨V.v (.bool (edOk vi mode lt la cnt op opc wt fr fh last rp ul nav ot oa q hit bt ba)), [], []⟩ := by
  unfold M_iEdOk
  cases a0 : lineOk lt la
  · simp [Try.func15, Try.f15, edOk, findB, E_iLineOk, h1, h2, h3, h5, h6, E_iin, E_imodeOk, E_iRingOk, E_iUndoOk, E_iemptyLine, E_iPrintable, a0]
  cases a1 : lineOk ot oa
  · simp [Try.func15, Try.f15, edOk, findB, E_iLineOk, h1, h2, h3, h5, h6, E_iin, E_imodeOk, E_iRingOk, E_iUndoOk, E_iemptyLine, E_iPrintable, a0, a1]
  cases a2 : lineOk bt ba
  · simp [Try.func15, Try.f15, edOk, findB, E_iLineOk, h1, h2, h3, h5, h6, E_iin, E_imodeOk, E_iRingOk, E_iUndoOk, E_iemptyLine, E_iPrintable, a0, a1, a2]
  cases a3 : inR cnt 0 999
  · simp [Try.func15, Try.f15, edOk, findB, E_iLineOk, h1, h2, h3, h5, h6, E_iin, E_imodeOk, E_iRingOk, E_iUndoOk, E_iemptyLine, E_iPrintable, a0, a1, a2, a3]
  cases a4 : inR opc 0 999
  · simp [Try.func15, Try.f15, edOk, findB, E_iLineOk, h1, h2, h3, h5, h6, E_iin, E_imodeOk, E_iRingOk, E_iUndoOk, E_iemptyLine, E_iPrintable, a0, a1, a2, a3, a4]
  cases a5 : modeB vi mode lt la op opc wt
  · simp [Try.func15, Try.f15, edOk, findB, E_iLineOk, h1, h2, h3, h5, h6, E_iin, E_imodeOk, E_iRingOk, E_iUndoOk, E_iemptyLine, E_iPrintable, a0, a1, a2, a3, a4, a5]
  by_cases f0 : fr = 0
  · subst f0
    by_cases f1 : fh = 0
    rotate_left
    · simp [Try.func15, Try.f15, edOk, findB, E_iLineOk, h1, h2, h3, h5, h6, E_iin, E_imodeOk, E_iRingOk, E_iUndoOk, E_iemptyLine, E_iPrintable, a0, a1, a2, a3, a4, a5, f1]
    subst f1
    cases c0 : inR last 0 3
    · simp [Try.func15, Try.f15, edOk, findB, E_iLineOk, h1, h2, h3, h5, h6, E_iin, E_imodeOk, E_iRingOk, E_iUndoOk, E_iemptyLine, E_iPrintable, a0, a1, a2, a3, a4, a5, c0]
    cases c1 : ringOk rp
    · simp [Try.func15, Try.f15, edOk, findB, E_iLineOk, h1, h2, h3, h5, h6, E_iin, E_imodeOk, E_iRingOk, E_iUndoOk, E_iemptyLine, E_iPrintable, a0, a1, a2, a3, a4, a5, c0, c1]
    cases c2 : undoOk ul
    · simp [Try.func15, Try.f15, edOk, findB, E_iLineOk, h1, h2, h3, h5, h6, E_iin, E_imodeOk, E_iRingOk, E_iUndoOk, E_iemptyLine, E_iPrintable, a0, a1, a2, a3, a4, a5, c0, c1, c2]
    cases c3 : inR nav 0 1000000060
    · simp [Try.func15, Try.f15, edOk, findB, E_iLineOk, h1, h2, h3, h5, h6, E_iin, E_imodeOk, E_iRingOk, E_iUndoOk, E_iemptyLine, E_iPrintable, a0, a1, a2, a3, a4, a5, c0, c1, c2, c3]
    cases c4 : inR hit 0 1000000060
    · simp [Try.func15, Try.f15, edOk, findB, E_iLineOk, h1, h2, h3, h5, h6, E_iin, E_imodeOk, E_iRingOk, E_iUndoOk, E_iemptyLine, E_iPrintable, a0, a1, a2, a3, a4, a5, c0, c1, c2, c3, c4]
    by_cases d0 : nav = 0
    · subst d0
      cases e0 : emptyL ot oa
      · simp [Try.func15, Try.f15, edOk, findB, E_iLineOk, h1, h2, h3, h5, h6, E_iin, E_imodeOk, E_iRingOk, E_iUndoOk, E_iemptyLine, E_iPrintable, a0, a1, a2, a3, a4, a5, c0, c1, c2, c3, c4, e0]
      by_cases d1 : q.length ≤ 40
      rotate_left
      · have d1' : 40 < (q.length : Int) := by omega
        simp [Try.func15, Try.f15, edOk, findB, E_iLineOk, h1, h2, h3, h5, h6, E_iin, E_imodeOk, E_iRingOk, E_iUndoOk, E_iemptyLine, E_iPrintable, a0, a1, a2, a3, a4, a5, c0, c1, c2, c3, c4, e0, d1, d1']
      have d1' : ¬ (40 < (q.length : Int)) := by omega
      simp [Try.func15, Try.f15, edOk, findB, E_iLineOk, h1, h2, h3, h5, h6, E_iin, E_imodeOk, E_iRingOk, E_iUndoOk, E_iemptyLine, E_iPrintable, a0, a1, a2, a3, a4, a5, c0, c1, c2, c3, c4, e0, d1, d1']
      rcases firstBad printable q with g | ⟨g, N, hN, g1, g2⟩
      · rw [loopV_go (fun j => .on ⟨[(109, V.v (.int .i64 ((j : Int)))), (108, V.v (.int .i64 ((q.length : Int)))), (107, .lst (some 4) (ints q)), (1, .ref 1 0)], [(1, [V.v (.bool vi), V.v (.int .i64 mode), .lst (some 0) (ints lt), V.v (.int .i64 la), V.v (.int .i64 cnt), V.v (.int .i64 op), V.v (.int .i64 opc), V.v (.int .i64 wt), V.v (.int .i64 0), V.v (.int .i64 0), V.v (.int .i64 last), .lst (some 1) (dPieces rp), .lst (some 2) (dLines ul), V.v (.int .i64 0), .lst (some 3) (ints ot), V.v (.int .i64 oa), .lst (some 4) (ints q), V.v (.int .i64 hit), .lst (some 5) (ints bt), V.v (.int .i64 ba)])], [], []⟩) q.length ?_ ?_]
        · by_cases m3 : mode = 3
          · simp [Try.func15, Try.f15, edOk, findB, E_iLineOk, h1, h2, h3, h5, h6, E_iin, E_imodeOk, E_iRingOk, E_iUndoOk, E_iemptyLine, E_iPrintable, a0, a1, a2, a3, a4, a5, c0, c1, c2, c3, c4, e0, d1, d1', g, seekB, m3]
          · by_cases q0 : q = []
            · subst q0
              by_cases t0 : hit = 0
              · subst t0; cases em : emptyL bt ba <;> simp [Try.func15, Try.f15, edOk, findB, E_iLineOk, h1, h2, h3, h5, h6, E_iin, E_imodeOk, E_iRingOk, E_iUndoOk, E_iemptyLine, E_iPrintable, a0, a1, a2, a3, a4, a5, c0, c1, c2, c3, c4, e0, d1, d1', g, seekB, m3, em]
              · simp [Try.func15, Try.f15, edOk, findB, E_iLineOk, h1, h2, h3, h5, h6, E_iin, E_imodeOk, E_iRingOk, E_iUndoOk, E_iemptyLine, E_iPrintable, a0, a1, a2, a3, a4, a5, c0, c1, c2, c3, c4, e0, d1, d1', g, seekB, m3, t0]
            · simp [Try.func15, Try.f15, edOk, findB, E_iLineOk, h1, h2, h3, h5, h6, E_iin, E_imodeOk, E_iRingOk, E_iUndoOk, E_iemptyLine, E_iPrintable, a0, a1, a2, a3, a4, a5, c0, c1, c2, c3, c4, e0, d1, d1', g, seekB, m3, q0]
        · simp
        · intro j hj
          have hw := w64 (j + 1) (by omega)
          have := List.all_eq_true.1 g q[j] (List.getElem_mem hj)
          simp [hj, hw, ints_get hj, E_iPrintable, this]
      · rw [loopV_go (fun j => .on ⟨[(109, V.v (.int .i64 ((j : Int)))), (108, V.v (.int .i64 ((q.length : Int)))), (107, .lst (some 4) (ints q)), (1, .ref 1 0)], [(1, [V.v (.bool vi), V.v (.int .i64 mode), .lst (some 0) (ints lt), V.v (.int .i64 la), V.v (.int .i64 cnt), V.v (.int .i64 op), V.v (.int .i64 opc), V.v (.int .i64 wt), V.v (.int .i64 0), V.v (.int .i64 0), V.v (.int .i64 last), .lst (some 1) (dPieces rp), .lst (some 2) (dLines ul), V.v (.int .i64 0), .lst (some 3) (ints ot), V.v (.int .i64 oa), .lst (some 4) (ints q), V.v (.int .i64 hit), .lst (some 5) (ints bt), V.v (.int .i64 ba)])], [], []⟩) N ?_ ?_]
        · simp [hN, ints_get hN, E_iPrintable, g1, g, edOk]
        · simp
        · intro j hj
          have hj' : j < q.length := by omega
          have hw := w64 (j + 1) (by omega)
          simp [hj', hw, ints_get hj', E_iPrintable, g2 j hj' hj]
    · skip
      by_cases d1 : q.length ≤ 40
      rotate_left
      · have d1' : 40 < (q.length : Int) := by omega
        simp [Try.func15, Try.f15, edOk, findB, E_iLineOk, h1, h2, h3, h5, h6, E_iin, E_imodeOk, E_iRingOk, E_iUndoOk, E_iemptyLine, E_iPrintable, a0, a1, a2, a3, a4, a5, c0, c1, c2, c3, c4, d0, d1, d1']
      have d1' : ¬ (40 < (q.length : Int)) := by omega
      simp [Try.func15, Try.f15, edOk, findB, E_iLineOk, h1, h2, h3, h5, h6, E_iin, E_imodeOk, E_iRingOk, E_iUndoOk, E_iemptyLine, E_iPrintable, a0, a1, a2, a3, a4, a5, c0, c1, c2, c3, c4, d0, d1, d1']
      rcases firstBad printable q with g | ⟨g, N, hN, g1, g2⟩
      · rw [loopV_go (fun j => .on ⟨[(109, V.v (.int .i64 ((j : Int)))), (108, V.v (.int .i64 ((q.length : Int)))), (107, .lst (some 4) (ints q)), (1, .ref 1 0)], [(1, [V.v (.bool vi), V.v (.int .i64 mode), .lst (some 0) (ints lt), V.v (.int .i64 la), V.v (.int .i64 cnt), V.v (.int .i64 op), V.v (.int .i64 opc), V.v (.int .i64 wt), V.v (.int .i64 0), V.v (.int .i64 0), V.v (.int .i64 last), .lst (some 1) (dPieces rp), .lst (some 2) (dLines ul), V.v (.int .i64 nav), .lst (some 3) (ints ot), V.v (.int .i64 oa), .lst (some 4) (ints q), V.v (.int .i64 hit), .lst (some 5) (ints bt), V.v (.int .i64 ba)])], [], []⟩) q.length ?_ ?_]
        · by_cases m3 : mode = 3
          · simp [Try.func15, Try.f15, edOk, findB, E_iLineOk, h1, h2, h3, h5, h6, E_iin, E_imodeOk, E_iRingOk, E_iUndoOk, E_iemptyLine, E_iPrintable, a0, a1, a2, a3, a4, a5, c0, c1, c2, c3, c4, d0, d1, d1', g, seekB, m3]
          · by_cases q0 : q = []
            · subst q0
              by_cases t0 : hit = 0
              · subst t0; cases em : emptyL bt ba <;> simp [Try.func15, Try.f15, edOk, findB, E_iLineOk, h1, h2, h3, h5, h6, E_iin, E_imodeOk, E_iRingOk, E_iUndoOk, E_iemptyLine, E_iPrintable, a0, a1, a2, a3, a4, a5, c0, c1, c2, c3, c4, d0, d1, d1', g, seekB, m3, em]
              · simp [Try.func15, Try.f15, edOk, findB, E_iLineOk, h1, h2, h3, h5, h6, E_iin, E_imodeOk, E_iRingOk, E_iUndoOk, E_iemptyLine, E_iPrintable, a0, a1, a2, a3, a4, a5, c0, c1, c2, c3, c4, d0, d1, d1', g, seekB, m3, t0]
            · simp [Try.func15, Try.f15, edOk, findB, E_iLineOk, h1, h2, h3, h5, h6, E_iin, E_imodeOk, E_iRingOk, E_iUndoOk, E_iemptyLine, E_iPrintable, a0, a1, a2, a3, a4, a5, c0, c1, c2, c3, c4, d0, d1, d1', g, seekB, m3, q0]
        · simp
        · intro j hj
          have hw := w64 (j + 1) (by omega)
          have := List.all_eq_true.1 g q[j] (List.getElem_mem hj)
          simp [hj, hw, ints_get hj, E_iPrintable, this]
      · rw [loopV_go (fun j => .on ⟨[(109, V.v (.int .i64 ((j : Int)))), (108, V.v (.int .i64 ((q.length : Int)))), (107, .lst (some 4) (ints q)), (1, .ref 1 0)], [(1, [V.v (.bool vi), V.v (.int .i64 mode), .lst (some 0) (ints lt), V.v (.int .i64 la), V.v (.int .i64 cnt), V.v (.int .i64 op), V.v (.int .i64 opc), V.v (.int .i64 wt), V.v (.int .i64 0), V.v (.int .i64 0), V.v (.int .i64 last), .lst (some 1) (dPieces rp), .lst (some 2) (dLines ul), V.v (.int .i64 nav), .lst (some 3) (ints ot), V.v (.int .i64 oa), .lst (some 4) (ints q), V.v (.int .i64 hit), .lst (some 5) (ints bt), V.v (.int .i64 ba)])], [], []⟩) N ?_ ?_]
        · simp [hN, ints_get hN, E_iPrintable, g1, g, edOk]
        · simp
        · intro j hj
          have hj' : j < q.length := by omega
          have hw := w64 (j + 1) (by omega)
          simp [hj', hw, ints_get hj', E_iPrintable, g2 j hj' hj]
  · skip
    cases f1 : printable fr
    · simp [Try.func15, Try.f15, edOk, findB, E_iLineOk, h1, h2, h3, h5, h6, E_iin, E_imodeOk, E_iRingOk, E_iUndoOk, E_iemptyLine, E_iPrintable, a0, a1, a2, a3, a4, a5, f0, f1]
    cases f2 : inR fh 0 3
    · simp [Try.func15, Try.f15, edOk, findB, E_iLineOk, h1, h2, h3, h5, h6, E_iin, E_imodeOk, E_iRingOk, E_iUndoOk, E_iemptyLine, E_iPrintable, a0, a1, a2, a3, a4, a5, f0, f1, f2]
    cases c0 : inR last 0 3
    · simp [Try.func15, Try.f15, edOk, findB, E_iLineOk, h1, h2, h3, h5, h6, E_iin, E_imodeOk, E_iRingOk, E_iUndoOk, E_iemptyLine, E_iPrintable, a0, a1, a2, a3, a4, a5, f0, f1, f2, c0]
    cases c1 : ringOk rp
    · simp [Try.func15, Try.f15, edOk, findB, E_iLineOk, h1, h2, h3, h5, h6, E_iin, E_imodeOk, E_iRingOk, E_iUndoOk, E_iemptyLine, E_iPrintable, a0, a1, a2, a3, a4, a5, f0, f1, f2, c0, c1]
    cases c2 : undoOk ul
    · simp [Try.func15, Try.f15, edOk, findB, E_iLineOk, h1, h2, h3, h5, h6, E_iin, E_imodeOk, E_iRingOk, E_iUndoOk, E_iemptyLine, E_iPrintable, a0, a1, a2, a3, a4, a5, f0, f1, f2, c0, c1, c2]
    cases c3 : inR nav 0 1000000060
    · simp [Try.func15, Try.f15, edOk, findB, E_iLineOk, h1, h2, h3, h5, h6, E_iin, E_imodeOk, E_iRingOk, E_iUndoOk, E_iemptyLine, E_iPrintable, a0, a1, a2, a3, a4, a5, f0, f1, f2, c0, c1, c2, c3]
    cases c4 : inR hit 0 1000000060
    · simp [Try.func15, Try.f15, edOk, findB, E_iLineOk, h1, h2, h3, h5, h6, E_iin, E_imodeOk, E_iRingOk, E_iUndoOk, E_iemptyLine, E_iPrintable, a0, a1, a2, a3, a4, a5, f0, f1, f2, c0, c1, c2, c3, c4]
    by_cases d0 : nav = 0
    · subst d0
      cases e0 : emptyL ot oa
      · simp [Try.func15, Try.f15, edOk, findB, E_iLineOk, h1, h2, h3, h5, h6, E_iin, E_imodeOk, E_iRingOk, E_iUndoOk, E_iemptyLine, E_iPrintable, a0, a1, a2, a3, a4, a5, f0, f1, f2, c0, c1, c2, c3, c4, e0]
      by_cases d1 : q.length ≤ 40
      rotate_left
      · have d1' : 40 < (q.length : Int) := by omega
        simp [Try.func15, Try.f15, edOk, findB, E_iLineOk, h1, h2, h3, h5, h6, E_iin, E_imodeOk, E_iRingOk, E_iUndoOk, E_iemptyLine, E_iPrintable, a0, a1, a2, a3, a4, a5, f0, f1, f2, c0, c1, c2, c3, c4, e0, d1, d1']
      have d1' : ¬ (40 < (q.length : Int)) := by omega
      simp [Try.func15, Try.f15, edOk, findB, E_iLineOk, h1, h2, h3, h5, h6, E_iin, E_imodeOk, E_iRingOk, E_iUndoOk, E_iemptyLine, E_iPrintable, a0, a1, a2, a3, a4, a5, f0, f1, f2, c0, c1, c2, c3, c4, e0, d1, d1']
      rcases firstBad printable q with g | ⟨g, N, hN, g1, g2⟩
      · rw [loopV_go (fun j => .on ⟨[(109, V.v (.int .i64 ((j : Int)))), (108, V.v (.int .i64 ((q.length : Int)))), (107, .lst (some 4) (ints q)), (1, .ref 1 0)], [(1, [V.v (.bool vi), V.v (.int .i64 mode), .lst (some 0) (ints lt), V.v (.int .i64 la), V.v (.int .i64 cnt), V.v (.int .i64 op), V.v (.int .i64 opc), V.v (.int .i64 wt), V.v (.int .i64 fr), V.v (.int .i64 fh), V.v (.int .i64 last), .lst (some 1) (dPieces rp), .lst (some 2) (dLines ul), V.v (.int .i64 0), .lst (some 3) (ints ot), V.v (.int .i64 oa), .lst (some 4) (ints q), V.v (.int .i64 hit), .lst (some 5) (ints bt), V.v (.int .i64 ba)])], [], []⟩) q.length ?_ ?_]
        · by_cases m3 : mode = 3
          · simp [Try.func15, Try.f15, edOk, findB, E_iLineOk, h1, h2, h3, h5, h6, E_iin, E_imodeOk, E_iRingOk, E_iUndoOk, E_iemptyLine, E_iPrintable, a0, a1, a2, a3, a4, a5, f0, f1, f2, c0, c1, c2, c3, c4, e0, d1, d1', g, seekB, m3]
          · by_cases q0 : q = []
            · subst q0
              by_cases t0 : hit = 0
              · subst t0; cases em : emptyL bt ba <;> simp [Try.func15, Try.f15, edOk, findB, E_iLineOk, h1, h2, h3, h5, h6, E_iin, E_imodeOk, E_iRingOk, E_iUndoOk, E_iemptyLine, E_iPrintable, a0, a1, a2, a3, a4, a5, f0, f1, f2, c0, c1, c2, c3, c4, e0, d1, d1', g, seekB, m3, em]
              · simp [Try.func15, Try.f15, edOk, findB, E_iLineOk, h1, h2, h3, h5, h6, E_iin, E_imodeOk, E_iRingOk, E_iUndoOk, E_iemptyLine, E_iPrintable, a0, a1, a2, a3, a4, a5, f0, f1, f2, c0, c1, c2, c3, c4, e0, d1, d1', g, seekB, m3, t0]
            · simp [Try.func15, Try.f15, edOk, findB, E_iLineOk, h1, h2, h3, h5, h6, E_iin, E_imodeOk, E_iRingOk, E_iUndoOk, E_iemptyLine, E_iPrintable, a0, a1, a2, a3, a4, a5, f0, f1, f2, c0, c1, c2, c3, c4, e0, d1, d1', g, seekB, m3, q0]
        · simp
        · intro j hj
          have hw := w64 (j + 1) (by omega)
          have := List.all_eq_true.1 g q[j] (List.getElem_mem hj)
          simp [hj, hw, ints_get hj, E_iPrintable, this]
      · rw [loopV_go (fun j => .on ⟨[(109, V.v (.int .i64 ((j : Int)))), (108, V.v (.int .i64 ((q.length : Int)))), (107, .lst (some 4) (ints q)), (1, .ref 1 0)], [(1, [V.v (.bool vi), V.v (.int .i64 mode), .lst (some 0) (ints lt), V.v (.int .i64 la), V.v (.int .i64 cnt), V.v (.int .i64 op), V.v (.int .i64 opc), V.v (.int .i64 wt), V.v (.int .i64 fr), V.v (.int .i64 fh), V.v (.int .i64 last), .lst (some 1) (dPieces rp), .lst (some 2) (dLines ul), V.v (.int .i64 0), .lst (some 3) (ints ot), V.v (.int .i64 oa), .lst (some 4) (ints q), V.v (.int .i64 hit), .lst (some 5) (ints bt), V.v (.int .i64 ba)])], [], []⟩) N ?_ ?_]
        · simp [hN, ints_get hN, E_iPrintable, g1, g, edOk]
        · simp
        · intro j hj
          have hj' : j < q.length := by omega
          have hw := w64 (j + 1) (by omega)
          simp [hj', hw, ints_get hj', E_iPrintable, g2 j hj' hj]
    · skip
      by_cases d1 : q.length ≤ 40
      rotate_left
      · have d1' : 40 < (q.length : Int) := by omega
        simp [Try.func15, Try.f15, edOk, findB, E_iLineOk, h1, h2, h3, h5, h6, E_iin, E_imodeOk, E_iRingOk, E_iUndoOk, E_iemptyLine, E_iPrintable, a0, a1, a2, a3, a4, a5, f0, f1, f2, c0, c1, c2, c3, c4, d0, d1, d1']
      have d1' : ¬ (40 < (q.length : Int)) := by omega
      simp [Try.func15, Try.f15, edOk, findB, E_iLineOk, h1, h2, h3, h5, h6, E_iin, E_imodeOk, E_iRingOk, E_iUndoOk, E_iemptyLine, E_iPrintable, a0, a1, a2, a3, a4, a5, f0, f1, f2, c0, c1, c2, c3, c4, d0, d1, d1']
      rcases firstBad printable q with g | ⟨g, N, hN, g1, g2⟩
      · rw [loopV_go (fun j => .on ⟨[(109, V.v (.int .i64 ((j : Int)))), (108, V.v (.int .i64 ((q.length : Int)))), (107, .lst (some 4) (ints q)), (1, .ref 1 0)], [(1, [V.v (.bool vi), V.v (.int .i64 mode), .lst (some 0) (ints lt), V.v (.int .i64 la), V.v (.int .i64 cnt), V.v (.int .i64 op), V.v (.int .i64 opc), V.v (.int .i64 wt), V.v (.int .i64 fr), V.v (.int .i64 fh), V.v (.int .i64 last), .lst (some 1) (dPieces rp), .lst (some 2) (dLines ul), V.v (.int .i64 nav), .lst (some 3) (ints ot), V.v (.int .i64 oa), .lst (some 4) (ints q), V.v (.int .i64 hit), .lst (some 5) (ints bt), V.v (.int .i64 ba)])], [], []⟩) q.length ?_ ?_]
        · by_cases m3 : mode = 3
          · simp [Try.func15, Try.f15, edOk, findB, E_iLineOk, h1, h2, h3, h5, h6, E_iin, E_imodeOk, E_iRingOk, E_iUndoOk, E_iemptyLine, E_iPrintable, a0, a1, a2, a3, a4, a5, f0, f1, f2, c0, c1, c2, c3, c4, d0, d1, d1', g, seekB, m3]
          · by_cases q0 : q = []
            · subst q0
              by_cases t0 : hit = 0
              · subst t0; cases em : emptyL bt ba <;> simp [Try.func15, Try.f15, edOk, findB, E_iLineOk, h1, h2, h3, h5, h6, E_iin, E_imodeOk, E_iRingOk, E_iUndoOk, E_iemptyLine, E_iPrintable, a0, a1, a2, a3, a4, a5, f0, f1, f2, c0, c1, c2, c3, c4, d0, d1, d1', g, seekB, m3, em]
              · simp [Try.func15, Try.f15, edOk, findB, E_iLineOk, h1, h2, h3, h5, h6, E_iin, E_imodeOk, E_iRingOk, E_iUndoOk, E_iemptyLine, E_iPrintable, a0, a1, a2, a3, a4, a5, f0, f1, f2, c0, c1, c2, c3, c4, d0, d1, d1', g, seekB, m3, t0]
            · simp [Try.func15, Try.f15, edOk, findB, E_iLineOk, h1, h2, h3, h5, h6, E_iin, E_imodeOk, E_iRingOk, E_iUndoOk, E_iemptyLine, E_iPrintable, a0, a1, a2, a3, a4, a5, f0, f1, f2, c0, c1, c2, c3, c4, d0, d1, d1', g, seekB, m3, q0]
        · simp
        · intro j hj
          have hw := w64 (j + 1) (by omega)
          have := List.all_eq_true.1 g q[j] (List.getElem_mem hj)
          simp [hj, hw, ints_get hj, E_iPrintable, this]
      · rw [loopV_go (fun j => .on ⟨[(109, V.v (.int .i64 ((j : Int)))), (108, V.v (.int .i64 ((q.length : Int)))), (107, .lst (some 4) (ints q)), (1, .ref 1 0)], [(1, [V.v (.bool vi), V.v (.int .i64 mode), .lst (some 0) (ints lt), V.v (.int .i64 la), V.v (.int .i64 cnt), V.v (.int .i64 op), V.v (.int .i64 opc), V.v (.int .i64 wt), V.v (.int .i64 fr), V.v (.int .i64 fh), V.v (.int .i64 last), .lst (some 1) (dPieces rp), .lst (some 2) (dLines ul), V.v (.int .i64 nav), .lst (some 3) (ints ot), V.v (.int .i64 oa), .lst (some 4) (ints q), V.v (.int .i64 hit), .lst (some 5) (ints bt), V.v (.int .i64 ba)])], [], []⟩) N ?_ ?_]
        · simp [hN, ints_get hN, E_iPrintable, g1, g, edOk]
        · simp
        · intro j hj
          have hj' : j < q.length := by omega
          have hw := w64 (j + 1) (by omega)
          simp [hj', hw, ints_get hj', E_iPrintable, g2 j hj' hj]
end Go.Proofs.Ytnmneoekpikpkaa
namespace Go.Proofs.Ytnmneoekpikpkaa
open Go.RowKit
set_option linter.unusedSimpArgs false
set_option linter.unusedVariables false
set_option maxHeartbeats 4000000
set_option maxRecDepth 10000
def by8 (x : Int) : UInt8 := UInt8.ofNat x.toNat
theorem u8_in (x : Int) (h : 0 ≤ x ∧ x ≤ 255) : IntKind.u8.wrap x = x := by
  simp [IntKind.wrap, IntKind.bits, IntKind.signed]; omega
theorem u8_by8 (x : Int) (h : 0 ≤ x ∧ x ≤ 255) : IntKind.u8.wrap x = ((by8 x).toNat : Int) := by
  rw [u8_in x h]
  unfold by8
  rw [UInt8.toNat_ofNat']
  omega
def runeBytes (r : Int) : List UInt8 :=
  if runeOk r = false then [] else if r < 128 then [by8 r] else if r < 2048 then [by8 (192 + r / 64), by8 (128 + r % 64)]
  else if r < 65536 then [by8 (224 + r / 4096), by8 (128 + r / 64 % 64), by8 (128 + r % 64)]
  else [by8 (240 + r / 262144), by8 (128 + r / 4096 % 64), by8 (128 + r / 64 % 64), by8 (128 + r % 64)]
theorem runeOk_range {r : Int} (h : runeOk r = true) : 0 ≤ r ∧ r ≤ 1114111 := by
  simp only [runeOk, Bool.and_eq_true] at h
  exact inR_of h.1
theorem byts_of (l : List UInt8) : byts l = l.map fun c => [D.a (.int .u8 (c.toNat : Int))] := rfl
theorem E_iRuneBytes (r : Int) : M_iRuneBytes [V.v (.int .i64 r)] [] [] = some ⟨.own 0, [], [(0, byts (runeBytes r))]⟩ := by
  unfold M_iRuneBytes
  cases h1 : runeOk r
  · simp [Try.func41, Try.f41, E_iRuneOk, h1, runeBytes, byts_of]
  obtain ⟨a, b⟩ := runeOk_range h1
  have d1 := Int.tdiv_eq_ediv_of_nonneg a (b := 64)
  have d2 := Int.tdiv_eq_ediv_of_nonneg a (b := 4096)
  have d3 := Int.tdiv_eq_ediv_of_nonneg a (b := 262144)
  have m1 := Int.tmod_eq_emod_of_nonneg a (b := 64)
  have m2 := Int.tmod_eq_emod_of_nonneg (show 0 ≤ r / 64 by omega) (b := 64)
  have m3 := Int.tmod_eq_emod_of_nonneg (show 0 ≤ r / 4096 by omega) (b := 64)
  have w1 := w64 (r / 64) (by omega)
  have w2 := w64 (r / 4096) (by omega)
  have w3 := w64 (r / 262144) (by omega)
  have v1 := w64 (128 + r % 64) (by omega)
  have v2 := w64 (128 + r / 64 % 64) (by omega)
  have v3 := w64 (128 + r / 4096 % 64) (by omega)
  have u1 := u8_by8 (128 + r % 64) (by omega)
  have u2 := u8_by8 (128 + r / 64 % 64) (by omega)
  have u3 := u8_by8 (128 + r / 4096 % 64) (by omega)
  by_cases h2 : r < 128
  · simp [Try.func41, Try.f41, E_iRuneOk, h1, runeBytes, h2, byts_of, u8_by8 r (by omega)]
  by_cases h3 : r < 2048
  · have x1 := w64 (192 + r / 64) (by omega)
    have x2 := u8_by8 (192 + r / 64) (by omega)
    simp [Try.func41, Try.f41, E_iRuneOk, h1, runeBytes, h2, h3, byts_of, d1, m1, w1, v1, u1, x1, x2]
  by_cases h4 : r < 65536
  · have x1 := w64 (224 + r / 4096) (by omega)
    have x2 := u8_by8 (224 + r / 4096) (by omega)
    simp [Try.func41, Try.f41, E_iRuneOk, h1, runeBytes, h2, h3, h4, byts_of, d1, d2, m1, m2, w1, w2, v1, v2, u1, u2, x1, x2]
  have x1 := w64 (240 + r / 262144) (by omega)
  have x2 := u8_by8 (240 + r / 262144) (by omega)
  simp [Try.func41, Try.f41, E_iRuneOk, h1, runeBytes, h2, h3, h4, byts_of, d1, d2, d3, m1, m2, m3, w1, w2, w3, v1, v2, v3, u1, u2, u3, x1, x2]
end Go.Proofs.Ytnmneoekpikpkaa
namespace Go.Proofs.Ytnmneoekpikpkaa
open Go.RowKit
set_option linter.unusedSimpArgs false
set_option linter.unusedVariables false
set_option maxHeartbeats 4000000
set_option maxRecDepth 10000
def textOf (l : List Int) : List UInt8 := l.flatMap runeBytes
theorem runeBytes_len (r : Int) : (runeBytes r).length ≤ 4 := by
  unfold runeBytes
  split
  · simp
  split
  · simp
  split
  · simp
  split <;> simp
theorem textOf_len (l : List Int) : (textOf l).length ≤ 4 * l.length := by
  induction l with
  | nil => simp [textOf]
  | cons r l ih =>
    have := runeBytes_len r
    simp only [textOf, List.flatMap_cons, List.length_append, List.length_cons] at ih ⊢; omega
theorem textOf_take {l : List Int} {j : Nat} (h : j < l.length) : textOf (l.take (j + 1)) = textOf (l.take j) ++ runeBytes l[j] := by
  unfold textOf
  rw [List.take_add_one, List.getElem?_eq_getElem h, List.flatMap_append]; simp
theorem bytes_of_byts : ∀ (l : List UInt8), mapSome bytesOfRow (byts l) = some l
  | [] => rfl
  | c :: l => by
    rw [show byts (c :: l) = [D.a (.int .u8 (c.toNat : Int))] :: byts l from rfl]
    have h : UInt8.ofNat ((c.toNat : Int)).toNat = c := by simp
    simp only [mapSome, bytesOfRow, bnd_some, bytes_of_byts l, h]
theorem E_iTextOf (l : List Int) (hl : l.length ≤ 1000000000) : M_iTextOf [.lst (some 0) (ints l)] [] [] = some ⟨V.v (.string (⟨(textOf l).toArray⟩)), [], []⟩ := by
  unfold M_iTextOf
  simp [Try.func24, Try.f24]
  rw [loopV_go (fun j => .on ⟨[(8, V.v (.int .i64 ((j : Int)))), (7, V.v (.int .i64 ((l.length : Int)))), (6, .lst (some 0) (ints l)), (3, .own 2000000000)], [], [(2000000000, byts (textOf (l.take j)))], []⟩) l.length ?_ ?_]
  · simp [bytes_of_byts]
  · simp [textOf, byts_of]
  · intro j hj
    have hw := w64 (j + 1) (by omega)
    have h1 : (textOf (l.take j)).length ≤ 4000000000 := by
      have := textOf_len (l.take j)
      have e : (l.take j).length ≤ l.length := by simp; omega
      omega
    have h2 := runeBytes_len l[j]
    have h3 := textOf_take hj
    simp [hj, hw, ints_get hj, E_iRuneBytes]
    simp (disch := omega) only [grd_pos]
    simp [hw, h3]
end Go.Proofs.Ytnmneoekpikpkaa
