/- Part 8 of a proof in several texts (an abstract evaluator, what the functions compute). -/
import Derived.Test.YtjhdikdopdcfcaaGreatDoorPkFnSearch7
import Derived.Shelf.Strings.Search1
import Derived.Shelf.Strings.Search2
import Derived.Shelf.Strings.Search3
import Derived.Shelf.Strings.Count
import Derived.Shelf.LaysM
import Derived.Shelf.Strings.Shaped
import Derived.Shelf.Strings.Split
import Derived.Shelf.Strings.SplitShaped
import Derived.Shelf.Unicode.DecodeSlow
import Derived.Test.YtjhdikdopdcfcaaGreatDoorProg
namespace Go.Proofs.YtjhdikdopdcfcaaGreatDoor
open Go.RowKit
set_option linter.unusedSimpArgs false
set_option linter.unusedVariables false
mutual
theorem RV.refs {ρ ρ' : Rel} (hK : ρ'.K = ρ.K) (hZ : ρ'.Z = ρ.Z) (hs : ρ'.src = ρ.src) (ht : ∀ p, ρ.Lt p → ρ'.Lt p ∧ ρ'.hd p = ρ.hd p) {bs : List Nat} (hb : ∀ b ∈ bs, ρ.Lb b → ρ'.Lb b ∧ ρ'.bl b = ρ.bl b) : ∀ {v : V} {u : Value}, refsOk bs v = true → RV ρ v u → RV ρ' v u
  | .v _, _, _, h => h
  | .nil, _, _, h => h
  | .lst _ _, _, _, h => ⟨by rw [hK]; exact h.1, fun j i => by rw [hs]; exact h.2 j i⟩
  | .own p, _, _, h => ⟨(ht p h.1).1, by rw [(ht p h.1).2]; exact h.2⟩
  | .inn p _ _ _, _, _, h => ⟨(ht p h.1).1, by rw [(ht p h.1).2]; exact h.2⟩
  | .fz _, _, _, h => RdD.mono h (by rw [hZ]; exact fun _ _ h => h)
  | .mp _, _, _, h => MpIn.mono h (by rw [hZ]; exact fun _ _ h => h)
  | .ref b _, _, r, h => by
    have := hb b (by simpa [refsOk] using r) h.1
    exact ⟨this.1, by rw [this.2]; exact h.2⟩
  | .pe _ _ _ _, _, r, h => by obtain ⟨ub, h1, h2⟩ := h; exact ⟨ub, RV.refs hK hZ hs ht hb (by simpa [refsOk] using r) h1, h2⟩
  | .agg _, _, r, h => by obtain ⟨us, h1, h2⟩ := h; exact ⟨us, h1, RVs.refs hK hZ hs ht hb (by simpa [refsOk] using r) h2⟩
  | .tup _, _, r, h => by obtain ⟨us, h1, h2⟩ := h; exact ⟨us, h1, RVs.refs hK hZ hs ht hb (by simpa [refsOk] using r) h2⟩
  | .fn _ _, _, r, h => by obtain ⟨us, h1, h2⟩ := h; exact ⟨us, h1, RVs.refs hK hZ hs ht hb (by simpa [refsOk] using r) h2⟩
  | .dead, _, _, _ => trivial
theorem RVs.refs {ρ ρ' : Rel} (hK : ρ'.K = ρ.K) (hZ : ρ'.Z = ρ.Z) (hs : ρ'.src = ρ.src) (ht : ∀ p, ρ.Lt p → ρ'.Lt p ∧ ρ'.hd p = ρ.hd p) {bs : List Nat} (hb : ∀ b ∈ bs, ρ.Lb b → ρ'.Lb b ∧ ρ'.bl b = ρ.bl b) : ∀ {vs : List V} {us : List Value}, refsOk.go bs vs = true → RVs ρ vs us → RVs ρ' vs us
  | [], _, _, h => h
  | _ :: _, _, r, h => by
    simp [refsOk.go] at r
    obtain ⟨u, q, h1, h2, h3⟩ := h
    exact ⟨u, q, h1, RV.refs hK hZ hs ht hb r.1 h2, RVs.refs hK hZ hs ht hb r.2 h3⟩
end
mutual
theorem RV.ren {ρ ρ' : Rel} (hK : ρ'.K = ρ.K) (hZ : ρ'.Z = ρ.Z) (hs : ρ'.src = ρ.src) (hb : ∀ b, ρ.Lb b → ρ'.Lb b ∧ ρ'.bl b = ρ.bl b) {mp : List (Nat × Nat)} : ∀ {v : V} {u : Value}, (∀ p, mentions p v = true → ρ.Lt p → ρ'.Lt (YtjhdikdopdcfcaaGreatDoor.ren mp p) ∧ ρ'.hd (YtjhdikdopdcfcaaGreatDoor.ren mp p) = ρ.hd p) → RV ρ v u → RV ρ' (renV mp v) u
  | .v _, _, _, h => h
  | .nil, _, _, h => h
  | .lst _ _, _, _, h => ⟨by rw [hK]; exact h.1, fun j i => by rw [hs]; exact h.2 j i⟩
  | .own p, _, m, h => by
    have := m p (by simp [mentions]) h.1
    exact ⟨this.1, by rw [this.2]; exact h.2⟩
  | .inn p _ _ _, _, m, h => by
    have := m p (by simp [mentions]) h.1
    exact ⟨this.1, by rw [this.2]; exact h.2⟩
  | .fz _, _, _, h => RdD.mono h (by rw [hZ]; exact fun _ _ h => h)
  | .mp _, _, _, h => MpIn.mono h (by rw [hZ]; exact fun _ _ h => h)
  | .ref b _, _, _, h => ⟨(hb b h.1).1, by rw [(hb b h.1).2]; exact h.2⟩
  | .pe _ _ _ _, _, m, h => by obtain ⟨ub, h1, h2⟩ := h; exact ⟨ub, RV.ren hK hZ hs hb (fun p hp => m p (by simpa [mentions] using hp)) h1, h2⟩
  | .agg _, _, m, h => by obtain ⟨us, h1, h2⟩ := h; exact ⟨us, h1, RVs.ren hK hZ hs hb (fun p hp => m p (by simpa [mentions] using hp)) h2⟩
  | .tup _, _, m, h => by obtain ⟨us, h1, h2⟩ := h; exact ⟨us, h1, RVs.ren hK hZ hs hb (fun p hp => m p (by simpa [mentions] using hp)) h2⟩
  | .fn _ _, _, m, h => by obtain ⟨us, h1, h2⟩ := h; exact ⟨us, h1, RVs.ren hK hZ hs hb (fun p hp => m p (by simpa [mentions] using hp)) h2⟩
  | .dead, _, _, _ => trivial
theorem RVs.ren {ρ ρ' : Rel} (hK : ρ'.K = ρ.K) (hZ : ρ'.Z = ρ.Z) (hs : ρ'.src = ρ.src) (hb : ∀ b, ρ.Lb b → ρ'.Lb b ∧ ρ'.bl b = ρ.bl b) {mp : List (Nat × Nat)} : ∀ {vs : List V} {us : List Value}, (∀ p, mentions.any p vs = true → ρ.Lt p → ρ'.Lt (YtjhdikdopdcfcaaGreatDoor.ren mp p) ∧ ρ'.hd (YtjhdikdopdcfcaaGreatDoor.ren mp p) = ρ.hd p) → RVs ρ vs us → RVs ρ' (renL mp vs) us
  | [], _, _, h => h
  | _ :: _, _, m, h => by
    obtain ⟨u, q, h1, h2, h3⟩ := h
    exact ⟨u, q, h1, RV.ren hK hZ hs hb (fun p hp => m p (by simp [mentions.any, hp])) h2, RVs.ren hK hZ hs hb (fun p hp => m p (by simp [mentions.any, hp])) h3⟩
end
section
variable {c : Ctx} {s : S} {y : Lay} {a : Act} {w : World}
theorem At.restrict (A : At c s y a w) {env : List (Nat × V)} {box : List (Nat × List V)} {bs : List Nat} (hE : ∀ t v, look t env = some v → look t s.env = some v ∧ refsOk bs v = true) (hB : ∀ b cs, (b, cs) ∈ box → (b, cs) ∈ s.box ∧ refsOk.go bs cs = true) (hk : box.map (·.1) = bs) (nb : bs.Nodup) : At c { s with env := env, box := box } y a w := by
  have hsub : ∀ b ∈ box.map (·.1), b ∈ s.box.map (·.1) := by
    intro b hb
    obtain ⟨x, hx, rfl⟩ := List.mem_map.1 hb
    exact List.mem_map.2 ⟨x, (hB x.1 x.2 hx).1, rfl⟩
  have hb : ∀ b ∈ bs, (relOf c s y).Lb b → (relOf c { s with env := env, box := box } y).Lb b ∧ (relOf c { s with env := env, box := box } y).bl b = (relOf c s y).bl b := fun b hb _ => ⟨by show b ∈ box.map (·.1); rw [hk]; exact hb, rfl⟩
  refine ⟨A.defers, A.size, ?_, fun t v e => RV.refs (ρ := relOf c s y) (ρ' := relOf c { s with env := env, box := box } y) rfl rfl rfl (fun p h => ⟨h, rfl⟩) hb (hE t v e).2 (A.env t v (hE t v e).1), fun b cs h => RVs.refs (ρ := relOf c s y) (ρ' := relOf c { s with env := env, box := box } y) rfl rfl rfl (fun p h => ⟨h, rfl⟩) hb (hB b cs h).2 (A.box b cs (hB b cs h).1), A.fro, by show (box.map (·.1)).Nodup; rw [hk]; exact nb, A.nt, A.fix⟩
  have S0 := A.st
  rw [boxPs_keys] at S0
  show St c.W w (boxPs y.bl y.T y.us box ++ (treePs y.hd s.tree ++ (froPs y.w0 y.F s.fro ++ c.L)))
  rw [boxPs_keys]
  have p := (minus_perm A.nb (by rw [hk]; exact nb) hsub).map fun b => rowP (y.bl b) (y.T b) (y.us b)
  rw [List.map_append] at p
  have q := S0.perm (List.Perm.append_right _ (p.trans List.perm_append_comm))
  rw [List.append_assoc] at q
  exact St.dropL q
theorem At.nils (A : At c s y a w) {ps : List Nat} (np : ps.Nodup) (hf : ∀ k ∈ ps, k ∉ (s.tree ++ s.fro).map (·.1)) (hb : ∀ k ∈ ps, 2 * parBase ≤ k) {env : List (Nat × V)} {box : List (Nat × List V)} (hE : ∀ t v, look t env = some v → look t s.env = some v ∨ (look t s.env = some .nil ∧ ∃ k ∈ ps, v = .own k))
    (hk : box.map (·.1) = s.box.map (·.1)) (hB : ∀ b cs, (b, cs) ∈ box → ∃ cs0, (b, cs0) ∈ s.box ∧ cs.length = cs0.length ∧ ∀ (i : Nat) (v : V), cs[i]? = some v → cs0[i]? = some v ∨ (cs0[i]? = some .nil ∧ ∃ k ∈ ps, v = .own k)) :
    Good c { env := env, box := box, tree := s.tree ++ ps.map (fun p => (p, [])), fro := s.fro } a w := by
  classical
  let y2 : Lay := { y with hd := fun n => if n ∈ ps then nilHd else y.hd n }
  have keys : ∀ n, n ∈ ((s.tree ++ ps.map (fun p => (p, ([] : List (List D))))) ++ s.fro).map (·.1) ↔ n ∈ (s.tree ++ s.fro).map (·.1) ∨ n ∈ ps := by
    intro n
    simp only [List.map_append, List.mem_append, List.map_map]
    have : (ps.map ((fun x : Nat × List (List D) => x.1) ∘ fun p => (p, []))) = ps := by simp [Function.comp_def]
    rw [this]
    constructor
    · rintro ((h | h) | h)
      · exact .inl (.inl h)
      · exact .inr h
      · exact .inl (.inr h)
    · rintro ((h | h) | h)
      · exact .inl (.inl h)
      · exact .inr h
      · exact .inl (.inr h)
  have le : (relOf c s y).le (relOf c { env := env, box := box, tree := s.tree ++ ps.map (fun p => (p, [])), fro := s.fro } y2) :=
    ⟨fun _ _ h => h, fun _ _ h => h, rfl, fun b h => ⟨by show b ∈ box.map (·.1); rw [hk]; exact h, rfl⟩, fun p h => ⟨(keys p).2 (.inl h), if_neg fun hp => hf p hp h⟩⟩
  have hnew : ∀ k ∈ ps, RV (relOf c { env := env, box := box, tree := s.tree ++ ps.map (fun p => (p, [])), fro := s.fro } y2) (.own k) (.slice none 0 0) := fun k hk => ⟨(keys k).2 (.inr hk), by show _ = Hd.v (if k ∈ ps then nilHd else y.hd k); rw [if_pos hk]; rfl⟩
  have An := A.nt
  rw [List.map_append, List.nodup_append] at An
  refine ⟨y2, A.defers, A.size, ?_, fun t v e => ?_, fun b cs h => ?_, fun p rows hp => ?_, by show (box.map (·.1)).Nodup; rw [hk]; exact A.nb, ?_, A.fix.1, fun i h1 h2 => ⟨(A.fix.2 i h1 h2).1, (show (if i ∈ ps then nilHd else y.hd i) = y.hd i from if_neg fun hp => by have := hb i hp; omega).trans (A.fix.2 i h1 h2).2⟩⟩
  · show St c.W w (boxPs y.bl y.T y.us box ++ (treePs y2.hd (s.tree ++ ps.map (fun p => (p, []))) ++ (froPs y.w0 y.F s.fro ++ c.L)))
    have e1 : boxPs y.bl y.T y.us box = boxPs y.bl y.T y.us s.box := by rw [boxPs_keys, boxPs_keys, hk]
    have e2 : treePs y2.hd (s.tree ++ ps.map (fun p => (p, []))) = treePs y.hd s.tree ++ ps.map fun _ => treeP nilHd [] := by
      unfold treePs
      rw [List.map_append, List.map_map]
      congr 1
      · refine List.map_congr_left fun x hx => ?_
        have : ¬ x.1 ∈ ps := fun hp => hf x.1 hp (List.mem_map.2 ⟨x, List.mem_append_left _ hx, rfl⟩)
        show treeP (if x.1 ∈ ps then _ else y.hd x.1) x.2 = _
        rw [if_neg this]
      · refine List.map_congr_left fun p hp => ?_
        show treeP (if p ∈ ps then _ else _) [] = _
        rw [if_pos hp]
    have more : ∀ (l : List Nat) (L : List Pc), St c.W w L → St c.W w (l.map (fun _ => treeP nilHd []) ++ L) := by
      intro l; induction l with
      | nil => intro L S; exact S
      | cons x l ih => intro L S; exact (ih L S).more (Ext.refl w) (h := treeP nilHd []) (F := []) (TreeD.nil w) List.nodup_nil (fun b hb => by cases hb)
    have S1 := more ps _ A.st
    rw [e1, e2]
    refine S1.perm ?_
    have q := perm5 (boxPs y.bl y.T y.us s.box) [] (treePs y.hd s.tree) (ps.map fun _ => treeP nilHd []) (froPs y.w0 y.F s.fro ++ c.L)
    simp only [List.append_nil, List.nil_append, List.append_assoc] at q ⊢
    refine List.Perm.trans ?_ q.symm
    rw [← List.append_assoc, ← List.append_assoc, ← List.append_assoc (boxPs y.bl y.T y.us s.box) (treePs y.hd s.tree), ← List.append_assoc (boxPs y.bl y.T y.us s.box ++ treePs y.hd s.tree)]
    refine List.Perm.append_right _ ?_
    rw [List.append_assoc]
    exact List.perm_append_comm
  · rcases hE t v e with h | ⟨h, k, hk, rfl⟩
    · exact (A.env t v h).le le
    · have h0 := A.env t .nil h
      rw [show a.tmps.getD t undef = _ from h0]; exact hnew k hk
  · obtain ⟨cs0, h1, h2, h3⟩ := hB b cs h
    have h0 := A.box b cs0 h1
    refine RVs.of (by rw [show (y2.us b) = y.us b from rfl, h0.len, h2]) fun i v u e1 e2 => ?_
    have e2 : (y.us b).toList[i]? = some u := e2
    rcases h3 i v e1 with h | ⟨h, k, hk, rfl⟩
    · obtain ⟨u', g1, g2⟩ := h0.get h
      rw [e2] at g1; injection g1 with g1; subst g1
      exact g2.le le
    · obtain ⟨u', g1, g2⟩ := h0.get h
      rw [e2] at g1; injection g1 with g1; subst g1
      rw [show u = _ from g2]; exact hnew k hk
  · show TreeD (y.w0 p) _ (if p ∈ ps then _ else y.hd p) (y.F p)
    rw [if_neg fun hx => hf p hx (by rw [List.map_append, List.mem_append]; exact .inr (List.mem_map.2 ⟨_, hp, rfl⟩))]
    exact A.fro p rows hp
  · show (((s.tree ++ ps.map (fun p => (p, ([] : List (List D))))) ++ s.fro).map (·.1)).Nodup
    have e : (ps.map ((fun x : Nat × List (List D) => x.1) ∘ fun p => (p, []))) = ps := by simp [Function.comp_def]
    rw [List.map_append, List.map_append, List.map_map, e, List.nodup_append, List.nodup_append]
    refine ⟨⟨An.1, np, fun x hx z hz e => ?_⟩, An.2.1, fun x hx z hz e => ?_⟩
    · subst e; exact hf x hz (by rw [List.map_append, List.mem_append]; exact .inl hx)
    · subst e
      rcases List.mem_append.1 hx with hx | hx
      · exact An.2.2 x hx x hz rfl
      · exact hf x hx (by rw [List.map_append, List.mem_append]; exact .inr hz)
end
end Go.Proofs.YtjhdikdopdcfcaaGreatDoor
namespace Go.Proofs.YtjhdikdopdcfcaaGreatDoor
open Go.RowKit
set_option linter.unusedSimpArgs false
set_option linter.unusedVariables false
theorem refs_go {bs : List Nat} : ∀ {cs : List V}, cs.all (refsOk bs) = true → refsOk.go bs cs = true
  | [], _ => rfl
  | c :: r, h => by
    simp only [List.all_cons, Bool.and_eq_true] at h
    simp only [refsOk.go, h.1, refs_go h.2, Bool.and_self]
theorem desc_lt : ∀ {l : List Nat} {a : Nat}, desc (a :: l) = true → ∀ b ∈ l, b < a
  | [], a, _, b, hb => by cases hb
  | x :: r, a, h, b, hb => by
    simp only [desc, Bool.and_eq_true, decide_eq_true_eq] at h
    rcases List.mem_cons.1 hb with hb | hb
    · subst hb; exact h.1
    · exact Nat.lt_trans (desc_lt h.2 b hb) h.1
theorem desc_nodup : ∀ {l : List Nat}, desc l = true → l.Nodup
  | [], _ => List.nodup_nil
  | a :: r, h => by
    refine List.nodup_cons.2 ⟨fun hx => Nat.lt_irrefl _ (desc_lt h a hx), ?_⟩
    cases r with
    | nil => exact List.nodup_nil
    | cons b r => simp only [desc, Bool.and_eq_true] at h; exact desc_nodup h.2
theorem keep_spec {α : Type} {l : List (Nat × α)} : ∀ {ts : List Nat} {r : List (Nat × α)}, mapSome (fun t => bnd (look t l) fun v => some (t, v)) ts = some r → r.map (·.1) = ts ∧ ∀ t v, (t, v) ∈ r → look t l = some v
  | [], r, h => by simp only [mapSome] at h; injection h with h; subst h; exact ⟨rfl, fun t v h => by cases h⟩
  | t :: ts, r, h => by
    simp only [mapSome] at h
    obtain ⟨x, h1, h⟩ := bnd_eq_some h
    obtain ⟨z, h2, h⟩ := bnd_eq_some h
    obtain ⟨v, h3, h1⟩ := bnd_eq_some h1
    injection h with h; subst h
    injection h1 with h1; subst h1
    obtain ⟨k1, k2⟩ := keep_spec h2
    refine ⟨by rw [List.map_cons, k1], fun t' v' hm => ?_⟩
    rcases List.mem_cons.1 hm with hm | hm
    · injection hm with e1 e2; subst e1; subst e2; exact h3
    · exact k2 t' v' hm
theorem ownNil_nil (n t : Nat) (r : List (Nat × V)) : ownNil n ((t, .nil) :: r) = ((t, .own n) :: (ownNil (n + 1) r).1, n :: (ownNil (n + 1) r).2) := rfl
theorem ownNil_other {n t : Nat} {v : V} {r : List (Nat × V)} (h : v ≠ .nil) : ownNil n ((t, v) :: r) = ((t, v) :: (ownNil n r).1, (ownNil n r).2) := by
  cases v <;> first | rfl | exact absurd rfl h
theorem ownNil_spec : ∀ (l : List (Nat × V)) (n : Nat), (ownNil n l).2 = List.range' n (ownNil n l).2.length ∧ ∀ t v, look t (ownNil n l).1 = some v → look t l = some v ∨ (look t l = some .nil ∧ ∃ k ∈ (ownNil n l).2, v = .own k)
  | [], n => ⟨rfl, fun t v h => by cases h⟩
  | (t0, v0) :: r, n => by
    by_cases hv : v0 = .nil
    · subst hv
      obtain ⟨k1, k2⟩ := ownNil_spec r (n + 1)
      rw [ownNil_nil]
      refine ⟨by simp only [List.length_cons, List.range'_succ]; rw [← k1], fun t v h => ?_⟩
      simp only [look] at h ⊢
      by_cases e : t = t0
      · rw [if_pos e] at h ⊢; injection h with h; exact .inr ⟨rfl, n, List.mem_cons_self, h.symm⟩
      · rw [if_neg e] at h ⊢
        rcases k2 t v h with h | ⟨h, k, hk, hv⟩
        · exact .inl h
        · exact .inr ⟨h, k, List.mem_cons_of_mem _ hk, hv⟩
    · obtain ⟨k1, k2⟩ := ownNil_spec r n
      rw [ownNil_other hv]
      refine ⟨k1, fun t v h => ?_⟩
      simp only [look] at h ⊢
      by_cases e : t = t0
      · rw [if_pos e] at h ⊢; exact .inl h
      · rw [if_neg e] at h ⊢; exact k2 t v h
theorem ownNilL_nil (n : Nat) (r : List V) : ownNilL n (.nil :: r) = (.own n :: (ownNilL (n + 1) r).1, n :: (ownNilL (n + 1) r).2) := rfl
theorem ownNilL_other {n : Nat} {v : V} {r : List V} (h : v ≠ .nil) : ownNilL n (v :: r) = (v :: (ownNilL n r).1, (ownNilL n r).2) := by
  cases v <;> first | rfl | exact absurd rfl h
theorem ownNilL_spec : ∀ (l : List V) (n : Nat), (ownNilL n l).2 = List.range' n (ownNilL n l).2.length ∧ (ownNilL n l).1.length = l.length ∧ ∀ (i : Nat) (v : V), (ownNilL n l).1[i]? = some v → l[i]? = some v ∨ (l[i]? = some .nil ∧ ∃ k ∈ (ownNilL n l).2, v = .own k)
  | [], n => ⟨rfl, rfl, fun i v h => by simp [ownNilL] at h⟩
  | v0 :: r, n => by
    by_cases hv : v0 = .nil
    · subst hv
      obtain ⟨k1, k3, k2⟩ := ownNilL_spec r (n + 1)
      rw [ownNilL_nil]
      refine ⟨by simp only [List.length_cons, List.range'_succ]; rw [← k1], by simp only [List.length_cons, k3], fun i v h => ?_⟩
      cases i with
      | zero => simp at h; exact .inr ⟨rfl, n, List.mem_cons_self, h.symm⟩
      | succ i =>
        rcases k2 i v (by simpa using h) with h | ⟨h, k, hk, hv⟩
        · exact .inl (by simpa using h)
        · exact .inr ⟨by simpa using h, k, List.mem_cons_of_mem _ hk, hv⟩
    · obtain ⟨k1, k3, k2⟩ := ownNilL_spec r n
      rw [ownNilL_other hv]
      refine ⟨k1, by simp only [List.length_cons, k3], fun i v h => ?_⟩
      cases i with
      | zero => exact .inl (by simpa using h)
      | succ i => simpa using k2 i v (by simpa using h)
theorem ownNilB_cons (n b : Nat) (cs : List V) (r : List (Nat × List V)) : ownNilB n ((b, cs) :: r) = ((b, (ownNilL n cs).1) :: (ownNilB (n + (ownNilL n cs).2.length) r).1, (ownNilL n cs).2 ++ (ownNilB (n + (ownNilL n cs).2.length) r).2) := rfl
theorem ownNilB_spec : ∀ (l : List (Nat × List V)) (n : Nat), (ownNilB n l).2 = List.range' n (ownNilB n l).2.length ∧ (ownNilB n l).1.map (·.1) = l.map (·.1) ∧ ∀ b cs, (b, cs) ∈ (ownNilB n l).1 → ∃ cs0, (b, cs0) ∈ l ∧ cs.length = cs0.length ∧ ∀ (i : Nat) (v : V), cs[i]? = some v → cs0[i]? = some v ∨ (cs0[i]? = some .nil ∧ ∃ k ∈ (ownNilB n l).2, v = .own k)
  | [], n => ⟨rfl, rfl, fun b cs h => by cases h⟩
  | (b0, cs0) :: r, n => by
    rw [ownNilB_cons]
    obtain ⟨k1, k3, k2⟩ := ownNilL_spec cs0 n
    obtain ⟨m1, m3, m2⟩ := ownNilB_spec r (n + (ownNilL n cs0).2.length)
    refine ⟨?_, by simp only [List.map_cons, m3], fun b cs h => ?_⟩
    · show (ownNilL n cs0).2 ++ (ownNilB (n + (ownNilL n cs0).2.length) r).2 = List.range' n ((ownNilL n cs0).2 ++ (ownNilB (n + (ownNilL n cs0).2.length) r).2).length
      rw [List.length_append, ← List.range'_append_1, ← k1, ← m1]
    · rcases List.mem_cons.1 h with h | h
      · injection h with e1 e2; subst e1; subst e2
        refine ⟨cs0, List.mem_cons_self, k3, fun i v e => (k2 i v e).imp _root_.id fun ⟨h1, k, h2, h3⟩ => ⟨h1, k, List.mem_append_left _ h2, h3⟩⟩
      · obtain ⟨cs1, h1, h2, h3⟩ := m2 b cs h
        exact ⟨cs1, List.mem_cons_of_mem _ h1, h2, fun i v e => (h3 i v e).imp _root_.id fun ⟨h1, k, h2, h3⟩ => ⟨h1, k, List.mem_append_right _ h2, h3⟩⟩
theorem metIn_spec {tree : List (Nat × List (List D))} : ∀ {l : List Nat} {i : Nat}, (∀ x ∈ metIn tree l i, (x.2.1 = x.1 ∧ 1000000000 ≤ x.1 ∧ x.1 < 2000000000) ∨ 2000000000 + i ≤ x.2.1) ∧ (∀ x ∈ metIn tree l i, look x.1 tree = some x.2.2 ∧ x.1 ∈ l) ∧ (∀ p ∈ l, p ∈ tree.map (·.1) → p ∈ (metIn tree l i).map (·.1)) ∧ (l.Nodup → ((metIn tree l i).map (·.1)).Nodup ∧ ((metIn tree l i).map (·.2.1)).Nodup)
  | [], i => ⟨(fun x h => by cases h), (fun x h => by cases h), (fun p h => by cases h), fun _ => ⟨List.nodup_nil, List.nodup_nil⟩⟩
  | p :: r, i => by
    simp only [metIn]
    cases e : look p tree with
    | some rows =>
      simp only [metOne]
      by_cases hp : 1000000000 ≤ p ∧ p < 2000000000
      · obtain ⟨k1, k2, k3, k4⟩ := metIn_spec (tree := tree) (l := r) (i := i)
        rw [if_pos hp]
        refine ⟨fun x hx => ?_, fun x hx => ?_, fun q hq hin => ?_, fun n => ?_⟩
        · rcases List.mem_cons.1 hx with hx | hx
          · subst hx; exact .inl ⟨rfl, hp⟩
          · exact k1 x hx
        · rcases List.mem_cons.1 hx with hx | hx
          · subst hx; exact ⟨e, List.mem_cons_self⟩
          · exact ⟨(k2 x hx).1, List.mem_cons_of_mem _ (k2 x hx).2⟩
        · rw [List.map_cons]
          rcases List.mem_cons.1 hq with hq | hq
          · subst hq; exact List.mem_cons_self
          · exact List.mem_cons_of_mem _ (k3 q hq hin)
        · have n2 := List.nodup_cons.1 n
          rw [List.map_cons, List.map_cons]
          refine ⟨List.nodup_cons.2 ⟨fun hx => ?_, (k4 n2.2).1⟩, List.nodup_cons.2 ⟨fun hx => ?_, (k4 n2.2).2⟩⟩
          · obtain ⟨x, hx, e2⟩ := List.mem_map.1 hx
            have := (k2 x hx).2
            rw [e2] at this; exact n2.1 this
          · obtain ⟨x, hx, e2⟩ := List.mem_map.1 hx
            have e2 : x.2.1 = p := e2
            rcases k1 x hx with h | h
            · have := (k2 x hx).2
              rw [← h.1, e2] at this; exact n2.1 this
            · omega
      · obtain ⟨k1, k2, k3, k4⟩ := metIn_spec (tree := tree) (l := r) (i := i + 1)
        rw [if_neg hp]
        refine ⟨fun x hx => ?_, fun x hx => ?_, fun q hq hin => ?_, fun n => ?_⟩
        · rcases List.mem_cons.1 hx with hx | hx
          · subst hx; exact .inr (Nat.le_refl _)
          · exact (k1 x hx).imp _root_.id fun h => by omega
        · rcases List.mem_cons.1 hx with hx | hx
          · subst hx; exact ⟨e, List.mem_cons_self⟩
          · exact ⟨(k2 x hx).1, List.mem_cons_of_mem _ (k2 x hx).2⟩
        · rw [List.map_cons]
          rcases List.mem_cons.1 hq with hq | hq
          · subst hq; exact List.mem_cons_self
          · exact List.mem_cons_of_mem _ (k3 q hq hin)
        · have n2 := List.nodup_cons.1 n
          rw [List.map_cons, List.map_cons]
          refine ⟨List.nodup_cons.2 ⟨fun hx => ?_, (k4 n2.2).1⟩, List.nodup_cons.2 ⟨fun hx => ?_, (k4 n2.2).2⟩⟩
          · obtain ⟨x, hx, e2⟩ := List.mem_map.1 hx
            have := (k2 x hx).2
            rw [e2] at this; exact n2.1 this
          · obtain ⟨x, hx, e2⟩ := List.mem_map.1 hx
            have e2 : x.2.1 = 2000000000 + i := e2
            rcases k1 x hx with h | h <;> omega
    | none =>
      obtain ⟨k1, k2, k3, k4⟩ := metIn_spec (tree := tree) (l := r) (i := i)
      simp only [metOne]
      refine ⟨k1, fun x hx => ⟨(k2 x hx).1, List.mem_cons_of_mem _ (k2 x hx).2⟩, fun q hq hin => ?_, fun n => k4 (List.nodup_cons.1 n).2⟩
      rcases List.mem_cons.1 hq with hq | hq
      · subst hq; obtain ⟨x, hx⟩ := key_look.1 hin; rw [e] at hx; cases hx
      · exact k3 q hq hin
section
variable {c : Ctx} {s : S} {y : Lay} {a : Act} {w : World}
theorem At.rename (A : At c s y a w) {m : List (Nat × Nat × List (List D))} (h1 : (m.map (·.2.1)).Nodup) (h2 : ∀ x ∈ m, look x.1 s.tree = some x.2.2) (h3 : (m.map (·.1)).Nodup) (h4 : ∀ x ∈ m, x.2.1 ∉ s.fro.map (·.1)) (h5 : ∀ x ∈ m, 2 * parBase ≤ x.2.1 ∨ x.2.1 = x.1)
    (hE : ∀ t v, look t s.env = some v → ∀ p, mentions p v = true → p ∈ s.tree.map (·.1) → p ∈ m.map (·.1)) (hB : ∀ b cs, (b, cs) ∈ s.box → ∀ p, mentions.any p cs = true → p ∈ s.tree.map (·.1) → p ∈ m.map (·.1)) : Good c (S.head2 m s.env s.box s.fro) a w := by
  let inv : List (Nat × Nat) := m.map fun x => (x.2.1, x.1)
  let mp : List (Nat × Nat) := m.map fun x => (x.1, x.2.1)
  have kinv : inv.map (·.1) = m.map (·.2.1) := by show (m.map _).map _ = _; rw [List.map_map]; rfl
  have kmp : mp.map (·.1) = m.map (·.1) := by show (m.map _).map _ = _; rw [List.map_map]; rfl
  have linv : ∀ x ∈ m, look x.2.1 inv = some x.1 := fun x hx => look_of_mem (by rw [kinv]; exact h1) (List.mem_map.2 ⟨x, hx, rfl⟩)
  have lmp : ∀ x ∈ m, look x.1 mp = some x.2.1 := fun x hx => look_of_mem (by rw [kmp]; exact h3) (List.mem_map.2 ⟨x, hx, rfl⟩)
  let y2 : Lay := { y with hd := fun n => match look n inv with | some p => y.hd p | none => y.hd n }
  have hd_new : ∀ x ∈ m, y2.hd x.2.1 = y.hd x.1 := fun x hx => by show (match look x.2.1 inv with | some p => y.hd p | none => y.hd x.2.1) = _; rw [linv x hx]
  have hd_old : ∀ n, n ∉ m.map (·.2.1) → y2.hd n = y.hd n := fun n hn => by
    show (match look n inv with | some p => y.hd p | none => y.hd n) = _
    cases e : look n inv with
    | none => rfl
    | some p => exact absurd (by rw [← kinv]; exact key_look.2 ⟨p, e⟩) hn
  have fro_not : ∀ n, n ∈ s.fro.map (·.1) → n ∉ m.map (·.2.1) := fun n hn hx => by
    obtain ⟨x, hx7, rfl⟩ := List.mem_map.1 hx
    exact h4 x hx7 hn
  have An := A.nt
  rw [List.map_append, List.nodup_append] at An
  have ktree : ((m.map (·.2)).reverse).map (·.1) = (m.map (·.2.1)).reverse := by rw [List.map_reverse, List.map_map]; rfl
  have ht : ∀ p, (p ∈ s.tree.map (·.1) → p ∈ m.map (·.1)) → (relOf c s y).Lt p → (relOf c (S.head2 m s.env s.box s.fro) y2).Lt (ren mp p) ∧ (relOf c (S.head2 m s.env s.box s.fro) y2).hd (ren mp p) = (relOf c s y).hd p := by
    intro p hp hin
    have hin : p ∈ (s.tree ++ s.fro).map (·.1) := hin
    rw [List.map_append, List.mem_append] at hin
    by_cases hm : p ∈ m.map (·.1)
    · obtain ⟨x, hx, rfl⟩ := List.mem_map.1 hm
      have e : ren mp x.1 = x.2.1 := by unfold ren; rw [lmp x hx]; rfl
      rw [e]
      refine ⟨?_, hd_new x hx⟩
      show x.2.1 ∈ ((m.map (·.2)).reverse ++ s.fro).map (·.1)
      rw [List.map_append, ktree, List.mem_append, List.mem_reverse]
      exact .inl (List.mem_map.2 ⟨x, hx, rfl⟩)
    · have e : ren mp p = p := by
        unfold ren
        cases e : look p mp with
        | none => rfl
        | some q => exact absurd (by rw [← kmp]; exact key_look.2 ⟨q, e⟩) hm
      rw [e]
      have hf : p ∈ s.fro.map (·.1) := hin.resolve_left fun h => hm (hp h)
      refine ⟨?_, hd_old p (fro_not p hf)⟩
      show p ∈ ((m.map (·.2)).reverse ++ s.fro).map (·.1)
      rw [List.map_append, List.mem_append]; exact .inr hf
  have hb : ∀ b, (relOf c s y).Lb b → (relOf c (S.head2 m s.env s.box s.fro) y2).Lb b ∧ (relOf c (S.head2 m s.env s.box s.fro) y2).bl b = (relOf c s y).bl b := fun b h => ⟨by
    show b ∈ (s.box.map fun x => (x.1, renL mp x.2)).map (·.1)
    rw [List.map_map]; exact h, rfl⟩
  have kbox : (s.box.map fun x => (x.1, renL mp x.2)).map (·.1) = s.box.map (·.1) := by rw [List.map_map]; rfl
  refine ⟨y2, A.defers, A.size, ?_, fun t v e => ?_, fun b cs h => ?_, fun p rows hp => ?_, by show ((s.box.map fun x => (x.1, renL mp x.2)).map (·.1)).Nodup; rw [kbox]; exact A.nb, ?_, A.fix.1, fun i g1 g2 => ⟨(A.fix.2 i g1 g2).1, Eq.trans ?_ (A.fix.2 i g1 g2).2⟩⟩
  · show St c.W w (boxPs y.bl y.T y.us (s.box.map fun x => (x.1, renL mp x.2)) ++ (treePs y2.hd (m.map (·.2)).reverse ++ (froPs y.w0 y.F s.fro ++ c.L)))
    rw [boxPs_keys, kbox, ← boxPs_keys]
    have e2 : treePs y2.hd (m.map (·.2)).reverse = ((m.map (·.1)).map fun p => treeP (y.hd p) ((look p s.tree).getD [])).reverse := by
      unfold treePs
      rw [List.map_reverse, List.map_map, List.map_map]
      congr 1
      refine List.map_congr_left fun x hx => ?_
      simp only [Function.comp]
      rw [hd_new x hx, h2 x hx]; rfl
    rw [e2]
    have p := (minus_perm An.1 h3 (fun q hq => by obtain ⟨x, hx, rfl⟩ := List.mem_map.1 hq; exact key_look.2 ⟨_, h2 x hx⟩)).map fun p => treeP (y.hd p) ((look p s.tree).getD [])
    rw [← treePs_keys _ An.1, List.map_append] at p
    have S1 := A.st.perm (List.Perm.append_left _ (List.Perm.append_right _ (p.trans (List.Perm.append_right _ (List.reverse_perm _).symm))))
    have q := perm5 (boxPs y.bl y.T y.us s.box) [] ((m.map (·.1)).map fun p => treeP (y.hd p) ((look p s.tree).getD [])).reverse (((s.tree.map (·.1)).filter fun k => !(m.map (·.1)).contains k).map fun p => treeP (y.hd p) ((look p s.tree).getD [])) (froPs y.w0 y.F s.fro ++ c.L)
    simp only [List.append_nil, List.nil_append] at q
    have S2 := S1.perm q
    have q2 : ∀ (X Y Z W : List Pc), (X ++ (Y ++ (Z ++ W))).Perm (Z ++ (X ++ (Y ++ W))) := by
      intro X Y Z W
      rw [← List.append_assoc X Y, ← List.append_assoc X Y, ← List.append_assoc (X ++ Y), ← List.append_assoc Z]
      exact List.Perm.append_right _ List.perm_append_comm
    exact St.dropL (S2.perm (q2 _ _ _ _))
  · have e : look t (s.env.map fun x => (x.1, renV mp x.2)) = some v := e
    have : ∀ (l : List (Nat × V)), look t (l.map fun x => (x.1, renV mp x.2)) = (look t l).map (renV mp) := by
      intro l; induction l with
      | nil => rfl
      | cons x l ih =>
        simp only [List.map_cons, look]
        by_cases ht : t = x.1
        · rw [if_pos ht, if_pos ht]; rfl
        · rw [if_neg ht, if_neg ht]; exact ih
    rw [this] at e
    obtain ⟨v0, e1, rfl⟩ := Option.map_eq_some_iff.1 e
    exact RV.ren (ρ := relOf c s y) (ρ' := relOf c (S.head2 m s.env s.box s.fro) y2) rfl rfl rfl hb (fun p hp hin => ht p (hE t v0 e1 p hp) hin) (A.env t v0 e1)
  · obtain ⟨x, hx, e⟩ := List.mem_map.1 (show (b, cs) ∈ s.box.map fun x => (x.1, renL mp x.2) from h)
    injection e with e1 e2; subst e1; subst e2
    exact RVs.ren (ρ := relOf c s y) (ρ' := relOf c (S.head2 m s.env s.box s.fro) y2) rfl rfl rfl hb (fun p hp hin => ht p (hB x.1 x.2 hx p hp) hin) (A.box x.1 x.2 hx)
  · have hp : (p, rows) ∈ s.fro := hp
    have e := hd_old p (fro_not p (List.mem_map.2 ⟨_, hp, rfl⟩))
    show TreeD (y.w0 p) _ (y2.hd p) (y.F p)
    rw [e]; exact A.fro p rows hp
  · show (((m.map (·.2)).reverse ++ s.fro).map (·.1)).Nodup
    rw [List.map_append, ktree, List.nodup_append]
    refine ⟨(List.reverse_perm _).nodup_iff.2 h1, An.2.1, fun x hx z hz e => ?_⟩
    subst e
    exact fro_not x hz (List.mem_reverse.1 hx)
  · by_cases hx : i ∈ m.map (·.2.1)
    · obtain ⟨x, hx7, rfl⟩ := List.mem_map.1 hx
      rcases h5 x hx7 with h | h
      · omega
      · rw [hd_new x hx7, h]
    · exact hd_old i hx
theorem met_env {l : List (Nat × V)} {t : Nat} {v : V} (h : look t l = some v) {p : Nat} (hp : mentions p v = true) : mentions.any p (l.map (·.2)) = true := by
  induction l with
  | nil => cases h
  | cons x l ih =>
    simp only [look] at h
    simp only [List.map_cons, mentions.any, Bool.or_eq_true]
    split at h
    · injection h with h; rw [h]; exact .inl hp
    · exact .inr (ih h)
theorem any_append {p : Nat} : ∀ {l r : List V}, mentions.any p (l ++ r) = (mentions.any p l || mentions.any p r)
  | [], r => by simp [mentions.any]
  | v :: l, r => by simp only [List.cons_append, mentions.any, any_append, Bool.or_assoc]
theorem met_box {l : List (Nat × List V)} {b : Nat} {cs : List V} (h : (b, cs) ∈ l) {p : Nat} (hp : mentions.any p cs = true) : mentions.any p (l.flatMap (·.2)) = true := by
  induction l with
  | nil => cases h
  | cons x l ih =>
    rw [List.flatMap_cons, any_append, Bool.or_eq_true]
    rcases List.mem_cons.1 h with h | h
    · subst h; exact .inl hp
    · exact .inr (ih h)
theorem head_sound {ts bs : List Nat} {s' : S} (h : s.head ts bs = some s') (g : Good c s a w) : Good c s' a w := by
  unfold S.head at h
  obtain ⟨env, h1, h⟩ := bnd_eq_some h
  obtain ⟨box, h2, h⟩ := bnd_eq_some h
  obtain ⟨h3, h⟩ := grd_eq_some h
  injection h with h; subst h
  simp only [Bool.and_eq_true, decide_eq_true_eq] at h3
  obtain ⟨⟨⟨⟨⟨⟨d1, d2⟩, d3⟩, d4⟩, d5⟩, d6⟩, d7⟩ := h3
  obtain ⟨k1, k2⟩ := keep_spec h1
  obtain ⟨m1, m2⟩ := keep_spec h2
  obtain ⟨y, A⟩ := g
  have A1 : At c { s with env := env, box := box } y a w := A.restrict (bs := bs) (fun t v e => ⟨k2 t v (look_mem e), List.all_eq_true.1 d3 _ (look_mem e)⟩) (fun b cs hb => ⟨look_mem (m2 b cs hb), refs_go (List.all_eq_true.1 d4 _ hb)⟩) m1 (desc_nodup d2)
  obtain ⟨e1, e2⟩ := ownNil_spec env 3000000000
  obtain ⟨f1, f3, f2⟩ := ownNilB_spec box (3000000000 + (ownNil 3000000000 env).2.length)
  generalize hE : ownNil 3000000000 env = E at *
  generalize hBx : ownNilB (3000000000 + E.2.length) box = B at *
  have hps : E.2 ++ B.2 = List.range' 3000000000 (E.2.length + B.2.length) := by
    rw [← List.range'_append_1, ← e1, ← f1]
  have hge : ∀ k ∈ E.2 ++ B.2, 3000000000 ≤ k := fun k hk => by rw [hps, List.mem_range'_1] at hk; exact hk.1
  have hlow : ∀ k, k ∈ (s.tree ++ s.fro).map (·.1) → k < 3000000000 := by
    intro k hk
    rw [List.map_append, List.mem_append] at hk
    rcases hk with hk | hk
    · obtain ⟨x, hx, rfl⟩ := List.mem_map.1 hk
      have := List.all_eq_true.1 d5 x hx
      simpa using this
    · obtain ⟨x, hx, rfl⟩ := List.mem_map.1 hk
      have := List.all_eq_true.1 d6 x hx
      simp at this; omega
  have g2 : Good c { env := E.1, box := B.1, tree := s.tree ++ (E.2 ++ B.2).map (fun p => (p, [])), fro := s.fro } a w :=
    A1.nils (ps := E.2 ++ B.2) (by rw [hps]; exact List.nodup_range') (fun k hk hin => by have := hge k hk; have := hlow k hin; omega) (fun k hk => by have := hge k hk; unfold parBase; omega)
      (fun t v e => (e2 t v e).imp _root_.id fun ⟨q1, k, q2, q3⟩ => ⟨q1, k, List.mem_append_left _ q2, q3⟩) f3
      (fun b cs hb => by
        obtain ⟨cs0, q1, q2, q3⟩ := f2 b cs hb
        exact ⟨cs0, q1, q2, fun i v e => (q3 i v e).imp _root_.id fun ⟨r1, k, r2, r3⟩ => ⟨r1, k, List.mem_append_right _ r2, r3⟩⟩)
  obtain ⟨y2, A2⟩ := g2
  unfold S.head1
  obtain ⟨a1, a2, a3⟩ := metL_sub [] (E.1.map (·.2))
  obtain ⟨b1, b2, b3⟩ := metL_sub (metL [] (E.1.map (·.2))) (B.1.flatMap (·.2))
  obtain ⟨n1, n2, n3, n4⟩ := metIn_spec (tree := s.tree ++ (E.2 ++ B.2).map (fun p => (p, []))) (l := metL (metL [] (E.1.map (·.2))) (B.1.flatMap (·.2))) (i := 1000 * s.fro.length)
  generalize hM : metIn (s.tree ++ (E.2 ++ B.2).map (fun p => (p, []))) (metL (metL [] (E.1.map (·.2))) (B.1.flatMap (·.2))) (1000 * s.fro.length) = M at *
  have An := A2.nt
  rw [List.map_append, List.nodup_append] at An
  have nn := n4 (b3 (a3 List.nodup_nil))
  exact A2.rename (m := M) nn.2 (fun x hx => (n2 x hx).1) nn.1 (fun x hx hf => by
      rcases n1 x hx with h7 | h7
      · rw [h7.1] at hf
        exact An.2.2 x.1 (key_look.2 ⟨_, (n2 x hx).1⟩) x.1 hf rfl
      · obtain ⟨z, hz, e⟩ := List.mem_map.1 hf
        have := List.all_eq_true.1 d6 z hz
        rw [← e] at h7
        simp at this; omega) (fun x hx => (n1 x hx).elim (fun h => .inr h.1) fun h => .inl (by unfold parBase; omega))
    (fun t v e p hp hpt => n3 p (b1 p (a2 p (met_env e hp))) hpt) (fun b cs hb p hp hpt => n3 p (b2 p (met_box hb hp)) hpt)
theorem marks_ok (gh : Ghost) : MarksOk gh := by
  have key : ∀ (c : Ctx) (o : Option (List Nat × List Nat)) (s s' : S) (a : Act) (w : World), headAt s o = some s' → Good c s a w → Good c s' a w := fun c o s s' a w h g => by
    unfold headAt at h
    split at h
    · exact head_sound h g
    · injection h with h; subst h; exact g
  refine ⟨fun c id s s' h a w g => key c _ s s' a w h g, fun c id s s' h a w g => ?_⟩
  unfold Ghost.reg at h
  obtain ⟨s1, h1, h⟩ := bnd_eq_some h
  exact regAt_sound h (key c _ s s1 a w h1 g)
end
end Go.Proofs.YtjhdikdopdcfcaaGreatDoor
namespace Go.Proofs.YtjhdikdopdcfcaaGreatDoor
open Go.RowKit
set_option linter.unusedSimpArgs false
set_option linter.unusedVariables false
def fnOk (gh : Ghost) (fn : Func) : Bool := match fn.body with
  | some x => !(fn.name == "runtime.NumGoroutine") && decide (fn.ntmps ≤ 1000000) && codeOk gh fn.ntmps x
  | none => false
theorem sound {P : Program} {G : List (FuncId × Bool × Mean)} (gh : Ghost) {f : FuncId} {fn : Func} (hG : ∀ f M, look f G = some M → Sound P f M.2) (hm : P.follows .mixedOrders = true) (hf : P.funcs[f]? = some fn) (h : fnOk gh fn = true) : Sound P f (evFun P G gh f) := by
  unfold fnOk at h
  split at h
  · rename_i x hb
    simp only [Bool.and_eq_true, decide_eq_true_eq] at h
    exact fun_sound hG (marks_ok gh) hf hb (by simpa using h.1.1) h.1.2 h.2 hm
  · cases h
theorem none_sound {P : Program} : ∀ f M, look f ([] : List (FuncId × Bool × Mean)) = some M → Sound P f M.2 := fun _ _ h => by cases h
theorem cons_sound {P : Program} {f : FuncId} {m : Bool} {M : Mean} {G : List (FuncId × Bool × Mean)} (h : Sound P f M) (k : ∀ f M, look f G = some M → Sound P f M.2) : ∀ g N, look g ((f, m, M) :: G) = some N → Sound P g N.2 := by
  intro g N e
  simp only [look] at e
  split at e
  · rename_i e2; injection e with e; subst e2; subst e; exact h
  · exact k g N e
end Go.Proofs.YtjhdikdopdcfcaaGreatDoor
namespace Go.Proofs.YtjhdikdopdcfcaaGreatDoor
open Go.RowKit
set_option linter.unusedSimpArgs false
set_option linter.unusedVariables false
section
variable {P : Program}
theorem plainC_same {ρ ρ' : Rel} (hK : ρ'.K = ρ.K) (hs : ρ'.src = ρ.src) : ∀ {vs : List V} {us : List Value}, vs.all plainC = true → RVs ρ vs us → RVs ρ' vs us
  | [], _, _, h => h
  | v :: vs, us, ha, h => by
    rw [List.all_cons, Bool.and_eq_true] at ha
    obtain ⟨u, q, h1, h2, h3⟩ := h
    refine ⟨u, q, h1, ?_, plainC_same hK hs ha.2 h3⟩
    cases v
    case v x => exact h2
    case lst o rows => exact ⟨by rw [hK]; exact h2.1, fun j e => by rw [hs]; exact h2.2 j e⟩
    all_goals cases ha.1
theorem newOut_sound {c c0 : Ctx} {s : S} {y y0 : Lay} {a : Act} {w : World} (A : At c s y a w) (hW : c0.W = c.W) (hL : c0.L = c.L) (hK : c0.K = c.K) (hs : c0.src = c.src) {v : V} {u : Value} (hu : RV (relOf c s y) v u) {r : Res} (h : newOut s v = some r) : ∃ y', Ends c0 0 0 r y0 u y' w := by
  unfold newOut at h
  split at h
  · rename_i b
    obtain ⟨cs, h1, h⟩ := bnd_eq_some h
    obtain ⟨h2, h⟩ := grd_eq_some h
    injection h with h; subst h
    obtain ⟨l1, l2, e1, -, -⟩ := look_split h1
    let y2 : Lay := { bl := fun _ => y.bl b, hd := fun _ => nilHd, T := fun _ => y.T b, us := fun _ => y.us b, w0 := y.w0, F := y.F }
    have hS : St c.W w ([rowP (y.bl b) (y.T b) (y.us b)] ++ c.L) := by
      have S0 := A.st
      rw [e1] at S0
      have p : (boxPs y.bl y.T y.us (l1 ++ (b, cs) :: l2) ++ (treePs y.hd s.tree ++ (froPs y.w0 y.F s.fro ++ c.L))).Perm ((boxPs y.bl y.T y.us (l1 ++ l2) ++ (treePs y.hd s.tree ++ froPs y.w0 y.F s.fro)) ++ ([rowP (y.bl b) (y.T b) (y.us b)] ++ c.L)) := by
        have q1 : (boxPs y.bl y.T y.us (l1 ++ (b, cs) :: l2)).Perm (rowP (y.bl b) (y.T b) (y.us b) :: boxPs y.bl y.T y.us (l1 ++ l2)) := by
          unfold boxPs
          rw [List.map_append, List.map_append, List.map_cons]
          exact List.perm_middle
        refine (List.Perm.append_right _ q1).trans ?_
        have q2 := (List.perm_middle (a := rowP (y.bl b) (y.T b) (y.us b)) (l₁ := boxPs y.bl y.T y.us (l1 ++ l2) ++ (treePs y.hd s.tree ++ froPs y.w0 y.F s.fro)) (l₂ := c.L)).symm
        have e2 : (rowP (y.bl b) (y.T b) (y.us b) :: boxPs y.bl y.T y.us (l1 ++ l2)) ++ (treePs y.hd s.tree ++ (froPs y.w0 y.F s.fro ++ c.L)) = rowP (y.bl b) (y.T b) (y.us b) :: ((boxPs y.bl y.T y.us (l1 ++ l2) ++ (treePs y.hd s.tree ++ froPs y.w0 y.F s.fro)) ++ c.L) := by simp only [List.cons_append, List.append_assoc]
        rw [e2]
        exact q2
      exact St.dropL (S0.perm p)
    refine ⟨y2, ⟨?_, fun b' cs' hb => ?_, fun p rows hp => (by cases hp), by simp [resS, withIdx], by simp [resS]⟩, ?_, .inr ⟨rfl, rfl, cs, rfl⟩, fun i hi => by omega, fun q hq => by omega⟩
    · rw [hW, hL]
      exact hS
    · have hb : (b', cs') ∈ [(0, cs)] := hb
      simp only [List.mem_singleton, Prod.mk.injEq] at hb
      obtain ⟨rfl, rfl⟩ := hb
      exact plainC_same (ρ := relOf c s y) hK hs h2 (A.box b cs' (look_mem h1))
    · exact ⟨List.mem_singleton_self _, hu.2⟩
  · cases h
theorem new_sound {G : List (FuncId × Bool × Mean)} (hG : ∀ f M, look f G = some M → Sound P f M.2) {gh : Ghost} (hM : MarksOk gh) {f : FuncId} {fn : Func} {x : Code} (hf : P.funcs[f]? = some fn) (hb : fn.body = some x) (hn : (fn.name == "runtime.NumGoroutine") = false) (hsm : fn.ntmps ≤ 1000000) (hx : codeOk gh fn.ntmps x = true) (hm : P.follows .mixedOrders = true) : Sound P f (evNew P G gh f) := by
  refine ⟨⟨fn, hf, hn, by rw [hb]; rfl⟩, fun c args boxes trees r h y us w m hargs => ?_⟩
  unfold evNew at h
  rw [hf, bnd_some, hb, bnd_some] at h
  obtain ⟨⟨hal, hbl9, htl9⟩, h7⟩ := grd_eq_some h
  clear h
  obtain rfl : boxes = [] := List.eq_nil_of_length_eq_zero hbl9
  obtain rfl : trees = [] := List.eq_nil_of_length_eq_zero htl9
  obtain ⟨e, h1, h⟩ := bnd_eq_some h7
  obtain ⟨un, hun⟩ := unB_ex
  have hle : us.length ≤ 1000 := by rw [hargs.len]; exact hal
  have hsz0 : (startA fn.ntmps us).tmps.size = us.length + (fn.ntmps - us.length) := by
    show (us.toArray ++ Array.replicate (fn.ntmps - us.toArray.size) undef).size = _
    rw [Array.size_append, Array.size_replicate, List.size_toArray]
  have hsz : fn.ntmps ≤ (startA fn.ntmps us).tmps.size := by rw [hsz0]; omega
  have hpb : (startA fn.ntmps us).tmps.size ≤ parBase := by rw [hsz0]; unfold parBase; omega
  have A := enter_sound m hargs fn.ntmps hun hpb
  refine calls_of_wp hf hb ?_
  refine code_sound (c := { c with n := (startA fn.ntmps us).tmps.size, bF := fun b => y.bl (un b), hF := fun p => y.hd (un p) }) (calls_ok hG) hM hm x (.on (startS args [] [])) e (startA fn.ntmps us) w _ (codeOk_mono hsz x hx) h1 ⟨_, A⟩ fun a' w' g => ?_
  obtain ⟨ex, q⟩ := e
  have fin : ∀ s, GoodQ { c with n := (startA fn.ntmps us).tmps.size, bF := fun b => y.bl (un b), hF := fun p => y.hd (un p) } (.on s) a' w' → (bnd (mapSome (resV P s) fn.results.toList) fun vs => newOut s (tupOf vs)) = some r → a'.defers = [] ∧ ∃ v, (results fn a'.tmps).run P w' = .ok v w' ∧ ∃ u y', Ending.returned v = .returned u ∧ Ends c 0 0 r y u y' w' := by
    intro s ⟨y1, A1⟩ hr
    obtain ⟨vs, hvs, hr⟩ := bnd_eq_some hr
    obtain ⟨u, k1, k2⟩ := results_sound A1 hvs
    obtain ⟨y', k3⟩ := newOut_sound (c0 := c) (y0 := y) A1 rfl rfl rfl rfl k2 hr
    exact ⟨A1.defers, u, k1, u, y', rfl, k3⟩
  cases ex with
  | normal =>
    cases q with
    | off => exact g.elim
    | on s => exact fin s g h
  | ret =>
    cases q with
    | off => exact g.elim
    | on s => exact fin s g h
  | exit i => simp only [leaveN] at h; cases h
theorem soundN {G : List (FuncId × Bool × Mean)} (gh : Ghost) {f : FuncId} {fn : Func} (hG : ∀ f M, look f G = some M → Sound P f M.2) (hm : P.follows .mixedOrders = true) (hf : P.funcs[f]? = some fn) (h : fnOk gh fn = true) : Sound P f (evNew P G gh f) := by
  unfold fnOk at h
  split at h
  · rename_i x hb
    simp only [Bool.and_eq_true, decide_eq_true_eq] at h
    exact new_sound hG (marks_ok gh) hf hb (by simpa using h.1.1) h.1.2 h.2 hm
  · cases h
end
end Go.Proofs.YtjhdikdopdcfcaaGreatDoor
namespace Go.Proofs.YtjhdikdopdcfcaaGreatDoor
open Go.RowKit
set_option linter.unusedSimpArgs false
set_option linter.unusedVariables false
def topC (w : World) (hz : ZW w) (us : List Value) : Ctx where
  W := w
  L := []
  K := heapOf w
  src := fun j => us[j]?.getD undef
  n := 0
  hK := fun _ S _ _ h => row_ext h S.ext
  bF := fun _ => 0
  hF := fun _ => nilHd
  zed := zed_top hz
def topY (w : World) : Lay where
  bl := fun _ => 0
  hd := fun _ => nilHd
  T := fun _ => 0
  us := fun _ => #[]
  w0 := fun _ => w
  F := fun _ => []
def topR (w : World) (hz : ZW w) (us : List Value) : Rel := relOf (topC w hz us) (resS [] (withIdx 0 [])) (topY w)
theorem top_mem (w : World) (hz : ZW w) (us : List Value) : Mem (topC w hz us) (resS [] (withIdx 0 [])) (topY w) w :=
  ⟨St.refl w, (fun _ _ h => nomatch h), (fun _ _ h => nomatch h), List.nodup_nil, List.nodup_nil⟩
theorem Sound.top {P : Program} {f : FuncId} {M : Mean} (h : Sound P f M) {w : World} (hz : ZW w) {ls us : List Value} {args : List V} {r : Res} (hM : M args [] [] = some r) (ha : RVs (topR w hz ls) args us) :
    Calls P f us.toArray w fun e w' => ∃ u y', e = .returned u ∧ Ends (topC w hz ls) 0 0 r (topY w) u y' w' :=
  h.run (topC w hz ls) args [] [] r hM (topY w) us w (top_mem w hz ls) ha
theorem Sound.top_v {P : Program} {f : FuncId} {M : Mean} (h : Sound P f M) {w : World} (hz : ZW w) {ls us : List Value} {args : List V} {x : Value} {bs : List (List V)} {ts : List (Nat × List (List D))} (hM : M args [] [] = some ⟨.v x, bs, ts⟩) (ha : RVs (topR w hz ls) args us) :
    Calls P f us.toArray w fun e w' => e = .returned x ∧ Ext w w' :=
  (h.top hz hM ha).mono fun e w' ⟨u, y', he, E⟩ => ⟨by rw [he, show u = x from E.val], E.mem.st.ext⟩
theorem top_arg_l {w : World} {hz : ZW w} {ls : List Value} {j : Nat} {u : Value} {rows : List (List D)} (hj : ls[j]? = some u) (h : RdD (heapOf w) (.l rows) u) : RV (topR w hz ls) (.lst (some j) rows) u :=
  ⟨h, fun i e => by injection e with e; subst e; show ls[j]?.getD undef = u; rw [hj]; rfl⟩
def pick1 (M1 M2 : Mean) : Mean := fun args boxes trees => match boxes with
  | [b] => M1 args [b] trees
  | bs => M2 args bs trees
@[simp] theorem pick1_one (M1 M2 : Mean) (args : List V) (b : List V) (trees : List (List (List D))) : pick1 M1 M2 args [b] trees = M1 args [b] trees := id rfl
@[simp] theorem pick1_nil (M1 M2 : Mean) (args : List V) (trees : List (List (List D))) : pick1 M1 M2 args [] trees = M2 args [] trees := id rfl
@[simp] theorem pick1_two (M1 M2 : Mean) (args : List V) (a b : List V) (r : List (List V)) (trees : List (List (List D))) : pick1 M1 M2 args (a :: b :: r) trees = M2 args (a :: b :: r) trees := id rfl
theorem pick1_sound {P : Program} {f : FuncId} {M1 M2 : Mean} (h1 : Sound P f M1) (h2 : Sound P f M2) : Sound P f (pick1 M1 M2) where
  fn := h1.fn
  run := fun c args boxes trees r hr => by
    unfold pick1 at hr
    split at hr
    · exact h1.run c args _ trees r hr
    · exact h2.run c args boxes trees r hr
end Go.Proofs.YtjhdikdopdcfcaaGreatDoor
namespace Go.Proofs
open Go.Shelf
def Tryz.lays143_ren : Go.Shelf.Ren := ⟨fun | 143 => 50 | 219 => 69 | 217 => 88 | 225 => 89 | 224 => 90 | 267 => 91 | 266 => 132 | 314 => 133 | n => n, fun | 9 => 9 | 3 => 3 | 4 => 4 | 5 => 5 | 46 => 97 | 146 => 147 | 51 => 146 | n => n, fun | 1 => 0 | n => n⟩
theorem Tryz.lays143 : Go.Proofs.Lays.n143 Tryz.prog Tryz.lays143_ren := {
  mixed := by kernel_rfl
  f143 := Tryz.func50.trans (congrArg some (by kernel_rfl))
  f217 := Tryz.func88.trans (congrArg some (by kernel_rfl))
  f219 := Tryz.func69.trans (congrArg some (by kernel_rfl))
  f224 := Tryz.func90.trans (congrArg some (by kernel_rfl))
  f225 := Tryz.func89.trans (congrArg some (by kernel_rfl))
  f266 := Tryz.func132.trans (congrArg some (by kernel_rfl))
  f267 := Tryz.func91.trans (congrArg some (by kernel_rfl))
  f314 := Tryz.func133.trans (congrArg some (by kernel_rfl))
  t3 := Tryz.underlying3
  a3 := Tryz.isAgg3
  z3 := Tryz.sizeOf3
  v3 := Tryz.zeroValue3
  t4 := Tryz.underlying4
  a4 := Tryz.isAgg4
  z4 := Tryz.sizeOf4
  v4 := Tryz.zeroValue4
  t5 := Tryz.underlying5
  a5 := Tryz.isAgg5
  z5 := Tryz.sizeOf5
  v5 := Tryz.zeroValue5
  t9 := Tryz.underlying9
  a9 := Tryz.isAgg9
  z9 := Tryz.sizeOf9
  v9 := Tryz.zeroValue9
  t46 := Tryz.underlying97
  a46 := Tryz.isAgg97
  z46 := Tryz.sizeOf97
  v46 := Tryz.zeroValue97
  t51 := Tryz.underlying146
  a51 := Tryz.isAgg146
  z51 := Tryz.sizeOf146
  v51 := Tryz.zeroValue146
  t146 := Tryz.underlying147
  a146 := Tryz.isAgg147
  z146 := Tryz.sizeOf147
  v146 := Tryz.zeroValue147
  g1 := by kernel_rfl }
open Go.RowKit Go.Lib in
theorem Tryz.strings_Index (s sub : ByteArray) (m : Int) (w : World) (hs : s.size < 4294967281) (hm : w.cell? ⟨0, 0, none⟩ = some (.int .i64 m)) :
    Calls Tryz.prog 50 #[.string s, .string sub] w fun e w' => e = .returned (.int .i64 (Lib.index s.data.toList sub.data.toList)) ∧ w' = w := Any.strings_Index Tryz.lays143 s sub m w hs hm
def Tryz.lays144_ren : Go.Shelf.Ren := ⟨fun | 144 => 32 | 143 => 50 | 219 => 69 | 217 => 88 | 225 => 89 | 224 => 90 | 267 => 91 | 266 => 132 | 314 => 133 | n => n, fun | 9 => 9 | 4 => 4 | 3 => 3 | 5 => 5 | 46 => 97 | 146 => 147 | 51 => 146 | n => n, fun | 1 => 0 | n => n⟩
theorem Tryz.lays144 : Go.Proofs.Lays.n144 Tryz.prog Tryz.lays144_ren := {
  mixed := by kernel_rfl
  f143 := Tryz.func50.trans (congrArg some (by kernel_rfl))
  f144 := Tryz.func32.trans (congrArg some (by kernel_rfl))
  f217 := Tryz.func88.trans (congrArg some (by kernel_rfl))
  f219 := Tryz.func69.trans (congrArg some (by kernel_rfl))
  f224 := Tryz.func90.trans (congrArg some (by kernel_rfl))
  f225 := Tryz.func89.trans (congrArg some (by kernel_rfl))
  f266 := Tryz.func132.trans (congrArg some (by kernel_rfl))
  f267 := Tryz.func91.trans (congrArg some (by kernel_rfl))
  f314 := Tryz.func133.trans (congrArg some (by kernel_rfl))
  t3 := Tryz.underlying3
  a3 := Tryz.isAgg3
  z3 := Tryz.sizeOf3
  v3 := Tryz.zeroValue3
  t4 := Tryz.underlying4
  a4 := Tryz.isAgg4
  z4 := Tryz.sizeOf4
  v4 := Tryz.zeroValue4
  t5 := Tryz.underlying5
  a5 := Tryz.isAgg5
  z5 := Tryz.sizeOf5
  v5 := Tryz.zeroValue5
  t9 := Tryz.underlying9
  a9 := Tryz.isAgg9
  z9 := Tryz.sizeOf9
  v9 := Tryz.zeroValue9
  t46 := Tryz.underlying97
  a46 := Tryz.isAgg97
  z46 := Tryz.sizeOf97
  v46 := Tryz.zeroValue97
  t51 := Tryz.underlying146
  a51 := Tryz.isAgg146
  z51 := Tryz.sizeOf146
  v51 := Tryz.zeroValue146
  t146 := Tryz.underlying147
  a146 := Tryz.isAgg147
  z146 := Tryz.sizeOf147
  v146 := Tryz.zeroValue147
  g1 := by kernel_rfl }
open Go.RowKit Go.Lib in
theorem Tryz.strings_Contains (s sub : ByteArray) (m : Int) (w : World) (hs : s.size < 4294967281) (hm : w.cell? ⟨0, 0, none⟩ = some (.int .i64 m)) :
    Calls Tryz.prog 32 #[.string s, .string sub] w fun e w' => e = .returned (.bool (Lib.contains s.data.toList sub.data.toList)) ∧ w' = w := Any.strings_Contains Tryz.lays144 s sub m w hs hm
def Tryz.lays146_ren : Go.Shelf.Ren := ⟨fun | 146 => 39 | 221 => 58 | 268 => 72 | 138 => 73 | 143 => 50 | 195 => 93 | 197 => 94 | 218 => 95 | 219 => 69 | 260 => 135 | 217 => 88 | 225 => 89 | 224 => 90 | 267 => 91 | 266 => 132 | 314 => 133 | n => n, fun | 9 => 9 | 31 => 34 | 3 => 3 | 4 => 4 | 0 => 0 | 105 => 121 | 21 => 21 | 5 => 5 | 46 => 97 | 119 => 161 | 139 => 164 | 138 => 163 | 146 => 147 | 51 => 146 | n => n, fun | 1 => 0 | 3 => 1 | 4 => 2 | n => n⟩
theorem Tryz.lays146 : Go.Proofs.Lays.n146 Tryz.prog Tryz.lays146_ren := {
  mixed := by kernel_rfl
  f138 := Tryz.func73.trans (congrArg some (by kernel_rfl))
  f143 := Tryz.func50.trans (congrArg some (by kernel_rfl))
  f146 := Tryz.func39.trans (congrArg some (by kernel_rfl))
  f195 := Tryz.func93.trans (congrArg some (by kernel_rfl))
  f197 := Tryz.func94.trans (congrArg some (by kernel_rfl))
  f217 := Tryz.func88.trans (congrArg some (by kernel_rfl))
  f218 := Tryz.func95.trans (congrArg some (by kernel_rfl))
  f219 := Tryz.func69.trans (congrArg some (by kernel_rfl))
  f221 := Tryz.func58.trans (congrArg some (by kernel_rfl))
  f224 := Tryz.func90.trans (congrArg some (by kernel_rfl))
  f225 := Tryz.func89.trans (congrArg some (by kernel_rfl))
  f260 := Tryz.func135.trans (congrArg some (by kernel_rfl))
  f266 := Tryz.func132.trans (congrArg some (by kernel_rfl))
  f267 := Tryz.func91.trans (congrArg some (by kernel_rfl))
  f268 := Tryz.func72.trans (congrArg some (by kernel_rfl))
  f314 := Tryz.func133.trans (congrArg some (by kernel_rfl))
  t0 := Tryz.underlying0
  a0 := Tryz.isAgg0
  z0 := Tryz.sizeOf0
  v0 := Tryz.zeroValue0
  t3 := Tryz.underlying3
  a3 := Tryz.isAgg3
  z3 := Tryz.sizeOf3
  v3 := Tryz.zeroValue3
  t4 := Tryz.underlying4
  a4 := Tryz.isAgg4
  z4 := Tryz.sizeOf4
  v4 := Tryz.zeroValue4
  t5 := Tryz.underlying5
  a5 := Tryz.isAgg5
  z5 := Tryz.sizeOf5
  v5 := Tryz.zeroValue5
  t9 := Tryz.underlying9
  a9 := Tryz.isAgg9
  z9 := Tryz.sizeOf9
  v9 := Tryz.zeroValue9
  t21 := Tryz.underlying21
  a21 := Tryz.isAgg21
  z21 := Tryz.sizeOf21
  v21 := Tryz.zeroValue21
  t31 := Tryz.underlying34
  a31 := Tryz.isAgg34
  z31 := Tryz.sizeOf34
  v31 := Tryz.zeroValue34
  t46 := Tryz.underlying97
  a46 := Tryz.isAgg97
  z46 := Tryz.sizeOf97
  v46 := Tryz.zeroValue97
  t51 := Tryz.underlying146
  a51 := Tryz.isAgg146
  z51 := Tryz.sizeOf146
  v51 := Tryz.zeroValue146
  t105 := Tryz.underlying121
  a105 := Tryz.isAgg121
  z105 := Tryz.sizeOf121
  v105 := Tryz.zeroValue121
  t119 := Tryz.underlying161
  a119 := Tryz.isAgg161
  z119 := Tryz.sizeOf161
  t138 := Tryz.underlying163
  a138 := Tryz.isAgg163
  z138 := Tryz.sizeOf163
  v138 := Tryz.zeroValue163
  t139 := Tryz.underlying164
  a139 := Tryz.isAgg164
  z139 := Tryz.sizeOf164
  v139 := Tryz.zeroValue164
  t146 := Tryz.underlying147
  a146 := Tryz.isAgg147
  z146 := Tryz.sizeOf147
  v146 := Tryz.zeroValue147
  g1 := by kernel_rfl
  g3 := by kernel_rfl
  g4 := by kernel_rfl }
open Go.RowKit Go.Lib in
theorem Tryz.strings_Split (s sep : ByteArray) (m : Int) (w : World) (hs : s.size < 4294967281) (hm : w.cell? ⟨0, 0, none⟩ = some (.int .i64 m)) (h1 : 1 ≤ sep.size) :
    Calls Tryz.prog 39 #[.string s, .string sep] w fun e w' =>
      e = .returned (.slice (some ⟨w.heap.size, 0, none⟩) (Lib.countB s sep + 1) (Lib.countB s sep + 1)) ∧ w' = w.alloc (.cells ((Lib.splitB sep 0 (Lib.countB s sep) s).map Value.string).toArray 9) := Any.strings_Split Tryz.lays146 (by kernel_rfl) s sep m w hs hm h1
def Tryz.laysM146_ren : Go.Shelf.Ren := ⟨fun | 146 => 39 | 221 => 58 | 268 => 72 | 138 => 73 | 143 => 50 | 195 => 93 | 197 => 94 | 218 => 95 | 219 => 69 | 260 => 135 | 217 => 88 | 225 => 89 | 224 => 90 | 267 => 91 | 266 => 132 | 314 => 133 | n => n, fun | 9 => 9 | 31 => 34 | 3 => 3 | 4 => 4 | 0 => 0 | 105 => 121 | 21 => 21 | 5 => 5 | 46 => 97 | 119 => 161 | 139 => 164 | 138 => 163 | 146 => 147 | 51 => 146 | n => n, fun | 1 => 0 | 3 => 1 | 4 => 2 | n => n⟩
theorem Tryz.laysM146 : Go.Proofs.LaysM.n146 Tryz.prog Tryz.laysM146_ren := {
  mixed := by kernel_rfl
  f138 := Tryz.func73.trans (congrArg some (by kernel_rfl))
  f143 := Tryz.func50.trans (congrArg some (by kernel_rfl))
  f146 := Tryz.func39.trans (congrArg some (by kernel_rfl))
  f195 := Tryz.func93.trans (congrArg some (by kernel_rfl))
  f197 := Tryz.func94.trans (congrArg some (by kernel_rfl))
  f217 := Tryz.func88.trans (congrArg some (by kernel_rfl))
  f218 := Tryz.func95.trans (congrArg some (by kernel_rfl))
  f219 := Tryz.func69.trans (congrArg some (by kernel_rfl))
  f221 := Tryz.func58.trans (congrArg some (by kernel_rfl))
  f224 := Tryz.func90.trans (congrArg some (by kernel_rfl))
  f225 := Tryz.func89.trans (congrArg some (by kernel_rfl))
  f260 := Tryz.func135.trans (congrArg some (by kernel_rfl))
  f266 := Tryz.func132.trans (congrArg some (by kernel_rfl))
  f267 := Tryz.func91.trans (congrArg some (by kernel_rfl))
  f268 := Tryz.func72.trans (congrArg some (by kernel_rfl))
  f314 := Tryz.func133.trans (congrArg some (by kernel_rfl))
  t0 := Tryz.underlying0
  a0 := Tryz.isAgg0
  z0 := Tryz.sizeOf0
  v0 := Tryz.zeroValue0
  t3 := Tryz.underlying3
  a3 := Tryz.isAgg3
  z3 := Tryz.sizeOf3
  v3 := Tryz.zeroValue3
  t4 := Tryz.underlying4
  a4 := Tryz.isAgg4
  z4 := Tryz.sizeOf4
  v4 := Tryz.zeroValue4
  t5 := Tryz.underlying5
  a5 := Tryz.isAgg5
  z5 := Tryz.sizeOf5
  v5 := Tryz.zeroValue5
  t9 := Tryz.underlying9
  a9 := Tryz.isAgg9
  z9 := Tryz.sizeOf9
  v9 := Tryz.zeroValue9
  t21 := Tryz.underlying21
  a21 := Tryz.isAgg21
  z21 := Tryz.sizeOf21
  v21 := Tryz.zeroValue21
  t31 := Tryz.underlying34
  a31 := Tryz.isAgg34
  z31 := Tryz.sizeOf34
  v31 := Tryz.zeroValue34
  t46 := Tryz.underlying97
  a46 := Tryz.isAgg97
  z46 := Tryz.sizeOf97
  v46 := Tryz.zeroValue97
  t51 := Tryz.underlying146
  a51 := Tryz.isAgg146
  z51 := Tryz.sizeOf146
  v51 := Tryz.zeroValue146
  t105 := Tryz.underlying121
  a105 := Tryz.isAgg121
  z105 := Tryz.sizeOf121
  v105 := Tryz.zeroValue121
  t119 := Tryz.underlying161
  a119 := Tryz.isAgg161
  z119 := Tryz.sizeOf161
  t138 := Tryz.underlying163
  a138 := Tryz.isAgg163
  z138 := Tryz.sizeOf163
  v138 := Tryz.zeroValue163
  t139 := Tryz.underlying164
  a139 := Tryz.isAgg164
  z139 := Tryz.sizeOf164
  v139 := Tryz.zeroValue164
  t146 := Tryz.underlying147
  a146 := Tryz.isAgg147
  z146 := Tryz.sizeOf147
  v146 := Tryz.zeroValue147
  g1 := by kernel_rfl
  g3 := by kernel_rfl
  g4 := by kernel_rfl
  i0 := by kernel_rfl
  i3 := by kernel_rfl
  i4 := by kernel_rfl
  i5 := by kernel_rfl
  i9 := by kernel_rfl
  i21 := by kernel_rfl
  i31 := by kernel_rfl
  i46 := by kernel_rfl
  i51 := by kernel_rfl
  i105 := by kernel_rfl
  i138 := by kernel_rfl
  i139 := by kernel_rfl
  i146 := by kernel_rfl
  m1 := by kernel_rfl
  s1_3 := fun w h => Go.Proofs.cell_of_shapedOpen_int (zero := #[.int .i64 0]) (t := 3) h (of_decide_eq_true (by kernel_rfl)) (by kernel_rfl) rfl (by kernel_rfl) (by kernel_rfl) Tryz.underlying3
  m3 := by kernel_rfl
  m4 := by kernel_rfl }
end Go.Proofs
namespace Go.Proofs.YtjhdikdopdcfcaaGreatDoor
open Go.RowKit
set_option linter.unusedSimpArgs false
set_option linter.unusedVariables false
def rowsS (l : List ByteArray) : List (List D) := l.map fun s => [D.a (.string s)]
theorem flat_rowsS (l : List ByteArray) : (rowsS l).flatten = l.map fun s => D.a (.string s) := by
  unfold rowsS
  induction l with
  | nil => rfl
  | cons a l ih => simp [ih]
theorem own_rowsS {w : World} {g : Nat} {T : TypeId} {l : List ByteArray} (hl : l ≠ []) (hm : l.length ≤ maxLen) (h : w.heap[g]? = some (.cells (l.map Value.string).toArray T (0, 0))) :
    OwnD w (.l (rowsS l)) (.slice (some ⟨g, 0, none⟩) l.length l.length) [g] := by
  have e : ([g] : List Nat) = g :: (List.range (rowsS l).flatten.length).flatMap fun _ => [] := by simp
  rw [e]
  refine .l (rowsS l) l.length l.length g 0 1 T _ (fun i => (l.map Value.string)[i]?.getD undef) (fun _ => []) (by simp [rowsS]) (Nat.le_refl _) hm (by omega) ?_ (by simp) (fun e => ?_) h ?_ ?_
  · intro r hr
    unfold rowsS at hr
    obtain ⟨s, -, rfl⟩ := List.mem_map.1 hr
    rfl
  · exact absurd (by simpa [rowsS] using e) hl
  · intro i d hi
    rw [flat_rowsS] at hi
    obtain ⟨s, hs, rfl⟩ := by simpa using hi
    simp [hs]
  · intro i d hi
    rw [flat_rowsS] at hi
    obtain ⟨s, hs, rfl⟩ := by simpa using hi
    simp only [List.getElem?_map, hs, Option.map_some, Option.getD_some]
    exact .a _
def splitOf (s sep : ByteArray) : List ByteArray := Lib.splitB sep 0 (Lib.countB s sep) s
def M_strings_Split : Mean := fun args boxes trees =>
  match args, boxes, trees with
  | [.v (.string s), .v (.string sep)], [], [] => if 1 ≤ sep.size ∧ s.size < 4294967281 then some ⟨.own 0, [], [(0, rowsS (splitOf s sep))]⟩ else none
  | _, _, _ => none
theorem S_strings_Split : Sound Tryz.prog 39 M_strings_Split where
  fn := ⟨_, Tryz.func39, by kernel_rfl, by kernel_rfl⟩
  run := fun c args boxes trees r hr y us w hM ha => by
    unfold M_strings_Split at hr
    split at hr
    · rename_i s sep
      split at hr
      · rename_i hc
        injection hr with hr; subst hr
        obtain ⟨u0, q0, rfl, h0, u1, q1, rfl, h1, h2⟩ := ha
        obtain rfl : u0 = .string s := h0
        obtain rfl : u1 = .string sep := h1
        obtain rfl : q1 = [] := h2
        have S : St c.W w c.L := hM.st
        obtain ⟨m, hm⟩ := (c.zed w (c.hK w S)).2
        have hle := Lib.countB_le sep hc.1 s.size s (Nat.le_refl _)
        have hlen : (splitOf s sep).length = Lib.countB s sep + 1 := Lib.splitB_all sep hc.1 0 _ s rfl
        refine (Tryz.strings_Split s sep m w hc.2 hm hc.1).mono fun e w' ⟨he, hw⟩ => ?_
        subst hw
        have hr : (w.alloc (.cells ((splitOf s sep).map Value.string).toArray 9)).heap[w.heap.size]? = some (.cells ((splitOf s sep).map Value.string).toArray 9 (0, 0)) := row_new w _
        have o := own_rowsS (l := splitOf s sep) (fun e => by rw [e] at hlen; simp at hlen) (by rw [hlen]; unfold maxLen; omega) hr
        rw [hlen] at o
        obtain ⟨h, hv, t⟩ := o.tree
        have S2 : St c.W (w.alloc (.cells ((splitOf s sep).map Value.string).toArray 9)) (treeP h (rowsS (splitOf s sep)) :: c.L) :=
          S.more ((Ext.refl w).alloc _) (F := [w.heap.size]) t (by simp) (by simp)
        refine ⟨_, { y with hd := fset y.hd 0 h }, he, ⟨?_, ?_, ?_, ?_, ?_⟩, ?_, ?_, ?_, ?_⟩
        · exact S2
        · intro b cs hb; cases hb
        · intro p rows hp; cases hp
        · exact List.nodup_nil
        · simp [resS]
        · exact ⟨List.mem_cons_self, hv.symm⟩
        · exact .inl rfl
        · intro i hi; rfl
        · intro q hq; exact absurd hq (by simp)
      · cases hr
    · cases hr
def M_strings_Contains : Mean := fun args boxes trees =>
  match args, boxes, trees with
  | [.v (.string s), .v (.string sub)], [], [] => if s.size < 4294967281 then some ⟨.v (.bool (Lib.contains s.data.toList sub.data.toList)), [], []⟩ else none
  | _, _, _ => none
theorem S_strings_Contains : Sound Tryz.prog 32 M_strings_Contains where
  fn := ⟨_, Tryz.func32, by kernel_rfl, by kernel_rfl⟩
  run := fun c args boxes trees r hr y us w hM ha => by
    unfold M_strings_Contains at hr
    split at hr
    · rename_i s sub
      split at hr
      · rename_i hc
        injection hr with hr; subst hr
        obtain ⟨u0, q0, rfl, h0, u1, q1, rfl, h1, h2⟩ := ha
        obtain rfl : u0 = .string s := h0
        obtain rfl : u1 = .string sub := h1
        obtain rfl : q1 = [] := h2
        have S : St c.W w c.L := hM.st
        obtain ⟨m, hm⟩ := (c.zed w (c.hK w S)).2
        refine (Tryz.strings_Contains s sub m w hc hm).mono fun e w' ⟨he, hw⟩ => ?_
        subst hw
        exact ⟨_, y, he, hM, rfl, .inl rfl, fun _ _ => rfl, fun _ _ => rfl⟩
      · cases hr
    · cases hr
def M_strings_Index : Mean := fun args boxes trees =>
  match args, boxes, trees with
  | [.v (.string s), .v (.string sub)], [], [] => if s.size < 4294967281 then some ⟨.v (.int .i64 (Lib.index s.data.toList sub.data.toList)), [], []⟩ else none
  | _, _, _ => none
theorem S_strings_Index : Sound Tryz.prog 50 M_strings_Index where
  fn := ⟨_, Tryz.func50, by kernel_rfl, by kernel_rfl⟩
  run := fun c args boxes trees r hr y us w hM ha => by
    unfold M_strings_Index at hr
    split at hr
    · rename_i s sub
      split at hr
      · rename_i hc
        injection hr with hr; subst hr
        obtain ⟨u0, q0, rfl, h0, u1, q1, rfl, h1, h2⟩ := ha
        obtain rfl : u0 = .string s := h0
        obtain rfl : u1 = .string sub := h1
        obtain rfl : q1 = [] := h2
        have S : St c.W w c.L := hM.st
        obtain ⟨m, hm⟩ := (c.zed w (c.hK w S)).2
        refine (Tryz.strings_Index s sub m w hc hm).mono fun e w' ⟨he, hw⟩ => ?_
        subst hw
        exact ⟨_, y, he, hM, rfl, .inl rfl, fun _ _ => rfl, fun _ _ => rfl⟩
      · cases hr
    · cases hr
end Go.Proofs.YtjhdikdopdcfcaaGreatDoor
namespace Go.Proofs.YtjhdikdopdcfcaaGreatDoor
theorem hmix : Tryz.prog.follows .mixedOrders = true := by kernel_rfl
noncomputable def M_sl01New : Mean := evNew Tryz.prog [] ⟨[(3, [4, 3, 0], [])], [], [], []⟩ 14
theorem S_sl01New : Sound Tryz.prog 14 M_sl01New := soundN _ none_sound hmix Tryz.func14 (eqOf (by kernel_rfl))
noncomputable def M_sEdNew : Mean := evFun Tryz.prog [] ⟨[], [], [], []⟩ 15
theorem S_sEdNew : Sound Tryz.prog 15 M_sEdNew := sound _ none_sound hmix Tryz.func15 (eqOf (by kernel_rfl))
noncomputable def M_sl01Byte : Mean := evFun Tryz.prog [] ⟨[], [], [(2, [], []), (3, [], []), (4, [], [])], []⟩ 36
theorem S_sl01Byte : Sound Tryz.prog 36 M_sl01Byte := sound _ none_sound hmix Tryz.func36 (eqOf (by kernel_rfl))
noncomputable def M_sl01Below : Mean := evFun Tryz.prog [(36, false, M_sl01Byte)] ⟨[], [], [], []⟩ 18
theorem S_sl01Below : Sound Tryz.prog 18 M_sl01Below := sound _ (cons_sound S_sl01Byte none_sound) hmix Tryz.func18 (eqOf (by kernel_rfl))
noncomputable def M_sl02Rune : Mean := evFun Tryz.prog [(18, false, M_sl01Below)] ⟨[], [], [], []⟩ 70
theorem S_sl02Rune : Sound Tryz.prog 70 M_sl02Rune := sound _ (cons_sound S_sl01Below none_sound) hmix Tryz.func70 (eqOf (by kernel_rfl))
noncomputable def M_sl02Runes : Mean := evFun Tryz.prog [(18, false, M_sl01Below), (70, false, M_sl02Rune)] ⟨[(3, [6, 5, 0], [1000000000])], [], [], []⟩ 52
theorem S_sl02Runes : Sound Tryz.prog 52 M_sl02Runes := sound _ (cons_sound S_sl01Below (cons_sound S_sl02Rune none_sound)) hmix Tryz.func52 (eqOf (by kernel_rfl))
noncomputable def M_sl13Runes : Mean := evFun Tryz.prog [(52, false, M_sl02Runes), (18, false, M_sl01Below)] ⟨[(3, [13, 12, 5, 0], [1000000000])], [], [], []⟩ 34
theorem S_sl13Runes : Sound Tryz.prog 34 M_sl13Runes := sound _ (cons_sound S_sl02Runes (cons_sound S_sl01Below none_sound)) hmix Tryz.func34 (eqOf (by kernel_rfl))
noncomputable def M_sl13Draw : Mean := evFun Tryz.prog [(34, false, M_sl13Runes), (18, false, M_sl01Below)] ⟨[], [], [], []⟩ 16
theorem S_sl13Draw : Sound Tryz.prog 16 M_sl13Draw := sound _ (cons_sound S_sl13Runes (cons_sound S_sl01Below none_sound)) hmix Tryz.func16 (eqOf (by kernel_rfl))
noncomputable def M_sRuneOk : Mean := evFun Tryz.prog [] ⟨[], [], [], []⟩ 157
theorem S_sRuneOk : Sound Tryz.prog 157 M_sRuneOk := sound _ none_sound hmix Tryz.func157 (eqOf (by kernel_rfl))
noncomputable def M_sPrintable : Mean := evFun Tryz.prog [(157, false, M_sRuneOk)] ⟨[], [], [], []⟩ 134
theorem S_sPrintable : Sound Tryz.prog 134 M_sPrintable := sound _ (cons_sound S_sRuneOk none_sound) hmix Tryz.func134 (eqOf (by kernel_rfl))
noncomputable def M_sl13Typed : Mean := evFun Tryz.prog [(134, false, M_sPrintable)] ⟨[], [], [], []⟩ 92
theorem S_sl13Typed : Sound Tryz.prog 92 M_sl13Typed := sound _ (cons_sound S_sPrintable none_sound) hmix Tryz.func92 (eqOf (by kernel_rfl))
noncomputable def M_sl13AllTyped : Mean := evFun Tryz.prog [(92, false, M_sl13Typed)] ⟨[(2, [7, 6, 5], [])], [], [], []⟩ 71
theorem S_sl13AllTyped : Sound Tryz.prog 71 M_sl13AllTyped := sound _ (cons_sound S_sl13Typed none_sound) hmix Tryz.func71 (eqOf (by kernel_rfl))
noncomputable def M_sl15Piece : Mean := evFun Tryz.prog [(71, false, M_sl13AllTyped)] ⟨[], [], [], []⟩ 54
theorem S_sl15Piece : Sound Tryz.prog 54 M_sl15Piece := sound _ (cons_sound S_sl13AllTyped none_sound) hmix Tryz.func54 (eqOf (by kernel_rfl))
noncomputable def M_sRingOk : Mean := evFun Tryz.prog [(54, false, M_sl15Piece)] ⟨[(2, [8, 7, 6, 1], [1])], [], [], []⟩ 53
theorem S_sRingOk : Sound Tryz.prog 53 M_sRingOk := sound _ (cons_sound S_sl15Piece none_sound) hmix Tryz.func53 (eqOf (by kernel_rfl))
noncomputable def M_sl15Copy : Mean := evFun Tryz.prog [] ⟨[(3, [10, 9, 8, 3, 2], [3, 2])], [], [(5, [], [(7, [0, 1]), (8, []), (10, [])])], []⟩ 55
theorem S_sl15Copy : Sound Tryz.prog 55 M_sl15Copy := sound _ none_sound hmix Tryz.func55 (eqOf (by kernel_rfl))
noncomputable def M_sl13Join : Mean := evFun Tryz.prog [] ⟨[], [], [], []⟩ 56
theorem S_sl13Join : Sound Tryz.prog 56 M_sl13Join := sound _ none_sound hmix Tryz.func56 (eqOf (by kernel_rfl))
noncomputable def M_sRingPut : Mean := evFun Tryz.prog [(53, false, M_sRingOk), (54, false, M_sl15Piece), (55, false, M_sl15Copy), (56, false, M_sl13Join)] ⟨[], [], [(12, [0, 1, 2, 3, 5, 6, 4, 7, 8], [(4, [5, 6]), (7, [])])], []⟩ 35
theorem S_sRingPut : Sound Tryz.prog 35 M_sRingPut := sound _ (cons_sound S_sRingOk (cons_sound S_sl15Piece (cons_sound S_sl15Copy (cons_sound S_sl13Join none_sound)))) hmix Tryz.func35 (eqOf (by kernel_rfl))
noncomputable def M_sl15Ring : Mean := evFun Tryz.prog [(18, false, M_sl01Below), (34, false, M_sl13Runes), (35, false, M_sRingPut)] ⟨[(3, [4, 3, 2, 0], [1000000000, 3, 2])], [], [(5, [0, 1, 3, 2, 4, 5, 6, 7, 8, 9], [(2, [0, 3]), (4, [0]), (9, [8])])], []⟩ 17
theorem S_sl15Ring : Sound Tryz.prog 17 M_sl15Ring := sound _ (cons_sound S_sl01Below (cons_sound S_sl13Runes (cons_sound S_sRingPut none_sound))) hmix Tryz.func17 (eqOf (by kernel_rfl))
noncomputable def M_sl05Text : Mean := evFun Tryz.prog [(18, false, M_sl01Below)] ⟨[], [], [], []⟩ 38
theorem S_sl05Text : Sound Tryz.prog 38 M_sl05Text := sound _ (cons_sound S_sl01Below none_sound) hmix Tryz.func38 (eqOf (by kernel_rfl))
noncomputable def M_sHistOk : Mean := evFun Tryz.prog [] ⟨[(2, [8, 7, 6, 1], [1])], [], [], []⟩ 57
theorem S_sHistOk : Sound Tryz.prog 57 M_sHistOk := sound _ none_sound hmix Tryz.func57 (eqOf (by kernel_rfl))
noncomputable def M_sHistAdd : Mean := evFun Tryz.prog [(57, false, M_sHistOk)] ⟨[], [], [(1, [0, 1, 2, 3, 4, 5, 6, 7, 10, 8, 9, 11], [(8, [0, 1, 10]), (11, [])])], []⟩ 37
theorem S_sHistAdd : Sound Tryz.prog 37 M_sHistAdd := sound _ (cons_sound S_sHistOk none_sound) hmix Tryz.func37 (eqOf (by kernel_rfl))
noncomputable def M_sl16Draw : Mean := evFun Tryz.prog [(18, false, M_sl01Below), (38, false, M_sl05Text), (37, false, M_sHistAdd)] ⟨[(5, [4, 3, 2, 0], [1000000000, 3, 2])], [], [(7, [], [(2, [0]), (7, [6])])], []⟩ 19
theorem S_sl16Draw : Sound Tryz.prog 19 M_sl16Draw := sound _ (cons_sound S_sl01Below (cons_sound S_sl05Text (cons_sound S_sHistAdd none_sound))) hmix Tryz.func19 (eqOf (by kernel_rfl))
noncomputable def M_sMakeEmacs : Mean := evFun Tryz.prog [(14, false, M_sl01New), (15, false, M_sEdNew), (16, false, M_sl13Draw), (17, false, M_sl15Ring), (18, false, M_sl01Below), (19, false, M_sl16Draw)] ⟨[], [], [(7, [], [(2, [1]), (3, [])])], []⟩ 5
theorem S_sMakeEmacs : Sound Tryz.prog 5 M_sMakeEmacs := sound _ (cons_sound S_sl01New (cons_sound S_sEdNew (cons_sound S_sl13Draw (cons_sound S_sl15Ring (cons_sound S_sl01Below (cons_sound S_sl16Draw none_sound)))))) hmix Tryz.func5 (eqOf (by kernel_rfl))
noncomputable def M_iParts : Mean := evFun Tryz.prog [(39, false, M_strings_Split)] ⟨[], [], [], []⟩ 20
theorem S_iParts : Sound Tryz.prog 20 M_iParts := sound _ (cons_sound S_strings_Split none_sound) hmix Tryz.func20 (eqOf (by kernel_rfl))
noncomputable def M_iin : Mean := evFun Tryz.prog [] ⟨[], [], [], []⟩ 24
theorem S_iin : Sound Tryz.prog 24 M_iin := sound _ none_sound hmix Tryz.func24 (eqOf (by kernel_rfl))
noncomputable def M_iRuneOk : Mean := evFun Tryz.prog [(24, false, M_iin)] ⟨[], [], [], []⟩ 48
theorem S_iRuneOk : Sound Tryz.prog 48 M_iRuneOk := sound _ (cons_sound S_iin none_sound) hmix Tryz.func48 (eqOf (by kernel_rfl))
noncomputable def M_iRuneBytes : Mean := evFun Tryz.prog [(48, false, M_iRuneOk)] ⟨[], [], [], []⟩ 51
theorem S_iRuneBytes : Sound Tryz.prog 51 M_iRuneBytes := sound _ (cons_sound S_iRuneOk none_sound) hmix Tryz.func51 (eqOf (by kernel_rfl))
noncomputable def M_iRuneRead : Mean := evFun Tryz.prog [(24, false, M_iin), (51, false, M_iRuneBytes)] ⟨[(17, [57, 56, 55, 8, 7, 1, 0], [])], [], [(21, [], [])], []⟩ 59
theorem S_iRuneRead : Sound Tryz.prog 59 M_iRuneRead := sound _ (cons_sound S_iin (cons_sound S_iRuneBytes none_sound)) hmix Tryz.func59 (eqOf (by kernel_rfl))
noncomputable def M_iRunesOf : Mean := evFun Tryz.prog [(59, false, M_iRuneRead)] ⟨[(6, [6, 5, 4], [])], [], [], []⟩ 40
theorem S_iRunesOf : Sound Tryz.prog 40 M_iRunesOf := sound _ (cons_sound S_iRuneRead none_sound) hmix Tryz.func40 (eqOf (by kernel_rfl))
noncomputable def M_iPrintable : Mean := evFun Tryz.prog [(48, false, M_iRuneOk), (24, false, M_iin)] ⟨[], [], [], []⟩ 26
theorem S_iPrintable : Sound Tryz.prog 26 M_iPrintable := sound _ (cons_sound S_iRuneOk (cons_sound S_iin none_sound)) hmix Tryz.func26 (eqOf (by kernel_rfl))
noncomputable def M_iisLower : Mean := evFun Tryz.prog [(24, false, M_iin)] ⟨[], [], [], []⟩ 60
theorem S_iisLower : Sound Tryz.prog 60 M_iisLower := sound _ (cons_sound S_iin none_sound) hmix Tryz.func60 (eqOf (by kernel_rfl))
noncomputable def M_iKeyOk : Mean := evFun Tryz.prog [(26, false, M_iPrintable), (60, false, M_iisLower), (24, false, M_iin)] ⟨[], [], [], []⟩ 42
theorem S_iKeyOk : Sound Tryz.prog 42 M_iKeyOk := sound _ (cons_sound S_iPrintable (cons_sound S_iisLower (cons_sound S_iin none_sound))) hmix Tryz.func42 (eqOf (by kernel_rfl))
noncomputable def M_iTextOf : Mean := evFun Tryz.prog [(51, false, M_iRuneBytes)] ⟨[(3, [8, 7, 6, 3], [])], [], [], []⟩ 33
theorem S_iTextOf : Sound Tryz.prog 33 M_iTextOf := sound _ (cons_sound S_iRuneBytes none_sound) hmix Tryz.func33 (eqOf (by kernel_rfl))
noncomputable def M_iKeyText : Mean := evFun Tryz.prog [(42, false, M_iKeyOk), (33, false, M_iTextOf), (39, false, M_strings_Split)] ⟨[], [], [(12, [], [])], []⟩ 41
theorem S_iKeyText : Sound Tryz.prog 41 M_iKeyText := sound _ (cons_sound S_iKeyOk (cons_sound S_iTextOf (cons_sound S_strings_Split none_sound))) hmix Tryz.func41 (eqOf (by kernel_rfl))
noncomputable def M_iTextKey : Mean := evFun Tryz.prog [(39, false, M_strings_Split), (40, false, M_iRunesOf), (41, false, M_iKeyText)] ⟨[(2, [11, 10, 9, 2, 0], [2])], [], [], []⟩ 21
theorem S_iTextKey : Sound Tryz.prog 21 M_iTextKey := sound _ (cons_sound S_strings_Split (cons_sound S_iRunesOf (cons_sound S_iKeyText none_sound))) hmix Tryz.func21 (eqOf (by kernel_rfl))
noncomputable def M_iadmissible : Mean := evFun Tryz.prog [(26, false, M_iPrintable)] ⟨[], [], [], []⟩ 68
theorem S_iadmissible : Sound Tryz.prog 68 M_iadmissible := sound _ (cons_sound S_iPrintable none_sound) hmix Tryz.func68 (eqOf (by kernel_rfl))
noncomputable def M_iareAdmissible : Mean := evFun Tryz.prog [(68, false, M_iadmissible)] ⟨[(2, [7, 6, 5], [])], [], [], []⟩ 45
theorem S_iareAdmissible : Sound Tryz.prog 45 M_iareAdmissible := sound _ (cons_sound S_iadmissible none_sound) hmix Tryz.func45 (eqOf (by kernel_rfl))
noncomputable def M_iLineOk : Mean := evFun Tryz.prog [(45, false, M_iareAdmissible), (24, false, M_iin)] ⟨[], [], [], []⟩ 23
theorem S_iLineOk : Sound Tryz.prog 23 M_iLineOk := sound _ (cons_sound S_iareAdmissible (cons_sound S_iin none_sound)) hmix Tryz.func23 (eqOf (by kernel_rfl))
noncomputable def M_iisAtEnd : Mean := evFun Tryz.prog [] ⟨[], [], [], []⟩ 46
theorem S_iisAtEnd : Sound Tryz.prog 46 M_iisAtEnd := sound _ none_sound hmix Tryz.func46 (eqOf (by kernel_rfl))
noncomputable def M_iisAmong : Mean := evFun Tryz.prog [] ⟨[(2, [5, 1, 0], [])], [], [], []⟩ 47
theorem S_iisAmong : Sound Tryz.prog 47 M_iisAmong := sound _ none_sound hmix Tryz.func47 (eqOf (by kernel_rfl))
noncomputable def M_imodeOk : Mean := evFun Tryz.prog [(46, false, M_iisAtEnd), (47, false, M_iisAmong)] ⟨[], [], [], []⟩ 25
theorem S_imodeOk : Sound Tryz.prog 25 M_imodeOk := sound _ (cons_sound S_iisAtEnd (cons_sound S_iisAmong none_sound)) hmix Tryz.func25 (eqOf (by kernel_rfl))
noncomputable def M_iRingOk : Mean := evFun Tryz.prog [(45, false, M_iareAdmissible)] ⟨[(2, [8, 7, 6, 1], [1])], [], [], []⟩ 27
theorem S_iRingOk : Sound Tryz.prog 27 M_iRingOk := sound _ (cons_sound S_iareAdmissible none_sound) hmix Tryz.func27 (eqOf (by kernel_rfl))
noncomputable def M_iUndoOk : Mean := evFun Tryz.prog [(23, false, M_iLineOk)] ⟨[(2, [8, 7, 6, 1], [1])], [], [], []⟩ 28
theorem S_iUndoOk : Sound Tryz.prog 28 M_iUndoOk := sound _ (cons_sound S_iLineOk none_sound) hmix Tryz.func28 (eqOf (by kernel_rfl))
noncomputable def M_iemptyLine : Mean := evFun Tryz.prog [] ⟨[], [], [], []⟩ 29
theorem S_iemptyLine : Sound Tryz.prog 29 M_iemptyLine := sound _ none_sound hmix Tryz.func29 (eqOf (by kernel_rfl))
noncomputable def M_iEdOk : Mean := evFun Tryz.prog [(23, false, M_iLineOk), (24, false, M_iin), (25, false, M_imodeOk), (26, false, M_iPrintable), (27, false, M_iRingOk), (28, false, M_iUndoOk), (29, false, M_iemptyLine)] ⟨[(10, [109, 108, 107, 1], [1])], [], [], []⟩ 8
theorem S_iEdOk : Sound Tryz.prog 8 M_iEdOk := sound _ (cons_sound S_iLineOk (cons_sound S_iin (cons_sound S_imodeOk (cons_sound S_iPrintable (cons_sound S_iRingOk (cons_sound S_iUndoOk (cons_sound S_iemptyLine none_sound))))))) hmix Tryz.func8 (eqOf (by kernel_rfl))
noncomputable def M_iHistOk : Mean := evFun Tryz.prog [(24, false, M_iin)] ⟨[(4, [18, 17, 16], [])], [], [], []⟩ 30
theorem S_iHistOk : Sound Tryz.prog 30 M_iHistOk := sound _ (cons_sound S_iin none_sound) hmix Tryz.func30 (eqOf (by kernel_rfl))
noncomputable def M_icopyInts : Mean := evFun Tryz.prog [] ⟨[], [], [], []⟩ 64
theorem S_icopyInts : Sound Tryz.prog 64 M_icopyInts := sound _ none_sound hmix Tryz.func64 (eqOf (by kernel_rfl))
noncomputable def M_icopyLine : Mean := evFun Tryz.prog [(64, false, M_icopyInts)] ⟨[], [], [(1, [], [(6, [])])], []⟩ 61
theorem S_icopyLine : Sound Tryz.prog 61 M_icopyLine := sound _ (cons_sound S_icopyInts none_sound) hmix Tryz.func61 (eqOf (by kernel_rfl))
noncomputable def M_icopyRing : Mean := evFun Tryz.prog [(64, false, M_icopyInts)] ⟨[(3, [9, 8, 7, 3, 2], [3, 2])], [], [(5, [], [(6, [0, 1]), (7, []), (9, [])])], []⟩ 62
theorem S_icopyRing : Sound Tryz.prog 62 M_icopyRing := sound _ (cons_sound S_icopyInts none_sound) hmix Tryz.func62 (eqOf (by kernel_rfl))
noncomputable def M_icopyUndo : Mean := evFun Tryz.prog [(61, false, M_icopyLine)] ⟨[(3, [9, 8, 7, 3, 2], [3, 2])], [], [(5, [], [(4, [0, 1]), (5, []), (7, [])])], []⟩ 63
theorem S_icopyUndo : Sound Tryz.prog 63 M_icopyUndo := sound _ (cons_sound S_icopyLine none_sound) hmix Tryz.func63 (eqOf (by kernel_rfl))
noncomputable def M_icopyEd : Mean := evFun Tryz.prog [(61, false, M_icopyLine), (62, false, M_icopyRing), (63, false, M_icopyUndo), (64, false, M_icopyInts)] ⟨[], [], [(1, [], [(10, []), (12, []), (14, [])]), (2, [], [(7, []), (9, [])])], []⟩ 43
theorem S_icopyEd : Sound Tryz.prog 43 M_icopyEd := sound _ (cons_sound S_icopyLine (cons_sound S_icopyRing (cons_sound S_icopyUndo (cons_sound S_icopyInts none_sound)))) hmix Tryz.func43 (eqOf (by kernel_rfl))
noncomputable def M_icanKey : Mean := evFun Tryz.prog [(8, false, M_iEdOk), (30, false, M_iHistOk), (42, false, M_iKeyOk)] ⟨[], [], [], []⟩ 74
theorem S_icanKey : Sound Tryz.prog 74 M_icanKey := sound _ (cons_sound S_iEdOk (cons_sound S_iHistOk (cons_sound S_iKeyOk none_sound))) hmix Tryz.func74 (eqOf (by kernel_rfl))
noncomputable def M_itimes : Mean := evFun Tryz.prog [] ⟨[(3, [6, 5, 1, 0], [])], [], [], []⟩ 97
theorem S_itimes : Sound Tryz.prog 97 M_itimes := sound _ none_sound hmix Tryz.func97 (eqOf (by kernel_rfl))
noncomputable def M_iLinePut : Mean := evFun Tryz.prog [(23, false, M_iLineOk), (64, false, M_icopyInts)] ⟨[], [], [(3, [0, 1, 2, 3, 4, 5, 6, 8, 9, 10, 11, 12, 14, 15, 16, 17, 18, 20, 7, 13, 19, 21], [(7, [8, 9, 10, 11, 12, 14, 15, 16, 17, 18, 20]), (13, [14, 15, 16, 17, 18, 20]), (21, [])])], []⟩ 136
theorem S_iLinePut : Sound Tryz.prog 136 M_iLinePut := sound _ (cons_sound S_iLineOk (cons_sound S_icopyInts none_sound)) hmix Tryz.func136 (eqOf (by kernel_rfl))
noncomputable def M_isettled : Mean := evFun Tryz.prog [(43, false, M_icopyEd)] ⟨[], [], [], []⟩ 118
theorem S_isettled : Sound Tryz.prog 118 M_isettled := sound _ (cons_sound S_icopyEd none_sound) hmix Tryz.func118 (eqOf (by kernel_rfl))
noncomputable def M_ibell : Mean := evFun Tryz.prog [(118, false, M_isettled)] ⟨[], [], [], []⟩ 82
theorem S_ibell : Sound Tryz.prog 82 M_ibell := sound _ (cons_sound S_isettled none_sound) hmix Tryz.func82 (eqOf (by kernel_rfl))
noncomputable def M_isameInts : Mean := evFun Tryz.prog [] ⟨[(4, [13, 12, 1, 0], [])], [], [(6, [], [])], []⟩ 140
theorem S_isameInts : Sound Tryz.prog 140 M_isameInts := sound _ none_sound hmix Tryz.func140 (eqOf (by kernel_rfl))
noncomputable def M_iUndoPut : Mean := evFun Tryz.prog [(28, false, M_iUndoOk), (23, false, M_iLineOk), (63, false, M_icopyUndo), (140, false, M_isameInts), (61, false, M_icopyLine)] ⟨[], [], [(5, [], []), (7, [], [(4, [0, 1]), (5, []), (7, [])])], []⟩ 146
theorem S_iUndoPut : Sound Tryz.prog 146 M_iUndoPut := sound _ (cons_sound S_iUndoOk (cons_sound S_iLineOk (cons_sound S_icopyUndo (cons_sound S_isameInts (cons_sound S_icopyLine none_sound))))) hmix Tryz.func146 (eqOf (by kernel_rfl))
noncomputable def M_iinCommand : Mean := evFun Tryz.prog [(46, false, M_iisAtEnd)] ⟨[], [], [], []⟩ 120
theorem S_iinCommand : Sound Tryz.prog 120 M_iinCommand := sound _ (cons_sound S_iisAtEnd none_sound) hmix Tryz.func120 (eqOf (by kernel_rfl))
noncomputable def M_iset : Mean := evFun Tryz.prog [(118, false, M_isettled), (140, false, M_isameInts), (146, false, M_iUndoPut), (61, false, M_icopyLine), (120, false, M_iinCommand)] ⟨[], [], [(4, [], [(6, [])])], []⟩ 112
theorem S_iset : Sound Tryz.prog 112 M_iset := sound _ (cons_sound S_isettled (cons_sound S_isameInts (cons_sound S_iUndoPut (cons_sound S_icopyLine (cons_sound S_iinCommand none_sound))))) hmix Tryz.func112 (eqOf (by kernel_rfl))
noncomputable def M_iinsert : Mean := evFun Tryz.prog [(136, false, M_iLinePut), (82, false, M_ibell), (112, false, M_iset)] ⟨[], [], [], []⟩ 96
theorem S_iinsert : Sound Tryz.prog 96 M_iinsert := sound _ (cons_sound S_iLinePut (cons_sound S_ibell (cons_sound S_iset none_sound))) hmix Tryz.func96 (eqOf (by kernel_rfl))
noncomputable def M_iinLine : Mean := evFun Tryz.prog [(23, false, M_iLineOk)] ⟨[], [], [], []⟩ 142
theorem S_iinLine : Sound Tryz.prog 142 M_iinLine := sound _ (cons_sound S_iLineOk none_sound) hmix Tryz.func142 (eqOf (by kernel_rfl))
noncomputable def M_iLineCut : Mean := evFun Tryz.prog [(142, false, M_iinLine), (64, false, M_icopyInts)] ⟨[], [], [(3, [0, 1, 2, 3, 4, 5, 6, 7, 8, 10, 11, 13, 9, 12, 14], [(9, [10, 11, 13]), (14, [])]), (8, [], [(7, [])])], []⟩ 111
theorem S_iLineCut : Sound Tryz.prog 111 M_iLineCut := sound _ (cons_sound S_iinLine (cons_sound S_icopyInts none_sound)) hmix Tryz.func111 (eqOf (by kernel_rfl))
noncomputable def M_iput : Mean := evFun Tryz.prog [(112, false, M_iset)] ⟨[], [], [], []⟩ 100
theorem S_iput : Sound Tryz.prog 100 M_iput := sound _ (cons_sound S_iset none_sound) hmix Tryz.func100 (eqOf (by kernel_rfl))
noncomputable def M_icut : Mean := evFun Tryz.prog [(111, false, M_iLineCut), (82, false, M_ibell), (100, false, M_iput)] ⟨[], [], [], []⟩ 99
theorem S_icut : Sound Tryz.prog 99 M_icut := sound _ (cons_sound S_iLineCut (cons_sound S_ibell (cons_sound S_iput none_sound))) hmix Tryz.func99 (eqOf (by kernel_rfl))
noncomputable def M_iRingPut : Mean := evFun Tryz.prog [(27, false, M_iRingOk), (24, false, M_iin), (45, false, M_iareAdmissible), (62, false, M_icopyRing), (64, false, M_icopyInts)] ⟨[], [], [(7, [0, 1, 2, 4, 5, 3, 6, 7, 8], [(3, [4, 5]), (6, []), (8, [])]), (10, [], [(8, [0, 1]), (11, [])]), (4, [], [(9, [0, 1]), (12, [])])], []⟩ 113
theorem S_iRingPut : Sound Tryz.prog 113 M_iRingPut := sound _ (cons_sound S_iRingOk (cons_sound S_iin (cons_sound S_iareAdmissible (cons_sound S_icopyRing (cons_sound S_icopyInts none_sound))))) hmix Tryz.func113 (eqOf (by kernel_rfl))
noncomputable def M_ikill : Mean := evFun Tryz.prog [(111, false, M_iLineCut), (82, false, M_ibell), (112, false, M_iset), (113, false, M_iRingPut)] ⟨[], [], [], []⟩ 80
theorem S_ikill : Sound Tryz.prog 80 M_ikill := sound _ (cons_sound S_iLineCut (cons_sound S_ibell (cons_sound S_iset (cons_sound S_iRingPut none_sound)))) hmix Tryz.func80 (eqOf (by kernel_rfl))
noncomputable def M_iwithin : Mean := evFun Tryz.prog [] ⟨[], [], [], []⟩ 109
theorem S_iwithin : Sound Tryz.prog 109 M_iwithin := sound _ none_sound hmix Tryz.func109 (eqOf (by kernel_rfl))
noncomputable def M_iisUpper : Mean := evFun Tryz.prog [(24, false, M_iin)] ⟨[], [], [], []⟩ 143
theorem S_iisUpper : Sound Tryz.prog 143 M_iisUpper := sound _ (cons_sound S_iin none_sound) hmix Tryz.func143 (eqOf (by kernel_rfl))
noncomputable def M_iisDigit : Mean := evFun Tryz.prog [(24, false, M_iin)] ⟨[], [], [], []⟩ 106
theorem S_iisDigit : Sound Tryz.prog 106 M_iisDigit := sound _ (cons_sound S_iin none_sound) hmix Tryz.func106 (eqOf (by kernel_rfl))
noncomputable def M_iClassOf : Mean := evFun Tryz.prog [(60, false, M_iisLower), (143, false, M_iisUpper), (106, false, M_iisDigit), (26, false, M_iPrintable)] ⟨[], [], [], []⟩ 110
theorem S_iClassOf : Sound Tryz.prog 110 M_iClassOf := sound _ (cons_sound S_iisLower (cons_sound S_iisUpper (cons_sound S_iisDigit (cons_sound S_iPrintable none_sound)))) hmix Tryz.func110 (eqOf (by kernel_rfl))
noncomputable def M_iclassAt : Mean := evFun Tryz.prog [(110, false, M_iClassOf)] ⟨[], [], [], []⟩ 158
theorem S_iclassAt : Sound Tryz.prog 158 M_iclassAt := sound _ (cons_sound S_iClassOf none_sound) hmix Tryz.func158 (eqOf (by kernel_rfl))
noncomputable def M_iViWordBack : Mean := evFun Tryz.prog [(109, false, M_iwithin), (158, false, M_iclassAt)] ⟨[(7, [7, 2, 1, 0], []), (2, [2, 1, 0], [])], [], [], []⟩ 137
theorem S_iViWordBack : Sound Tryz.prog 137 M_iViWordBack := sound _ (cons_sound S_iwithin (cons_sound S_iclassAt none_sound)) hmix Tryz.func137 (eqOf (by kernel_rfl))
noncomputable def M_iplainCtrl : Mean := evFun Tryz.prog [(43, false, M_icopyEd), (99, false, M_icut), (80, false, M_ikill), (137, false, M_iViWordBack)] ⟨[], [], [(1, [], []), (16, [], [(11, [10])])], []⟩ 98
theorem S_iplainCtrl : Sound Tryz.prog 98 M_iplainCtrl := sound _ (cons_sound S_icopyEd (cons_sound S_icut (cons_sound S_ikill (cons_sound S_iViWordBack none_sound)))) hmix Tryz.func98 (eqOf (by kernel_rfl))
noncomputable def M_igoTo : Mean := evFun Tryz.prog [(64, false, M_icopyInts)] ⟨[], [], [(1, [], [(10, [])])], []⟩ 101
theorem S_igoTo : Sound Tryz.prog 101 M_igoTo := sound _ (cons_sound S_icopyInts none_sound) hmix Tryz.func101 (eqOf (by kernel_rfl))
noncomputable def M_iHistLast : Mean := evFun Tryz.prog [(30, false, M_iHistOk)] ⟨[], [], [], []⟩ 11
theorem S_iHistLast : Sound Tryz.prog 11 M_iHistLast := sound _ (cons_sound S_iHistOk none_sound) hmix Tryz.func11 (eqOf (by kernel_rfl))
noncomputable def M_iHistGet : Mean := evFun Tryz.prog [(30, false, M_iHistOk), (24, false, M_iin)] ⟨[], [], [], []⟩ 12
theorem S_iHistGet : Sound Tryz.prog 12 M_iHistGet := sound _ (cons_sound S_iHistOk (cons_sound S_iin none_sound)) hmix Tryz.func12 (eqOf (by kernel_rfl))
noncomputable def M_iLineOf : Mean := evFun Tryz.prog [(40, false, M_iRunesOf), (23, false, M_iLineOk)] ⟨[], [], [], []⟩ 148
theorem S_iLineOf : Sound Tryz.prog 148 M_iLineOf := sound _ (cons_sound S_iRunesOf (cons_sound S_iLineOk none_sound)) hmix Tryz.func148 (eqOf (by kernel_rfl))
noncomputable def M_iEdStep : Mean := evFun Tryz.prog [(8, false, M_iEdOk), (118, false, M_isettled), (11, false, M_iHistLast), (61, false, M_icopyLine), (120, false, M_iinCommand), (12, false, M_iHistGet), (148, false, M_iLineOf)] ⟨[], [], [(10, [], [(7, [])])], []⟩ 138
theorem S_iEdStep : Sound Tryz.prog 138 M_iEdStep := sound _ (cons_sound S_iEdOk (cons_sound S_isettled (cons_sound S_iHistLast (cons_sound S_icopyLine (cons_sound S_iinCommand (cons_sound S_iHistGet (cons_sound S_iLineOf none_sound))))))) hmix Tryz.func138 (eqOf (by kernel_rfl))
noncomputable def M_istep : Mean := evFun Tryz.prog [(138, false, M_iEdStep), (82, false, M_ibell)] ⟨[], [], [], []⟩ 102
theorem S_istep : Sound Tryz.prog 102 M_istep := sound _ (cons_sound S_iEdStep (cons_sound S_ibell none_sound)) hmix Tryz.func102 (eqOf (by kernel_rfl))
noncomputable def M_iplain : Mean := evFun Tryz.prog [(97, false, M_itimes), (96, false, M_iinsert), (43, false, M_icopyEd), (98, false, M_iplainCtrl), (99, false, M_icut), (101, false, M_igoTo), (100, false, M_iput), (102, false, M_istep)] ⟨[], [], [(1, [], []), (7, [], [(10, [9])]), (9, [], [(8, [7])]), (19, [], [(11, [10])]), (21, [], [(11, [10])]), (23, [], [(8, [7])]), (25, [], [(9, [8])])], []⟩ 75
theorem S_iplain : Sound Tryz.prog 75 M_iplain := sound _ (cons_sound S_itimes (cons_sound S_iinsert (cons_sound S_icopyEd (cons_sound S_iplainCtrl (cons_sound S_icut (cons_sound S_igoTo (cons_sound S_iput (cons_sound S_istep none_sound)))))))) hmix Tryz.func75 (eqOf (by kernel_rfl))
noncomputable def M_iWordBack : Mean := evFun Tryz.prog [(109, false, M_iwithin), (110, false, M_iClassOf)] ⟨[(4, [1, 0], []), (2, [1, 0], [])], [], [], []⟩ 79
theorem S_iWordBack : Sound Tryz.prog 79 M_iWordBack := sound _ (cons_sound S_iwithin (cons_sound S_iClassOf none_sound)) hmix Tryz.func79 (eqOf (by kernel_rfl))
noncomputable def M_impl_emacsMeta_1 : Mean := evFun Tryz.prog [(79, false, M_iWordBack)] ⟨[], [], [], []⟩ 103
theorem S_impl_emacsMeta_1 : Sound Tryz.prog 103 M_impl_emacsMeta_1 := sound _ (cons_sound S_iWordBack none_sound) hmix Tryz.func103 (eqOf (by kernel_rfl))
noncomputable def M_iWordOn : Mean := evFun Tryz.prog [(109, false, M_iwithin), (110, false, M_iClassOf)] ⟨[(4, [1, 0], []), (2, [1, 0], [])], [], [], []⟩ 105
theorem S_iWordOn : Sound Tryz.prog 105 M_iWordOn := sound _ (cons_sound S_iwithin (cons_sound S_iClassOf none_sound)) hmix Tryz.func105 (eqOf (by kernel_rfl))
noncomputable def M_impl_emacsMeta_2 : Mean := evFun Tryz.prog [(105, false, M_iWordOn)] ⟨[], [], [], []⟩ 104
theorem S_impl_emacsMeta_2 : Sound Tryz.prog 104 M_impl_emacsMeta_2 := sound _ (cons_sound S_iWordOn none_sound) hmix Tryz.func104 (eqOf (by kernel_rfl))
noncomputable def M_impl_EmacsKey_1 : Mean := evFun Tryz.prog [(79, false, M_iWordBack)] ⟨[], [], [], []⟩ 78
theorem S_impl_EmacsKey_1 : Sound Tryz.prog 78 M_impl_EmacsKey_1 := sound _ (cons_sound S_iWordBack none_sound) hmix Tryz.func78 (eqOf (by kernel_rfl))
noncomputable def M_irunEnd : Mean := evFun Tryz.prog [(158, false, M_iclassAt)] ⟨[(2, [7, 2, 1, 0], [])], [], [], []⟩ 159
theorem S_irunEnd : Sound Tryz.prog 159 M_irunEnd := sound _ (cons_sound S_iclassAt none_sound) hmix Tryz.func159 (eqOf (by kernel_rfl))
noncomputable def M_iViWordOn : Mean := evFun Tryz.prog [(109, false, M_iwithin), (158, false, M_iclassAt), (159, false, M_irunEnd)] ⟨[(4, [2, 1, 0], [])], [], [], []⟩ 152
theorem S_iViWordOn : Sound Tryz.prog 152 M_iViWordOn := sound _ (cons_sound S_iwithin (cons_sound S_iclassAt (cons_sound S_irunEnd none_sound))) hmix Tryz.func152 (eqOf (by kernel_rfl))
noncomputable def M_impl_MotionTo_1 : Mean := evFun Tryz.prog [(152, false, M_iViWordOn)] ⟨[], [], [], []⟩ 151
theorem S_impl_MotionTo_1 : Sound Tryz.prog 151 M_impl_MotionTo_1 := sound _ (cons_sound S_iViWordOn none_sound) hmix Tryz.func151 (eqOf (by kernel_rfl))
noncomputable def M_impl_MotionTo_2 : Mean := evFun Tryz.prog [(137, false, M_iViWordBack)] ⟨[], [], [], []⟩ 153
theorem S_impl_MotionTo_2 : Sound Tryz.prog 153 M_impl_MotionTo_2 := sound _ (cons_sound S_iViWordBack none_sound) hmix Tryz.func153 (eqOf (by kernel_rfl))
noncomputable def M_iViWordEnd : Mean := evFun Tryz.prog [(109, false, M_iwithin), (158, false, M_iclassAt), (159, false, M_irunEnd)] ⟨[(5, [7, 2, 1, 0], [])], [], [], []⟩ 155
theorem S_iViWordEnd : Sound Tryz.prog 155 M_iViWordEnd := sound _ (cons_sound S_iwithin (cons_sound S_iclassAt (cons_sound S_irunEnd none_sound))) hmix Tryz.func155 (eqOf (by kernel_rfl))
noncomputable def M_impl_MotionTo_3 : Mean := evFun Tryz.prog [(155, false, M_iViWordEnd)] ⟨[], [], [], []⟩ 154
theorem S_impl_MotionTo_3 : Sound Tryz.prog 154 M_impl_MotionTo_3 := sound _ (cons_sound S_iViWordEnd none_sound) hmix Tryz.func154 (eqOf (by kernel_rfl))
noncomputable def M_irepeated : Mean := pick1 (evFun Tryz.prog [(78, false, M_impl_EmacsKey_1), (103, false, M_impl_emacsMeta_1), (104, false, M_impl_emacsMeta_2), (151, false, M_impl_MotionTo_1), (153, false, M_impl_MotionTo_2), (154, false, M_impl_MotionTo_3)] ⟨[(2, [8, 7, 2, 0], [1000000000])], [], [], []⟩ 77) (evFun Tryz.prog [(78, false, M_impl_EmacsKey_1), (103, false, M_impl_emacsMeta_1), (104, false, M_impl_emacsMeta_2), (151, false, M_impl_MotionTo_1), (153, false, M_impl_MotionTo_2), (154, false, M_impl_MotionTo_3)] ⟨[(2, [8, 7, 2, 0], [1000000001, 1000000000])], [], [], []⟩ 77)
theorem S_irepeated : Sound Tryz.prog 77 M_irepeated := pick1_sound (sound _ (cons_sound S_impl_EmacsKey_1 (cons_sound S_impl_emacsMeta_1 (cons_sound S_impl_emacsMeta_2 (cons_sound S_impl_MotionTo_1 (cons_sound S_impl_MotionTo_2 (cons_sound S_impl_MotionTo_3 none_sound)))))) hmix Tryz.func77 (eqOf (by kernel_rfl))) (sound _ (cons_sound S_impl_EmacsKey_1 (cons_sound S_impl_emacsMeta_1 (cons_sound S_impl_emacsMeta_2 (cons_sound S_impl_MotionTo_1 (cons_sound S_impl_MotionTo_2 (cons_sound S_impl_MotionTo_3 none_sound)))))) hmix Tryz.func77 (eqOf (by kernel_rfl)))
noncomputable def M_iRingTop : Mean := evFun Tryz.prog [(27, false, M_iRingOk), (64, false, M_icopyInts)] ⟨[], [], [], []⟩ 139
theorem S_iRingTop : Sound Tryz.prog 139 M_iRingTop := sound _ (cons_sound S_iRingOk (cons_sound S_icopyInts none_sound)) hmix Tryz.func139 (eqOf (by kernel_rfl))
noncomputable def M_iRingTurn : Mean := evFun Tryz.prog [(27, false, M_iRingOk), (62, false, M_icopyRing)] ⟨[], [], [(5, [], [(9, []), (11, [])])], []⟩ 141
theorem S_iRingTurn : Sound Tryz.prog 141 M_iRingTurn := sound _ (cons_sound S_iRingOk (cons_sound S_icopyRing none_sound)) hmix Tryz.func141 (eqOf (by kernel_rfl))
noncomputable def M_iyankNext : Mean := evFun Tryz.prog [(139, false, M_iRingTop), (140, false, M_isameInts), (82, false, M_ibell), (111, false, M_iLineCut), (141, false, M_iRingTurn), (136, false, M_iLinePut), (43, false, M_icopyEd), (112, false, M_iset)] ⟨[], [], [(7, [], [(8, [6])])], []⟩ 107
theorem S_iyankNext : Sound Tryz.prog 107 M_iyankNext := sound _ (cons_sound S_iRingTop (cons_sound S_isameInts (cons_sound S_ibell (cons_sound S_iLineCut (cons_sound S_iRingTurn (cons_sound S_iLinePut (cons_sound S_icopyEd (cons_sound S_iset none_sound)))))))) hmix Tryz.func107 (eqOf (by kernel_rfl))
noncomputable def M_iupper : Mean := evFun Tryz.prog [(60, false, M_iisLower)] ⟨[], [], [], []⟩ 144
theorem S_iupper : Sound Tryz.prog 144 M_iupper := sound _ (cons_sound S_iisLower none_sound) hmix Tryz.func144 (eqOf (by kernel_rfl))
noncomputable def M_ilower : Mean := evFun Tryz.prog [(143, false, M_iisUpper)] ⟨[], [], [], []⟩ 145
theorem S_ilower : Sound Tryz.prog 145 M_ilower := sound _ (cons_sound S_iisUpper none_sound) hmix Tryz.func145 (eqOf (by kernel_rfl))
noncomputable def M_iLineCase : Mean := evFun Tryz.prog [(142, false, M_iinLine), (24, false, M_iin), (101, false, M_igoTo), (60, false, M_iisLower), (143, false, M_iisUpper), (144, false, M_iupper), (145, false, M_ilower)] ⟨[(6, [12, 11, 10, 8, 3, 2], [10, 8])], [], [(11, [], [(6, [])]), (12, [], [(6, [])])], []⟩ 108
theorem S_iLineCase : Sound Tryz.prog 108 M_iLineCase := sound _ (cons_sound S_iinLine (cons_sound S_iin (cons_sound S_igoTo (cons_sound S_iisLower (cons_sound S_iisUpper (cons_sound S_iupper (cons_sound S_ilower none_sound))))))) hmix Tryz.func108 (eqOf (by kernel_rfl))
noncomputable def M_iemacsMeta : Mean := evFun Tryz.prog [(103, false, M_impl_emacsMeta_1), (104, false, M_impl_emacsMeta_2), (106, false, M_iisDigit), (43, false, M_icopyEd), (77, false, M_irepeated), (101, false, M_igoTo), (100, false, M_iput), (80, false, M_ikill), (107, false, M_iyankNext), (105, false, M_iWordOn), (108, false, M_iLineCase), (82, false, M_ibell)] ⟨[], [], [(1, [], [(10, [3, 4, 5, 6, 7, 8])]), (9, [], [(6, [0, 1, 2]), (11, [])]), (11, [], [(6, [0, 1, 2]), (11, [])]), (13, [], [(5, [0, 1]), (9, [])]), (19, [], [(12, [10])]), (16, [0], [])], []⟩ 76
theorem S_iemacsMeta : Sound Tryz.prog 76 M_iemacsMeta := sound _ (cons_sound S_impl_emacsMeta_1 (cons_sound S_impl_emacsMeta_2 (cons_sound S_iisDigit (cons_sound S_icopyEd (cons_sound S_irepeated (cons_sound S_igoTo (cons_sound S_iput (cons_sound S_ikill (cons_sound S_iyankNext (cons_sound S_iWordOn (cons_sound S_iLineCase (cons_sound S_ibell none_sound)))))))))))) hmix Tryz.func76 (eqOf (by kernel_rfl))
noncomputable def M_iyank : Mean := evFun Tryz.prog [(139, false, M_iRingTop), (82, false, M_ibell), (96, false, M_iinsert)] ⟨[], [], [], []⟩ 114
theorem S_iyank : Sound Tryz.prog 114 M_iyank := sound _ (cons_sound S_iRingTop (cons_sound S_ibell (cons_sound S_iinsert none_sound))) hmix Tryz.func114 (eqOf (by kernel_rfl))
noncomputable def M_iLineSwap : Mean := evFun Tryz.prog [(23, false, M_iLineOk), (101, false, M_igoTo)] ⟨[], [], [(6, [], [(19, [4, 5, 6]), (21, [])])], []⟩ 115
theorem S_iLineSwap : Sound Tryz.prog 115 M_iLineSwap := sound _ (cons_sound S_iLineOk (cons_sound S_igoTo none_sound)) hmix Tryz.func115 (eqOf (by kernel_rfl))
noncomputable def M_iUndoTake : Mean := evFun Tryz.prog [(28, false, M_iUndoOk), (63, false, M_icopyUndo), (61, false, M_icopyLine)] ⟨[], [], [(5, [], [(8, []), (9, [])])], []⟩ 147
theorem S_iUndoTake : Sound Tryz.prog 147 M_iUndoTake := sound _ (cons_sound S_iUndoOk (cons_sound S_icopyUndo (cons_sound S_icopyLine none_sound))) hmix Tryz.func147 (eqOf (by kernel_rfl))
noncomputable def M_iundo : Mean := evFun Tryz.prog [(147, false, M_iUndoTake), (82, false, M_ibell), (118, false, M_isettled), (120, false, M_iinCommand)] ⟨[], [], [(5, [], [(6, [4]), (8, [])])], []⟩ 116
theorem S_iundo : Sound Tryz.prog 116 M_iundo := sound _ (cons_sound S_iUndoTake (cons_sound S_ibell (cons_sound S_isettled (cons_sound S_iinCommand none_sound)))) hmix Tryz.func116 (eqOf (by kernel_rfl))
noncomputable def M_iseek : Mean := evFun Tryz.prog [(118, false, M_isettled), (61, false, M_icopyLine)] ⟨[], [], [], []⟩ 117
theorem S_iseek : Sound Tryz.prog 117 M_iseek := sound _ (cons_sound S_isettled (cons_sound S_icopyLine none_sound)) hmix Tryz.func117 (eqOf (by kernel_rfl))
noncomputable def M_iemacsCtrl : Mean := evFun Tryz.prog [(75, false, M_iplain), (80, false, M_ikill), (114, false, M_iyank), (115, false, M_iLineSwap), (82, false, M_ibell), (100, false, M_iput), (116, false, M_iundo), (117, false, M_iseek)] ⟨[], [], [(1, [0], [])], []⟩ 81
theorem S_iemacsCtrl : Sound Tryz.prog 81 M_iemacsCtrl := sound _ (cons_sound S_iplain (cons_sound S_ikill (cons_sound S_iyank (cons_sound S_iLineSwap (cons_sound S_ibell (cons_sound S_iput (cons_sound S_iundo (cons_sound S_iseek none_sound)))))))) hmix Tryz.func81 (eqOf (by kernel_rfl))
noncomputable def M_iEmacsKey : Mean := evFun Tryz.prog [(74, false, M_icanKey), (75, false, M_iplain), (76, false, M_iemacsMeta), (78, false, M_impl_EmacsKey_1), (77, false, M_irepeated), (80, false, M_ikill), (81, false, M_iemacsCtrl), (82, false, M_ibell)] ⟨[], [], [], []⟩ 65
theorem S_iEmacsKey : Sound Tryz.prog 65 M_iEmacsKey := sound _ (cons_sound S_icanKey (cons_sound S_iplain (cons_sound S_iemacsMeta (cons_sound S_impl_EmacsKey_1 (cons_sound S_irepeated (cons_sound S_ikill (cons_sound S_iemacsCtrl (cons_sound S_ibell none_sound)))))))) hmix Tryz.func65 (eqOf (by kernel_rfl))
noncomputable def M_iHistFind : Mean := evFun Tryz.prog [(30, false, M_iHistOk), (24, false, M_iin), (32, false, M_strings_Contains)] ⟨[(8, [12, 11, 5, 4, 3, 1], [5])], [], [], []⟩ 10
theorem S_iHistFind : Sound Tryz.prog 10 M_iHistFind := sound _ (cons_sound S_iHistOk (cons_sound S_iin (cons_sound S_strings_Contains none_sound))) hmix Tryz.func10 (eqOf (by kernel_rfl))
noncomputable def M_iShowHit : Mean := evFun Tryz.prog [(8, false, M_iEdOk), (26, false, M_iPrintable), (12, false, M_iHistGet), (148, false, M_iLineOf), (33, false, M_iTextOf), (50, false, M_strings_Index), (40, false, M_iRunesOf), (43, false, M_icopyEd), (61, false, M_icopyLine), (64, false, M_icopyInts)] ⟨[(4, [36, 35, 34, 8, 5, 4, 3, 2], [8, 5, 4])], [], [(19, [], [(7, [3, 4, 5]), (9, [3, 4, 5]), (11, [4, 5]), (13, [5]), (15, [])])], []⟩ 119
theorem S_iShowHit : Sound Tryz.prog 119 M_iShowHit := sound _ (cons_sound S_iEdOk (cons_sound S_iPrintable (cons_sound S_iHistGet (cons_sound S_iLineOf (cons_sound S_iTextOf (cons_sound S_strings_Index (cons_sound S_iRunesOf (cons_sound S_icopyEd (cons_sound S_icopyLine (cons_sound S_icopyInts none_sound)))))))))) hmix Tryz.func119 (eqOf (by kernel_rfl))
noncomputable def M_ihunt : Mean := evFun Tryz.prog [(11, false, M_iHistLast), (33, false, M_iTextOf), (10, false, M_iHistFind), (119, false, M_iShowHit), (43, false, M_icopyEd)] ⟨[], [], [(3, [], [])], []⟩ 83
theorem S_ihunt : Sound Tryz.prog 83 M_ihunt := sound _ (cons_sound S_iHistLast (cons_sound S_iTextOf (cons_sound S_iHistFind (cons_sound S_iShowHit (cons_sound S_icopyEd none_sound))))) hmix Tryz.func83 (eqOf (by kernel_rfl))
noncomputable def M_ileft : Mean := evFun Tryz.prog [(43, false, M_icopyEd), (120, false, M_iinCommand)] ⟨[], [], [], []⟩ 84
theorem S_ileft : Sound Tryz.prog 84 M_ileft := sound _ (cons_sound S_icopyEd (cons_sound S_iinCommand none_sound)) hmix Tryz.func84 (eqOf (by kernel_rfl))
noncomputable def M_iSearchKey : Mean := evFun Tryz.prog [(74, false, M_icanKey), (64, false, M_icopyInts), (83, false, M_ihunt), (43, false, M_icopyEd), (84, false, M_ileft), (61, false, M_icopyLine)] ⟨[], [], [(5, [0, 1, 2, 3, 4, 5, 6, 7, 9, 10, 8, 11, 12, 13, 14, 15], [(8, [0, 1, 9, 10]), (14, [])])], []⟩ 66
theorem S_iSearchKey : Sound Tryz.prog 66 M_iSearchKey := sound _ (cons_sound S_icanKey (cons_sound S_icopyInts (cons_sound S_ihunt (cons_sound S_icopyEd (cons_sound S_ileft (cons_sound S_icopyLine none_sound)))))) hmix Tryz.func66 (eqOf (by kernel_rfl))
noncomputable def M_iHowOf : Mean := evFun Tryz.prog [] ⟨[], [], [], []⟩ 121
theorem S_iHowOf : Sound Tryz.prog 121 M_iHowOf := sound _ none_sound hmix Tryz.func121 (eqOf (by kernel_rfl))
noncomputable def M_iFindRune : Mean := evFun Tryz.prog [(109, false, M_iwithin)] ⟨[(6, [10, 9, 2, 0], []), (12, [11, 2, 0], []), (18, [12, 9, 2, 0], []), (24, [13, 2, 0], [])], [], [], []⟩ 149
theorem S_iFindRune : Sound Tryz.prog 149 M_iFindRune := sound _ (cons_sound S_iwithin none_sound) hmix Tryz.func149 (eqOf (by kernel_rfl))
noncomputable def M_iFindTo : Mean := evFun Tryz.prog [(109, false, M_iwithin), (149, false, M_iFindRune)] ⟨[(3, [19, 18, 3, 2, 1, 0], [])], [], [], []⟩ 122
theorem S_iFindTo : Sound Tryz.prog 122 M_iFindTo := sound _ (cons_sound S_iwithin (cons_sound S_iFindRune none_sound)) hmix Tryz.func122 (eqOf (by kernel_rfl))
noncomputable def M_iSpan : Mean := evFun Tryz.prog [(109, false, M_iwithin)] ⟨[], [], [], []⟩ 156
theorem S_iSpan : Sound Tryz.prog 156 M_iSpan := sound _ (cons_sound S_iwithin none_sound) hmix Tryz.func156 (eqOf (by kernel_rfl))
noncomputable def M_ityping : Mean := evFun Tryz.prog [] ⟨[], [], [], []⟩ 150
theorem S_ityping : Sound Tryz.prog 150 M_ityping := sound _ none_sound hmix Tryz.func150 (eqOf (by kernel_rfl))
noncomputable def M_ichange : Mean := evFun Tryz.prog [(82, false, M_ibell), (101, false, M_igoTo), (112, false, M_iset), (150, false, M_ityping), (111, false, M_iLineCut), (43, false, M_icopyEd), (113, false, M_iRingPut), (100, false, M_iput)] ⟨[], [], [(4, [], [(8, [])]), (9, [], [(8, [])]), (10, [], [(5, [])])], []⟩ 125
theorem S_ichange : Sound Tryz.prog 125 M_ichange := sound _ (cons_sound S_ibell (cons_sound S_igoTo (cons_sound S_iset (cons_sound S_ityping (cons_sound S_iLineCut (cons_sound S_icopyEd (cons_sound S_iRingPut (cons_sound S_iput none_sound)))))))) hmix Tryz.func125 (eqOf (by kernel_rfl))
noncomputable def M_imove : Mean := evFun Tryz.prog [(101, false, M_igoTo), (100, false, M_iput), (156, false, M_iSpan), (125, false, M_ichange)] ⟨[], [], [(2, [], [(8, [])])], []⟩ 128
theorem S_imove : Sound Tryz.prog 128 M_imove := sound _ (cons_sound S_igoTo (cons_sound S_iput (cons_sound S_iSpan (cons_sound S_ichange none_sound)))) hmix Tryz.func128 (eqOf (by kernel_rfl))
noncomputable def M_ifindIn : Mean := evFun Tryz.prog [(122, false, M_iFindTo), (82, false, M_ibell), (128, false, M_imove)] ⟨[], [], [], []⟩ 123
theorem S_ifindIn : Sound Tryz.prog 123 M_ifindIn := sound _ (cons_sound S_iFindTo (cons_sound S_ibell (cons_sound S_imove none_sound))) hmix Tryz.func123 (eqOf (by kernel_rfl))
noncomputable def M_iwaited : Mean := evFun Tryz.prog [(82, false, M_ibell), (101, false, M_igoTo), (100, false, M_iput), (121, false, M_iHowOf), (122, false, M_iFindTo), (43, false, M_icopyEd), (123, false, M_ifindIn)] ⟨[(9, [10, 9, 8, 6, 4, 3, 2], [9, 6, 4, 3])], [], [], []⟩ 85
theorem S_iwaited : Sound Tryz.prog 85 M_iwaited := sound _ (cons_sound S_ibell (cons_sound S_igoTo (cons_sound S_iput (cons_sound S_iHowOf (cons_sound S_iFindTo (cons_sound S_icopyEd (cons_sound S_ifindIn none_sound))))))) hmix Tryz.func85 (eqOf (by kernel_rfl))
noncomputable def M_iMotionTo : Mean := evFun Tryz.prog [(109, false, M_iwithin), (143, false, M_iisUpper), (151, false, M_impl_MotionTo_1), (77, false, M_irepeated), (153, false, M_impl_MotionTo_2), (154, false, M_impl_MotionTo_3), (110, false, M_iClassOf)] ⟨[(23, [13, 11, 4], [4])], [], [], []⟩ 127
theorem S_iMotionTo : Sound Tryz.prog 127 M_iMotionTo := sound _ (cons_sound S_iwithin (cons_sound S_iisUpper (cons_sound S_impl_MotionTo_1 (cons_sound S_irepeated (cons_sound S_impl_MotionTo_2 (cons_sound S_impl_MotionTo_3 (cons_sound S_iClassOf none_sound))))))) hmix Tryz.func127 (eqOf (by kernel_rfl))
noncomputable def M_imoveBy : Mean := evFun Tryz.prog [(127, false, M_iMotionTo), (128, false, M_imove)] ⟨[], [], [], []⟩ 124
theorem S_imoveBy : Sound Tryz.prog 124 M_imoveBy := sound _ (cons_sound S_iMotionTo (cons_sound S_imove none_sound)) hmix Tryz.func124 (eqOf (by kernel_rfl))
noncomputable def M_ispecial : Mean := evFun Tryz.prog [(43, false, M_icopyEd), (82, false, M_ibell), (118, false, M_isettled), (102, false, M_istep), (124, false, M_imoveBy), (125, false, M_ichange), (117, false, M_iseek)] ⟨[], [], [(1, [], [])], []⟩ 86
theorem S_ispecial : Sound Tryz.prog 86 M_ispecial := sound _ (cons_sound S_icopyEd (cons_sound S_ibell (cons_sound S_isettled (cons_sound S_istep (cons_sound S_imoveBy (cons_sound S_ichange (cons_sound S_iseek none_sound))))))) hmix Tryz.func86 (eqOf (by kernel_rfl))
noncomputable def M_ibegun : Mean := evFun Tryz.prog [(43, false, M_icopyEd), (24, false, M_iin), (121, false, M_iHowOf), (82, false, M_ibell), (123, false, M_ifindIn), (47, false, M_iisAmong)] ⟨[], [], [(18, [], [(4, [1, 2]), (6, []), (8, [])])], []⟩ 126
theorem S_ibegun : Sound Tryz.prog 126 M_ibegun := sound _ (cons_sound S_icopyEd (cons_sound S_iin (cons_sound S_iHowOf (cons_sound S_ibell (cons_sound S_ifindIn (cons_sound S_iisAmong none_sound)))))) hmix Tryz.func126 (eqOf (by kernel_rfl))
noncomputable def M_ipaste : Mean := evFun Tryz.prog [(139, false, M_iRingTop), (97, false, M_itimes), (101, false, M_igoTo), (136, false, M_iLinePut), (82, false, M_ibell), (100, false, M_iput)] ⟨[], [], [(5, [], [(9, [])])], []⟩ 129
theorem S_ipaste : Sound Tryz.prog 129 M_ipaste := sound _ (cons_sound S_iRingTop (cons_sound S_itimes (cons_sound S_igoTo (cons_sound S_iLinePut (cons_sound S_ibell (cons_sound S_iput none_sound)))))) hmix Tryz.func129 (eqOf (by kernel_rfl))
noncomputable def M_iturnCase : Mean := evFun Tryz.prog [(82, false, M_ibell), (101, false, M_igoTo), (60, false, M_iisLower), (144, false, M_iupper), (145, false, M_ilower), (100, false, M_iput)] ⟨[(6, [8, 7, 4, 2], [7, 4, 2])], [], [(10, [], [(6, [])]), (11, [], [(6, [])])], []⟩ 130
theorem S_iturnCase : Sound Tryz.prog 130 M_iturnCase := sound _ (cons_sound S_ibell (cons_sound S_igoTo (cons_sound S_iisLower (cons_sound S_iupper (cons_sound S_ilower (cons_sound S_iput none_sound)))))) hmix Tryz.func130 (eqOf (by kernel_rfl))
noncomputable def M_ibegin : Mean := evFun Tryz.prog [(127, false, M_iMotionTo), (82, false, M_ibell), (101, false, M_igoTo), (112, false, M_iset), (150, false, M_ityping)] ⟨[], [], [(1, [], []), (11, [], [(8, [])])], []⟩ 131
theorem S_ibegin : Sound Tryz.prog 131 M_ibegin := sound _ (cons_sound S_iMotionTo (cons_sound S_ibell (cons_sound S_igoTo (cons_sound S_iset (cons_sound S_ityping none_sound))))) hmix Tryz.func131 (eqOf (by kernel_rfl))
noncomputable def M_icommand : Mean := evFun Tryz.prog [(126, false, M_ibegun), (125, false, M_ichange), (127, false, M_iMotionTo), (128, false, M_imove), (82, false, M_ibell), (43, false, M_icopyEd), (129, false, M_ipaste), (130, false, M_iturnCase), (116, false, M_iundo), (102, false, M_istep), (117, false, M_iseek), (131, false, M_ibegin)] ⟨[], [], [(1, [], [])], []⟩ 87
theorem S_icommand : Sound Tryz.prog 87 M_icommand := sound _ (cons_sound S_ibegun (cons_sound S_ichange (cons_sound S_iMotionTo (cons_sound S_imove (cons_sound S_ibell (cons_sound S_icopyEd (cons_sound S_ipaste (cons_sound S_iturnCase (cons_sound S_iundo (cons_sound S_istep (cons_sound S_iseek (cons_sound S_ibegin none_sound)))))))))))) hmix Tryz.func87 (eqOf (by kernel_rfl))
noncomputable def M_iViKey : Mean := evFun Tryz.prog [(74, false, M_icanKey), (75, false, M_iplain), (82, false, M_ibell), (43, false, M_icopyEd), (85, false, M_iwaited), (86, false, M_ispecial), (87, false, M_icommand)] ⟨[], [], [], []⟩ 67
theorem S_iViKey : Sound Tryz.prog 67 M_iViKey := sound _ (cons_sound S_icanKey (cons_sound S_iplain (cons_sound S_ibell (cons_sound S_icopyEd (cons_sound S_iwaited (cons_sound S_ispecial (cons_sound S_icommand none_sound))))))) hmix Tryz.func67 (eqOf (by kernel_rfl))
noncomputable def M_iEdKey : Mean := evFun Tryz.prog [(65, false, M_iEmacsKey), (66, false, M_iSearchKey), (67, false, M_iViKey)] ⟨[], [], [], []⟩ 44
theorem S_iEdKey : Sound Tryz.prog 44 M_iEdKey := sound _ (cons_sound S_iEmacsKey (cons_sound S_iSearchKey (cons_sound S_iViKey none_sound))) hmix Tryz.func44 (eqOf (by kernel_rfl))
noncomputable def M_iEdKeys : Mean := evFun Tryz.prog [(8, false, M_iEdOk), (30, false, M_iHistOk), (42, false, M_iKeyOk), (43, false, M_icopyEd), (44, false, M_iEdKey)] ⟨[(12, [40, 39, 38, 11, 10, 6, 4], [10, 6, 4]), (4, [27, 26, 25, 6, 4, 3, 2], [6, 4, 3])], [], [], []⟩ 22
theorem S_iEdKeys : Sound Tryz.prog 22 M_iEdKeys := sound _ (cons_sound S_iEdOk (cons_sound S_iHistOk (cons_sound S_iKeyOk (cons_sound S_icopyEd (cons_sound S_iEdKey none_sound))))) hmix Tryz.func22 (eqOf (by kernel_rfl))
noncomputable def M_iEdTyped : Mean := evFun Tryz.prog [(20, false, M_iParts), (21, false, M_iTextKey), (22, false, M_iEdKeys)] ⟨[(3, [16, 15, 14, 8, 6, 4, 3], [6, 4, 3])], [], [], []⟩ 7
theorem S_iEdTyped : Sound Tryz.prog 7 M_iEdTyped := sound _ (cons_sound S_iParts (cons_sound S_iTextKey (cons_sound S_iEdKeys none_sound))) hmix Tryz.func7 (eqOf (by kernel_rfl))
noncomputable def M_lsameInts : Mean := evFun Tryz.prog [] ⟨[(4, [13, 12, 1, 0], [])], [], [(6, [], [])], []⟩ 9
theorem S_lsameInts : Sound Tryz.prog 9 M_lsameInts := sound _ none_sound hmix Tryz.func9 (eqOf (by kernel_rfl))
noncomputable def M_iLineText : Mean := evFun Tryz.prog [(23, false, M_iLineOk), (33, false, M_iTextOf)] ⟨[], [], [], []⟩ 13
theorem S_iLineText : Sound Tryz.prog 13 M_iLineText := sound _ (cons_sound S_iLineOk (cons_sound S_iTextOf none_sound)) hmix Tryz.func13 (eqOf (by kernel_rfl))
end Go.Proofs.YtjhdikdopdcfcaaGreatDoor
namespace Go.Proofs.YtjhdikdopdcfcaaGreatDoor
open Go.RowKit
set_option linter.unusedSimpArgs false
set_option linter.unusedVariables false
set_option maxHeartbeats 4000000
set_option maxRecDepth 10000
theorem E_iin (x a b : Int) : M_iin [V.v (.int .i64 x), V.v (.int .i64 a), V.v (.int .i64 b)] [] [] = some ⟨V.v (.bool (inR x a b)), [], []⟩ := by
  unfold M_iin
  by_cases h : a ≤ x <;> simp [Tryz.func24, Tryz.f24, h, inR]
end Go.Proofs.YtjhdikdopdcfcaaGreatDoor
namespace Go.Proofs.YtjhdikdopdcfcaaGreatDoor
open Go.RowKit
mutual
def bnD (B : Nat) : D → Bool
  | .a _ => true
  | .l rows => decide (rows.length ≤ B) && bnT B rows
  | .gone => false
def bnR (B : Nat) : List D → Bool
  | [] => true
  | d :: r => bnD B d && bnR B r
def bnT (B : Nat) : List (List D) → Bool
  | [] => true
  | r :: rows => bnR B r && bnT B rows
end
def bnL (B : Nat) (rows : List (List D)) : Bool := decide (rows.length ≤ B) && bnT B rows
abbrev smL (rows : List (List D)) : Bool := bnL 1000000000 rows
abbrev smR (r : List D) : Bool := bnR 1000000000 r
variable {B : Nat}
@[simp] theorem bnD_a (v : Value) : bnD B (.a v) = true := id rfl
@[simp] theorem bnD_l (rows : List (List D)) : bnD B (.l rows) = bnL B rows := id rfl
@[simp] theorem bnR_nil : bnR B [] = true := id rfl
@[simp] theorem bnR_cons (d : D) (r : List D) : bnR B (d :: r) = (bnD B d && bnR B r) := id rfl
@[simp] theorem bnL_nil : bnL B [] = true := by simp [bnL, bnT]
theorem bnL_len {rows : List (List D)} (h : bnL B rows = true) : rows.length ≤ B := by
  unfold bnL at h; rw [Bool.and_eq_true, decide_eq_true_eq] at h; exact h.1
theorem bnT_at : ∀ {rows : List (List D)} {j : Nat} {r : List D}, bnT B rows = true → rows[j]? = some r → bnR B r = true
  | [], j, r, _, e => by simp at e
  | x :: rows, j, r, h, e => by
    have h : (bnR B x && bnT B rows) = true := h
    rw [Bool.and_eq_true] at h
    cases j with
    | zero => simp at e; subst e; exact h.1
    | succ j => exact bnT_at h.2 (by simpa using e)
theorem bnT_of : ∀ {rows : List (List D)}, (∀ (j : Nat) (r : List D), rows[j]? = some r → bnR B r = true) → bnT B rows = true
  | [], _ => rfl
  | x :: rows, h => by
    show (bnR B x && bnT B rows) = true
    rw [h 0 x rfl, bnT_of fun j r e => h (j + 1) r (by simpa using e)]; rfl
theorem bnL_at {rows : List (List D)} {j : Nat} {r : List D} (h : bnL B rows = true) (e : rows[j]? = some r) : bnR B r = true := by
  unfold bnL at h; rw [Bool.and_eq_true] at h; exact bnT_at h.2 e
theorem bnL_of {rows : List (List D)} (hl : rows.length ≤ B) (h : ∀ (j : Nat) (r : List D), rows[j]? = some r → bnR B r = true) : bnL B rows = true := by
  unfold bnL; rw [bnT_of h, decide_eq_true hl]; rfl
theorem smL_len {rows : List (List D)} (h : smL rows = true) : rows.length ≤ 1000000000 := bnL_len h
theorem smL_at {rows : List (List D)} {j : Nat} {r : List D} (h : smL rows = true) (e : rows[j]? = some r) : smR r = true := bnL_at h e
theorem bnT_flat : ∀ {rows : List (List D)}, rowsFlat rows = true → bnT B rows = true
  | [], _ => rfl
  | r :: rows, h => by
    have h : (r.all flatD && rowsFlat rows) = true := h
    rw [Bool.and_eq_true] at h
    have : ∀ l : List D, l.all flatD = true → bnR B l = true := by
      intro l; induction l with
      | nil => intro _; rfl
      | cons d l ih =>
        intro h
        rw [List.all_cons, Bool.and_eq_true] at h
        rw [bnR_cons, ih h.2]
        cases d with
        | a v => rfl
        | l rows => cases h.1
        | gone => cases h.1
    show (bnR B r && bnT B rows) = true
    rw [this r h.1, bnT_flat h.2]; rfl
theorem bnL_flat {rows : List (List D)} (h : rowsFlat rows = true) (hl : rows.length ≤ B) : bnL B rows = true := by
  unfold bnL; rw [bnT_flat h, decide_eq_true hl]; rfl
theorem bnL_ints {l : List Int} (h : l.length ≤ B) : bnL B (ints l) = true := bnL_flat (ints_flat l) (by simpa using h)
end Go.Proofs.YtjhdikdopdcfcaaGreatDoor
namespace Go.Proofs.YtjhdikdopdcfcaaGreatDoor
open Go.RowKit
set_option linter.unusedSimpArgs false
set_option linter.unusedVariables false
set_option maxHeartbeats 4000000
set_option maxRecDepth 10000
def runeOk (r : Int) : Bool := inR r 0 1114111 && !inR r 55296 57343
def printable (r : Int) : Bool := runeOk r && decide (32 ≤ r) && !inR r 127 159
def typed (r : Int) : Bool := printable r || r == 9 || r == 10
theorem firstBad {α : Type} (p : α → Bool) (l : List α) : l.all p = true ∨ (l.all p = false ∧ ∃ N, ∃ h : N < l.length, p l[N] = false ∧ ∀ j (hj : j < l.length), j < N → p l[j] = true) := by
  induction l with
  | nil => exact .inl rfl
  | cons x l ih =>
    cases hx : p x
    · exact .inr ⟨by simp [hx], 0, by simp, hx, fun j hj h => by omega⟩
    · rcases ih with h | ⟨h, N, hN, h1, h2⟩
      · exact .inl (by simp [hx, h])
      · refine .inr ⟨by simp [hx, h], N + 1, by simpa using hN, by simpa using h1, fun j hj hlt => ?_⟩
        cases j with
        | zero => simpa using hx
        | succ j => simpa using h2 j (by simpa using hj) (by omega)
theorem E_iRuneOk (r : Int) : M_iRuneOk [V.v (.int .i64 r)] [] [] = some ⟨V.v (.bool (runeOk r)), [], []⟩ := by
  unfold M_iRuneOk
  cases h1 : inR r 0 1114111 <;> cases h2 : inR r 55296 57343 <;> simp [Tryz.func48, Tryz.f48, E_iin, runeOk, h1, h2]
theorem E_sRuneOk (r : Int) : M_sRuneOk [V.v (.int .i64 r)] [] [] = some ⟨V.v (.bool (runeOk r)), [], []⟩ := by
  unfold M_sRuneOk
  by_cases h1 : 0 ≤ r <;> by_cases h2 : r ≤ 1114111 <;> by_cases h3 : r < 55296 <;> by_cases h4 : 57343 < r <;> simp [Tryz.func157, Tryz.f157, runeOk, inR, h1, h2, h3, h4] <;> omega
theorem E_iPrintable (r : Int) : M_iPrintable [V.v (.int .i64 r)] [] [] = some ⟨V.v (.bool (printable r)), [], []⟩ := by
  unfold M_iPrintable
  cases h1 : runeOk r <;> by_cases h3 : 32 ≤ r <;> cases h2 : inR r 127 159 <;> simp [Tryz.func26, Tryz.f26, E_iin, E_iRuneOk, printable, h1, h2, h3]
theorem E_sPrintable (r : Int) : M_sPrintable [V.v (.int .i64 r)] [] [] = some ⟨V.v (.bool (printable r)), [], []⟩ := by
  unfold M_sPrintable
  cases h1 : runeOk r <;> by_cases h3 : 32 ≤ r <;> by_cases h4 : r < 127 <;> by_cases h5 : 159 < r <;> simp [Tryz.func134, Tryz.f134, E_sRuneOk, printable, inR, h1, h3, h4, h5] <;> omega
theorem E_iadmissible (r : Int) : M_iadmissible [V.v (.int .i64 r)] [] [] = some ⟨V.v (.bool (typed r)), [], []⟩ := by
  unfold M_iadmissible
  by_cases h3 : r = 9
  · subst h3; cases h1 : printable 9 <;> simp [Tryz.func68, Tryz.f68, E_iPrintable, typed, h1]
  by_cases h4 : r = 10
  · subst h4; cases h1 : printable 10 <;> simp [Tryz.func68, Tryz.f68, E_iPrintable, typed, h1]
  cases h1 : printable r <;> simp [Tryz.func68, Tryz.f68, E_iPrintable, typed, h1, h3, h4]
theorem E_sl13Typed (r : Int) : M_sl13Typed [V.v (.int .i64 r)] [] [] = some ⟨V.v (.bool (typed r)), [], []⟩ := by
  unfold M_sl13Typed
  by_cases h3 : r = 9
  · subst h3; cases h1 : printable 9 <;> simp [Tryz.func92, Tryz.f92, E_sPrintable, typed, h1]
  by_cases h4 : r = 10
  · subst h4; cases h1 : printable 10 <;> simp [Tryz.func92, Tryz.f92, E_sPrintable, typed, h1]
  cases h1 : printable r <;> simp [Tryz.func92, Tryz.f92, E_sPrintable, typed, h1, h3, h4]
theorem E_sl13AllTyped (l : List Int) (hl : l.length ≤ 1000000000) : M_sl13AllTyped [.lst (some 0) (ints l)] [] [] = some ⟨V.v (.bool (l.all typed)), [], []⟩ := by
  unfold M_sl13AllTyped
  simp [Tryz.func71, Tryz.f71]
  rcases firstBad typed l with h | ⟨h, N, hN, h1, h2⟩
  · rw [loopV_go (fun j => .on ⟨[(7, V.v (.int .i64 ((j : Int)))), (6, V.v (.int .i64 ((l.length : Int)))), (5, .lst (some 0) (ints l))], [], [], []⟩) l.length ?_ ?_]
    · simp [h]
    · simp
    · intro j hj
      have hw := w64 (j + 1) (by omega)
      have := List.all_eq_true.1 h l[j] (List.getElem_mem hj)
      simp [hj, hw, ints_get hj, E_sl13Typed, this]
  · rw [loopV_go (fun j => .on ⟨[(7, V.v (.int .i64 ((j : Int)))), (6, V.v (.int .i64 ((l.length : Int)))), (5, .lst (some 0) (ints l))], [], [], []⟩) N ?_ ?_]
    · simp [h, hN, h1, ints_get hN, E_sl13Typed]
    · simp
    · intro j hj
      have hj' : j < l.length := by omega
      have hw := w64 (j + 1) (by omega)
      simp [hj', hw, ints_get hj', E_sl13Typed, h2 j hj' hj]
end Go.Proofs.YtjhdikdopdcfcaaGreatDoor
namespace Go.Proofs.YtjhdikdopdcfcaaGreatDoor
open Go.RowKit
set_option linter.unusedSimpArgs false
set_option linter.unusedVariables false
set_option maxHeartbeats 8000000
set_option maxRecDepth 10000
theorem loopV_ex {f : Q → Option (Ex × Q)} {s : Q} {R : Option (Ex × Q)} (hL : loopV f s = R) {σ : Type} (st : Nat → σ → Q) (n : Nat) (I : Nat → σ → Prop) (a0 : σ) (h0 : s = st 0 a0) (i0 : I 0 a0)
    (hs : ∀ j a, j < n → I j a → ∃ b, I (j + 1) b ∧ f (st j a) = some (.normal, st (j + 1) b)) : ∃ a, I n a ∧ nextV f (f (st n a)) = R := by
  have key : ∀ k, k ≤ n → ∃ a, I k a ∧ loopV f (st k a) = R := by
    intro k
    induction k with
    | zero => intro _; exact ⟨a0, i0, by rw [← h0]; exact hL⟩
    | succ k ih =>
      intro hk
      obtain ⟨a, ha, e⟩ := ih (by omega)
      obtain ⟨b, hb, e2⟩ := hs k a (by omega) ha
      rw [loopV_unf, e2, nextV_normal] at e
      exact ⟨b, hb, e⟩
  obtain ⟨a, ha, e⟩ := key n (Nat.le_refl _)
  exact ⟨a, ha, by rw [← loopV_unf]; exact e⟩
theorem land_small (A m : Nat) (hm : m < 9223372036854775808) : 0 ≤ IntKind.i64.wrap ((A &&& m : Nat) : Int) ∧ IntKind.i64.wrap ((A &&& m : Nat) : Int) ≤ m := by
  have h : A &&& m ≤ m := Nat.and_le_right
  rw [w64 _ (by omega)]
  omega
theorem bits64 : IntKind.i64.bits = 64 := rfl
def curV (b : List UInt8) (i h : Int) : List V := [.lst (some 0) (byts b), V.v (.int .i64 i), V.v (.int .i64 h)]
theorem EX_sl01New (b : List UInt8) (hb : b.length ≤ 1048576) : ∃ h, M_sl01New [.lst (some 0) (byts b)] [] [] = some ⟨.ref 0 0, [curV b 0 h], []⟩ := by
  generalize hE : M_sl01New [.lst (some 0) (byts b)] [] [] = R
  unfold M_sl01New at hE
  have w0 := w64 (600128 + (b.length : Int)) (by omega)
  simp [Tryz.func14, Tryz.f14, bits64, w0] at hE
  generalize hL : loopV _ _ = L at hE
  obtain ⟨h, -, e⟩ := loopV_ex hL (σ := Int) (fun j h => .on ⟨[(4, V.v (.int .i64 ((j : Int)))), (3, V.v (.int .i64 h)), (0, .lst (some 0) (byts b))], [], [], []⟩) (min b.length 4000) (fun _ _ => True) (600128 + (b.length : Int)) (by simp) trivial (fun j h hj _ => by
    have h1 : j < b.length := by omega
    have h2 : (j : Int) < 4000 := by omega
    have hw := w64 (j + 1) (by omega)
    simp [h1, h2, hw, byts_get h1, bits64])
  subst e
  by_cases h1 : b.length ≤ 4000
  · have h2 : min b.length 4000 = b.length := by omega
    rw [h2] at hE
    simp at hE
    exact ⟨h, hE.symm⟩
  · have h2 : min b.length 4000 = 4000 := by omega
    have h3 : 4000 < b.length := by omega
    have h4 : (4000 : Int) < b.length := by omega
    rw [h2] at hE
    simp [h3, h4] at hE
    exact ⟨h, hE.symm⟩
theorem EX_sl01Byte (b : List UInt8) (i h : Int) (hb : b.length ≤ 1048576) (hi : 0 ≤ i ∧ i ≤ b.length) : ∃ x i' h', M_sl01Byte [.ref 0 0] [curV b i h] [] = some ⟨V.v (.int .i64 x), [curV b i' h'], []⟩ ∧ (0 ≤ x ∧ x ≤ 255) ∧ 0 ≤ i' ∧ i' ≤ b.length := by
  obtain ⟨k, rfl⟩ := Int.eq_ofNat_of_zero_le hi.1
  generalize hE : M_sl01Byte [.ref 0 0] [curV b k h] [] = R
  unfold M_sl01Byte curV at hE
  by_cases h1 : k < b.length
  · have hw := w64 ((k : Int) + 1) (by omega)
    simp [Tryz.func36, Tryz.f36, h1, bits64, byts_get h1, hw] at hE
    exact ⟨_, _, _, hE.symm, land_small _ 255 (by omega), by omega, by omega⟩
  · simp [Tryz.func36, Tryz.f36, h1, bits64] at hE
    exact ⟨_, _, _, hE.symm, land_small _ 255 (by omega), hi⟩
theorem EX_sl01Below (b : List UInt8) (i h n : Int) (hb : b.length ≤ 1048576) (hi : 0 ≤ i ∧ i ≤ b.length) (hn : 0 < n) : ∃ x i' h', M_sl01Below [.ref 0 0, V.v (.int .i64 n)] [curV b i h] [] = some ⟨V.v (.int .i64 x), [curV b i' h'], []⟩ ∧ (0 ≤ x ∧ x < n) ∧ 0 ≤ i' ∧ i' ≤ b.length := by
  have h0 : ¬ n ≤ 0 := by omega
  have hn0 : ¬ n = 0 := by omega
  have tm : ∀ x : Int, 0 ≤ x → 0 ≤ x.tmod n ∧ x.tmod n < n := fun x hx => ⟨Int.tmod_nonneg n hx, Int.tmod_lt_of_pos x hn⟩
  obtain ⟨x1, i1, h1, e1, r1, j1⟩ := EX_sl01Byte b i h hb hi
  unfold curV at e1
  unfold M_sl01Below curV
  by_cases h2 : n ≤ 256
  · refine ⟨x1.tmod n, i1, h1, ?_, tm x1 r1.1, j1⟩
    simp [Tryz.func18, Tryz.f18, h0, hn0, h2, e1]
  · obtain ⟨x2, i2, h2', e2, r2, j2⟩ := EX_sl01Byte b i1 h1 hb j1
    obtain ⟨x3, i3, h3, e3, r3, j3⟩ := EX_sl01Byte b i2 h2' hb j2
    obtain ⟨x4, i4, h4, e4, r4, j4⟩ := EX_sl01Byte b i3 h3 hb j3
    unfold curV at e2 e3 e4
    have q1 := w64 (x1 * 16777216) (by omega)
    have q2 := w64 (x2 * 65536) (by omega)
    have q3 := w64 (x1 * 16777216 + x2 * 65536) (by omega)
    have q4 := w64 (x3 * 256) (by omega)
    have q5 := w64 (x1 * 16777216 + x2 * 65536 + x3 * 256) (by omega)
    have q6 := w64 (x1 * 16777216 + x2 * 65536 + x3 * 256 + x4) (by omega)
    refine ⟨(x1 * 16777216 + x2 * 65536 + x3 * 256 + x4).tmod n, i4, h4, ?_, tm _ (by omega), j4⟩
    simp [Tryz.func18, Tryz.f18, h0, hn0, h2, e1, e2, e3, e4, q1, q2, q3, q4, q5, q6]
theorem pr_range {r : Int} (h : (33 ≤ r ∧ r ≤ 126) ∨ (160 ≤ r ∧ r ≤ 500) ∨ (19968 ≤ r ∧ r ≤ 22000)) : printable r = true := by
  have h1 : inR r 0 1114111 = true := inR_iff.2 (by omega)
  have h2 : inR r 55296 57343 = false := inR_no (by rw [inR_iff]; omega)
  have h3 : inR r 127 159 = false := inR_no (by rw [inR_iff]; omega)
  have h4 : 32 ≤ r := by omega
  simp [printable, runeOk, h1, h2, h3, h4]
theorem EX_sl02Rune (b : List UInt8) (i h : Int) (hb : b.length ≤ 1048576) (hi : 0 ≤ i ∧ i ≤ b.length) : ∃ x i' h', M_sl02Rune [.ref 0 0] [curV b i h] [] = some ⟨V.v (.int .i64 x), [curV b i' h'], []⟩ ∧ printable x = true ∧ 0 ≤ i' ∧ i' ≤ b.length := by
  obtain ⟨k, i1, h1, e1, r1, j1⟩ := EX_sl01Below b i h 12 hb hi (by omega)
  unfold curV at e1
  generalize hE : M_sl02Rune [.ref 0 0] [curV b i h] [] = R
  unfold M_sl02Rune curV at hE
  by_cases k9 : k < 9
  · obtain ⟨q, i2, h2, e2, r2, j2⟩ := EX_sl01Below b i1 h1 16 hb j1 (by omega)
    unfold curV at e2
    obtain ⟨m, rfl⟩ := Int.eq_ofNat_of_zero_le r2.1
    have hm : m = 0 ∨ m = 1 ∨ m = 2 ∨ m = 3 ∨ m = 4 ∨ m = 5 ∨ m = 6 ∨ m = 7 ∨ m = 8 ∨ m = 9 ∨ m = 10 ∨ m = 11 ∨ m = 12 ∨ m = 13 ∨ m = 14 ∨ m = 15 := by omega
    have hm2 : (m : Int) < 16 := by omega
    rcases hm with rfl | rfl | rfl | rfl | rfl | rfl | rfl | rfl | rfl | rfl | rfl | rfl | rfl | rfl | rfl | rfl <;>
      (simp [Tryz.func70, Tryz.f70, e1, k9, e2] at hE; exact ⟨_, _, _, hE.symm, by decide, j2⟩)
  by_cases k10 : k = 9
  · subst k10
    obtain ⟨q, i2, h2, e2, r2, j2⟩ := EX_sl01Below b i1 h1 94 hb j1 (by omega)
    unfold curV at e2
    have w := w64 (33 + q) (by omega)
    simp [Tryz.func70, Tryz.f70, e1, e2, w] at hE
    exact ⟨_, _, _, hE.symm, pr_range (by omega), j2⟩
  by_cases k11 : k = 10
  · subst k11
    obtain ⟨q, i2, h2, e2, r2, j2⟩ := EX_sl01Below b i1 h1 300 hb j1 (by omega)
    unfold curV at e2
    have w := w64 (160 + q) (by omega)
    simp [Tryz.func70, Tryz.f70, e1, e2, w] at hE
    exact ⟨_, _, _, hE.symm, pr_range (by omega), j2⟩
  obtain ⟨q, i2, h2, e2, r2, j2⟩ := EX_sl01Below b i1 h1 2000 hb j1 (by omega)
  unfold curV at e2
  have w := w64 (19968 + q) (by omega)
  simp [Tryz.func70, Tryz.f70, e1, e2, k9, k10, k11, w] at hE
  exact ⟨_, _, _, hE.symm, pr_range (by omega), j2⟩
theorem EX_sl02Runes (b : List UInt8) (i h n : Int) (hb : b.length ≤ 1048576) (hi : 0 ≤ i ∧ i ≤ b.length) (hn : 0 ≤ n ∧ n ≤ 1000) : ∃ (l : List Int) (i' h' : Int), M_sl02Runes [.ref 0 0, V.v (.int .i64 n)] [curV b i h] [] = some ⟨.own 0, [curV b i' h'], [(0, ints l)]⟩ ∧ l.all printable = true ∧ (l.length : Int) ≤ n ∧ 0 ≤ i' ∧ i' ≤ b.length := by
  obtain ⟨k, i1, h1, e1, r1, j1⟩ := EX_sl01Below b i h (n + 1) hb hi (by omega)
  unfold curV at e1
  have w := w64 (n + 1) (by omega)
  obtain ⟨m, rfl⟩ := Int.eq_ofNat_of_zero_le r1.1
  generalize hE : M_sl02Runes [.ref 0 0, V.v (.int .i64 n)] [curV b i h] [] = R
  unfold M_sl02Runes curV at hE
  simp [Tryz.func52, Tryz.f52, w, e1] at hE
  generalize hL : loopV _ _ = L at hE
  obtain ⟨⟨l, i2, h2⟩, ⟨a1, a2, a3⟩, e⟩ := loopV_ex hL (σ := List Int × Int × Int) (fun j a => .on ⟨[(6, V.v (.int .i64 ((m : Int) - j))), (5, .own 2000000000), (0, .ref 1000000000 0)], [(1000000000, [.lst (some 0) (byts b), V.v (.int .i64 a.2.1), V.v (.int .i64 a.2.2)])], [(2000000000, ints a.1)], []⟩) m (fun j a => a.1.all printable = true ∧ a.1.length = j ∧ 0 ≤ a.2.1 ∧ a.2.1 ≤ b.length) ([], i1, h1) (by simp [ints_nil]) ⟨rfl, rfl, j1⟩ (fun j a hj ⟨p1, p2, p3⟩ => by
    obtain ⟨l, i2, h2⟩ := a
    simp only at p1 p2 p3
    obtain ⟨x, i3, h3, e3, p4, j3⟩ := EX_sl02Rune b i2 h2 hb p3
    unfold curV at e3
    have g : (0 : Int) < (m : Int) - j := by omega
    have hw := w64 ((m : Int) - j - 1) (by omega)
    have hw2 : (m : Int) - j - 1 = (m : Int) - ((j : Int) + 1) := by omega
    rw [hw2] at hw
    refine ⟨(l ++ [x], i3, h3), ⟨by simp [p1, p4], by simp [p2], j3⟩, ?_⟩
    simp [hj, e3, hw2, hw, p2]
    simp (disch := omega) only [grd_pos]
    simp [hw2, hw, ints_cons, ints_nil])
  subst e
  simp at hE
  simp only at a1 a2 a3
  exact ⟨l, i2, h2, hE.symm, a1, by omega, a3⟩
theorem ints_setD (l : List Int) (i : Nat) (x : Int) : (ints l).set i [D.a (.int .i64 x)] = ints (l.set i x) := by
  show (l.map c_ints.enc).set i (c_ints.enc x) = (l.set i x).map c_ints.enc
  rw [List.map_set]
theorem all_set {p : Int → Bool} {l : List Int} {i : Nat} {x : Int} (h : l.all p = true) (hx : p x = true) : (l.set i x).all p = true := by
  refine List.all_eq_true.2 fun y hy => ?_
  rcases List.mem_or_eq_of_mem_set hy with h1 | h1
  · exact List.all_eq_true.1 h y h1
  · rw [h1]; exact hx
theorem printable_typed {r : Int} (h : printable r = true) : typed r = true := by simp [typed, h]
theorem EX_sl13Runes (b : List UInt8) (i h n : Int) (hb : b.length ≤ 1048576) (hi : 0 ≤ i ∧ i ≤ b.length) (hn : 0 ≤ n ∧ n ≤ 1000) : ∃ (l : List Int) (i' h' : Int), M_sl13Runes [.ref 0 0, V.v (.int .i64 n)] [curV b i h] [] = some ⟨.own 0, [curV b i' h'], [(0, ints l)]⟩ ∧ l.all typed = true ∧ (l.length : Int) ≤ n ∧ 0 ≤ i' ∧ i' ≤ b.length := by
  obtain ⟨l0, i1, h1, e1, q1, q2, j1⟩ := EX_sl02Runes b i h n hb hi hn
  unfold curV at e1
  have q3 : l0.all typed = true := List.all_eq_true.2 fun x hx => printable_typed (List.all_eq_true.1 q1 x hx)
  generalize hE : M_sl13Runes [.ref 0 0, V.v (.int .i64 n)] [curV b i h] [] = R
  unfold M_sl13Runes curV at hE
  simp [Tryz.func34, Tryz.f34, e1] at hE
  generalize hL : loopV _ _ = L at hE
  obtain ⟨⟨l, i2, h2⟩, ⟨a1, a2, a3⟩, e⟩ := loopV_ex hL (σ := List Int × Int × Int) (fun j a => .on ⟨[(13, V.v (.int .i64 ((j : Int)))), (12, V.v (.int .i64 ((l0.length : Int)))), (5, .own 2000000000), (0, .ref 1000000000 0)], [(1000000000, [.lst (some 0) (byts b), V.v (.int .i64 a.2.1), V.v (.int .i64 a.2.2)])], [(2000000000, ints a.1)], []⟩) l0.length (fun j a => a.1.all typed = true ∧ a.1.length = l0.length ∧ 0 ≤ a.2.1 ∧ a.2.1 ≤ b.length) (l0, i1, h1) (by simp) ⟨q3, rfl, j1⟩ (fun j a hj ⟨p1, p2, p3⟩ => by
    obtain ⟨l, i2, h2⟩ := a
    simp only at p1 p2 p3
    obtain ⟨x, i3, h3, e3, p4, j3⟩ := EX_sl01Below b i2 h2 14 hb p3 (by omega)
    unfold curV at e3
    have hw := w64 ((j : Int) + 1) (by omega)
    have hjl : j < l.length := by omega
    by_cases x0 : x = 0
    · subst x0
      refine ⟨(l.set j 9, i3, h3), ⟨all_set p1 (by decide), by simp [p2], j3⟩, ?_⟩
      simp [hj, hjl, hw, e3, ints_setD]
    by_cases x1 : x = 1
    · subst x1
      refine ⟨(l.set j 10, i3, h3), ⟨all_set p1 (by decide), by simp [p2], j3⟩, ?_⟩
      simp [hj, hjl, hw, e3, ints_setD]
    by_cases x2 : x = 2
    · subst x2
      obtain ⟨z, i4, h4, e4, p5, j4⟩ := EX_sl01Below b i3 h3 26 hb j3 (by omega)
      unfold curV at e4
      have w := w64 (65 + z) (by omega)
      refine ⟨(l.set j (65 + z), i4, h4), ⟨all_set p1 (printable_typed (pr_range (by omega))), by simp [p2], j4⟩, ?_⟩
      simp [hj, hjl, hw, e3, e4, w, ints_setD]
    refine ⟨(l, i3, h3), ⟨p1, p2, j3⟩, ?_⟩
    simp [hj, hjl, hw, e3, x0, x1, x2])
  subst e
  simp at hE
  simp only at a1 a2 a3
  exact ⟨l, i2, h2, hE.symm, a1, by omega, a3⟩
theorem EX_sl13Draw (b : List UInt8) (i h : Int) (hb : b.length ≤ 1048576) (hi : 0 ≤ i ∧ i ≤ b.length) : ∃ (l : List Int) (a : Nat) (i' h' : Int), M_sl13Draw [.ref 0 0] [curV b i h] [] = some ⟨.agg [.own 0, V.v (.int .i64 ((a : Int)))], [curV b i' h'], [(0, ints l)]⟩ ∧ l.all typed = true ∧ l.length ≤ 16 ∧ a ≤ l.length ∧ 0 ≤ i' ∧ i' ≤ b.length := by
  obtain ⟨l, i1, h1, e1, q1, q2, j1⟩ := EX_sl13Runes b i h 16 hb hi (by omega)
  obtain ⟨x, i2, h2, e2, q3, j2⟩ := EX_sl01Below b i1 h1 ((l.length : Int) + 1) hb j1 (by omega)
  obtain ⟨a, rfl⟩ := Int.eq_ofNat_of_zero_le q3.1
  unfold curV at e1 e2
  have w := w64 ((l.length : Int) + 1) (by omega)
  refine ⟨l, a, i2, h2, ?_, q1, by omega, by omega, j2⟩
  unfold M_sl13Draw curV
  simp [Tryz.func16, Tryz.f16, e1, e2, w]
end Go.Proofs.YtjhdikdopdcfcaaGreatDoor
namespace Go.Proofs.YtjhdikdopdcfcaaGreatDoor
open Go.RowKit
set_option linter.unusedSimpArgs false
set_option linter.unusedVariables false
set_option maxHeartbeats 4000000
set_option maxRecDepth 10000
def textOk (l : List Int) : Bool := decide (l.length ≤ 400) && l.all typed
def lineOk (t : List Int) (a : Int) : Bool := textOk t && inR a 0 t.length
def emptyL (t : List Int) (a : Int) : Bool := decide (t.length = 0) && (a == 0)
theorem E_iareAdmissible (l : List Int) (hl : l.length ≤ 1000000000) : M_iareAdmissible [.lst (some 0) (ints l)] [] [] = some ⟨V.v (.bool (textOk l)), [], []⟩ := by
  unfold M_iareAdmissible
  simp [Tryz.func45, Tryz.f45]
  by_cases hn : l.length ≤ 400
  · rcases firstBad typed l with h | ⟨h, N, hN, h1, h2⟩
    · rw [loopV_go (fun j => .on ⟨[(7, V.v (.int .i64 ((j : Int)))), (6, V.v (.int .i64 ((l.length : Int)))), (5, .lst (some 0) (ints l))], [], [], []⟩) l.length ?_ ?_]
      · simp [textOk, h, hn]
      · simp
      · intro j hj
        have hw := w64 (j + 1) (by omega)
        have := List.all_eq_true.1 h l[j] (List.getElem_mem hj)
        have h4 : ¬ (400 ≤ (j : Int)) := by omega
        simp [hj, hw, ints_get hj, E_iadmissible, this, h4]
    · rw [loopV_go (fun j => .on ⟨[(7, V.v (.int .i64 ((j : Int)))), (6, V.v (.int .i64 ((l.length : Int)))), (5, .lst (some 0) (ints l))], [], [], []⟩) N ?_ ?_]
      · have h4 : ¬ (400 ≤ (N : Int)) := by omega
        simp [textOk, h, hN, h1, ints_get hN, E_iadmissible, h4]
      · simp
      · intro j hj
        have hj' : j < l.length := by omega
        have hw := w64 (j + 1) (by omega)
        have h4 : ¬ (400 ≤ (j : Int)) := by omega
        simp [hj', hw, ints_get hj', E_iadmissible, h2 j hj' hj, h4]
  · rcases firstBad typed (l.take 400) with h | ⟨h, N, hN, h1, h2⟩
    · obtain ⟨N, hN⟩ : ∃ N : Nat, N = 400 := ⟨_, rfl⟩
      rw [loopV_go (fun j => .on ⟨[(7, V.v (.int .i64 ((j : Int)))), (6, V.v (.int .i64 ((l.length : Int)))), (5, .lst (some 0) (ints l))], [], [], []⟩) N ?_ ?_]
      · have h5 : N < l.length := by omega
        have h6 : 400 ≤ (N : Int) := by omega
        simp [textOk, hn, h5, ints_get h5, h6]
      · simp
      · intro j hj
        have hj' : j < l.length := by omega
        have hw := w64 (j + 1) (by omega)
        have h3 : typed l[j] = true := by
          have := List.all_eq_true.1 h ((l.take 400)[j]'(by simp; omega)) (List.getElem_mem _)
          simpa using this
        have h4 : ¬ (400 ≤ (j : Int)) := by omega
        simp [hj', hw, ints_get hj', E_iadmissible, h3, h4]
    · have hN' : N < 400 ∧ N < l.length := by simp at hN; omega
      rw [loopV_go (fun j => .on ⟨[(7, V.v (.int .i64 ((j : Int)))), (6, V.v (.int .i64 ((l.length : Int)))), (5, .lst (some 0) (ints l))], [], [], []⟩) N ?_ ?_]
      · have h4 : ¬ (400 ≤ (N : Int)) := by omega
        have h5 : typed l[N] = false := by simpa using h1
        simp [textOk, hn, hN'.2, h5, ints_get hN'.2, E_iadmissible, h4]
      · simp
      · intro j hj
        have hj' : j < l.length := by omega
        have hw := w64 (j + 1) (by omega)
        have h4 : ¬ (400 ≤ (j : Int)) := by omega
        have h3 : typed l[j] = true := by
          have := h2 j (by simp; omega) hj
          simpa using this
        simp [hj', hw, ints_get hj', E_iadmissible, h3, h4]
theorem E_sl15Piece (l : List Int) (hl : l.length ≤ 1000000000) : M_sl15Piece [.lst (some 0) (ints l)] [] [] = some ⟨V.v (.bool (textOk l)), [], []⟩ := by
  unfold M_sl15Piece
  by_cases hn : l.length ≤ 400
  · have : (l.length : Int) ≤ 400 := by omega
    cases h : l.all typed <;> simp [Tryz.func54, Tryz.f54, textOk, hn, this, E_sl13AllTyped l hl, h]
  · have : ¬ (l.length : Int) ≤ 400 := by omega
    simp [Tryz.func54, Tryz.f54, textOk, hn, this]
theorem E_iLineOk (l : List Int) (a : Int) (hl : l.length ≤ 1000000000) : M_iLineOk [.agg [.lst (some 0) (ints l), V.v (.int .i64 a)]] [] [] = some ⟨V.v (.bool (lineOk l a)), [], []⟩ := by
  unfold M_iLineOk
  cases h : textOk l <;> simp [Tryz.func23, Tryz.f23, lineOk, E_iareAdmissible l hl, E_iin, h]
theorem E_iemptyLine (l : List Int) (a : Int) : M_iemptyLine [.agg [.lst (some 0) (ints l), V.v (.int .i64 a)]] [] [] = some ⟨V.v (.bool (emptyL l a)), [], []⟩ := by
  unfold M_iemptyLine
  by_cases h1 : l.length = 0 <;> by_cases h2 : a = 0 <;> simp [Tryz.func29, Tryz.f29, emptyL, h1, h2]
def atEnd (l : List Int) (a : Int) : Bool := decide (0 < l.length) && (a == (l.length : Int))
theorem E_iisAtEnd (l : List Int) (a : Int) : M_iisAtEnd [.agg [.lst (some 0) (ints l), V.v (.int .i64 a)]] [] [] = some ⟨V.v (.bool (atEnd l a)), [], []⟩ := by
  unfold M_iisAtEnd
  by_cases h1 : 0 < l.length <;> by_cases h2 : a = (l.length : Int) <;> simp [Tryz.func46, Tryz.f46, atEnd, h1, h2] <;> omega
end Go.Proofs.YtjhdikdopdcfcaaGreatDoor
