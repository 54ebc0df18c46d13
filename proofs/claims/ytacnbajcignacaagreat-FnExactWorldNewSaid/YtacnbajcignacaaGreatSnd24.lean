/-
  Soundness of the evaluator, twenty-fourth part: the head of a loop.
-/
import Derived.Test.YtacnbajcignacaaGreatSnd23
namespace Go.Proofs.YtacnbajcignacaaGreat
open Go.RowKit
set_option linter.unusedSimpArgs false
set_option linter.unusedVariables false

mutual
theorem RV.refs {ρ ρ' : Rel} (hK : ρ'.K = ρ.K) (hZ : ρ'.Z = ρ.Z) (hs : ρ'.src = ρ.src) (ht : ∀ p, ρ.Lt p → ρ'.Lt p ∧ ρ'.hd p = ρ.hd p) {bs : List Nat} (hb : ∀ b ∈ bs, ρ.Lb b → ρ'.Lb b ∧ ρ'.bl b = ρ.bl b) : ∀ {v : V} {u : Value}, refsOk bs v = true → RV ρ v u → RV ρ' v u
  | .v _, _, _, h => h
  | .nil, _, _, h => h
  | .lst _ _, _, _, h => ⟨by rw [hK]; exact h.1, fun j i => by rw [hs]; exact h.2 j i⟩
  | .own p, _, _, h => ⟨(ht p h.1).1, by rw [(ht p h.1).2]; exact h.2⟩
  | .fz _, _, _, h => RdD.mono h (by rw [hZ]; exact fun _ _ h => h)
  | .ref b _, _, r, h => by
    have := hb b (by simpa [refsOk] using r) h.1
    exact ⟨this.1, by rw [this.2]; exact h.2⟩
  | .pe _ _ _ _, _, r, h => by obtain ⟨ub, h1, h2⟩ := h; exact ⟨ub, RV.refs hK hZ hs ht hb (by simpa [refsOk] using r) h1, h2⟩
  | .agg _, _, r, h => by obtain ⟨us, h1, h2⟩ := h; exact ⟨us, h1, RVs.refs hK hZ hs ht hb (by simpa [refsOk] using r) h2⟩
  | .tup _, _, r, h => by obtain ⟨us, h1, h2⟩ := h; exact ⟨us, h1, RVs.refs hK hZ hs ht hb (by simpa [refsOk] using r) h2⟩
  | .fn _ _, _, r, h => by obtain ⟨us, h1, h2⟩ := h; exact ⟨us, h1, RVs.refs hK hZ hs ht hb (by simpa [refsOk] using r) h2⟩
  | .dead, _, _, _ => trivial
theorem RVs.refs {ρ ρ' : Rel} (hK : ρ'.K = ρ.K) (hZ : ρ'.Z = ρ.Z) (hs : ρ'.src = ρ.src) (ht : ∀ p, ρ.Lt p → ρ'.Lt p ∧ ρ'.hd p = ρ.hd p) {bs : List Nat} (hb : ∀ b ∈ bs, ρ.Lb b → ρ'.Lb b ∧ ρ'.bl b = ρ.bl b) : ∀ {vs : List V} {us : List Value}, refsOk.go bs vs = true → RVs ρ vs us → RVs ρ' vs us
  | [], _, _, h => h
  | _ :: _, _, r, h => by
    simp [refsOk.go] at r
    obtain ⟨u, q, h1, h2, h3⟩ := h
    exact ⟨u, q, h1, RV.refs hK hZ hs ht hb r.1 h2, RVs.refs hK hZ hs ht hb r.2 h3⟩
end
mutual
theorem RV.ren {ρ ρ' : Rel} (hK : ρ'.K = ρ.K) (hZ : ρ'.Z = ρ.Z) (hs : ρ'.src = ρ.src) (hb : ∀ b, ρ.Lb b → ρ'.Lb b ∧ ρ'.bl b = ρ.bl b) {mp : List (Nat × Nat)} : ∀ {v : V} {u : Value}, (∀ p, mentions p v = true → ρ.Lt p → ρ'.Lt (YtacnbajcignacaaGreat.ren mp p) ∧ ρ'.hd (YtacnbajcignacaaGreat.ren mp p) = ρ.hd p) → RV ρ v u → RV ρ' (renV mp v) u
  | .v _, _, _, h => h
  | .nil, _, _, h => h
  | .lst _ _, _, _, h => ⟨by rw [hK]; exact h.1, fun j i => by rw [hs]; exact h.2 j i⟩
  | .own p, _, m, h => by
    have := m p (by simp [mentions]) h.1
    exact ⟨this.1, by rw [this.2]; exact h.2⟩
  | .fz _, _, _, h => RdD.mono h (by rw [hZ]; exact fun _ _ h => h)
  | .ref b _, _, _, h => ⟨(hb b h.1).1, by rw [(hb b h.1).2]; exact h.2⟩
  | .pe _ _ _ _, _, m, h => by obtain ⟨ub, h1, h2⟩ := h; exact ⟨ub, RV.ren hK hZ hs hb (fun p hp => m p (by simpa [mentions] using hp)) h1, h2⟩
  | .agg _, _, m, h => by obtain ⟨us, h1, h2⟩ := h; exact ⟨us, h1, RVs.ren hK hZ hs hb (fun p hp => m p (by simpa [mentions] using hp)) h2⟩
  | .tup _, _, m, h => by obtain ⟨us, h1, h2⟩ := h; exact ⟨us, h1, RVs.ren hK hZ hs hb (fun p hp => m p (by simpa [mentions] using hp)) h2⟩
  | .fn _ _, _, m, h => by obtain ⟨us, h1, h2⟩ := h; exact ⟨us, h1, RVs.ren hK hZ hs hb (fun p hp => m p (by simpa [mentions] using hp)) h2⟩
  | .dead, _, _, _ => trivial
theorem RVs.ren {ρ ρ' : Rel} (hK : ρ'.K = ρ.K) (hZ : ρ'.Z = ρ.Z) (hs : ρ'.src = ρ.src) (hb : ∀ b, ρ.Lb b → ρ'.Lb b ∧ ρ'.bl b = ρ.bl b) {mp : List (Nat × Nat)} : ∀ {vs : List V} {us : List Value}, (∀ p, mentions.any p vs = true → ρ.Lt p → ρ'.Lt (YtacnbajcignacaaGreat.ren mp p) ∧ ρ'.hd (YtacnbajcignacaaGreat.ren mp p) = ρ.hd p) → RVs ρ vs us → RVs ρ' (renL mp vs) us
  | [], _, _, h => h
  | _ :: _, _, m, h => by
    obtain ⟨u, q, h1, h2, h3⟩ := h
    exact ⟨u, q, h1, RV.ren hK hZ hs hb (fun p hp => m p (by simp [mentions.any, hp])) h2, RVs.ren hK hZ hs hb (fun p hp => m p (by simp [mentions.any, hp])) h3⟩
end
section
variable {c : Ctx} {s : S} {y : Lay} {a : Act} {w : World}
/-- only some temporaries, some variables -/
theorem At.restrict (A : At c s y a w) {env : List (Nat × V)} {box : List (Nat × List V)} {bs : List Nat} (hE : ∀ t v, look t env = some v → look t s.env = some v ∧ refsOk bs v = true) (hB : ∀ b cs, (b, cs) ∈ box → (b, cs) ∈ s.box ∧ refsOk.go bs cs = true) (hk : box.map (·.1) = bs) (nb : bs.Nodup) : At c { s with env := env, box := box } y a w := by
  have hsub : ∀ b ∈ box.map (·.1), b ∈ s.box.map (·.1) := by
    intro b hb
    obtain ⟨x, hx, rfl⟩ := List.mem_map.1 hb
    exact List.mem_map.2 ⟨x, (hB x.1 x.2 hx).1, rfl⟩
  have hb : ∀ b ∈ bs, (relOf c s y).Lb b → (relOf c { s with env := env, box := box } y).Lb b ∧ (relOf c { s with env := env, box := box } y).bl b = (relOf c s y).bl b := fun b hb _ => ⟨by show b ∈ box.map (·.1); rw [hk]; exact hb, rfl⟩
  refine ⟨A.defers, A.size, ?_, fun t v e => RV.refs (ρ := relOf c s y) (ρ' := relOf c { s with env := env, box := box } y) rfl rfl rfl (fun p h => ⟨h, rfl⟩) hb (hE t v e).2 (A.env t v (hE t v e).1), fun b cs h => RVs.refs (ρ := relOf c s y) (ρ' := relOf c { s with env := env, box := box } y) rfl rfl rfl (fun p h => ⟨h, rfl⟩) hb (hB b cs h).2 (A.box b cs (hB b cs h).1), A.fro, by show (box.map (·.1)).Nodup; rw [hk]; exact nb, A.nt, A.fix⟩
  have S0 := A.st
  rw [boxPs_keys] at S0
  show St c.W w (boxPs y.bl y.T y.us box ++ (treePs y.hd s.tree ++ (froPs y.w0 y.F s.fro ++ c.L)))
  rw [boxPs_keys]
  have p := (minus_perm A.nb (by rw [hk]; exact nb) hsub).map fun b => rowP (y.bl b) (y.T b) (y.us b)
  rw [List.map_append] at p
  have q := S0.perm (List.Perm.append_right _ (p.trans List.perm_append_comm))
  rw [List.append_assoc] at q
  exact St.dropL q
/-- nothing, as an empty list of the call's own -/
theorem At.nils (A : At c s y a w) {ps : List Nat} (np : ps.Nodup) (hf : ∀ k ∈ ps, k ∉ (s.tree ++ s.fro).map (·.1)) (hb : ∀ k ∈ ps, 2 * parBase ≤ k) {env : List (Nat × V)} {box : List (Nat × List V)} (hE : ∀ t v, look t env = some v → look t s.env = some v ∨ (look t s.env = some .nil ∧ ∃ k ∈ ps, v = .own k))
    (hk : box.map (·.1) = s.box.map (·.1)) (hB : ∀ b cs, (b, cs) ∈ box → ∃ cs0, (b, cs0) ∈ s.box ∧ cs.length = cs0.length ∧ ∀ (i : Nat) (v : V), cs[i]? = some v → cs0[i]? = some v ∨ (cs0[i]? = some .nil ∧ ∃ k ∈ ps, v = .own k)) :
    Good c { env := env, box := box, tree := s.tree ++ ps.map (fun p => (p, [])), fro := s.fro } a w := by
  classical
  let y2 : Lay := { y with hd := fun n => if n ∈ ps then .slice none 0 0 else y.hd n }
  have keys : ∀ n, n ∈ ((s.tree ++ ps.map (fun p => (p, ([] : List (List D))))) ++ s.fro).map (·.1) ↔ n ∈ (s.tree ++ s.fro).map (·.1) ∨ n ∈ ps := by
    intro n
    simp only [List.map_append, List.mem_append, List.map_map]
    have : (ps.map ((fun x : Nat × List (List D) => x.1) ∘ fun p => (p, []))) = ps := by simp [Function.comp_def]
    rw [this]
    constructor
    · rintro ((h | h) | h)
      · exact .inl (.inl h)
      · exact .inr h
      · exact .inl (.inr h)
    · rintro ((h | h) | h)
      · exact .inl (.inl h)
      · exact .inr h
      · exact .inl (.inr h)
  have le : (relOf c s y).le (relOf c { env := env, box := box, tree := s.tree ++ ps.map (fun p => (p, [])), fro := s.fro } y2) :=
    ⟨fun _ _ h => h, fun _ _ h => h, rfl, fun b h => ⟨by show b ∈ box.map (·.1); rw [hk]; exact h, rfl⟩, fun p h => ⟨(keys p).2 (.inl h), if_neg fun hp => hf p hp h⟩⟩
  have hnew : ∀ k ∈ ps, RV (relOf c { env := env, box := box, tree := s.tree ++ ps.map (fun p => (p, [])), fro := s.fro } y2) (.own k) (.slice none 0 0) := fun k hk => ⟨(keys k).2 (.inr hk), (show (if k ∈ ps then Value.slice none 0 0 else y.hd k) = _ from if_pos hk).symm⟩
  have An := A.nt
  rw [List.map_append, List.nodup_append] at An
  refine ⟨y2, A.defers, A.size, ?_, fun t v e => ?_, fun b cs h => ?_, fun p rows hp => ?_, by show (box.map (·.1)).Nodup; rw [hk]; exact A.nb, ?_, A.fix.1, fun i h1 h2 => ⟨(A.fix.2 i h1 h2).1, (show (if i ∈ ps then Value.slice none 0 0 else y.hd i) = y.hd i from if_neg fun hp => by have := hb i hp; omega).trans (A.fix.2 i h1 h2).2⟩⟩
  · show St c.W w (boxPs y.bl y.T y.us box ++ (treePs y2.hd (s.tree ++ ps.map (fun p => (p, []))) ++ (froPs y.w0 y.F s.fro ++ c.L)))
    have e1 : boxPs y.bl y.T y.us box = boxPs y.bl y.T y.us s.box := by rw [boxPs_keys, boxPs_keys, hk]
    have e2 : treePs y2.hd (s.tree ++ ps.map (fun p => (p, []))) = treePs y.hd s.tree ++ ps.map fun _ => ownP (.slice none 0 0) [] := by
      unfold treePs
      rw [List.map_append, List.map_map]
      congr 1
      · refine List.map_congr_left fun x hx => ?_
        have : ¬ x.1 ∈ ps := fun hp => hf x.1 hp (List.mem_map.2 ⟨x, List.mem_append_left _ hx, rfl⟩)
        show ownP (if x.1 ∈ ps then _ else y.hd x.1) x.2 = _
        rw [if_neg this]
      · refine List.map_congr_left fun p hp => ?_
        show ownP (if p ∈ ps then _ else _) [] = _
        rw [if_pos hp]
    have more : ∀ (l : List Nat) (L : List Pc), St c.W w L → St c.W w (l.map (fun _ => ownP (.slice none 0 0) []) ++ L) := by
      intro l; induction l with
      | nil => intro L S; exact S
      | cons x l ih => intro L S; exact (ih L S).more (Ext.refl w) (h := ownP (.slice none 0 0) []) (F := []) .nil List.nodup_nil (fun b hb => by cases hb)
    have S1 := more ps _ A.st
    rw [e1, e2]
    refine S1.perm ?_
    have q := perm5 (boxPs y.bl y.T y.us s.box) [] (treePs y.hd s.tree) (ps.map fun _ => ownP (.slice none 0 0) []) (froPs y.w0 y.F s.fro ++ c.L)
    simp only [List.append_nil, List.nil_append, List.append_assoc] at q ⊢
    refine List.Perm.trans ?_ q.symm
    rw [← List.append_assoc, ← List.append_assoc, ← List.append_assoc (boxPs y.bl y.T y.us s.box) (treePs y.hd s.tree), ← List.append_assoc (boxPs y.bl y.T y.us s.box ++ treePs y.hd s.tree)]
    refine List.Perm.append_right _ ?_
    rw [List.append_assoc]
    exact List.perm_append_comm
  · rcases hE t v e with h | ⟨h, k, hk, rfl⟩
    · exact (A.env t v h).le le
    · have h0 := A.env t .nil h
      rw [show a.tmps.getD t undef = _ from h0]; exact hnew k hk
  · obtain ⟨cs0, h1, h2, h3⟩ := hB b cs h
    have h0 := A.box b cs0 h1
    refine RVs.of (by rw [show (y2.us b) = y.us b from rfl, h0.len, h2]) fun i v u e1 e2 => ?_
    have e2 : (y.us b).toList[i]? = some u := e2
    rcases h3 i v e1 with h | ⟨h, k, hk, rfl⟩
    · obtain ⟨u', g1, g2⟩ := h0.get h
      rw [e2] at g1; injection g1 with g1; subst g1
      exact g2.le le
    · obtain ⟨u', g1, g2⟩ := h0.get h
      rw [e2] at g1; injection g1 with g1; subst g1
      rw [show u = _ from g2]; exact hnew k hk
  · show OwnD (y.w0 p) _ (if p ∈ ps then _ else y.hd p) (y.F p)
    rw [if_neg fun hx => hf p hx (by rw [List.map_append, List.mem_append]; exact .inr (List.mem_map.2 ⟨_, hp, rfl⟩))]
    exact A.fro p rows hp
  · show (((s.tree ++ ps.map (fun p => (p, ([] : List (List D))))) ++ s.fro).map (·.1)).Nodup
    have e : (ps.map ((fun x : Nat × List (List D) => x.1) ∘ fun p => (p, []))) = ps := by simp [Function.comp_def]
    rw [List.map_append, List.map_append, List.map_map, e, List.nodup_append, List.nodup_append]
    refine ⟨⟨An.1, np, fun x hx z hz e => ?_⟩, An.2.1, fun x hx z hz e => ?_⟩
    · subst e; exact hf x hz (by rw [List.map_append, List.mem_append]; exact .inl hx)
    · subst e
      rcases List.mem_append.1 hx with hx | hx
      · exact An.2.2 x hx x hz rfl
      · exact hf x hx (by rw [List.map_append, List.mem_append]; exact .inr hz)
end
end Go.Proofs.YtacnbajcignacaaGreat
