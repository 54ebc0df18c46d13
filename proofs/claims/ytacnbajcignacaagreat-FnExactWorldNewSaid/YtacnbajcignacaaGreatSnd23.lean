/-
  Soundness of the evaluator, twenty-third part: lists that stay as they are.
-/
import Derived.Test.YtacnbajcignacaaGreatSnd22
namespace Go.Proofs.YtacnbajcignacaaGreat
open Go.RowKit
set_option linter.unusedSimpArgs false
set_option linter.unusedVariables false

theorem froPs_fresh {w0 : Nat → World} {F : Nat → List Nat} {k : Nat} {u : World} {f : List Nat} : ∀ {l : List (Nat × List (List D))}, k ∉ l.map (·.1) → froPs (fset w0 k u) (fset F k f) l = froPs w0 F l
  | [], _ => rfl
  | (j, x) :: r, h => by
    simp only [List.map_cons, List.mem_cons, not_or] at h
    have := froPs_fresh (w0 := w0) (F := F) (u := u) (f := f) h.2
    unfold froPs at this ⊢
    rw [List.map_cons, List.map_cons, this]
    simp only [fset_ne _ _ (fun e => h.1 e.symm : j ≠ k)]
theorem At.freeze {c : Ctx} {s : S} {y : Lay} {a : Act} {w : World} (A : At c s y a w) {p : Nat} {rows : List (List D)} (hl : look p s.tree = some rows) : Good c { s with tree := drop1 p s.tree, fro := (p, rows) :: s.fro } a w := by
  have S0 := A.out' hl
  obtain ⟨F, o, hn, hb, k⟩ := S0.open_
  have S1 : St c.W w (snapP w F :: (Pcs (s.kill p) y ++ c.L)) := k w (snapP w F) F rfl rfl rfl (Nat.le_refl _) (fun _ _ _ => rfl) ⟨rfl, fun _ _ => rfl⟩ hn (fun b hx => ⟨.inl hx, (hb b hx).2⟩)
  have An := A.nt
  rw [List.map_append, List.nodup_append] at An
  have hp : p ∈ s.tree.map (·.1) := key_look.2 ⟨rows, hl⟩
  have hpf : p ∉ s.fro.map (·.1) := fun h => An.2.2 p hp p h rfl
  have kk : ∀ n, n ∈ (drop1 p s.tree ++ (p, rows) :: s.fro).map (·.1) ↔ n ∈ (s.tree ++ s.fro).map (·.1) := by
    intro n
    rw [List.map_append, List.map_append, List.mem_append, List.mem_append, List.map_cons, List.mem_cons, drop1_mem]
    constructor
    · rintro (h | h | h)
      · exact .inl h.1
      · subst h; exact .inl hp
      · exact .inr h
    · rintro (h | h)
      · by_cases e : n = p
        · exact .inr (.inl e)
        · exact .inl ⟨h, e⟩
      · exact .inr (.inr h)
  have le : (relOf c s y).le (relOf c { s with tree := drop1 p s.tree, fro := (p, rows) :: s.fro } { y with w0 := fset y.w0 p w, F := fset y.F p F }) := by
    refine ⟨fun _ _ h => h, fun b o ⟨q, h1, h2, h3⟩ => ?_, rfl, fun b h => ⟨h, rfl⟩, fun q h => ⟨(kk q).2 h, rfl⟩⟩
    have hq : q ≠ p := fun e => hpf (by rw [← e]; exact h1)
    exact ⟨q, List.mem_cons_of_mem _ h1, by show b ∈ fset y.F p F q; rw [fset_ne _ _ hq]; exact h2, by show (fset y.w0 p w q).heap[b]? = some o; rw [fset_ne _ _ hq]; exact h3⟩
  refine ⟨{ y with w0 := fset y.w0 p w, F := fset y.F p F }, A.defers, A.size, ?_, fun t v e => (A.env t v e).le le, fun b cs h => (A.box b cs h).le le, fun q r h => ?_, A.nb, ?_, A.fix⟩
  · show St c.W w (boxPs y.bl y.T y.us s.box ++ (treePs y.hd (drop1 p s.tree) ++ ((snapP (fset y.w0 p w p) (fset y.F p F p) :: froPs (fset y.w0 p w) (fset y.F p F) s.fro) ++ c.L)))
    rw [fset_self, fset_self, froPs_fresh hpf]
    rw [pcs_kill] at S1
    have q := (List.perm_middle (a := snapP w F) (l₁ := boxPs y.bl y.T y.us s.box ++ treePs y.hd (drop1 p s.tree)) (l₂ := froPs y.w0 y.F s.fro ++ c.L)).symm
    simp only [List.append_assoc, List.cons_append] at q ⊢ S1
    exact S1.perm q
  · show OwnD (fset y.w0 p w q) _ (y.hd q) (fset y.F p F q)
    rcases List.mem_cons.1 h with h | h
    · injection h with h1 h2; subst h1; subst h2
      rw [fset_self, fset_self]; exact o
    · have hq : q ≠ p := fun e => hpf (by rw [← e]; exact List.mem_map.2 ⟨_, h, rfl⟩)
      rw [fset_ne _ _ hq, fset_ne _ _ hq]; exact A.fro q r h
  · show ((drop1 p s.tree ++ (p, rows) :: s.fro).map (·.1)).Nodup
    rw [List.map_append, List.nodup_append]
    refine ⟨drop1_nodup An.1, List.nodup_cons.2 ⟨hpf, An.2.1⟩, fun x hx z hz e => ?_⟩
    subst e
    have hx := drop1_mem.1 hx
    rcases List.mem_cons.1 hz with h | h
    · exact hx.2 h
    · exact An.2.2 x hx.1 x h rfl
theorem freezeAll_sound {c : Ctx} : ∀ {ts : List Nat} {s s' : S} {a : Act} {w : World}, freezeAll s ts = some s' → Good c s a w → Good c s' a w
  | [], s, s', a, w, h, g => by simp only [freezeAll] at h; injection h with h; subst h; exact g
  | t :: ts, s, s', a, w, h, g => by
    simp only [freezeAll] at h
    obtain ⟨s1, h1, h⟩ := bnd_eq_some h
    refine freezeAll_sound h ?_
    obtain ⟨y, A⟩ := g
    unfold S.freeze at h1
    obtain ⟨v, h2, h1⟩ := bnd_eq_some h1
    unfold freezeV at h1
    split at h1
    · rename_i p
      unfold freezeAt at h1
      split at h1
      · rename_i rows e
        injection h1 with h1; subst h1
        exact A.freeze e
      · injection h1 with h1; subst h1; exact ⟨y, A⟩
    · injection h1 with h1; subst h1; exact ⟨y, A⟩
theorem reg_sound {c : Ctx} {gh : Ghost} {id : Nat} {s s' : S} (h : gh.reg id s = some s') {a : Act} {w : World} (g : Good c s a w) : Good c s' a w := by
  unfold Ghost.reg regAt at h
  split at h
  · exact freezeAll_sound h g
  · injection h with h; subst h; exact g

/-! lists that are met -/
mutual
theorem metV_sub : ∀ (l : List Nat) (v : V), (∀ x ∈ l, x ∈ metV l v) ∧ (∀ p, mentions p v = true → p ∈ metV l v) ∧ (l.Nodup → (metV l v).Nodup)
  | l, .own p => by
    simp only [metV]
    by_cases h : l.contains p = true
    · rw [if_pos h]
      exact ⟨fun x hx => hx, fun q hq => by simp [mentions] at hq; subst hq; simpa using h, fun n => n⟩
    · rw [if_neg h]
      have hp : p ∉ l := by simpa using h
      exact ⟨fun x hx => List.mem_append_left _ hx, fun q hq => by simp [mentions] at hq; subst hq; simp, fun n => List.nodup_append.2 ⟨n, by simp, fun x hx z hz e => by simp at hz; rw [e, hz] at hx; exact hp hx⟩⟩
  | l, .pe b _ _ _ => by simp only [metV, mentions]; exact metV_sub l b
  | l, .agg cs => by simp only [metV, mentions]; exact metL_sub l cs
  | l, .tup cs => by simp only [metV, mentions]; exact metL_sub l cs
  | l, .fn _ cs => by simp only [metV, mentions]; exact metL_sub l cs
  | l, .v _ => by simp only [metV, mentions]; exact ⟨fun x hx => hx, (fun q hq => by cases hq), fun n => n⟩
  | l, .nil => by simp only [metV, mentions]; exact ⟨fun x hx => hx, (fun q hq => by cases hq), fun n => n⟩
  | l, .lst _ _ => by simp only [metV, mentions]; exact ⟨fun x hx => hx, (fun q hq => by cases hq), fun n => n⟩
  | l, .fz _ => by simp only [metV, mentions]; exact ⟨fun x hx => hx, (fun q hq => by cases hq), fun n => n⟩
  | l, .ref _ _ => by simp only [metV, mentions]; exact ⟨fun x hx => hx, (fun q hq => by cases hq), fun n => n⟩
  | l, .dead => by simp only [metV, mentions]; exact ⟨fun x hx => hx, (fun q hq => by cases hq), fun n => n⟩
theorem metL_sub : ∀ (l : List Nat) (vs : List V), (∀ x ∈ l, x ∈ metL l vs) ∧ (∀ p, mentions.any p vs = true → p ∈ metL l vs) ∧ (l.Nodup → (metL l vs).Nodup)
  | l, [] => by simp only [metL, mentions.any]; exact ⟨fun x hx => hx, (fun q hq => by cases hq), fun n => n⟩
  | l, v :: vs => by
    obtain ⟨a1, a2, a3⟩ := metV_sub l v
    obtain ⟨b1, b2, b3⟩ := metL_sub (metV l v) vs
    simp only [metL, mentions.any]
    refine ⟨fun x hx => b1 x (a1 x hx), fun p hp => ?_, fun n => b3 (a3 n)⟩
    rw [Bool.or_eq_true] at hp
    exact hp.elim (fun h => b1 p (a2 p h)) (b2 p)
end
end Go.Proofs.YtacnbajcignacaaGreat
