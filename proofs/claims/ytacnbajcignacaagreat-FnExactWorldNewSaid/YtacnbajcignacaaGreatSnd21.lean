/-
  Soundness of the evaluator, twenty-first part: a function, whole.
-/
import Derived.Test.YtacnbajcignacaaGreatSnd20
namespace Go.Proofs.YtacnbajcignacaaGreat
open Go.RowKit
set_option linter.unusedSimpArgs false
set_option linter.unusedVariables false

theorem keptTrees_eq (s : S) : ∀ (n j : Nat), keptTrees s j n = (List.range' j n).filterMap fun q => (look (parBase + q) s.tree).map fun rows => (q, rows)
  | 0, j => rfl
  | n + 1, j => by
    simp only [keptTrees, List.range'_succ]
    rw [keptTrees_eq s n (j + 1)]
    cases e : look (parBase + j) s.tree with
    | none => simp only [keptOne, e, List.filterMap_cons, Option.map_none]
    | some rows => simp only [keptOne, e, List.filterMap_cons, Option.map_some]
theorem numbered_eq {α : Type} : ∀ (l : List (Nat × α)) (n : Nat), numbered n l = withIdx n (l.map (·.2))
  | [], _ => rfl
  | x :: r, n => by simp only [numbered, List.map_cons, withIdx]; rw [numbered_eq r]
theorem treePs_numbered {hd : Nat → Value} : ∀ {l : List (Nat × List (List D))} {H : List Value} {n : Nat}, H.length = l.length → (∀ k u, H[k]? = some u → hd (n + k) = u) → treePs hd (numbered n l) = pcs2 l H
  | [], [], _, _, _ => rfl
  | [], _ :: _, _, h, _ => by simp at h
  | x :: l, [], _, h, _ => by simp at h
  | x :: l, u :: H, n, h, k => by
    have h0 := k 0 u rfl
    rw [Nat.add_zero] at h0
    have := treePs_numbered (hd := hd) (l := l) (H := H) (n := n + 1) (by simpa using h) fun j v e => by rw [show n + 1 + j = n + (j + 1) by omega]; exact k (j + 1) v (by simpa using e)
    unfold treePs at this ⊢
    simp only [numbered, List.map_cons, pcs2, h0]
    rw [this]
/-- what stays as it is is the call's own again -/
theorem St.thaw {W w : World} {y : Lay} {R : List Pc} : ∀ {l : List (Nat × List (List D))}, (∀ p rows, (p, rows) ∈ l → OwnD (y.w0 p) (.l rows) (y.hd p) (y.F p)) → St W w (froPs y.w0 y.F l ++ R) → St W w (treePs y.hd l ++ R)
  | [], _, S => S
  | x :: l, h, S => by
    have S1 : St W w (snapP (y.w0 x.1) (y.F x.1) :: (froPs y.w0 y.F l ++ R)) := S
    obtain ⟨F, s, n, hb⟩ := S1.sep
    obtain ⟨F1, G, rfl, ⟨rfl, e⟩, g⟩ := s.uncons
    have S2 : St W w (ownP (y.hd x.1) x.2 :: (froPs y.w0 y.F l ++ R)) := ⟨S1.ext, _, Sep.cons (h := ownP (y.hd x.1) x.2) ((h x.1 x.2 (by simp)).st e) g, n, hb⟩
    have S3 := (S2.perm (List.perm_middle (l₁ := froPs y.w0 y.F l)).symm)
    have S4 := St.thaw (l := l) (fun p rows hp => h p rows (by simp [hp])) S3
    exact S4.perm List.perm_middle
section
variable {P : Program}
def oneRes (tmps : Array Value) : ResultVar → Sem Value
  | .tmp t => pure (tmps.getD t undef)
  | .cell b t => do loadVar t (← asAddr (tmps.getD b undef))
theorem results_eq (fn : Func) (tmps : Array Value) : results fn tmps = (do
    let vs ← fn.results.mapM (oneRes tmps)
    pure (if h : vs.size = 1 then vs[0] else .tuple vs)) := by
  have e : (fun | .tmp t => pure (tmps.getD t undef) | .cell a t => do loadVar t (← asAddr (tmps.getD a undef)) : ResultVar → Sem Value) = oneRes tmps := by
    funext x; cases x <;> rfl
  rw [← e]; rfl
theorem res_sound {c : Ctx} {s : S} {y : Lay} {a : Act} {w : World} (A : At c s y a w) : ∀ {rs : List ResultVar} {vs : List V}, mapSome (resV P s) rs = some vs → ∃ us, (rs.mapM (oneRes a.tmps)).run P w = .ok us w ∧ RVs (relOf c s y) vs us
  | [], vs, h => by simp only [mapSome] at h; injection h with h; subst h; exact ⟨[], by simp, rfl⟩
  | x :: rs, vs, h => by
    simp only [mapSome] at h
    obtain ⟨v, h1, h⟩ := bnd_eq_some h
    obtain ⟨vs', h2, h⟩ := bnd_eq_some h
    injection h with h; subst h
    obtain ⟨us, k1, k2⟩ := res_sound A h2
    cases x with
    | tmp t =>
      simp only [resV] at h1
      refine ⟨_ :: us, ?_, _, us, rfl, A.env t v h1, k2⟩
      rw [List.mapM_cons]
      simp only [oneRes, Sem.run_bind, Sem.run_pure, Result.andThen_ok, k1]
    | cell b t =>
      simp only [resV] at h1
      obtain ⟨p, h3, h4⟩ := bnd_eq_some h1
      have hp := A.env b p h3
      obtain ⟨u, hr, hv⟩ := A.loadAt (P := P) hp h4
      have hptr : ∃ ad, a.tmps.getD b undef = .pointer (some ad) := by
        cases p <;> simp only [S.load] at h4 <;> try (cases h4; done)
        case ref b' off => exact ⟨_, hp.2⟩
        case pe base k i off => obtain ⟨ub, _, g, q, n, cc, _, _, e⟩ := hp; exact ⟨_, e⟩
      obtain ⟨ad, had⟩ := hptr
      rw [had] at hr
      have hr : (loadVar t ad).run P w = .ok u w := by
        unfold Instr.loadAt at hr
        simpa only [Instr.sureAddr, Sem.run_bind, Sem.run_pure, Result.andThen_ok] using hr
      refine ⟨u :: us, ?_, u, us, rfl, hv, k2⟩
      rw [List.mapM_cons]
      simp only [oneRes, Sem.run_bind, Sem.run_pure, Result.andThen_ok, k1, had, asAddr, hr]
theorem results_sound {c : Ctx} {s : S} {y : Lay} {a : Act} {w : World} (A : At c s y a w) {fn : Func} {vs : List V} (h : mapSome (resV P s) fn.results.toList = some vs) : ∃ u, (results fn a.tmps).run P w = .ok u w ∧ RV (relOf c s y) (tupOf vs) u := by
  obtain ⟨us, h1, h2⟩ := res_sound A h
  have hm : (fn.results.mapM (oneRes a.tmps)).run P w = .ok us.toArray w := by
    rw [Array.mapM_eq_mapM_toList]
    simp only [Sem.run_bind, Sem.run_map]
    rw [h1]; rfl
  have hl := h2.len
  rw [results_eq, Sem.run_bind, hm]
  simp only [Result.andThen_ok]
  cases vs with
  | nil =>
    have : us = [] := List.eq_nil_of_length_eq_zero hl
    subst this
    exact ⟨.tuple #[], rfl, [], rfl, rfl⟩
  | cons v vs =>
    obtain ⟨u, q, rfl, e1, e2⟩ := h2
    cases vs with
    | nil =>
      have : q = [] := e2
      subst this
      exact ⟨u, rfl, e1⟩
    | cons v2 vs =>
      refine ⟨.tuple (u :: q).toArray, ?_, u :: q, rfl, u, q, rfl, e1, e2⟩
      have hne : ¬ ((u :: q).toArray.size = 1) := by
        obtain ⟨u2, q2, rfl, _⟩ := e2
        simp
      rw [dif_neg hne]; rfl
end
end Go.Proofs.YtacnbajcignacaaGreat
