/-
  Soundness of the evaluator, sixteenth part: contracts; a call.
-/
import Derived.Test.YtacnbajcignacaaGreatSnd15
namespace Go.Proofs.YtacnbajcignacaaGreat
open Go.RowKit
set_option linter.unusedSimpArgs false
set_option linter.unusedVariables false

/-- the memory of a state -/
structure Mem (c : Ctx) (s : S) (y : Lay) (w : World) : Prop where
  st : St c.W w (boxPs y.bl y.T y.us s.box ++ (treePs y.hd s.tree ++ (froPs y.w0 y.F s.fro ++ c.L)))
  box : ∀ b cs, (b, cs) ∈ s.box → RVs (relOf c s y) cs (y.us b).toList
  fro : ∀ p rows, (p, rows) ∈ s.fro → OwnD (y.w0 p) (.l rows) (y.hd p) (y.F p)
  nb : (s.box.map (·.1)).Nodup
  nt : ((s.tree ++ s.fro).map (·.1)).Nodup
def resS (bs : List (List V)) (ts : List (Nat × List (List D))) : S := ⟨[], withIdx 0 bs, ts, []⟩
/-- what a function leaves -/
structure Ends (c : Ctx) (nb nt : Nat) (r : Res) (y : Lay) (u : Value) (y' : Lay) (w' : World) : Prop where
  mem : Mem c (resS r.box r.tree) y' w'
  val : RV (relOf c (resS r.box r.tree) y') r.val u
  len : r.box.length = nb
  bl : ∀ i, i < nb → y'.bl i = y.bl i
  hd : ∀ q, q < nt → y'.hd q = y.hd q
/-- the contract -/
structure Sound (P : Program) (f : FuncId) (M : Mean) : Prop where
  fn : ∃ fn, P.funcs[f]? = some fn ∧ (fn.name == "runtime.NumGoroutine") = false ∧ fn.body.isNone = false
  run : ∀ (c : Ctx) (args : List V) (boxes : List (List V)) (trees : List (List (List D))) (r : Res), M args boxes trees = some r → ∀ (y : Lay) (us : List Value) (w : World), Mem c (resS boxes (withIdx 0 trees)) y w → RVs (relOf c (resS boxes (withIdx 0 trees)) y) args us →
    Calls P f us.toArray w fun e w' => ∃ u y', e = .returned u ∧ Ends c boxes.length trees.length r y u y' w'

theorem Sep.append {w : World} {L M : List Pc} : ∀ {F G : List Nat}, Sep w L F → Sep w M G → Sep w (L ++ M) (F ++ G) := by
  intro F G h k
  induction h with
  | nil => exact k
  | cons a _ ih => rw [List.append_assoc]; exact Sep.cons a ih
theorem Sep.parts {w : World} : ∀ {L M : List Pc} {F : List Nat}, Sep w (L ++ M) F → ∃ F1 F2, F = F1 ++ F2 ∧ Sep w L F1 ∧ Sep w M F2
  | [], M, F, h => ⟨[], F, rfl, .nil, h⟩
  | x :: L, M, F, h => by
    obtain ⟨F1, G, rfl, a, g⟩ := h.uncons
    obtain ⟨F2, F3, rfl, h1, h2⟩ := Sep.parts g
    exact ⟨F1 ++ F2, F3, by rw [List.append_assoc], .cons a h1, h2⟩
theorem Sep.mem {w : World} {x : Pc} {L : List Pc} {F : List Nat} (h : Sep w L F) (hx : x ∈ L) : ∃ F1, x.P w F1 ∧ ∀ b ∈ F1, b ∈ F := by
  induction h with
  | nil => cases hx
  | cons a _ ih =>
    rcases List.mem_cons.1 hx with hx | hx
    · subst hx; exact ⟨_, a, fun b hb => List.mem_append_left _ hb⟩
    · obtain ⟨F1, h1, h2⟩ := ih hx
      exact ⟨F1, h1, fun b hb => List.mem_append_right _ (h2 b hb)⟩
/-- the rest, as it is -/
theorem St.snap {W w : World} {E R : List Pc} (S : St W w (E ++ R)) : ∃ F, St W w (E ++ [snapP w F]) ∧ Sep w R F := by
  obtain ⟨F, s, n, hb⟩ := S.sep
  obtain ⟨F1, F2, rfl, h1, h2⟩ := s.parts
  refine ⟨F2, ⟨S.ext, F1 ++ (F2 ++ []), h1.append (.cons (h := snapP w F2) ⟨rfl, fun _ _ => rfl⟩ .nil), by simpa using n, by simpa using hb⟩, h2⟩
theorem St.unsnap {W w w' : World} {E R : List Pc} {F : List Nat} (S : St W w' (E ++ [snapP w F])) (h : Sep w R F) : St W w' (E ++ R) := by
  obtain ⟨G, s, n, hb⟩ := S.sep
  obtain ⟨F1, F2, rfl, h1, h2⟩ := s.parts
  obtain ⟨F3, F4, rfl, ⟨rfl, h3⟩, h4⟩ := h2.uncons
  cases h4
  refine ⟨S.ext, F1 ++ F3, h1.append (h.st h3), by simpa using n, by simpa using hb⟩
section
variable {P : Program} {c : Ctx} {s s' : S} {y : Lay} {a : Act} {w : World}
theorem lendBoxes_sound (A : At c s y a w) : ∀ {bs : List Nat} {l l' : Lend} {U : List Value} {css : List (List V)}, l.ok (relOf c s y) s U → lendBoxes s l bs = some (css, l') →
    ∃ U', l.le l' U U' ∧ l'.ok (relOf c s y) s U' ∧ css.length = bs.length ∧ (∀ b ∈ bs, b ∈ s.box.map (·.1)) ∧ ∀ (i : Nat) (b : Nat) (cs' : List V), bs[i]? = some b → css[i]? = some cs' → Seens (relOf c s y) s l' U' cs' (y.us b).toList
  | [], l, l', U, css, o, h => by
    simp only [lendBoxes] at h; injection h with h; injection h with h1 h2; subst h1; subst h2
    exact ⟨U, Lend.le.refl _ _, o, rfl, (fun b hb => by cases hb), fun i b cs' e => by simp at e⟩
  | b :: bs, l, l', U, css, o, h => by
    simp only [lendBoxes] at h
    obtain ⟨cs, h1, h⟩ := bnd_eq_some h
    obtain ⟨x, h2, h⟩ := bnd_eq_some h
    obtain ⟨z, h3, h⟩ := bnd_eq_some h
    injection h with h; injection h with h4 h5; subst h4; subst h5
    obtain ⟨U1, a1, a2, a3⟩ := lendCells_sound (fun p r1 r2 e1 e2 => A.apart e1 e2) (l' := x.2) (vs' := x.1) o h2 (A.boxAt h1).2
    obtain ⟨U2, b1, b2, b3, b4, b5⟩ := lendBoxes_sound A (l' := z.2) (css := z.1) a2 h3
    refine ⟨U2, a1.trans b1, b2, by rw [List.length_cons, List.length_cons, b3], fun b' hb => ?_, fun i b' cs' e1 e2 => ?_⟩
    · rcases List.mem_cons.1 hb with hb | hb
      · subst hb; exact key_look.2 ⟨cs, h1⟩
      · exact b4 b' hb
    · cases i with
      | zero => simp at e1 e2; subst e1; subst e2; exact fun ρ' ld SU le L => a3 ρ' ld SU (b1.trans le) L
      | succ i => exact b5 i b' cs' (by simpa using e1) (by simpa using e2)
theorem lentTrees_spec : ∀ {ps : List Nat} {ts : List (List (List D))}, lentTrees s ps = some ts → ts.length = ps.length ∧ ∀ (i : Nat) (p : Nat), ps[i]? = some p → ∃ rows, look p s.tree = some rows ∧ ts[i]? = some rows
  | [], ts, h => by simp only [lentTrees] at h; injection h with h; subst h; exact ⟨rfl, fun i p e => by simp at e⟩
  | p :: ps, ts, h => by
    simp only [lentTrees] at h
    obtain ⟨rows, h1, h⟩ := bnd_eq_some h
    obtain ⟨r, h2, h⟩ := bnd_eq_some h
    injection h with h; subst h
    obtain ⟨k1, k2⟩ := lentTrees_spec h2
    refine ⟨by rw [List.length_cons, List.length_cons, k1], fun i p' e => ?_⟩
    cases i with
    | zero => simp at e; subst e; exact ⟨rows, h1, rfl⟩
    | succ i => simpa using k2 i p' (by simpa using e)
theorem minus_perm {K ns : List Nat} (n1 : K.Nodup) (n2 : ns.Nodup) (h : ∀ x ∈ ns, x ∈ K) : K.Perm (ns ++ K.filter fun k => !ns.contains k) := by
  refine perm_of_mem n1 (List.nodup_append.2 ⟨n2, n1.sublist List.filter_sublist, fun x hx z hz e => ?_⟩) fun x => ?_
  · subst e
    have := (List.mem_filter.1 hz).2
    simp [hx] at this
  · rw [List.mem_append, List.mem_filter]
    constructor
    · intro hx
      by_cases hn : x ∈ ns
      · exact .inl hn
      · exact .inr ⟨hx, by simp [hn]⟩
    · rintro (hx | hx)
      · exact h x hx
      · exact hx.1
/-- what comes back, as the caller sees it -/
structure Back (ρ1 ρ2 : Rel) (ld : Lend) (t : Nat) (SU : List Value) : Prop where
  src : ∀ j u v, ld.src[j]? = some v → ρ1.src j = u → RV ρ2 v u
  K : ld.src.all stable = true → ρ1.K = ρ2.K
  b : ∀ i b, ρ1.Lb i → ld.box[i]? = some b → ρ2.Lb b ∧ ρ2.bl b = ρ1.bl i
  t : ∀ q, ρ1.Lt q → ρ2.Lt (nameOf ld t q) ∧ ρ2.hd (nameOf ld t q) = ρ1.hd q
mutual
theorem backV_sound {ρ1 ρ2 : Rel} {ld : Lend} {t : Nat} {SU : List Value} (B : Back ρ1 ρ2 ld t SU) : ∀ {v v' : V} {u : Value}, backV ld t v = some v' → RV ρ1 v u → RV ρ2 v' u
  | .v x, v', u, h, hv => by simp only [backV] at h; injection h with h; subst h; exact hv
  | .nil, v', u, h, hv => by simp only [backV] at h; injection h with h; subst h; exact hv
  | .lst (some j) rows, v', u, h, hv => by simp only [backV] at h; exact B.src j u v' h (hv.2 j rfl)
  | .lst none rows, v', u, h, hv => by
    simp only [backV] at h
    obtain ⟨h1, h⟩ := grd_eq_some h
    injection h with h; subst h
    refine ⟨?_, fun j e => by cases e⟩
    rw [← B.K h1]; exact hv.1
  | .own q, v', u, h, hv => by
    simp only [backV] at h; injection h with h; subst h
    obtain ⟨k1, k2⟩ := B.t q hv.1
    exact ⟨k1, by rw [k2]; exact hv.2⟩
  | .ref i off, v', u, h, hv => by
    simp only [backV] at h
    obtain ⟨b, h1, h⟩ := bnd_eq_some h
    injection h with h; subst h
    obtain ⟨k1, k2⟩ := B.b i b hv.1 h1
    exact ⟨k1, by rw [k2]; exact hv.2⟩
  | .agg cs, v', u, h, hv => by
    simp only [backV] at h
    obtain ⟨x, h1, h⟩ := bnd_eq_some h
    injection h with h; subst h
    obtain ⟨us, e1, e2⟩ := hv
    exact ⟨us, e1, backL_sound B h1 e2⟩
  | .tup cs, v', u, h, hv => by
    simp only [backV] at h
    obtain ⟨x, h1, h⟩ := bnd_eq_some h
    injection h with h; subst h
    obtain ⟨us, e1, e2⟩ := hv
    exact ⟨us, e1, backL_sound B h1 e2⟩
  | .dead, v', u, h, hv => by simp only [backV] at h; injection h with h; subst h; trivial
  | .fz _, v', u, h, hv => by simp only [backV] at h; cases h
  | .pe _ _ _ _, v', u, h, hv => by simp only [backV] at h; cases h
  | .fn _ _, v', u, h, hv => by simp only [backV] at h; cases h
theorem backL_sound {ρ1 ρ2 : Rel} {ld : Lend} {t : Nat} {SU : List Value} (B : Back ρ1 ρ2 ld t SU) : ∀ {vs vs' : List V} {us : List Value}, backL ld t vs = some vs' → RVs ρ1 vs us → RVs ρ2 vs' us
  | [], vs', us, h, hv => by simp only [backL] at h; injection h with h; subst h; exact hv
  | v :: vs, vs', us, h, hv => by
    simp only [backL] at h
    obtain ⟨x, h1, h⟩ := bnd_eq_some h
    obtain ⟨z, h2, h⟩ := bnd_eq_some h
    injection h with h; subst h
    obtain ⟨u, q, rfl, e1, e2⟩ := hv
    exact ⟨u, q, rfl, backV_sound B h1 e1, backL_sound B h2 e2⟩
end
/-- what the callee may read -/
theorem lent_K (A : At c s y a w) {ld : Lend} {R : List Pc} {F : List Nat} (hR : Sep w (R ++ c.L) F) (hf : ∀ x ∈ froPs y.w0 y.F s.fro, x ∈ R) (ht : ∀ p rows, look p s.tree = some rows → p ∉ ld.tree → ownP (y.hd p) rows ∈ R) (hm : noMix ld = true) :
    ∃ K' : Nat → Obj → Prop, (∀ w', St c.W w' [snapP w F] → ∀ b o, K' b o → w'.heap[b]? = some o) ∧ (∀ v ∈ ld.src, ∀ u rows, RV (relOf c s y) v u → s.rows v = some rows → RdD K' (.l rows) u) ∧ (ld.src.all stable = true → K' = c.K) := by
  have hc : ∀ w', St c.W w' [snapP w F] → ∀ b o, c.K b o → w'.heap[b]? = some o := fun w' S b o hk => by
    have := St.unsnap (E := []) S hR
    exact c.hK w' (St.dropL this) b o hk
  by_cases hst : ld.src.all stable = true
  · refine ⟨c.K, hc, fun v hv u rows hr hrow => ?_, fun _ => rfl⟩
    have := List.all_eq_true.1 hst v hv
    cases v <;> simp only [stable] at this <;> try (cases this; done)
    case nil => simp only [S.rows] at hrow; injection hrow with hrow; subst hrow; rw [show u = _ from hr]; exact .nil none 0 (by omega) (fun _ => rfl)
    case lst o r => simp only [S.rows] at hrow; injection hrow with hrow; subst hrow; exact hr.1
  · refine ⟨fun b o => w.heap[b]? = some o ∧ (b ∈ F ∨ c.K b o), fun w' S b o hk => ?_, fun v hv u rows hr hrow => ?_, fun h => absurd h hst⟩
    · rcases hk.2 with h | h
      · exact (S.snap_at (by simp) b h).trans hk.1
      · exact hc w' S b o h
    · have hfro : ∀ p r, look p s.fro = some r → ∀ b ∈ y.F p, b ∈ F := by
        intro p r e b hb
        obtain ⟨F1, ⟨h1, _⟩, h2⟩ := hR.mem (List.mem_append_left _ (hf (snapP (y.w0 p) (y.F p)) (List.mem_map.2 ⟨(p, r), look_mem e, rfl⟩)))
        subst h1; exact h2 b hb
      cases v <;> simp only [S.rows] at hrow <;> try (cases hrow; done)
      case nil => injection hrow with hrow; subst hrow; rw [show u = _ from hr]; exact .nil none 0 (by omega) (fun _ => rfl)
      case lst o r => injection hrow with hrow; subst hrow; exact hr.1.mono fun b o hk => ⟨A.kw b o hk, .inr hk⟩
      case fz r =>
        injection hrow with hrow; subst hrow
        refine RdD.mono hr fun b o hk => ⟨A.zw b o hk, .inl ?_⟩
        obtain ⟨p, hp, hb, _⟩ := hk
        obtain ⟨r0, e⟩ := key_look.1 hp
        exact hfro p r0 e b hb
      case own p =>
        rw [show u = _ from hr.2]
        cases e : look p s.tree with
        | some r =>
          rw [e] at hrow; simp only [orElse1] at hrow; injection hrow with hrow; subst hrow
          have hn : p ∉ ld.tree := by
            intro hp
            have := List.all_eq_true.1 (List.all_eq_true.1 hm p hp) _ hv
            simp [mentions] at this
          obtain ⟨F1, h1, h2⟩ := hR.mem (List.mem_append_left _ (ht p r e hn))
          exact OwnD.rd (show OwnD w (.l r) (y.hd p) F1 from h1) fun b hb o ho => ⟨ho, .inl (h2 b hb)⟩
        | none =>
          rw [e] at hrow; simp only [orElse1] at hrow
          exact (A.fro p rows (look_mem hrow)).rd fun b hb o ho => ⟨A.zw b o ⟨p, key_look.2 ⟨rows, hrow⟩, hb, ho⟩, .inl (hfro p rows hrow b hb)⟩
end
end Go.Proofs.YtacnbajcignacaaGreat
