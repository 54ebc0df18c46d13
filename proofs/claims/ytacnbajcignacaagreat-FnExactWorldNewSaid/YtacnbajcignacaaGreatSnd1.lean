/-
  Soundness of the evaluator, first part: what a value, a state stand for.
-/
import Derived.Test.YtacnbajcignacaaGreatMem
namespace Go.Proofs.YtacnbajcignacaaGreat
open Go.RowKit
set_option linter.unusedSimpArgs false
set_option linter.unusedVariables false

/-- what the names in abstract values stand for -/
structure Rel where
  K : Nat → Obj → Prop
  Z : Nat → Obj → Prop
  src : Nat → Value
  bl : Nat → Nat
  hd : Nat → Value
  Lb : Nat → Prop
  Lt : Nat → Prop
mutual
/-- the value u is what v says -/
def RV (ρ : Rel) : V → Value → Prop
  | .v x, u => u = x
  | .nil, u => u = .slice none 0 0
  | .lst o rows, u => RdD ρ.K (.l rows) u ∧ ∀ j, o = some j → ρ.src j = u
  | .own p, u => ρ.Lt p ∧ u = ρ.hd p
  | .fz rows, u => RdD ρ.Z (.l rows) u
  | .ref b off, u => ρ.Lb b ∧ u = .pointer (some ⟨ρ.bl b, off, none⟩)
  | .pe base k i off, u => ∃ ub, RV ρ base ub ∧ ∃ g o n c, ub = .slice (some ⟨g, o, none⟩) n c ∧ i < n ∧ u = .pointer (some ⟨g, o + (i * k + off), none⟩)
  | .agg cs, u => ∃ us, u = .agg us.toArray ∧ RVs ρ cs us
  | .tup cs, u => ∃ us, u = .tuple us.toArray ∧ RVs ρ cs us
  | .fn f cs, u => ∃ us, u = .func (.func f) #[] us.toArray ∧ RVs ρ cs us
  | .dead, _ => True
def RVs (ρ : Rel) : List V → List Value → Prop
  | [], us => us = []
  | v :: r, us => ∃ u q, us = u :: q ∧ RV ρ v u ∧ RVs ρ r q
end
/-- more is known -/
structure Rel.le (ρ ρ' : Rel) : Prop where
  K : ∀ b o, ρ.K b o → ρ'.K b o
  Z : ∀ b o, ρ.Z b o → ρ'.Z b o
  src : ρ'.src = ρ.src
  b : ∀ b, ρ.Lb b → ρ'.Lb b ∧ ρ'.bl b = ρ.bl b
  t : ∀ p, ρ.Lt p → ρ'.Lt p ∧ ρ'.hd p = ρ.hd p
theorem Rel.le.refl (ρ : Rel) : ρ.le ρ := ⟨fun _ _ h => h, fun _ _ h => h, rfl, fun _ h => ⟨h, rfl⟩, fun _ h => ⟨h, rfl⟩⟩
mutual
theorem RV.le {ρ ρ' : Rel} (e : ρ.le ρ') : ∀ {v : V} {u : Value}, RV ρ v u → RV ρ' v u
  | .v _, _, h => h
  | .nil, _, h => h
  | .lst _ _, _, h => ⟨h.1.mono e.K, fun j i => by rw [e.src]; exact h.2 j i⟩
  | .own p, _, h => ⟨(e.t p h.1).1, by rw [(e.t p h.1).2]; exact h.2⟩
  | .fz _, _, h => RdD.mono h e.Z
  | .ref b _, _, h => ⟨(e.b b h.1).1, by rw [(e.b b h.1).2]; exact h.2⟩
  | .pe _ _ _ _, _, h => by obtain ⟨ub, h1, h2⟩ := h; exact ⟨ub, RV.le e h1, h2⟩
  | .agg _, _, h => by obtain ⟨us, h1, h2⟩ := h; exact ⟨us, h1, RVs.le e h2⟩
  | .tup _, _, h => by obtain ⟨us, h1, h2⟩ := h; exact ⟨us, h1, RVs.le e h2⟩
  | .fn _ _, _, h => by obtain ⟨us, h1, h2⟩ := h; exact ⟨us, h1, RVs.le e h2⟩
  | .dead, _, _ => trivial
theorem RVs.le {ρ ρ' : Rel} (e : ρ.le ρ') : ∀ {vs : List V} {us : List Value}, RVs ρ vs us → RVs ρ' vs us
  | [], _, h => h
  | _ :: _, _, h => by obtain ⟨u, q, h1, h2, h3⟩ := h; exact ⟨u, q, h1, RV.le e h2, RVs.le e h3⟩
end
mutual
/-- without the list p -/
theorem RV.less {ρ ρ' : Rel} {p : Nat} (hK : ρ'.K = ρ.K) (hZ : ∀ b o, ρ.Z b o → ρ'.Z b o) (hs : ρ'.src = ρ.src) (hb : ∀ b, ρ.Lb b → ρ'.Lb b ∧ ρ'.bl b = ρ.bl b) (ht : ∀ q, q ≠ p → ρ.Lt q → ρ'.Lt q ∧ ρ'.hd q = ρ.hd q) :
    ∀ {v : V} {u : Value}, mentions p v = false → RV ρ v u → RV ρ' v u
  | .v _, _, _, h => h
  | .nil, _, _, h => h
  | .lst _ _, _, _, h => ⟨by rw [hK]; exact h.1, fun j i => by rw [hs]; exact h.2 j i⟩
  | .own q, _, m, h => by
    have hq : q ≠ p := by intro e; subst e; simp [mentions] at m
    exact ⟨(ht q hq h.1).1, by rw [(ht q hq h.1).2]; exact h.2⟩
  | .fz _, _, _, h => RdD.mono h hZ
  | .ref b _, _, _, h => ⟨(hb b h.1).1, by rw [(hb b h.1).2]; exact h.2⟩
  | .pe _ _ _ _, _, m, h => by obtain ⟨ub, h1, h2⟩ := h; exact ⟨ub, RV.less hK hZ hs hb ht (by simpa [mentions] using m) h1, h2⟩
  | .agg _, _, m, h => by obtain ⟨us, h1, h2⟩ := h; exact ⟨us, h1, RVs.less hK hZ hs hb ht (by simpa [mentions] using m) h2⟩
  | .tup _, _, m, h => by obtain ⟨us, h1, h2⟩ := h; exact ⟨us, h1, RVs.less hK hZ hs hb ht (by simpa [mentions] using m) h2⟩
  | .fn _ _, _, m, h => by obtain ⟨us, h1, h2⟩ := h; exact ⟨us, h1, RVs.less hK hZ hs hb ht (by simpa [mentions] using m) h2⟩
  | .dead, _, _, _ => trivial
theorem RVs.less {ρ ρ' : Rel} {p : Nat} (hK : ρ'.K = ρ.K) (hZ : ∀ b o, ρ.Z b o → ρ'.Z b o) (hs : ρ'.src = ρ.src) (hb : ∀ b, ρ.Lb b → ρ'.Lb b ∧ ρ'.bl b = ρ.bl b) (ht : ∀ q, q ≠ p → ρ.Lt q → ρ'.Lt q ∧ ρ'.hd q = ρ.hd q) :
    ∀ {vs : List V} {us : List Value}, mentions.any p vs = false → RVs ρ vs us → RVs ρ' vs us
  | [], _, _, h => h
  | _ :: _, _, m, h => by
    simp [mentions.any] at m
    obtain ⟨u, q, h1, h2, h3⟩ := h; exact ⟨u, q, h1, RV.less hK hZ hs hb ht m.1 h2, RVs.less hK hZ hs hb ht m.2 h3⟩
end
theorem RVs.len {ρ : Rel} : ∀ {vs : List V} {us : List Value}, RVs ρ vs us → us.length = vs.length
  | [], _, h => by rw [show _ = [] from h]; rfl
  | _ :: _, _, h => by obtain ⟨u, q, rfl, h2, h3⟩ := h; rw [List.length_cons, List.length_cons, h3.len]
theorem RVs.get {ρ : Rel} : ∀ {vs : List V} {us : List Value} {i : Nat} {v : V}, RVs ρ vs us → vs[i]? = some v → ∃ u, us[i]? = some u ∧ RV ρ v u
  | [], _, i, v, _, e => by simp at e
  | _ :: _, _, 0, v, h, e => by obtain ⟨u, q, rfl, h2, h3⟩ := h; simp at e; subst e; exact ⟨u, rfl, h2⟩
  | _ :: _, _, i + 1, v, h, e => by obtain ⟨u, q, rfl, h2, h3⟩ := h; simpa using h3.get (i := i) (by simpa using e)
theorem RVs.of {ρ : Rel} : ∀ {vs : List V} {us : List Value}, us.length = vs.length → (∀ (i : Nat) (v : V) (u : Value), vs[i]? = some v → us[i]? = some u → RV ρ v u) → RVs ρ vs us
  | [], us, hl, _ => by cases us with | nil => rfl | cons => simp at hl
  | v :: vs, us, hl, h => by
    cases us with
    | nil => simp at hl
    | cons u us => exact ⟨u, us, rfl, h 0 v u rfl rfl, RVs.of (by simpa using hl) fun i v' u' e1 e2 => h (i + 1) v' u' (by simpa using e1) (by simpa using e2)⟩
theorem RVs.app {ρ : Rel} : ∀ {vs ws : List V} {us xs : List Value}, RVs ρ vs us → RVs ρ ws xs → RVs ρ (vs ++ ws) (us ++ xs)
  | [], _, _, _, h, k => by rw [show _ = [] from h]; exact k
  | _ :: _, _, _, _, h, k => by obtain ⟨u, q, rfl, h2, h3⟩ := h; exact ⟨u, q ++ _, rfl, h2, h3.app k⟩
theorem RVs.drop {ρ : Rel} : ∀ (n : Nat) {vs : List V} {us : List Value}, RVs ρ vs us → RVs ρ (vs.drop n) (us.drop n)
  | 0, _, _, h => h
  | n + 1, [], _, h => by rw [show _ = [] from h]; rfl
  | n + 1, _ :: _, _, h => by obtain ⟨u, q, rfl, h2, h3⟩ := h; exact h3.drop n
theorem RVs.take {ρ : Rel} : ∀ (n : Nat) {vs : List V} {us : List Value}, RVs ρ vs us → RVs ρ (vs.take n) (us.take n)
  | 0, _, _, _ => rfl
  | n + 1, [], _, h => by rw [show _ = [] from h]; rfl
  | n + 1, _ :: _, _, h => by obtain ⟨u, q, rfl, h2, h3⟩ := h; exact ⟨u, _, rfl, h2, h3.take n⟩
theorem RVs.set {ρ : Rel} {v : V} {u : Value} (k : RV ρ v u) : ∀ (n : Nat) {vs : List V} {us : List Value}, RVs ρ vs us → RVs ρ (vs.set n v) (us.set n u)
  | _, [], _, h => by rw [show _ = [] from h]; rfl
  | 0, _ :: _, _, h => by obtain ⟨u', q, rfl, h2, h3⟩ := h; exact ⟨u, q, rfl, k, h3⟩
  | n + 1, _ :: _, _, h => by obtain ⟨u', q, rfl, h2, h3⟩ := h; exact ⟨u', _, rfl, h2, h3.set k n⟩

/-! assoc lists -/
section
variable {α : Type}
theorem look_put {k : Nat} {x : α} : ∀ {l : List (Nat × α)} (j : Nat), look j (put k x l) = if j = k then some x else look j l
  | [], j => by simp only [put, look]
  | (i, y) :: r, j => by
    unfold put
    by_cases h : k = i
    · subst h; rw [if_pos rfl]; simp only [look]; split <;> rfl
    · rw [if_neg h]
      by_cases h2 : i < k
      · rw [if_pos h2]; simp only [look]
      · rw [if_neg h2]; simp only [look]
        by_cases h3 : j = i
        · subst h3; rw [if_pos rfl, if_pos rfl, if_neg fun e => h e.symm]
        · rw [if_neg h3, if_neg h3, look_put j]
theorem look_drop1 {k : Nat} : ∀ {l : List (Nat × α)} (j : Nat), look j (drop1 k l) = if j = k then none else look j l
  | [], j => by simp only [drop1, look]; split <;> rfl
  | (i, y) :: r, j => by
    unfold drop1
    by_cases h : k = i
    · subst h; rw [if_pos rfl, look_drop1 j]; simp only [look]
      by_cases h3 : j = k
      · rw [if_pos h3, if_pos h3]
      · rw [if_neg h3, if_neg h3, if_neg h3]
    · rw [if_neg h]; simp only [look]
      by_cases h3 : j = i
      · subst h3; rw [if_pos rfl, if_pos rfl, if_neg fun e => h e.symm]
      · rw [if_neg h3, if_neg h3, look_drop1 j]
theorem look_mem {k : Nat} {x : α} : ∀ {l : List (Nat × α)}, look k l = some x → (k, x) ∈ l
  | [], h => by cases h
  | (i, y) :: r, h => by
    simp only [look] at h
    split at h
    · rename_i e; subst e; injection h with h; subst h; exact List.mem_cons_self
    · exact List.mem_cons_of_mem _ (look_mem h)
theorem look_none {k : Nat} : ∀ {l : List (Nat × α)}, look k l = none → k ∉ l.map (·.1)
  | [], _ => by simp
  | (i, y) :: r, h => by
    simp only [look] at h
    split at h
    · cases h
    · rename_i e; simp only [List.map_cons, List.mem_cons, not_or]; exact ⟨e, look_none h⟩
theorem look_of_mem {k : Nat} {x : α} : ∀ {l : List (Nat × α)}, (l.map (·.1)).Nodup → (k, x) ∈ l → look k l = some x
  | [], _, h => by cases h
  | (i, y) :: r, n, h => by
    simp only [List.map_cons, List.nodup_cons] at n
    simp only [look]
    rcases List.mem_cons.1 h with h | hm
    · injection h with h1 h2; subst h1; subst h2; rw [if_pos rfl]
    · have : k ≠ i := by intro e; subst e; exact n.1 (List.mem_map.2 ⟨(k, x), hm, rfl⟩)
      rw [if_neg this]; exact look_of_mem n.2 hm
theorem upd_keys {k : Nat} {x : α} : ∀ (l : List (Nat × α)), (upd k x l).map (·.1) = l.map (·.1)
  | [] => rfl
  | (i, y) :: r => by
    unfold upd; split
    · rename_i e; subst e; rfl
    · rw [List.map_cons, List.map_cons, upd_keys r]
theorem mem_upd {k j : Nat} {x y : α} : ∀ {l : List (Nat × α)}, (l.map (·.1)).Nodup → (j, y) ∈ upd k x l → (j = k ∧ y = x) ∨ (j ≠ k ∧ (j, y) ∈ l)
  | [], _, h => by cases h
  | (i, z) :: r, n, h => by
    simp only [List.map_cons, List.nodup_cons] at n
    unfold upd at h
    split at h
    · rename_i e; subst e
      rcases List.mem_cons.1 h with h | hm
      · injection h with h1 h2; exact .inl ⟨h1, h2⟩
      · exact .inr ⟨fun e => n.1 (by rw [← e]; exact List.mem_map.2 ⟨(j, y), hm, rfl⟩), List.mem_cons_of_mem _ hm⟩
    · rename_i e
      rcases List.mem_cons.1 h with h | h
      · injection h with h1 h2; subst h1; subst h2; exact .inr ⟨fun e2 => e e2.symm, List.mem_cons_self⟩
      · rcases mem_upd n.2 h with h | h
        · exact .inl h
        · exact .inr ⟨h.1, List.mem_cons_of_mem _ h.2⟩
/-- an entry, and the others -/
theorem look_split {k : Nat} {x : α} : ∀ {l : List (Nat × α)}, look k l = some x → ∃ a b, l = a ++ (k, x) :: b ∧ (∀ y, upd k y l = a ++ (k, y) :: b) ∧ ((l.map (·.1)).Nodup → drop1 k l = a ++ b)
  | [], h => by cases h
  | (i, z) :: r, h => by
    simp only [look] at h
    by_cases e : k = i
    · subst e; rw [if_pos rfl] at h; injection h with h; subst h
      refine ⟨[], r, rfl, fun y => by unfold upd; rw [if_pos rfl]; rfl, fun n => ?_⟩
      simp only [List.map_cons, List.nodup_cons] at n
      unfold drop1; rw [if_pos rfl]
      have : ∀ {l : List (Nat × α)}, k ∉ l.map (·.1) → drop1 k l = l := by
        intro l; induction l with
        | nil => intro _; rfl
        | cons y l ih => intro hn; simp only [List.map_cons, List.mem_cons, not_or] at hn; obtain ⟨j, y⟩ := y; unfold drop1; rw [if_neg hn.1, ih hn.2]
      exact this n.1
    · rw [if_neg e] at h
      obtain ⟨a, b, h1, h2, h3⟩ := look_split h
      refine ⟨(i, z) :: a, b, by rw [h1]; rfl, fun y => by unfold upd; rw [if_neg e, h2]; rfl, fun n => ?_⟩
      simp only [List.map_cons, List.nodup_cons] at n
      unfold drop1; rw [if_neg e, h3 n.2]; rfl
end

/-! states -/
structure Ctx where
  W : World
  L : List Pc
  K : Nat → Obj → Prop
  src : Nat → Value
  n : Nat
  hK : ∀ w, St W w L → ∀ b o, K b o → w.heap[b]? = some o
  bF : Nat → Nat
  hF : Nat → Value
def boxPs (bl : Nat → Nat) (T : Nat → TypeId) (us : Nat → Array Value) (l : List (Nat × List V)) : List Pc := l.map fun x => rowP (bl x.1) (T x.1) (us x.1)
def treePs (hd : Nat → Value) (l : List (Nat × List (List D))) : List Pc := l.map fun x => ownP (hd x.1) x.2
def froPs (w0 : Nat → World) (F : Nat → List Nat) (l : List (Nat × List (List D))) : List Pc := l.map fun x => snapP (w0 x.1) (F x.1)
/-- where the names lie -/
structure Lay where
  bl : Nat → Nat
  hd : Nat → Value
  T : Nat → TypeId
  us : Nat → Array Value
  w0 : Nat → World
  F : Nat → List Nat
def relOf (c : Ctx) (s : S) (y : Lay) : Rel :=
  { K := c.K, Z := fun b o => ∃ p, p ∈ s.fro.map (·.1) ∧ b ∈ y.F p ∧ (y.w0 p).heap[b]? = some o, src := c.src, bl := y.bl, hd := y.hd, Lb := fun b => b ∈ s.box.map (·.1), Lt := fun p => p ∈ (s.tree ++ s.fro).map (·.1) }
structure At (c : Ctx) (s : S) (y : Lay) (a : Act) (w : World) : Prop where
  defers : a.defers = []
  size : a.tmps.size = c.n
  st : St c.W w (boxPs y.bl y.T y.us s.box ++ (treePs y.hd s.tree ++ (froPs y.w0 y.F s.fro ++ c.L)))
  env : ∀ t v, look t s.env = some v → RV (relOf c s y) v (a.tmps.getD t undef)
  box : ∀ b cs, (b, cs) ∈ s.box → RVs (relOf c s y) cs (y.us b).toList
  fro : ∀ p rows, (p, rows) ∈ s.fro → OwnD (y.w0 p) (.l rows) (y.hd p) (y.F p)
  nb : (s.box.map (·.1)).Nodup
  nt : ((s.tree ++ s.fro).map (·.1)).Nodup
  fix : c.n ≤ parBase ∧ ∀ i, parBase ≤ i → i < 2 * parBase → y.bl i = c.bF i ∧ y.hd i = c.hF i
/-- what is in the frame and the world is what s says -/
def Good (c : Ctx) (s : S) (a : Act) (w : World) : Prop := ∃ y, At c s y a w

theorem Sep.perm {w : World} {L L' : List Pc} (p : L.Perm L') : ∀ {F : List Nat}, Sep w L F → ∃ F', Sep w L' F' ∧ F'.Perm F := by
  induction p with
  | nil => intro F s; exact ⟨F, s, List.Perm.refl _⟩
  | cons x _ ih =>
    intro F s
    obtain ⟨F1, G, rfl, a, g⟩ := s.uncons
    obtain ⟨G', g', pg⟩ := ih g
    exact ⟨F1 ++ G', .cons a g', List.Perm.append_left _ pg⟩
  | swap x y l => intro F s; exact s.swap
  | trans _ _ ih1 ih2 =>
    intro F s
    obtain ⟨F1, s1, p1⟩ := ih1 s
    obtain ⟨F2, s2, p2⟩ := ih2 s1
    exact ⟨F2, s2, p2.trans p1⟩
theorem St.perm {W w : World} {L L' : List Pc} (S : St W w L) (p : L.Perm L') : St W w L' := by
  obtain ⟨F, s, n, hb⟩ := S.sep
  obtain ⟨F', s', pf⟩ := s.perm p
  exact ⟨S.ext, F', s', pf.nodup_iff.2 n, fun b h => hb b (pf.mem_iff.1 h)⟩
theorem St.dropL {W w : World} : ∀ {L1 L2 : List Pc}, St W w (L1 ++ L2) → St W w L2
  | [], _, S => S
  | _ :: _, _, S => St.dropL S.drop
end Go.Proofs.YtacnbajcignacaaGreat
