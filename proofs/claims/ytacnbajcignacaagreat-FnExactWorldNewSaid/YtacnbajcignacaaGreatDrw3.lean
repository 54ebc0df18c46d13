/-
  Regions in any order, third part: an operation may come before others.
-/
import Derived.Test.YtacnbajcignacaaGreatDrw2
namespace Go.Proofs.YtacnbajcignacaaGreat
open Go.RowKit
set_option linter.unusedSimpArgs false
set_option linter.unusedVariables false

theorem look_key {α : Type} {k : Nat} {l : List (Nat × α)} : k ∈ l.map (·.1) ↔ ∃ x, look k l = some x := by
  constructor
  · intro h
    cases e : look k l with
    | some x => exact ⟨x, rfl⟩
    | none => exact absurd h (look_none e)
  · rintro ⟨x, e⟩
    exact List.mem_map.2 ⟨_, look_mem e, rfl⟩
theorem keysB_look {s : S} {b : Nat} : b ∈ keysB s ↔ ∃ cs, look b s.box = some cs := look_key
theorem keysT_look {s : S} {p : Nat} : p ∈ keysT s ↔ (∃ r, look p s.tree = some r) ∨ ∃ r, look p s.fro = some r := by
  unfold keysT
  rw [List.map_append, List.mem_append, look_key, look_key]
theorem look_out {α : Type} {k : Nat} : ∀ {l m : List (Nat × α)}, k ∉ l.map (·.1) → look k (l ++ m) = look k m
  | [], _, _ => rfl
  | (j, x) :: l, m, h => by
    simp only [List.map_cons, List.mem_cons, not_or] at h
    simp only [List.cons_append, look, if_neg h.1]
    exact look_out h.2
theorem look_perm {α : Type} {k : Nat} {l l' : List (Nat × α)} (p : l'.Perm l) (n : (l.map (·.1)).Nodup) : look k l' = look k l := by
  have n' : (l'.map (·.1)).Nodup := (p.map _).nodup_iff.2 n
  cases h : look k l with
  | some x => exact look_of_mem n' (p.mem_iff.2 (look_mem h))
  | none =>
    cases h' : look k l' with
    | none => rfl
    | some x => 
      have : look k l = some x := look_of_mem n (p.mem_iff.1 (look_mem h'))
      rw [h] at this; cases this
/-- s1 says of the names of s what s says -/
structure Wide (s s1 : S) : Prop where
  box : ∀ b ∈ keysB s, look b s1.box = look b s.box
  tree : ∀ p ∈ keysT s, look p s1.tree = look p s.tree
  fro : s1.fro = s.fro
theorem Wide.refl (s : S) : Wide s s := ⟨fun _ _ => rfl, fun _ _ => rfl, rfl⟩
theorem Wide.keysB {s s1 : S} (W : Wide s s1) {b : Nat} (h : b ∈ keysB s) : b ∈ keysB s1 := by
  obtain ⟨cs, e⟩ := keysB_look.1 h
  exact keysB_look.2 ⟨cs, by rw [W.box b h]; exact e⟩
theorem Wide.keysT {s s1 : S} (W : Wide s s1) {p : Nat} (h : p ∈ keysT s) : p ∈ keysT s1 := by
  rcases keysT_look.1 h with ⟨r, e⟩ | ⟨r, e⟩
  · exact keysT_look.2 (.inl ⟨r, by rw [W.tree p h]; exact e⟩)
  · exact keysT_look.2 (.inr ⟨r, by rw [W.fro]; exact e⟩)
theorem Wide.trans {s s1 s2 : S} (W : Wide s s1) (X : Wide s1 s2) : Wide s s2 :=
  ⟨fun b h => (X.box b (W.keysB h)).trans (W.box b h), fun p h => (X.tree p (W.keysT h)).trans (W.tree p h), X.fro.trans W.fro⟩
theorem Wide.rows {s s1 : S} (W : Wide s s1) {p : Nat} (h : p ∈ Proofs.YtacnbajcignacaaGreat.keysT s) : s1.rows (.own p) = s.rows (.own p) := by
  simp only [S.rows, W.tree p h, W.fro]
theorem Wide.up {s s1 : S} (W : Wide s s1) : Agr (fun _ => True) (fun _ => True) s s1 :=
  ⟨fun b cs h _ => by rw [W.box b (keysB_look.2 ⟨cs, h⟩)]; exact h, fun p r h _ => by
    have : p ∈ Proofs.YtacnbajcignacaaGreat.keysT s := by
      simp only [S.rows] at h
      cases e : look p s.tree with
      | some r' => exact keysT_look.2 (.inl ⟨r', e⟩)
      | none => rw [e] at h; exact keysT_look.2 (.inr ⟨r, h⟩)
    rw [W.rows this]; exact h, W.fro⟩
theorem Wide.down {s s1 : S} (W : Wide s s1) : Agr (· ∈ Proofs.YtacnbajcignacaaGreat.keysB s) (· ∈ Proofs.YtacnbajcignacaaGreat.keysT s) s1 s :=
  ⟨fun b cs h hb => by rw [← W.box b hb]; exact h, fun p r h hp => by rw [← W.rows hp]; exact h, W.fro.symm⟩
/-- what an operation makes is new -/
structure Fresh (e : Eff) (s : S) : Prop where
  nt : (e.tree.map (·.1)).Nodup
  t : ∀ p ∈ e.tree.map (·.1), p ∉ keysT s ∧ p < 1000000000
  nb : (e.box.map (·.1)).Nodup
  b : ∀ b ∈ e.box.map (·.1), b ∉ keysB s
theorem freshT {l : List (Nat × List (List D))} : ∀ {s : S}, freshAll s l = true ↔ (l.map (·.1)).Nodup ∧ ∀ p ∈ l.map (·.1), p ∉ keysT s ∧ p < 1000000000 := by
  induction l with
  | nil => intro s; simp [freshAll]
  | cons x r ih =>
    intro s
    have hk : ∀ p, p ∈ keysT { s with tree := x :: s.tree } ↔ p = x.1 ∨ p ∈ keysT s := fun p => by simp [keysT]
    have hf : fresh s x.1 = true ↔ x.1 ∉ keysT s := by
      unfold fresh
      rw [Bool.and_eq_true, Option.isNone_iff_eq_none, Option.isNone_iff_eq_none, keysT_look]
      constructor
      · rintro ⟨h1, h2⟩ (⟨r, e⟩ | ⟨r, e⟩)
        · rw [h1] at e; cases e
        · rw [h2] at e; cases e
      · intro h
        constructor
        · cases e : look x.1 s.tree with
          | none => rfl
          | some r => exact absurd (.inl ⟨r, e⟩) h
        · cases e : look x.1 s.fro with
          | none => rfl
          | some r => exact absurd (.inr ⟨r, e⟩) h
    simp only [freshAll, Bool.and_eq_true, decide_eq_true_eq, List.map_cons, List.nodup_cons, List.mem_cons, forall_eq_or_imp]
    rw [ih, hf]
    constructor
    · rintro ⟨⟨h1, h2⟩, h3, h4⟩
      exact ⟨⟨fun h => (h4 _ h).1 ((hk _).2 (.inl rfl)), h3⟩, ⟨h1, h2⟩, fun p hp => ⟨fun h => (h4 p hp).1 ((hk p).2 (.inr h)), (h4 p hp).2⟩⟩
    · rintro ⟨⟨h1, h2⟩, h3, h4⟩
      exact ⟨h3, h2, fun p hp => ⟨fun h => ((hk p).1 h).elim (fun e => h1 (e ▸ hp)) (h4 p hp).1, (h4 p hp).2⟩⟩
theorem freshB {l : List (Nat × List V)} : ∀ {s : S}, freshBox s l = true ↔ (l.map (·.1)).Nodup ∧ ∀ p ∈ l.map (·.1), p ∉ keysB s := by
  induction l with
  | nil => intro s; simp [freshBox]
  | cons x r ih =>
    intro s
    have hk : ∀ p, p ∈ keysB { s with box := x :: s.box } ↔ p = x.1 ∨ p ∈ keysB s := fun p => by simp [keysB]
    have hf : (look x.1 s.box).isNone = true ↔ x.1 ∉ keysB s := by
      rw [Option.isNone_iff_eq_none, keysB_look]
      constructor
      · rintro h1 ⟨r, e⟩; rw [h1] at e; cases e
      · intro h
        cases e : look x.1 s.box with
        | none => rfl
        | some r => exact absurd ⟨r, e⟩ h
    simp only [freshBox, Bool.and_eq_true, List.map_cons, List.nodup_cons, List.mem_cons, forall_eq_or_imp]
    rw [ih, hf]
    constructor
    · rintro ⟨h1, h3, h4⟩
      exact ⟨⟨fun h => (h4 _ h) ((hk _).2 (.inl rfl)), h3⟩, h1, fun p hp h => (h4 p hp) ((hk p).2 (.inr h))⟩
    · rintro ⟨⟨h1, h2⟩, h3, h4⟩
      exact ⟨h3, h2, fun p hp h => ((hk p).1 h).elim (fun e => h1 (e ▸ hp)) (h4 p hp)⟩
theorem fresh_iff {e : Eff} {s : S} : (freshAll s e.tree && freshBox s e.box) = true ↔ Fresh e s := by
  rw [Bool.and_eq_true, freshT, freshB]
  exact ⟨fun ⟨⟨a, b⟩, c, d⟩ => ⟨a, b, c, d⟩, fun h => ⟨⟨h.nt, h.t⟩, h.nb, h.b⟩⟩
theorem Fresh.less {e : Eff} {s s1 : S} (h : Fresh e s1) (W : Wide s s1) : Fresh e s :=
  ⟨h.nt, fun p hp => ⟨fun k => (h.t p hp).1 (W.keysT k), (h.t p hp).2⟩, h.nb, fun b hb k => h.b b hb (W.keysB k)⟩
theorem app_keysB {s : S} {d : Option Nat} {e : Eff} {b : Nat} : b ∈ keysB (s.app d e) ↔ b ∈ e.box.map (·.1) ∨ b ∈ keysB s := by simp [keysB, S.app]
theorem app_keysT {s : S} {d : Option Nat} {e : Eff} {p : Nat} : p ∈ keysT (s.app d e) ↔ p ∈ e.tree.map (·.1) ∨ p ∈ keysT s := by
  unfold keysT S.app
  simp only [List.map_append, List.mem_append, List.map_reverse, List.mem_reverse]
  exact or_assoc
theorem Fresh.wide {e : Eff} {s : S} (h : Fresh e s) (d : Option Nat) : Wide s (s.app d e) :=
  ⟨fun b hb => look_out fun k => h.b b k hb, fun p hp => look_out fun k => (h.t p (by simpa using k)).1 hp, rfl⟩
/-- all names are different -/
def Nd (s : S) : Prop := (keysB s).Nodup ∧ (keysT s).Nodup
theorem Fresh.nd {e : Eff} {s : S} (h : Fresh e s) (n : Nd s) (d : Option Nat) : Nd (s.app d e) := by
  constructor
  · show ((e.box ++ s.box).map (·.1)).Nodup
    rw [List.map_append]
    exact List.nodup_append.2 ⟨h.nb, n.1, fun a ha b hb e => h.b a ha (e ▸ hb)⟩
  · show ((e.tree.reverse ++ s.tree ++ s.fro).map (·.1)).Nodup
    rw [List.append_assoc, List.map_append]
    refine List.nodup_append.2 ⟨?_, n.2, fun a ha b hb e => (h.t a (by simpa using ha)).1 (e ▸ hb)⟩
    rw [List.map_reverse]; exact (List.reverse_perm _).nodup_iff.2 h.nt
/-- the same, in another order -/
structure Eqv (s s2 : S) : Prop where
  env : ∀ t, look t s2.env = look t s.env
  box : s2.box.Perm s.box
  tree : s2.tree.Perm s.tree
  fro : s2.fro = s.fro
theorem Eqv.refl (s : S) : Eqv s s := ⟨fun _ => rfl, .refl _, .refl _, rfl⟩
theorem Eqv.trans {a b c : S} (h : Eqv a b) (k : Eqv b c) : Eqv a c := ⟨fun t => (k.env t).trans (h.env t), k.box.trans h.box, k.tree.trans h.tree, k.fro.trans h.fro⟩
theorem Eqv.symm {a b : S} (h : Eqv a b) : Eqv b a := ⟨fun t => (h.env t).symm, h.box.symm, h.tree.symm, h.fro.symm⟩
theorem Nd.parts {s : S} (n : Nd s) : (s.box.map (·.1)).Nodup ∧ (s.tree.map (·.1)).Nodup := ⟨n.1, by
  have := n.2; unfold keysT at this; rw [List.map_append] at this; exact (List.nodup_append.1 this).1⟩
theorem Eqv.wide {s s2 : S} (h : Eqv s s2) (n : Nd s) : Wide s s2 :=
  ⟨fun b _ => look_perm h.box n.parts.1, fun p _ => look_perm h.tree n.parts.2, h.fro⟩
theorem Eqv.nd {s s2 : S} (h : Eqv s s2) (n : Nd s) : Nd s2 := by
  refine ⟨(h.box.map _).nodup_iff.2 n.1, ?_⟩
  unfold keysT
  rw [h.fro]
  exact ((h.tree.append_right s.fro).map _).nodup_iff.2 n.2
theorem Eqv.keysB {s s2 : S} (h : Eqv s s2) {b : Nat} : b ∈ Proofs.YtacnbajcignacaaGreat.keysB s2 ↔ b ∈ Proofs.YtacnbajcignacaaGreat.keysB s := (h.box.map _).mem_iff
theorem Eqv.keysT {s s2 : S} (h : Eqv s s2) {p : Nat} : p ∈ Proofs.YtacnbajcignacaaGreat.keysT s2 ↔ p ∈ Proofs.YtacnbajcignacaaGreat.keysT s := by
  unfold Proofs.YtacnbajcignacaaGreat.keysT; rw [h.fro]; exact ((h.tree.append_right s.fro).map _).mem_iff
theorem look_putO {s : S} {d : Option Nat} {v : V} (t : Nat) : look t (s.put d v).env = if some t = d then some v else look t s.env := by
  cases d with
  | none => rw [if_neg (by intro h; cases h)]; rfl
  | some d =>
    show look t (YtacnbajcignacaaGreat.put d v s.env) = _
    rw [look_put]
    by_cases h : t = d
    · subst h; rw [if_pos rfl, if_pos rfl]
    · rw [if_neg h, if_neg (by intro e; injection e with e; exact h e)]
theorem app_env {s : S} {d : Option Nat} {e : Eff} (t : Nat) : look t (s.app d e).env = if some t = d then some e.val else look t s.env := look_putO t
theorem Eqv.app {s s2 : S} (h : Eqv s s2) (d : Option Nat) (e : Eff) : Eqv (s.app d e) (s2.app d e) :=
  ⟨fun t => by rw [app_env, app_env, h.env], h.box.append_left _, h.tree.append_left _, h.fro⟩
/-- two operations that do not write the same place -/
theorem app_comm (s : S) {d d' : Option Nat} (e e' : Eff) (h : ∀ t, d = some t → d' ≠ some t) : Eqv ((s.app d e).app d' e') ((s.app d' e').app d e) :=
  ⟨fun t => by
    rw [app_env, app_env, app_env, app_env]
    by_cases h1 : some t = d
    · rw [if_pos h1, if_neg fun h2 => h t h1.symm h2.symm, if_pos h1]
    · by_cases h2 : some t = d'
      · rw [if_neg h1, if_pos h2]
        split <;> first | rfl | (rename_i h3; exact absurd h2 h3)
      · rw [if_neg h1, if_neg h2, if_neg h2, if_neg h1],
   by show (e.box ++ (e'.box ++ s.box)).Perm (e'.box ++ (e.box ++ s.box))
      rw [← List.append_assoc, ← List.append_assoc]; exact List.Perm.append_right _ List.perm_append_comm,
   by show (e.tree.reverse ++ (e'.tree.reverse ++ s.tree)).Perm (e'.tree.reverse ++ (e.tree.reverse ++ s.tree))
      rw [← List.append_assoc, ← List.append_assoc]; exact List.Perm.append_right _ List.perm_append_comm, rfl⟩

/-- an operation that is still to come: whether it is wanted, and what it brings -/
structure Pd where
  i : Nat
  o : Oper
  g : Bool
  e : Eff
section
variable {P : Program} {G : List (FuncId × Bool × Mean)} {ops : Array Oper}
structure PdOk (P : Program) (G : List (FuncId × Bool × Mean)) (ops : Array Oper) (s : S) (x : Pd) : Prop where
  wants : s.wants ops x.o.guard = some x.g
  yes : x.g = true → ∃ d, x.o.dst = some d ∧ effOp P G s d x.o.op = some x.e
  no : x.g = false → x.e = ⟨.tup [], [], []⟩
  new : Fresh x.e s
theorem PdOk.move {oB oT : Nat → Prop} {s s' : S} {x : Pd} (h : PdOk P G ops s x) (A : Agr oB oT s s') (hL : ∀ t ∈ x.o.looksAt ops, look t s'.env = look t s.env)
    (hI : ∀ t ∈ x.o.looksAt ops, ∀ v, look t s'.env = some v → inS oB oT v) (hF : Fresh x.e s') : PdOk P G ops s' x := by
  refine ⟨?_, fun hg => ?_, h.no, hF⟩
  · have := h.wants
    cases e : x.o.guard with
    | none => rw [e] at this; exact this
    | some jw =>
      obtain ⟨j, want⟩ := jw
      rw [e] at this
      simp only [S.wants] at this ⊢
      cases hd : (ops[j]?).bind (·.dst) with
      | none => rw [hd] at this; exact this
      | some d =>
        rw [hd] at this
        simp only [wantsAt] at this ⊢
        rw [hL d (by unfold Oper.looksAt; rw [e]; simp [hd])]; exact this
  · obtain ⟨d, h1, h2⟩ := h.yes hg
    refine ⟨d, h1, effOp_agr A (fun z hz v hv => ?_) h2⟩
    cases z with
    | tmp t =>
      have ht : t ∈ x.o.looksAt ops := by
        unfold Oper.looksAt
        exact List.mem_append_left _ (List.mem_filterMap.2 ⟨.tmp t, hz, rfl⟩)
      have hv : look t s.env = some v := hv
      have h3 : look t s'.env = some v := by rw [hL t ht]; exact hv
      exact ⟨h3, hI t ht v h3⟩
    | const c => exact ⟨hv, constV_inS hv⟩
    | func f => exact ⟨hv, by have hv : some (V.fn f []) = some v := hv; injection hv with hv; subst hv; trivial⟩
    | global g => cases hv
/-- one after the other, as in the text -/
inductive Seg (P : Program) (G : List (FuncId × Bool × Mean)) (ops : Array Oper) : S → List Pd → S → Prop
  | nil (s : S) : Seg P G ops s [] s
  | cons {s t : S} {x : Pd} {l : List Pd} : PdOk P G ops s x → Seg P G ops (s.app x.o.dst x.e) l t → Seg P G ops s (x :: l) t
theorem Seg.eqv {l : List Pd} : ∀ {s s2 t : S}, Seg P G ops s l t → Eqv s s2 → Nd s → ∃ t2, Seg P G ops s2 l t2 ∧ Eqv t t2 := by
  induction l with
  | nil => intro s s2 t h k n; cases h; exact ⟨s2, .nil _, k⟩
  | cons x l ih =>
    intro s s2 t h k n
    cases h with
    | cons h1 h2 =>
      have hF : Fresh x.e s2 := ⟨h1.new.nt, fun p hp => ⟨fun q => (h1.new.t p hp).1 (k.keysT.1 q), (h1.new.t p hp).2⟩, h1.new.nb, fun b hb q => h1.new.b b hb (k.keysB.1 q)⟩
      obtain ⟨t2, a, b⟩ := ih h2 (k.app x.o.dst x.e) (h1.new.nd n _)
      exact ⟨t2, .cons (h1.move (k.wide n).up (fun t _ => k.env t) (fun _ _ v _ => inS_true v) hF) a, b⟩
/-- before the others nothing of it is there -/
theorem Seg.fresh {x : Pd} {l2 : List Pd} : ∀ {l : List Pd} {s t : S}, Seg P G ops s (l ++ x :: l2) t → Fresh x.e s
  | [], s, t, h => by cases h with | cons h1 _ => exact h1.new
  | y :: l, s, t, h => by
    cases h with
    | cons h1 h2 => exact (Seg.fresh (l := l) h2).less (h1.new.wide _)
/-- the operation, ahead of others -/
theorem Seg.skip {x : Pd} {l2 : List Pd} : ∀ {l : List Pd} {s s2 t : S}, Seg P G ops s (l ++ x :: l2) t → (∀ y ∈ l, x.o.apart ops y.o = true) → Eqv (s.app x.o.dst x.e) s2 → Nd s → ∃ t2, Seg P G ops s2 (l ++ l2) t2 ∧ Eqv t t2
  | [], s, s2, t, h, _, k, n => by
    cases h with | cons h1 h2 => exact Seg.eqv h2 k (h1.new.nd n _)
  | y :: l, s, s2, t, h, ha, k, n => by
    have hx := Seg.fresh (l := y :: l) h
    cases h with
    | cons h1 h2 =>
      have hx1 := Seg.fresh (l := l) h2
      obtain ⟨a1, a2, a3⟩ := Oper.apart_spec (ha y (by simp))
      have n1 : Nd (s.app x.o.dst x.e) := hx.nd n _
      have W : Wide s s2 := (hx.wide _).trans (k.wide n1)
      have hF : Fresh y.e s2 := by
        refine ⟨h1.new.nt, fun p hp => ⟨fun q => ?_, (h1.new.t p hp).2⟩, h1.new.nb, fun b hb q => ?_⟩
        · rcases app_keysT.1 (k.keysT.1 q) with q | q
          · exact (hx1.t p q).1 (app_keysT.2 (.inl hp))
          · exact (h1.new.t p hp).1 q
        · rcases app_keysB.1 (k.keysB.1 q) with q | q
          · exact hx1.b b q (app_keysB.2 (.inl hb))
          · exact h1.new.b b hb q
      have hy : PdOk P G ops s2 y := h1.move W.up (fun t ht => by
        rw [k.env, app_env, if_neg]
        intro e; exact a1 t e.symm ht) (fun _ _ v _ => inS_true v) hF
      obtain ⟨t2, b1, b2⟩ := Seg.skip (l := l) h2 (fun z hz => ha z (by simp [hz])) ((app_comm s y.e x.e fun t e => fun e2 => a2 t e2 e).trans (k.app y.o.dst y.e)) (h1.new.nd n _)
      exact ⟨t2, .cons hy b1, b2⟩
/-- states before it say of the names what the first says -/
theorem Seg.upto {x : Pd} {l2 : List Pd} : ∀ {l : List Pd} {s t : S}, Seg P G ops s (l ++ x :: l2) t → ∃ s1, PdOk P G ops s1 x ∧ Wide s s1 ∧ ∀ r, (∀ y ∈ l, y.o.dst ≠ some r) → look r s1.env = look r s.env
  | [], s, t, h => by cases h with | cons h1 h2 => exact ⟨s, h1, .refl s, fun _ _ => rfl⟩
  | y :: l, s, t, h => by
    cases h with
    | cons h1 h2 =>
      obtain ⟨s1, a, b, c⟩ := Seg.upto (l := l) h2
      refine ⟨s1, a, (h1.new.wide _).trans b, fun r hr => ?_⟩
      rw [c r fun z hz => hr z (by simp [hz]), app_env, if_neg fun e => hr y (by simp) e.symm]
/-- an operation that is apart from those before it may come first -/
theorem Seg.front {x : Pd} {l l2 : List Pd} {s t : S} (h : Seg P G ops s (l ++ x :: l2) t) (ha : ∀ y ∈ l, x.o.apart ops y.o = true) (n : Nd s) (hI : ∀ r v, look r s.env = some v → inS (· ∈ keysB s) (· ∈ keysT s) v) :
    PdOk P G ops s x ∧ ∃ t2, Seg P G ops (s.app x.o.dst x.e) (l ++ l2) t2 ∧ Eqv t t2 := by
  obtain ⟨s1, h1, W, he⟩ := h.upto
  refine ⟨h1.move W.down (fun r hr => (he r fun y hy e => (Oper.apart_spec (ha y hy)).2.2 r e hr).symm) (fun r _ v hv => hI r v hv) (h1.new.less W), Seg.skip h ha (.refl _) n⟩
end
end Go.Proofs.YtacnbajcignacaaGreat
