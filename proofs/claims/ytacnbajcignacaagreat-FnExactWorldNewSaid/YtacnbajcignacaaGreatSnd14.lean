/-
  Soundness of the evaluator, fourteenth part: what a caller lends.
-/
import Derived.Test.YtacnbajcignacaaGreatSnd13
namespace Go.Proofs.YtacnbajcignacaaGreat
open Go.RowKit
set_option linter.unusedSimpArgs false
set_option linter.unusedVariables false

mutual
/-- of the lists, only those that v mentions -/
theorem RV.sub {ρ ρ' : Rel} (hK : ρ'.K = ρ.K) (hZ : ∀ b o, ρ.Z b o → ρ'.Z b o) (hs : ρ'.src = ρ.src) (hb : ∀ b, ρ.Lb b → ρ'.Lb b ∧ ρ'.bl b = ρ.bl b) :
    ∀ {v : V} {u : Value}, (∀ q, mentions q v = true → ρ.Lt q → ρ'.Lt q ∧ ρ'.hd q = ρ.hd q) → RV ρ v u → RV ρ' v u
  | .v _, _, _, h => h
  | .nil, _, _, h => h
  | .lst _ _, _, _, h => ⟨by rw [hK]; exact h.1, fun j i => by rw [hs]; exact h.2 j i⟩
  | .own q, _, m, h => by
    have := m q (by simp [mentions]) h.1
    exact ⟨this.1, by rw [this.2]; exact h.2⟩
  | .fz _, _, _, h => RdD.mono h hZ
  | .ref b _, _, _, h => ⟨(hb b h.1).1, by rw [(hb b h.1).2]; exact h.2⟩
  | .pe _ _ _ _, _, m, h => by obtain ⟨ub, h1, h2⟩ := h; exact ⟨ub, RV.sub hK hZ hs hb (fun q hq => m q (by simpa [mentions] using hq)) h1, h2⟩
  | .agg _, _, m, h => by obtain ⟨us, h1, h2⟩ := h; exact ⟨us, h1, RVs.sub hK hZ hs hb (fun q hq => m q (by simpa [mentions] using hq)) h2⟩
  | .tup _, _, m, h => by obtain ⟨us, h1, h2⟩ := h; exact ⟨us, h1, RVs.sub hK hZ hs hb (fun q hq => m q (by simpa [mentions] using hq)) h2⟩
  | .fn _ _, _, m, h => by obtain ⟨us, h1, h2⟩ := h; exact ⟨us, h1, RVs.sub hK hZ hs hb (fun q hq => m q (by simpa [mentions] using hq)) h2⟩
  | .dead, _, _, _ => trivial
theorem RVs.sub {ρ ρ' : Rel} (hK : ρ'.K = ρ.K) (hZ : ∀ b o, ρ.Z b o → ρ'.Z b o) (hs : ρ'.src = ρ.src) (hb : ∀ b, ρ.Lb b → ρ'.Lb b ∧ ρ'.bl b = ρ.bl b) :
    ∀ {vs : List V} {us : List Value}, (∀ q, mentions.any q vs = true → ρ.Lt q → ρ'.Lt q ∧ ρ'.hd q = ρ.hd q) → RVs ρ vs us → RVs ρ' vs us
  | [], _, _, h => h
  | _ :: _, _, m, h => by
    obtain ⟨u, q, h1, h2, h3⟩ := h
    exact ⟨u, q, h1, RV.sub hK hZ hs hb (fun q hq => m q (by simp [mentions.any, hq])) h2, RVs.sub hK hZ hs hb (fun q hq => m q (by simp [mentions.any, hq])) h3⟩
end
theorem pos_none {k : Nat} : ∀ {l : List Nat} {i : Nat}, pos k l i = none → k ∉ l
  | [], _, _ => by simp
  | j :: r, i, h => by
    simp only [pos] at h
    split at h
    · cases h
    · rename_i e; simp only [List.mem_cons, not_or]; exact ⟨e, pos_none h⟩
theorem pos_some {k : Nat} : ∀ {l : List Nat} {i m : Nat}, pos k l i = some m → ∃ d, m = i + d ∧ l[d]? = some k
  | [], _, _, h => by cases h
  | j :: r, i, m, h => by
    simp only [pos] at h
    split at h
    · rename_i e; subst e; injection h with h; subst h; exact ⟨0, rfl, rfl⟩
    · obtain ⟨d, e1, e2⟩ := pos_some h
      exact ⟨d + 1, by omega, by simpa using e2⟩
/-- what the callee's names stand for: ld: what is lent; SU: the lists' values -/
structure Lent (ρ ρ' : Rel) (s : S) (ld : Lend) (SU : List Value) : Prop where
  src : ∀ j u, SU[j]? = some u → ρ'.src j = u
  b : ∀ i b, ld.box[i]? = some b → ρ'.Lb i ∧ ρ'.bl i = ρ.bl b
  t : ∀ i p, ld.tree[i]? = some p → ρ'.Lt i ∧ ρ'.hd i = ρ.hd p
  rd : ∀ v ∈ ld.src, ∀ u rows, RV ρ v u → s.rows v = some rows → RdD ρ'.K (.l rows) u
/-- more is lent -/
structure Lend.le (l l' : Lend) (U U' : List Value) : Prop where
  src : l.src <+: l'.src
  box : l.box <+: l'.box
  tree : l.tree <+: l'.tree
  val : U <+: U'
theorem Lend.le.refl (l : Lend) (U : List Value) : l.le l U U := ⟨List.prefix_refl _, List.prefix_refl _, List.prefix_refl _, List.prefix_refl _⟩
theorem Lend.le.trans {a b d : Lend} {U V W : List Value} (h : a.le b U V) (k : b.le d V W) : a.le d U W := ⟨h.src.trans k.src, h.box.trans k.box, h.tree.trans k.tree, h.val.trans k.val⟩
/-- so far: the lists' values, no box and no list twice -/
structure Lend.ok (l : Lend) (ρ : Rel) (s : S) (U : List Value) : Prop where
  src : RVs ρ l.src U
  nb : l.box.Nodup
  nt : l.tree.Nodup
  kt : ∀ p ∈ l.tree, look p s.fro = none
theorem prefix_get {α : Type} {l l' : List α} (h : l <+: l') {i : Nat} {x : α} (e : l[i]? = some x) : l'[i]? = some x := by
  obtain ⟨t, rfl⟩ := h
  rw [List.getElem?_append_left (List.getElem?_eq_some_iff.1 e).1]; exact e
theorem prefix_mem {α : Type} {l l' : List α} (h : l <+: l') {x : α} (e : x ∈ l) : x ∈ l' := by
  obtain ⟨t, rfl⟩ := h
  exact List.mem_append_left _ e
section
variable {ρ : Rel} {s : S}
/-- v as the callee sees it -/
def Seen (ρ : Rel) (s : S) (l : Lend) (U : List Value) (v' : V) (u : Value) : Prop := ∀ (ρ' : Rel) (ld : Lend) (SU : List Value), l.le ld U SU → Lent ρ ρ' s ld SU → RV ρ' v' u
def Seens (ρ : Rel) (s : S) (l : Lend) (U : List Value) (vs : List V) (us : List Value) : Prop := ∀ (ρ' : Rel) (ld : Lend) (SU : List Value), l.le ld U SU → Lent ρ ρ' s ld SU → RVs ρ' vs us
theorem lend_list {l : Lend} {U : List Value} (o : l.ok ρ s U) {v : V} {u : Value} {rows : List (List D)} (hv : RV ρ v u) (hr : s.rows v = some rows) :
    ∃ U', l.le { l with src := l.src ++ [v] } U U' ∧ Lend.ok { l with src := l.src ++ [v] } ρ s U' ∧ Seen ρ s { l with src := l.src ++ [v] } U' (.lst (some l.src.length) rows) u := by
  have hl := o.src.len
  refine ⟨U ++ [u], ⟨List.prefix_append _ _, List.prefix_refl _, List.prefix_refl _, List.prefix_append _ _⟩, ⟨o.src.app ⟨u, [], rfl, hv, rfl⟩, o.nb, o.nt, o.kt⟩, fun ρ' ld SU le L => ?_⟩
  refine ⟨L.rd v (prefix_mem le.src (by simp)) u rows hv hr, fun j e => ?_⟩
  injection e with e; subst e
  exact L.src _ _ (prefix_get le.val (by rw [← hl]; simp))
mutual
theorem lendV_sound : ∀ {l l' : Lend} {U : List Value} {v v' : V} {u : Value}, l.ok ρ s U → lendV s l v = some (v', l') → RV ρ v u → ∃ U', l.le l' U U' ∧ l'.ok ρ s U' ∧ Seen ρ s l' U' v' u
  | l, l', U, .v x, v', u, o, h, hv => by
    simp only [lendV] at h; injection h with h; injection h with h1 h2; subst h1; subst h2
    exact ⟨U, Lend.le.refl _ _, o, fun _ _ _ _ _ => hv⟩
  | l, l', U, .ref b off, v', u, o, h, hv => by
    simp only [lendV] at h
    cases e : pos b l.box 0 with
    | some i =>
      rw [e] at h; simp only [lendRef] at h; injection h with h; injection h with h1 h2; subst h1; subst h2
      obtain ⟨d, e1, e2⟩ := pos_some e
      have : i = d := by omega
      subst this
      refine ⟨U, Lend.le.refl _ _, ⟨o.src, o.nb, o.nt, o.kt⟩, fun ρ' ld SU le L => ?_⟩
      obtain ⟨k1, k2⟩ := L.b i b (prefix_get le.box e2)
      exact ⟨k1, by rw [k2]; exact hv.2⟩
    | none =>
      rw [e] at h; simp only [lendRef] at h; injection h with h; injection h with h1 h2; subst h1; subst h2
      have hn := pos_none e
      refine ⟨U, ⟨List.prefix_refl _, List.prefix_append _ _, List.prefix_refl _, List.prefix_refl _⟩, ⟨o.src, ?_, o.nt, o.kt⟩, fun ρ' ld SU le L => ?_⟩
      · exact List.nodup_append.2 ⟨o.nb, by simp, fun x hx z hz e9 => by simp at hz; rw [e9, hz] at hx; exact hn hx⟩
      · obtain ⟨k1, k2⟩ := L.b l.box.length b (prefix_get le.box (by simp))
        exact ⟨k1, by rw [k2]; exact hv.2⟩
  | l, l', U, .agg cs, v', u, o, h, hv => by
    simp only [lendV] at h
    obtain ⟨x, h1, h⟩ := bnd_eq_some h
    injection h with h; injection h with h2 h3; subst h2; subst h3
    obtain ⟨us, e1, e2⟩ := hv
    obtain ⟨U', k1, k2, k3⟩ := lendL_sound (l' := x.2) (vs' := x.1) o h1 e2
    exact ⟨U', k1, k2, fun ρ' ld SU le L => ⟨us, e1, k3 ρ' ld SU le L⟩⟩
  | l, l', U, .fn f cs, v', u, o, h, hv => by
    simp only [lendV] at h
    obtain ⟨x, h1, h⟩ := bnd_eq_some h
    injection h with h; injection h with h2 h3; subst h2; subst h3
    obtain ⟨us, e1, e2⟩ := hv
    obtain ⟨U', k1, k2, k3⟩ := lendL_sound (l' := x.2) (vs' := x.1) o h1 e2
    exact ⟨U', k1, k2, fun ρ' ld SU le L => ⟨us, e1, k3 ρ' ld SU le L⟩⟩
  | l, l', U, .nil, v', u, o, h, hv => by
    simp only [lendV] at h; injection h with h; injection h with h1 h2; subst h1; subst h2
    exact lend_list o hv rfl
  | l, l', U, .lst q rows, v', u, o, h, hv => by
    simp only [lendV] at h; injection h with h; injection h with h1 h2; subst h1; subst h2
    exact lend_list o hv rfl
  | l, l', U, .fz rows, v', u, o, h, hv => by
    simp only [lendV] at h; injection h with h; injection h with h1 h2; subst h1; subst h2
    exact lend_list o hv rfl
  | l, l', U, .own p, v', u, o, h, hv => by
    simp only [lendV] at h
    obtain ⟨rows, h1, h⟩ := bnd_eq_some h
    injection h with h; injection h with h2 h3; subst h2; subst h3
    exact lend_list o hv h1
  | l, l', U, .pe _ _ _ _, v', u, o, h, hv => by simp only [lendV] at h; cases h
  | l, l', U, .tup _, v', u, o, h, hv => by simp only [lendV] at h; cases h
  | l, l', U, .dead, v', u, o, h, hv => by simp only [lendV] at h; cases h
theorem lendL_sound : ∀ {l l' : Lend} {U : List Value} {vs vs' : List V} {us : List Value}, l.ok ρ s U → lendL s l vs = some (vs', l') → RVs ρ vs us → ∃ U', l.le l' U U' ∧ l'.ok ρ s U' ∧ Seens ρ s l' U' vs' us
  | l, l', U, [], vs', us, o, h, hv => by
    simp only [lendL] at h; injection h with h; injection h with h1 h2; subst h1; subst h2
    exact ⟨U, Lend.le.refl _ _, o, fun _ _ _ _ _ => hv⟩
  | l, l', U, v :: vs, vs', us, o, h, hv => by
    simp only [lendL] at h
    obtain ⟨x, h1, h⟩ := bnd_eq_some h
    obtain ⟨z, h2, h⟩ := bnd_eq_some h
    injection h with h; injection h with h3 h4; subst h3; subst h4
    obtain ⟨u, q, rfl, e1, e2⟩ := hv
    obtain ⟨U1, a1, a2, a3⟩ := lendV_sound (l' := x.2) (v' := x.1) o h1 e1
    obtain ⟨U2, b1, b2, b3⟩ := lendL_sound (l' := z.2) (vs' := z.1) a2 h2 e2
    exact ⟨U2, a1.trans b1, b2, fun ρ' ld SU le L => ⟨u, q, rfl, a3 ρ' ld SU (b1.trans le) L, b3 ρ' ld SU le L⟩⟩
end
theorem lendCells_sound (hap : ∀ (p : Nat) (r1 r2 : List (List D)), look p s.tree = some r1 → look p s.fro = some r2 → False) : ∀ {l l' : Lend} {U : List Value} {vs vs' : List V} {us : List Value}, l.ok ρ s U → lendCells s l vs = some (vs', l') → RVs ρ vs us → ∃ U', l.le l' U U' ∧ l'.ok ρ s U' ∧ Seens ρ s l' U' vs' us
  | l, l', U, [], vs', us, o, h, hv => by
    simp only [lendCells] at h; injection h with h; injection h with h1 h2; subst h1; subst h2
    exact ⟨U, Lend.le.refl _ _, o, fun _ _ _ _ _ => hv⟩
  | l, l', U, v :: vs, vs', us, o, h, hv => by
    obtain ⟨u, q, rfl, e1, e2⟩ := hv
    have gen : (bnd (lendV s l v) fun x => bnd (lendCells s x.2 vs) fun y => some (x.1 :: y.1, y.2)) = some (vs', l') → ∃ U', l.le l' U U' ∧ l'.ok ρ s U' ∧ Seens ρ s l' U' vs' (u :: q) := by
      intro h
      obtain ⟨x, h1, h⟩ := bnd_eq_some h
      obtain ⟨z, h2, h⟩ := bnd_eq_some h
      injection h with h; injection h with h3 h4; subst h3; subst h4
      obtain ⟨U1, a1, a2, a3⟩ := lendV_sound (l' := x.2) (v' := x.1) o h1 e1
      obtain ⟨U2, b1, b2, b3⟩ := lendCells_sound hap (l' := z.2) (vs' := z.1) a2 h2 e2
      exact ⟨U2, a1.trans b1, b2, fun ρ' ld SU le L => ⟨u, q, rfl, a3 ρ' ld SU (b1.trans le) L, b3 ρ' ld SU le L⟩⟩
    cases v with
    | own p =>
      simp only [lendCells] at h
      cases e : pos p l.tree 0 with
      | some i => rw [e] at h; simp only [lendOwn] at h; cases h
      | none =>
        have hn := pos_none e
        rw [e] at h
        cases e3 : look p s.fro with
        | some rows =>
          rw [e3] at h; simp only [lendOwn] at h
          obtain ⟨x, h1, h⟩ := bnd_eq_some h
          injection h with h; injection h with h3 h4; subst h3; subst h4
          have hr : s.rows (.own p) = some rows := by
            simp only [S.rows]
            cases e4 : look p s.tree with
            | none => rw [e3]; rfl
            | some r0 => exact (hap p r0 rows e4 e3).elim
          obtain ⟨U1, a1, a2, a3⟩ := lend_list o e1 hr
          obtain ⟨U2, b1, b2, b3⟩ := lendCells_sound hap (l' := x.2) (vs' := x.1) a2 h1 e2
          exact ⟨U2, a1.trans b1, b2, fun ρ' ld SU le L => ⟨u, q, rfl, a3 ρ' ld SU (b1.trans le) L, b3 ρ' ld SU le L⟩⟩
        | none =>
          rw [e3] at h; simp only [lendOwn] at h
          obtain ⟨x, h1, h⟩ := bnd_eq_some h
          injection h with h; injection h with h3 h4; subst h3; subst h4
          have o' : Lend.ok ⟨l.src, l.box, l.tree ++ [p]⟩ ρ s U := ⟨o.src, o.nb, List.nodup_append.2 ⟨o.nt, by simp, fun x hx z hz e9 => by simp at hz; rw [e9, hz] at hx; exact hn hx⟩, fun p' hp' => by
            rcases List.mem_append.1 hp' with hp' | hp'
            · exact o.kt p' hp'
            · simp at hp'; subst hp'; exact e3⟩
          obtain ⟨U2, b1, b2, b3⟩ := lendCells_sound hap (l' := x.2) (vs' := x.1) o' h1 e2
          have le0 : l.le ⟨l.src, l.box, l.tree ++ [p]⟩ U U := ⟨List.prefix_refl _, List.prefix_refl _, List.prefix_append _ _, List.prefix_refl _⟩
          refine ⟨U2, le0.trans b1, b2, fun ρ' ld SU le L => ⟨u, q, rfl, ?_, b3 ρ' ld SU le L⟩⟩
          obtain ⟨k1, k2⟩ := L.t l.tree.length p (prefix_get (b1.trans le).tree (by simp))
          exact ⟨k1, by rw [k2]; exact e1.2⟩
    | dead =>
      simp only [lendCells] at h
      obtain ⟨x, h1, h⟩ := bnd_eq_some h
      injection h with h; injection h with h3 h4; subst h3; subst h4
      obtain ⟨U2, b1, b2, b3⟩ := lendCells_sound hap (l' := x.2) (vs' := x.1) o h1 e2
      exact ⟨U2, b1, b2, fun ρ' ld SU le L => ⟨u, q, rfl, trivial, b3 ρ' ld SU le L⟩⟩
    | _ => simp only [lendCells] at h; exact gen h
theorem lendM_sound (hap : ∀ (p : Nat) (r1 r2 : List (List D)), look p s.tree = some r1 → look p s.fro = some r2 → False) : ∀ {l l' : Lend} {U : List Value} {vs vs' : List V} {us : List Value}, l.ok ρ s U → lendM s l vs = some (vs', l') → RVs ρ vs us → ∃ U', l.le l' U U' ∧ l'.ok ρ s U' ∧ Seens ρ s l' U' vs' us
  | l, l', U, [], vs', us, o, h, hv => by
    simp only [lendM] at h; injection h with h; injection h with h1 h2; subst h1; subst h2
    exact ⟨U, Lend.le.refl _ _, o, fun _ _ _ _ _ => hv⟩
  | l, l', U, v :: vs, vs', us, o, h, hv => by
    obtain ⟨u, q, rfl, e1, e2⟩ := hv
    have gen : (bnd (lendCells s l [v]) fun x => bnd (lendM s x.2 vs) fun y => some (x.1 ++ y.1, y.2)) = some (vs', l') → ∃ U', l.le l' U U' ∧ l'.ok ρ s U' ∧ Seens ρ s l' U' vs' (u :: q) := by
      intro h
      obtain ⟨x, h1, h⟩ := bnd_eq_some h
      obtain ⟨z, h2, h⟩ := bnd_eq_some h
      injection h with h; injection h with h3 h4; subst h3; subst h4
      obtain ⟨U1, a1, a2, a3⟩ := lendCells_sound hap (l' := x.2) (vs' := x.1) (vs := [v]) (us := [u]) o h1 ⟨u, [], rfl, e1, rfl⟩
      obtain ⟨U2, b1, b2, b3⟩ := lendM_sound hap (l' := z.2) (vs' := z.1) a2 h2 e2
      exact ⟨U2, a1.trans b1, b2, fun ρ' ld SU le L => (a3 ρ' ld SU (b1.trans le) L).app (b3 ρ' ld SU le L)⟩
    cases v with
    | agg cs =>
      simp only [lendM] at h
      obtain ⟨us, k1, k2⟩ := e1
      obtain ⟨x, h1, h⟩ := bnd_eq_some h
      obtain ⟨z, h2, h⟩ := bnd_eq_some h
      injection h with h; injection h with h3 h4; subst h3; subst h4
      obtain ⟨U1, a1, a2, a3⟩ := lendCells_sound hap (l' := x.2) (vs' := x.1) o h1 k2
      obtain ⟨U2, b1, b2, b3⟩ := lendM_sound hap (l' := z.2) (vs' := z.1) a2 h2 e2
      exact ⟨U2, a1.trans b1, b2, fun ρ' ld SU le L => ⟨u, q, rfl, ⟨us, k1, a3 ρ' ld SU (b1.trans le) L⟩, b3 ρ' ld SU le L⟩⟩
    | _ => simp only [lendM] at h; exact gen h
theorem lendA_sound (hap : ∀ (p : Nat) (r1 r2 : List (List D)), look p s.tree = some r1 → look p s.fro = some r2 → False) {m : Bool} {l l' : Lend} {U : List Value} {vs vs' : List V} {us : List Value} (o : l.ok ρ s U) (h : lendA m s l vs = some (vs', l')) (hv : RVs ρ vs us) : ∃ U', l.le l' U U' ∧ l'.ok ρ s U' ∧ Seens ρ s l' U' vs' us := by
  unfold lendA at h
  split at h
  · exact lendM_sound hap o h hv
  · exact lendL_sound o h hv
end
end Go.Proofs.YtacnbajcignacaaGreat
