/- Part 7 of a proof in several texts (an abstract evaluator, what the functions compute). -/
import Derived.Test.YtjhdikdopdcfcaaGreatDoorPkFnSearch6
namespace Go.Proofs.YtjhdikdopdcfcaaGreatDoor
open Go.RowKit
set_option linter.unusedSimpArgs false
set_option linter.unusedVariables false
mutual
theorem RV.sub {ρ ρ' : Rel} (hK : ρ'.K = ρ.K) (hZ : ∀ b o, ρ.Z b o → ρ'.Z b o) (hs : ρ'.src = ρ.src) (hb : ∀ b, ρ.Lb b → ρ'.Lb b ∧ ρ'.bl b = ρ.bl b) :
    ∀ {v : V} {u : Value}, (∀ q, mentions q v = true → ρ.Lt q → ρ'.Lt q ∧ ρ'.hd q = ρ.hd q) → RV ρ v u → RV ρ' v u
  | .v _, _, _, h => h
  | .nil, _, _, h => h
  | .lst _ _, _, _, h => ⟨by rw [hK]; exact h.1, fun j i => by rw [hs]; exact h.2 j i⟩
  | .own q, _, m, h => by
    have := m q (by simp [mentions]) h.1
    exact ⟨this.1, by rw [this.2]; exact h.2⟩
  | .inn q _ _ _, _, m, h => by
    have := m q (by simp [mentions]) h.1
    exact ⟨this.1, by rw [this.2]; exact h.2⟩
  | .fz _, _, _, h => RdD.mono h hZ
  | .mp _, _, _, h => MpIn.mono h hZ
  | .ref b _, _, _, h => ⟨(hb b h.1).1, by rw [(hb b h.1).2]; exact h.2⟩
  | .pe _ _ _ _, _, m, h => by obtain ⟨ub, h1, h2⟩ := h; exact ⟨ub, RV.sub hK hZ hs hb (fun q hq => m q (by simpa [mentions] using hq)) h1, h2⟩
  | .agg _, _, m, h => by obtain ⟨us, h1, h2⟩ := h; exact ⟨us, h1, RVs.sub hK hZ hs hb (fun q hq => m q (by simpa [mentions] using hq)) h2⟩
  | .tup _, _, m, h => by obtain ⟨us, h1, h2⟩ := h; exact ⟨us, h1, RVs.sub hK hZ hs hb (fun q hq => m q (by simpa [mentions] using hq)) h2⟩
  | .fn _ _, _, m, h => by obtain ⟨us, h1, h2⟩ := h; exact ⟨us, h1, RVs.sub hK hZ hs hb (fun q hq => m q (by simpa [mentions] using hq)) h2⟩
  | .dead, _, _, _ => trivial
theorem RVs.sub {ρ ρ' : Rel} (hK : ρ'.K = ρ.K) (hZ : ∀ b o, ρ.Z b o → ρ'.Z b o) (hs : ρ'.src = ρ.src) (hb : ∀ b, ρ.Lb b → ρ'.Lb b ∧ ρ'.bl b = ρ.bl b) :
    ∀ {vs : List V} {us : List Value}, (∀ q, mentions.any q vs = true → ρ.Lt q → ρ'.Lt q ∧ ρ'.hd q = ρ.hd q) → RVs ρ vs us → RVs ρ' vs us
  | [], _, _, h => h
  | _ :: _, _, m, h => by
    obtain ⟨u, q, h1, h2, h3⟩ := h
    exact ⟨u, q, h1, RV.sub hK hZ hs hb (fun q hq => m q (by simp [mentions.any, hq])) h2, RVs.sub hK hZ hs hb (fun q hq => m q (by simp [mentions.any, hq])) h3⟩
end
theorem pos_none {k : Nat} : ∀ {l : List Nat} {i : Nat}, pos k l i = none → k ∉ l
  | [], _, _ => by simp
  | j :: r, i, h => by
    simp only [pos] at h
    split at h
    · cases h
    · rename_i e; simp only [List.mem_cons, not_or]; exact ⟨e, pos_none h⟩
theorem pos_some {k : Nat} : ∀ {l : List Nat} {i m : Nat}, pos k l i = some m → ∃ d, m = i + d ∧ l[d]? = some k
  | [], _, _, h => by cases h
  | j :: r, i, m, h => by
    simp only [pos] at h
    split at h
    · rename_i e; subst e; injection h with h; subst h; exact ⟨0, rfl, rfl⟩
    · obtain ⟨d, e1, e2⟩ := pos_some h
      exact ⟨d + 1, by omega, by simpa using e2⟩
structure Lent (ρ ρ' : Rel) (s : S) (ld : Lend) (SU : List Value) : Prop where
  src : ∀ j u, SU[j]? = some u → ρ'.src j = u
  b : ∀ i b, ld.box[i]? = some b → ρ'.Lb i ∧ ρ'.bl i = ρ.bl b
  t : ∀ i p, ld.tree[i]? = some p → ρ'.Lt i ∧ ρ'.hd i = ρ.hd p
  rd : ∀ v ∈ ld.src, ∀ u rows, RV ρ v u → s.rows v = some rows → RdD ρ'.K (.l rows) u
structure Lend.le (l l' : Lend) (U U' : List Value) : Prop where
  src : l.src <+: l'.src
  box : l.box <+: l'.box
  tree : l.tree <+: l'.tree
  val : U <+: U'
theorem Lend.le.refl (l : Lend) (U : List Value) : l.le l U U := ⟨List.prefix_refl _, List.prefix_refl _, List.prefix_refl _, List.prefix_refl _⟩
theorem Lend.le.trans {a b d : Lend} {U V W : List Value} (h : a.le b U V) (k : b.le d V W) : a.le d U W := ⟨h.src.trans k.src, h.box.trans k.box, h.tree.trans k.tree, h.val.trans k.val⟩
structure Lend.ok (l : Lend) (ρ : Rel) (s : S) (U : List Value) : Prop where
  src : RVs ρ l.src U
  nb : l.box.Nodup
  nt : l.tree.Nodup
  kt : ∀ p ∈ l.tree, look p s.fro = none
theorem prefix_get {α : Type} {l l' : List α} (h : l <+: l') {i : Nat} {x : α} (e : l[i]? = some x) : l'[i]? = some x := by
  obtain ⟨t, rfl⟩ := h
  rw [List.getElem?_append_left (List.getElem?_eq_some_iff.1 e).1]; exact e
theorem prefix_mem {α : Type} {l l' : List α} (h : l <+: l') {x : α} (e : x ∈ l) : x ∈ l' := by
  obtain ⟨t, rfl⟩ := h
  exact List.mem_append_left _ e
section
variable {ρ : Rel} {s : S}
def Seen (ρ : Rel) (s : S) (l : Lend) (U : List Value) (v' : V) (u : Value) : Prop := ∀ (ρ' : Rel) (ld : Lend) (SU : List Value), l.le ld U SU → Lent ρ ρ' s ld SU → RV ρ' v' u
def Seens (ρ : Rel) (s : S) (l : Lend) (U : List Value) (vs : List V) (us : List Value) : Prop := ∀ (ρ' : Rel) (ld : Lend) (SU : List Value), l.le ld U SU → Lent ρ ρ' s ld SU → RVs ρ' vs us
theorem lend_list {l : Lend} {U : List Value} (o : l.ok ρ s U) {v : V} {u : Value} {rows : List (List D)} (hv : RV ρ v u) (hr : s.rows v = some rows) :
    ∃ U', l.le { l with src := l.src ++ [v] } U U' ∧ Lend.ok { l with src := l.src ++ [v] } ρ s U' ∧ Seen ρ s { l with src := l.src ++ [v] } U' (.lst (some l.src.length) rows) u := by
  have hl := o.src.len
  refine ⟨U ++ [u], ⟨List.prefix_append _ _, List.prefix_refl _, List.prefix_refl _, List.prefix_append _ _⟩, ⟨o.src.app ⟨u, [], rfl, hv, rfl⟩, o.nb, o.nt, o.kt⟩, fun ρ' ld SU le L => ?_⟩
  refine ⟨L.rd v (prefix_mem le.src (by simp)) u rows hv hr, fun j e => ?_⟩
  injection e with e; subst e
  exact L.src _ _ (prefix_get le.val (by rw [← hl]; simp))
mutual
theorem lendV_sound : ∀ {l l' : Lend} {U : List Value} {v v' : V} {u : Value}, l.ok ρ s U → lendV s l v = some (v', l') → RV ρ v u → ∃ U', l.le l' U U' ∧ l'.ok ρ s U' ∧ Seen ρ s l' U' v' u
  | l, l', U, .v x, v', u, o, h, hv => by
    simp only [lendV] at h; injection h with h; injection h with h1 h2; subst h1; subst h2
    exact ⟨U, Lend.le.refl _ _, o, fun _ _ _ _ _ => hv⟩
  | l, l', U, .ref b off, v', u, o, h, hv => by
    simp only [lendV] at h
    cases e : pos b l.box 0 with
    | some i =>
      rw [e] at h; simp only [lendRef] at h; injection h with h; injection h with h1 h2; subst h1; subst h2
      obtain ⟨d, e1, e2⟩ := pos_some e
      have : i = d := by omega
      subst this
      refine ⟨U, Lend.le.refl _ _, ⟨o.src, o.nb, o.nt, o.kt⟩, fun ρ' ld SU le L => ?_⟩
      obtain ⟨k1, k2⟩ := L.b i b (prefix_get le.box e2)
      exact ⟨k1, by rw [k2]; exact hv.2⟩
    | none =>
      rw [e] at h; simp only [lendRef] at h; injection h with h; injection h with h1 h2; subst h1; subst h2
      have hn := pos_none e
      refine ⟨U, ⟨List.prefix_refl _, List.prefix_append _ _, List.prefix_refl _, List.prefix_refl _⟩, ⟨o.src, ?_, o.nt, o.kt⟩, fun ρ' ld SU le L => ?_⟩
      · exact List.nodup_append.2 ⟨o.nb, by simp, fun x hx z hz e9 => by simp at hz; rw [e9, hz] at hx; exact hn hx⟩
      · obtain ⟨k1, k2⟩ := L.b l.box.length b (prefix_get le.box (by simp))
        exact ⟨k1, by rw [k2]; exact hv.2⟩
  | l, l', U, .agg cs, v', u, o, h, hv => by
    simp only [lendV] at h
    obtain ⟨x, h1, h⟩ := bnd_eq_some h
    injection h with h; injection h with h2 h3; subst h2; subst h3
    obtain ⟨us, e1, e2⟩ := hv
    obtain ⟨U', k1, k2, k3⟩ := lendL_sound (l' := x.2) (vs' := x.1) o h1 e2
    exact ⟨U', k1, k2, fun ρ' ld SU le L => ⟨us, e1, k3 ρ' ld SU le L⟩⟩
  | l, l', U, .fn f cs, v', u, o, h, hv => by
    simp only [lendV] at h
    obtain ⟨x, h1, h⟩ := bnd_eq_some h
    injection h with h; injection h with h2 h3; subst h2; subst h3
    obtain ⟨us, e1, e2⟩ := hv
    obtain ⟨U', k1, k2, k3⟩ := lendL_sound (l' := x.2) (vs' := x.1) o h1 e2
    exact ⟨U', k1, k2, fun ρ' ld SU le L => ⟨us, e1, k3 ρ' ld SU le L⟩⟩
  | l, l', U, .nil, v', u, o, h, hv => by
    simp only [lendV] at h; injection h with h; injection h with h1 h2; subst h1; subst h2
    exact lend_list o hv rfl
  | l, l', U, .lst q rows, v', u, o, h, hv => by
    simp only [lendV] at h; injection h with h; injection h with h1 h2; subst h1; subst h2
    exact lend_list o hv rfl
  | l, l', U, .fz rows, v', u, o, h, hv => by
    simp only [lendV] at h; injection h with h; injection h with h1 h2; subst h1; subst h2
    exact lend_list o hv rfl
  | l, l', U, .own p, v', u, o, h, hv => by
    simp only [lendV] at h
    obtain ⟨rows, h1, h⟩ := bnd_eq_some h
    injection h with h; injection h with h2 h3; subst h2; subst h3
    exact lend_list o hv h1
  | l, l', U, .inn p i1 j1 k1, v', u, o, h, hv => by
    simp only [lendV] at h
    obtain ⟨rows, h1, h⟩ := bnd_eq_some h
    injection h with h; injection h with h2 h3; subst h2; subst h3
    exact lend_list o hv h1
  | l, l', U, .pe _ _ _ _, v', u, o, h, hv => by simp only [lendV] at h; cases h
  | l, l', U, .tup _, v', u, o, h, hv => by simp only [lendV] at h; cases h
  | l, l', U, .dead, v', u, o, h, hv => by simp only [lendV] at h; cases h
theorem lendL_sound : ∀ {l l' : Lend} {U : List Value} {vs vs' : List V} {us : List Value}, l.ok ρ s U → lendL s l vs = some (vs', l') → RVs ρ vs us → ∃ U', l.le l' U U' ∧ l'.ok ρ s U' ∧ Seens ρ s l' U' vs' us
  | l, l', U, [], vs', us, o, h, hv => by
    simp only [lendL] at h; injection h with h; injection h with h1 h2; subst h1; subst h2
    exact ⟨U, Lend.le.refl _ _, o, fun _ _ _ _ _ => hv⟩
  | l, l', U, v :: vs, vs', us, o, h, hv => by
    simp only [lendL] at h
    obtain ⟨x, h1, h⟩ := bnd_eq_some h
    obtain ⟨z, h2, h⟩ := bnd_eq_some h
    injection h with h; injection h with h3 h4; subst h3; subst h4
    obtain ⟨u, q, rfl, e1, e2⟩ := hv
    obtain ⟨U1, a1, a2, a3⟩ := lendV_sound (l' := x.2) (v' := x.1) o h1 e1
    obtain ⟨U2, b1, b2, b3⟩ := lendL_sound (l' := z.2) (vs' := z.1) a2 h2 e2
    exact ⟨U2, a1.trans b1, b2, fun ρ' ld SU le L => ⟨u, q, rfl, a3 ρ' ld SU (b1.trans le) L, b3 ρ' ld SU le L⟩⟩
end
theorem lendCells_sound (hap : ∀ (p : Nat) (r1 r2 : List (List D)), look p s.tree = some r1 → look p s.fro = some r2 → False) : ∀ {l l' : Lend} {U : List Value} {vs vs' : List V} {us : List Value}, l.ok ρ s U → lendCells s l vs = some (vs', l') → RVs ρ vs us → ∃ U', l.le l' U U' ∧ l'.ok ρ s U' ∧ Seens ρ s l' U' vs' us
  | l, l', U, [], vs', us, o, h, hv => by
    simp only [lendCells] at h; injection h with h; injection h with h1 h2; subst h1; subst h2
    exact ⟨U, Lend.le.refl _ _, o, fun _ _ _ _ _ => hv⟩
  | l, l', U, v :: vs, vs', us, o, h, hv => by
    obtain ⟨u, q, rfl, e1, e2⟩ := hv
    have gen : (bnd (lendV s l v) fun x => bnd (lendCells s x.2 vs) fun y => some (x.1 :: y.1, y.2)) = some (vs', l') → ∃ U', l.le l' U U' ∧ l'.ok ρ s U' ∧ Seens ρ s l' U' vs' (u :: q) := by
      intro h
      obtain ⟨x, h1, h⟩ := bnd_eq_some h
      obtain ⟨z, h2, h⟩ := bnd_eq_some h
      injection h with h; injection h with h3 h4; subst h3; subst h4
      obtain ⟨U1, a1, a2, a3⟩ := lendV_sound (l' := x.2) (v' := x.1) o h1 e1
      obtain ⟨U2, b1, b2, b3⟩ := lendCells_sound hap (l' := z.2) (vs' := z.1) a2 h2 e2
      exact ⟨U2, a1.trans b1, b2, fun ρ' ld SU le L => ⟨u, q, rfl, a3 ρ' ld SU (b1.trans le) L, b3 ρ' ld SU le L⟩⟩
    cases v with
    | own p =>
      simp only [lendCells] at h
      cases e : pos p l.tree 0 with
      | some i => rw [e] at h; simp only [lendOwn] at h; cases h
      | none =>
        have hn := pos_none e
        rw [e] at h
        cases e3 : look p s.fro with
        | some rows =>
          rw [e3] at h; simp only [lendOwn] at h
          obtain ⟨x, h1, h⟩ := bnd_eq_some h
          injection h with h; injection h with h3 h4; subst h3; subst h4
          have hr : s.rows (.own p) = some rows := by
            simp only [S.rows]
            cases e4 : look p s.tree with
            | none => rw [e3]; rfl
            | some r0 => exact (hap p r0 rows e4 e3).elim
          obtain ⟨U1, a1, a2, a3⟩ := lend_list o e1 hr
          obtain ⟨U2, b1, b2, b3⟩ := lendCells_sound hap (l' := x.2) (vs' := x.1) a2 h1 e2
          exact ⟨U2, a1.trans b1, b2, fun ρ' ld SU le L => ⟨u, q, rfl, a3 ρ' ld SU (b1.trans le) L, b3 ρ' ld SU le L⟩⟩
        | none =>
          rw [e3] at h; simp only [lendOwn] at h
          obtain ⟨x, h1, h⟩ := bnd_eq_some h
          injection h with h; injection h with h3 h4; subst h3; subst h4
          have o' : Lend.ok ⟨l.src, l.box, l.tree ++ [p]⟩ ρ s U := ⟨o.src, o.nb, List.nodup_append.2 ⟨o.nt, by simp, fun x hx z hz e9 => by simp at hz; rw [e9, hz] at hx; exact hn hx⟩, fun p' hp' => by
            rcases List.mem_append.1 hp' with hp' | hp'
            · exact o.kt p' hp'
            · simp at hp'; subst hp'; exact e3⟩
          obtain ⟨U2, b1, b2, b3⟩ := lendCells_sound hap (l' := x.2) (vs' := x.1) o' h1 e2
          have le0 : l.le ⟨l.src, l.box, l.tree ++ [p]⟩ U U := ⟨List.prefix_refl _, List.prefix_refl _, List.prefix_append _ _, List.prefix_refl _⟩
          refine ⟨U2, le0.trans b1, b2, fun ρ' ld SU le L => ⟨u, q, rfl, ?_, b3 ρ' ld SU le L⟩⟩
          obtain ⟨k1, k2⟩ := L.t l.tree.length p (prefix_get (b1.trans le).tree (by simp))
          exact ⟨k1, by rw [k2]; exact e1.2⟩
    | dead =>
      simp only [lendCells] at h
      obtain ⟨x, h1, h⟩ := bnd_eq_some h
      injection h with h; injection h with h3 h4; subst h3; subst h4
      obtain ⟨U2, b1, b2, b3⟩ := lendCells_sound hap (l' := x.2) (vs' := x.1) o h1 e2
      exact ⟨U2, b1, b2, fun ρ' ld SU le L => ⟨u, q, rfl, trivial, b3 ρ' ld SU le L⟩⟩
    | _ => simp only [lendCells] at h; exact gen h
theorem lendM_sound (hap : ∀ (p : Nat) (r1 r2 : List (List D)), look p s.tree = some r1 → look p s.fro = some r2 → False) : ∀ {l l' : Lend} {U : List Value} {vs vs' : List V} {us : List Value}, l.ok ρ s U → lendM s l vs = some (vs', l') → RVs ρ vs us → ∃ U', l.le l' U U' ∧ l'.ok ρ s U' ∧ Seens ρ s l' U' vs' us
  | l, l', U, [], vs', us, o, h, hv => by
    simp only [lendM] at h; injection h with h; injection h with h1 h2; subst h1; subst h2
    exact ⟨U, Lend.le.refl _ _, o, fun _ _ _ _ _ => hv⟩
  | l, l', U, v :: vs, vs', us, o, h, hv => by
    obtain ⟨u, q, rfl, e1, e2⟩ := hv
    have gen : (bnd (lendCells s l [v]) fun x => bnd (lendM s x.2 vs) fun y => some (x.1 ++ y.1, y.2)) = some (vs', l') → ∃ U', l.le l' U U' ∧ l'.ok ρ s U' ∧ Seens ρ s l' U' vs' (u :: q) := by
      intro h
      obtain ⟨x, h1, h⟩ := bnd_eq_some h
      obtain ⟨z, h2, h⟩ := bnd_eq_some h
      injection h with h; injection h with h3 h4; subst h3; subst h4
      obtain ⟨U1, a1, a2, a3⟩ := lendCells_sound hap (l' := x.2) (vs' := x.1) (vs := [v]) (us := [u]) o h1 ⟨u, [], rfl, e1, rfl⟩
      obtain ⟨U2, b1, b2, b3⟩ := lendM_sound hap (l' := z.2) (vs' := z.1) a2 h2 e2
      exact ⟨U2, a1.trans b1, b2, fun ρ' ld SU le L => (a3 ρ' ld SU (b1.trans le) L).app (b3 ρ' ld SU le L)⟩
    cases v with
    | agg cs =>
      simp only [lendM] at h
      obtain ⟨us, k1, k2⟩ := e1
      obtain ⟨x, h1, h⟩ := bnd_eq_some h
      obtain ⟨z, h2, h⟩ := bnd_eq_some h
      injection h with h; injection h with h3 h4; subst h3; subst h4
      obtain ⟨U1, a1, a2, a3⟩ := lendCells_sound hap (l' := x.2) (vs' := x.1) o h1 k2
      obtain ⟨U2, b1, b2, b3⟩ := lendM_sound hap (l' := z.2) (vs' := z.1) a2 h2 e2
      exact ⟨U2, a1.trans b1, b2, fun ρ' ld SU le L => ⟨u, q, rfl, ⟨us, k1, a3 ρ' ld SU (b1.trans le) L⟩, b3 ρ' ld SU le L⟩⟩
    | _ => simp only [lendM] at h; exact gen h
theorem lendA_sound (hap : ∀ (p : Nat) (r1 r2 : List (List D)), look p s.tree = some r1 → look p s.fro = some r2 → False) {m : Bool} {l l' : Lend} {U : List Value} {vs vs' : List V} {us : List Value} (o : l.ok ρ s U) (h : lendA m s l vs = some (vs', l')) (hv : RVs ρ vs us) : ∃ U', l.le l' U U' ∧ l'.ok ρ s U' ∧ Seens ρ s l' U' vs' us := by
  unfold lendA at h
  split at h
  · exact lendM_sound hap o h hv
  · exact lendL_sound o h hv
end
end Go.Proofs.YtjhdikdopdcfcaaGreatDoor
namespace Go.Proofs.YtjhdikdopdcfcaaGreatDoor
open Go.RowKit
set_option linter.unusedSimpArgs false
set_option linter.unusedVariables false
theorem perm_of_mem {l1 : List Nat} : ∀ {l2 : List Nat}, l1.Nodup → l2.Nodup → (∀ x, x ∈ l1 ↔ x ∈ l2) → l1.Perm l2 := by
  induction l1 with
  | nil =>
    intro l2 _ _ h
    cases l2 with
    | nil => exact List.Perm.refl _
    | cons x l => exact absurd ((h x).2 (by simp)) (by simp)
  | cons a t ih =>
    intro l2 n1 n2 h
    have ha : a ∈ l2 := (h a).1 (by simp)
    obtain ⟨p, q, rfl⟩ := List.append_of_mem ha
    have n3 := List.perm_middle.nodup_iff.1 n2
    have n4 := List.nodup_cons.1 n3
    have n5 := List.nodup_cons.1 n1
    refine (List.Perm.cons a (ih n5.2 n4.2 fun x => ?_)).trans List.perm_middle.symm
    constructor
    · intro hx
      have := (h x).1 (by simp [hx])
      rcases List.mem_append.1 this with h1 | h1
      · exact List.mem_append_left _ h1
      · rcases List.mem_cons.1 h1 with h1 | h1
        · subst h1; exact absurd hx n5.1
        · exact List.mem_append_right _ h1
    · intro hx
      have : x ∈ a :: t := (h x).2 (by
        rcases List.mem_append.1 hx with h1 | h1
        · exact List.mem_append_left _ h1
        · exact List.mem_append_right _ (List.mem_cons_of_mem _ h1))
      rcases List.mem_cons.1 this with h1 | h1
      · subst h1; exact absurd hx n4.1
      · exact h1
section
variable {α : Type}
theorem key_look {k : Nat} {l : List (Nat × α)} : k ∈ l.map (·.1) ↔ ∃ x, look k l = some x := by
  constructor
  · intro h
    cases e : look k l with
    | none => exact absurd h (look_none e)
    | some x => exact ⟨x, rfl⟩
  · intro ⟨x, h⟩
    exact List.mem_map.2 ⟨_, look_mem h, rfl⟩
theorem look_upd {k : Nat} {x : α} : ∀ {l : List (Nat × α)} (j : Nat), look j (upd k x l) = if j = k then (look j l).map (fun _ => x) else look j l
  | [], j => by simp only [upd, look]; split <;> rfl
  | (i, y) :: r, j => by
    unfold upd
    by_cases h : k = i
    · subst h; rw [if_pos rfl]; simp only [look]
      by_cases h3 : j = k
      · subst h3; rw [if_pos rfl, if_pos rfl, if_pos rfl]; rfl
      · rw [if_neg h3, if_neg h3, if_neg h3]
    · rw [if_neg h]; simp only [look]
      by_cases h3 : j = i
      · subst h3; rw [if_pos rfl, if_pos rfl, if_neg fun e => h e.symm]
      · rw [if_neg h3, if_neg h3, look_upd j]
theorem drop1_mem {k : Nat} : ∀ {l : List (Nat × α)} {q : Nat}, q ∈ (drop1 k l).map (·.1) ↔ q ∈ l.map (·.1) ∧ q ≠ k := by
  intro l q
  rw [key_look, key_look]
  rw [look_drop1]
  by_cases h : q = k
  · rw [if_pos h]; simp [h]
  · rw [if_neg h]; simp [h]
theorem drop1_nodup {k : Nat} : ∀ {l : List (Nat × α)}, (l.map (·.1)).Nodup → ((drop1 k l).map (·.1)).Nodup
  | [], h => h
  | (i, z) :: r, h => by
    simp only [List.map_cons, List.nodup_cons] at h
    unfold drop1
    split
    · exact drop1_nodup h.2
    · rw [List.map_cons, List.nodup_cons]
      exact ⟨fun hx => h.1 (drop1_mem.1 hx).1, drop1_nodup h.2⟩
theorem map_look {β : Type} {f : Nat × α → β} (d : α) {l : List (Nat × α)} (n : (l.map (·.1)).Nodup) : l.map f = (l.map (·.1)).map fun k => f (k, (look k l).getD d) := by
  rw [List.map_map]
  apply List.map_congr_left
  intro x hx
  have := look_of_mem n (k := x.1) (x := x.2) hx
  simp only [Function.comp, this, Option.getD_some]
theorem withIdx_look : ∀ {l : List α} {n : Nat} (i : Nat), look (n + i) (withIdx n l) = l[i]?
  | [], n, i => by simp only [withIdx, look]; simp
  | x :: r, n, 0 => by simp only [withIdx, look]; simp
  | x :: r, n, i + 1 => by
    simp only [withIdx, look]
    rw [if_neg (by omega), show n + (i + 1) = n + 1 + i by omega, withIdx_look i]
    simp
theorem withIdx_keys : ∀ {l : List α} {n : Nat}, (withIdx n l).map (·.1) = List.range' n l.length
  | [], n => rfl
  | x :: r, n => by
    simp only [withIdx, List.map_cons, List.length_cons, List.range'_succ]
    rw [withIdx_keys]
theorem withIdx_nodup {l : List α} {n : Nat} : ((withIdx n l).map (·.1)).Nodup := by
  rw [withIdx_keys]; exact List.nodup_range'
end
theorem pos_get : ∀ {l : List Nat} {i : Nat} {b n : Nat}, l.Nodup → l[i]? = some b → pos b l n = some (n + i)
  | [], i, b, n, _, h => by simp at h
  | a :: r, 0, b, n, _, h => by simp at h; subst h; simp only [pos]; simp
  | a :: r, i + 1, b, n, nd, h => by
    simp only [pos]
    have h : r[i]? = some b := by simpa using h
    have nd := List.nodup_cons.1 nd
    rw [if_neg (fun e => nd.1 (by rw [← e]; exact List.mem_of_getElem? h)), pos_get nd.2 h]
    congr 1; omega
def Left (rt : List (Nat × List (List D))) (ps : List Nat) (i : Nat) (v : V) : Prop := ∀ j p, ps[j]? = some p → look (i + j) rt = none → mentions p v = false
theorem backTrees_fro (rt : List (Nat × List (List D))) : ∀ (ps : List Nat) (i : Nat) (s : S), (backTrees rt ps i s).fro = s.fro
  | [], _, _ => rfl
  | p :: ps, i, s => by
    simp only [backTrees]
    rw [backTrees_fro rt ps]
    cases look i rt <;> rfl
theorem backTrees_keys (rt : List (Nat × List (List D))) : ∀ (ps : List Nat) (i : Nat) (s : S), (backTrees rt ps i s).box.map (·.1) = s.box.map (·.1)
  | [], _, _ => rfl
  | p :: ps, i, s => by
    simp only [backTrees]
    rw [backTrees_keys rt ps]
    cases look i rt with
    | none => exact killB_keys p s.box
    | some r => rfl
theorem backTrees_env {rt : List (Nat × List (List D))} : ∀ {ps : List Nat} {i : Nat} {s : S} {t : Nat} {v : V}, look t (backTrees rt ps i s).env = some v → v = .dead ∨ (look t s.env = some v ∧ Left rt ps i v)
  | [], _, _, _, _, h => .inr ⟨h, fun j p e => by simp at e⟩
  | p :: ps, i, s, t, v, h => by
    simp only [backTrees] at h
    rcases backTrees_env h with h1 | ⟨h1, h2⟩
    · exact .inl h1
    · cases e : look i rt with
      | some r =>
        rw [e] at h1
        refine .inr ⟨h1, fun j q e1 e2 => ?_⟩
        cases j with
        | zero => rw [Nat.add_zero, e] at e2; cases e2
        | succ j => exact h2 j q (by simpa using e1) (by rw [show i + 1 + j = i + (j + 1) by omega]; exact e2)
      | none =>
        rw [e] at h1
        have h1 : look t (killE p s.env) = some v := h1
        rw [look_killE] at h1
        obtain ⟨v0, h3, h4⟩ := Option.map_eq_some_iff.1 h1
        cases e3 : mentions p v0 with
        | true => rw [e3, if_pos rfl] at h4; exact .inl h4.symm
        | false =>
          rw [e3, if_neg (by simp)] at h4; subst h4
          refine .inr ⟨h3, fun j q e1 e2 => ?_⟩
          cases j with
          | zero => simp at e1; subst e1; exact e3
          | succ j => exact h2 j q (by simpa using e1) (by rw [show i + 1 + j = i + (j + 1) by omega]; exact e2)
theorem killC_len (p : Nat) : ∀ (l : List V), (killC p l).length = l.length
  | [] => rfl
  | v :: r => by simp only [killC, List.length_cons, killC_len p r]
theorem killC_get {p : Nat} : ∀ {l : List V} {k : Nat} {v : V}, (killC p l)[k]? = some v → v = .dead ∨ (l[k]? = some v ∧ mentions p v = false)
  | [], k, v, h => by simp [killC] at h
  | x :: r, 0, v, h => by
    simp only [killC, List.getElem?_cons_zero, Option.some.injEq] at h
    cases e : mentions p x with
    | true => rw [e, if_pos rfl] at h; exact .inl h.symm
    | false => rw [e, if_neg (by simp)] at h; subst h; exact .inr ⟨by simp, e⟩
  | x :: r, k + 1, v, h => by
    simp only [killC, List.getElem?_cons_succ] at h ⊢
    exact killC_get h
theorem backTrees_box {rt : List (Nat × List (List D))} : ∀ {ps : List Nat} {i : Nat} {s : S} {b : Nat} {cs : List V}, (b, cs) ∈ (backTrees rt ps i s).box → ∃ cs0, (b, cs0) ∈ s.box ∧ cs.length = cs0.length ∧ ∀ (k : Nat) (v : V), cs[k]? = some v → v = .dead ∨ (cs0[k]? = some v ∧ Left rt ps i v)
  | [], _, _, b, cs, h => ⟨cs, h, rfl, fun k v e => .inr ⟨e, fun j p e => by simp at e⟩⟩
  | p :: ps, i, s, b, cs, h => by
    simp only [backTrees] at h
    obtain ⟨cs1, h1, h2, h3⟩ := backTrees_box h
    cases e : look i rt with
    | some r =>
      rw [e] at h1
      refine ⟨cs1, h1, h2, fun k v ek => (h3 k v ek).imp _root_.id fun h4 => ⟨h4.1, fun j q e1 e2 => ?_⟩⟩
      cases j with
      | zero => rw [Nat.add_zero, e] at e2; cases e2
      | succ j => exact h4.2 j q (by simpa using e1) (by rw [show i + 1 + j = i + (j + 1) by omega]; exact e2)
    | none =>
      rw [e] at h1
      obtain ⟨cs0, h5, rfl⟩ := mem_killB (show (b, cs1) ∈ killB p s.box from h1)
      refine ⟨cs0, h5, h2.trans (killC_len p cs0), fun k v ek => ?_⟩
      rcases h3 k v ek with h6 | ⟨h6, h7⟩
      · exact .inl h6
      · rcases killC_get h6 with h8 | ⟨h8, h9⟩
        · exact .inl h8
        · refine .inr ⟨h8, fun j q e1 e2 => ?_⟩
          cases j with
          | zero => simp at e1; subst e1; exact h9
          | succ j => exact h7 j q (by simpa using e1) (by rw [show i + 1 + j = i + (j + 1) by omega]; exact e2)
theorem backTrees_tree {rt : List (Nat × List (List D))} : ∀ {ps : List Nat} {i : Nat} {s : S}, ps.Nodup → (∀ p ∈ ps, p ∈ s.tree.map (·.1)) → (s.tree.map (·.1)).Nodup → ((backTrees rt ps i s).tree.map (·.1)).Nodup ∧ ∀ n, look n (backTrees rt ps i s).tree = match pos n ps i with | some m => look m rt | none => look n s.tree
  | [], i, s, _, _, nd => ⟨nd, fun n => rfl⟩
  | p :: ps, i, s, n1, hp, nd => by
    have n2 := List.nodup_cons.1 n1
    simp only [backTrees]
    have h1 : ∀ q ∈ ps, q ∈ (backOne s p (look i rt)).tree.map (·.1) := by
      intro q hq
      have := hp q (by simp [hq])
      cases look i rt with
      | some r => show q ∈ (upd p r s.tree).map (·.1); rw [upd_keys]; exact this
      | none => exact drop1_mem.2 ⟨this, fun e => n2.1 (by rw [← e]; exact hq)⟩
    have h2 : ((backOne s p (look i rt)).tree.map (·.1)).Nodup := by
      cases look i rt with
      | some r => show ((upd p r s.tree).map (·.1)).Nodup; rw [upd_keys]; exact nd
      | none => exact drop1_nodup nd
    obtain ⟨a1, a2⟩ := backTrees_tree (rt := rt) (i := i + 1) n2.2 h1 h2
    refine ⟨a1, fun n => ?_⟩
    rw [a2 n]
    simp only [pos]
    by_cases h : n = p
    · subst h
      rw [if_pos rfl]
      cases e : pos n ps (i + 1) with
      | some m => exfalso; obtain ⟨d, _, e2⟩ := pos_some e; exact n2.1 (List.mem_of_getElem? e2)
      | none =>
        simp only
        obtain ⟨r0, hr0⟩ := key_look.1 (hp n (by simp))
        cases e3 : look i rt with
        | some r => show look n (upd n r s.tree) = some r; rw [look_upd, if_pos rfl, hr0]; rfl
        | none => show look n (drop1 n s.tree) = none; rw [look_drop1, if_pos rfl]
    · rw [if_neg h]
      cases e : pos n ps (i + 1) with
      | some m => rfl
      | none =>
        simp only
        cases e3 : look i rt with
        | some r => show look n (upd p r s.tree) = _; rw [look_upd, if_neg h]
        | none => show look n (drop1 p s.tree) = _; rw [look_drop1, if_neg h]
theorem addTrees_spec {ld : Lend} {t : Nat} : ∀ {rt : List (Nat × List (List D))} {s s' : S}, addTrees ld t rt s = some s' → (rt.map (·.1)).Nodup → (s.tree.map (·.1)).Nodup → (∀ q q', nameOf ld t q = nameOf ld t q' → ¬ q < ld.tree.length → ¬ q' < ld.tree.length → q = q') →
    s'.env = s.env ∧ s'.box = s.box ∧ s'.fro = s.fro ∧ (s'.tree.map (·.1)).Nodup ∧ (∀ n, n ∈ s'.tree.map (·.1) ↔ n ∈ s.tree.map (·.1) ∨ ∃ q, q ∈ rt.map (·.1) ∧ ¬ q < ld.tree.length ∧ nameOf ld t q = n) ∧
    (∀ q rows, (q, rows) ∈ rt → ¬ q < ld.tree.length → look (nameOf ld t q) s'.tree = some rows ∧ look (nameOf ld t q) s.tree = none ∧ look (nameOf ld t q) s.fro = none ∧ nameOf ld t q < 1000000000) ∧ (∀ n rows, look n s.tree = some rows → look n s'.tree = some rows)
  | [], s, s', h, _, nd, _ => by
    simp only [addTrees] at h; injection h with h; subst h
    exact ⟨rfl, rfl, rfl, nd, (fun n => by simp), (fun q rows h => by cases h), fun n rows h => h⟩
  | (q, rows) :: r, s, s', h, n1, nd, inj => by
    simp only [List.map_cons, List.nodup_cons] at n1
    simp only [addTrees] at h
    by_cases hq : q < ld.tree.length
    · rw [if_pos hq] at h
      obtain ⟨a1, a2, a3, a4, a5, a6, a7⟩ := addTrees_spec h n1.2 nd inj
      refine ⟨a1, a2, a3, a4, fun n => ?_, fun q' rows' hm hq' => ?_, a7⟩
      · rw [a5 n]
        constructor
        · rintro (h | ⟨q', h1, h2, h3⟩)
          · exact .inl h
          · exact .inr ⟨q', by simp only [List.map_cons, List.mem_cons]; exact .inr h1, h2, h3⟩
        · rintro (h | ⟨q', h1, h2, h3⟩)
          · exact .inl h
          · simp only [List.map_cons, List.mem_cons] at h1
            rcases h1 with h1 | h1
            · subst h1; exact absurd hq h2
            · exact .inr ⟨q', h1, h2, h3⟩
      · rcases List.mem_cons.1 hm with hm | hm
        · injection hm with h1 h2; subst h1; exact absurd hq hq'
        · exact a6 q' rows' hm hq'
    · rw [if_neg hq] at h
      obtain ⟨⟨hf, hlt9⟩, h⟩ := grd_eq_some h
      unfold fresh at hf
      rw [Bool.and_eq_true] at hf
      have f1 := isNone_eq hf.1
      have f2 := isNone_eq hf.2
      obtain ⟨a1, a2, a3, a4, a5, a6, a7⟩ := addTrees_spec (s := { s with tree := (nameOf ld t q, rows) :: s.tree }) h n1.2 (by rw [List.map_cons, List.nodup_cons]; exact ⟨look_none f1, nd⟩) inj
      have hself : look (nameOf ld t q) s'.tree = some rows := a7 _ _ (by show look _ ((nameOf ld t q, rows) :: s.tree) = _; simp only [look, if_true])
      refine ⟨a1, a2, a3, a4, fun n => ?_, fun q' rows' hm hq' => ?_, fun n rows' hn => ?_⟩
      · rw [a5 n]
        show n ∈ nameOf ld t q :: s.tree.map (·.1) ∨ _ ↔ _
        simp only [List.map_cons, List.mem_cons]
        constructor
        · rintro ((h | h) | ⟨q', h1, h2, h3⟩)
          · exact .inr ⟨q, .inl rfl, hq, h.symm⟩
          · exact .inl h
          · exact .inr ⟨q', .inr h1, h2, h3⟩
        · rintro (h | ⟨q', h1, h2, h3⟩)
          · exact .inl (.inr h)
          · rcases h1 with h1 | h1
            · subst h1; exact .inl (.inl h3.symm)
            · exact .inr ⟨q', h1, h2, h3⟩
      · rcases List.mem_cons.1 hm with hm | hm
        · injection hm with h1 h2; subst h1; subst h2; exact ⟨hself, f1, f2, hlt9⟩
        · obtain ⟨b1, b2, b3⟩ := a6 q' rows' hm hq'
          refine ⟨b1, ?_, b3⟩
          have b2 : look (nameOf ld t q') ((nameOf ld t q, rows) :: s.tree) = none := b2
          simp only [look] at b2
          split at b2
          · cases b2
          · exact b2
      · refine a7 n rows' ?_
        show look n ((nameOf ld t q, rows) :: s.tree) = _
        simp only [look]
        split
        · rename_i e; rw [e, f1] at hn; cases hn
        · exact hn
theorem backBoxes_spec {ld : Lend} {t : Nat} : ∀ {bs : List Nat} {css : List (List V)} {s s' : S}, backBoxes ld t bs css s = some s' → bs.Nodup → (∀ b ∈ bs, b ∈ s.box.map (·.1)) → (s.box.map (·.1)).Nodup →
    s'.env = s.env ∧ s'.tree = s.tree ∧ s'.fro = s.fro ∧ s'.box.map (·.1) = s.box.map (·.1) ∧ css.length = bs.length ∧ (∀ b cs, (b, cs) ∈ s'.box → (∃ (i : Nat) (cs0 : List V), bs[i]? = some b ∧ css[i]? = some cs0 ∧ backL ld t cs0 = some cs) ∨ (b ∉ bs ∧ (b, cs) ∈ s.box))
  | [], [], s, s', h, _, _, _ => by
    simp only [backBoxes] at h; injection h with h; subst h
    exact ⟨rfl, rfl, rfl, rfl, rfl, fun b cs h => .inr ⟨by simp, h⟩⟩
  | [], _ :: _, s, s', h, _, _, _ => by simp only [backBoxes] at h; cases h
  | _ :: _, [], s, s', h, _, _, _ => by simp only [backBoxes] at h; cases h
  | b :: bs, cs :: css, s, s', h, n1, hb, nb => by
    simp only [backBoxes] at h
    obtain ⟨cs1, h1, h⟩ := bnd_eq_some h
    have n2 := List.nodup_cons.1 n1
    obtain ⟨a1, a2, a3, a4, a5, a6⟩ := backBoxes_spec (s := { s with box := upd b cs1 s.box }) h n2.2 (fun b' hb' => by show b' ∈ (upd b cs1 s.box).map (·.1); rw [upd_keys]; exact hb b' (by simp [hb'])) (by show ((upd b cs1 s.box).map (·.1)).Nodup; rw [upd_keys]; exact nb)
    refine ⟨a1, a2, a3, by rw [a4]; exact upd_keys s.box, by rw [List.length_cons, List.length_cons, a5], fun b' cs' hm => ?_⟩
    rcases a6 b' cs' hm with ⟨i, cs0, e1, e2, e3⟩ | ⟨e1, e2⟩
    · exact .inl ⟨i + 1, cs0, by simpa using e1, by simpa using e2, e3⟩
    · rcases mem_upd nb (show (b', cs') ∈ upd b cs1 s.box from e2) with ⟨e3, e4⟩ | ⟨e3, e4⟩
      · subst e3; subst e4; exact .inl ⟨0, cs, rfl, rfl, h1⟩
      · exact .inr ⟨by simp only [List.mem_cons, not_or]; exact ⟨e3, e1⟩, e4⟩
end Go.Proofs.YtjhdikdopdcfcaaGreatDoor
namespace Go.Proofs.YtjhdikdopdcfcaaGreatDoor
open Go.RowKit
set_option linter.unusedSimpArgs false
set_option linter.unusedVariables false
structure Mem (c : Ctx) (s : S) (y : Lay) (w : World) : Prop where
  st : St c.W w (boxPs y.bl y.T y.us s.box ++ (treePs y.hd s.tree ++ (froPs y.w0 y.F s.fro ++ c.L)))
  box : ∀ b cs, (b, cs) ∈ s.box → RVs (relOf c s y) cs (y.us b).toList
  fro : ∀ p rows, (p, rows) ∈ s.fro → TreeD (y.w0 p) rows (y.hd p) (y.F p)
  nb : (s.box.map (·.1)).Nodup
  nt : ((s.tree ++ s.fro).map (·.1)).Nodup
def resS (bs : List (List V)) (ts : List (Nat × List (List D))) : S := ⟨[], withIdx 0 bs, ts, []⟩
structure Ends (c : Ctx) (nb nt : Nat) (r : Res) (y : Lay) (u : Value) (y' : Lay) (w' : World) : Prop where
  mem : Mem c (resS r.box r.tree) y' w'
  val : RV (relOf c (resS r.box r.tree) y') r.val u
  len : r.box.length = nb ∨ (nb = 0 ∧ nt = 0 ∧ ∃ cs, isNew r = some cs)
  bl : ∀ i, i < nb → y'.bl i = y.bl i
  hd : ∀ q, q < nt → y'.hd q = y.hd q
structure Sound (P : Program) (f : FuncId) (M : Mean) : Prop where
  fn : ∃ fn, P.funcs[f]? = some fn ∧ (fn.name == "runtime.NumGoroutine") = false ∧ fn.body.isNone = false
  run : ∀ (c : Ctx) (args : List V) (boxes : List (List V)) (trees : List (List (List D))) (r : Res), M args boxes trees = some r → ∀ (y : Lay) (us : List Value) (w : World), Mem c (resS boxes (withIdx 0 trees)) y w → RVs (relOf c (resS boxes (withIdx 0 trees)) y) args us →
    Calls P f us.toArray w fun e w' => ∃ u y', e = .returned u ∧ Ends c boxes.length trees.length r y u y' w'
theorem Sep.append {w : World} {L M : List Pc} : ∀ {F G : List Nat}, Sep w L F → Sep w M G → Sep w (L ++ M) (F ++ G) := by
  intro F G h k
  induction h with
  | nil => exact k
  | cons a _ ih => rw [List.append_assoc]; exact Sep.cons a ih
theorem Sep.parts {w : World} : ∀ {L M : List Pc} {F : List Nat}, Sep w (L ++ M) F → ∃ F1 F2, F = F1 ++ F2 ∧ Sep w L F1 ∧ Sep w M F2
  | [], M, F, h => ⟨[], F, rfl, .nil, h⟩
  | x :: L, M, F, h => by
    obtain ⟨F1, G, rfl, a, g⟩ := h.uncons
    obtain ⟨F2, F3, rfl, h1, h2⟩ := Sep.parts g
    exact ⟨F1 ++ F2, F3, by rw [List.append_assoc], .cons a h1, h2⟩
theorem Sep.mem {w : World} {x : Pc} {L : List Pc} {F : List Nat} (h : Sep w L F) (hx : x ∈ L) : ∃ F1, x.P w F1 ∧ ∀ b ∈ F1, b ∈ F := by
  induction h with
  | nil => cases hx
  | cons a _ ih =>
    rcases List.mem_cons.1 hx with hx | hx
    · subst hx; exact ⟨_, a, fun b hb => List.mem_append_left _ hb⟩
    · obtain ⟨F1, h1, h2⟩ := ih hx
      exact ⟨F1, h1, fun b hb => List.mem_append_right _ (h2 b hb)⟩
theorem St.snap {W w : World} {E R : List Pc} (S : St W w (E ++ R)) : ∃ F, St W w (E ++ [snapP w F]) ∧ Sep w R F := by
  obtain ⟨F, s, n, hb⟩ := S.sep
  obtain ⟨F1, F2, rfl, h1, h2⟩ := s.parts
  refine ⟨F2, ⟨S.ext, F1 ++ (F2 ++ []), h1.append (.cons (h := snapP w F2) ⟨rfl, fun _ _ => rfl⟩ .nil), by simpa using n, by simpa using hb⟩, h2⟩
theorem St.unsnap {W w w' : World} {E R : List Pc} {F : List Nat} (S : St W w' (E ++ [snapP w F])) (h : Sep w R F) : St W w' (E ++ R) := by
  obtain ⟨G, s, n, hb⟩ := S.sep
  obtain ⟨F1, F2, rfl, h1, h2⟩ := s.parts
  obtain ⟨F3, F4, rfl, ⟨rfl, h3⟩, h4⟩ := h2.uncons
  cases h4
  refine ⟨S.ext, F1 ++ F3, h1.append (h.st h3), by simpa using n, by simpa using hb⟩
section
variable {P : Program} {c : Ctx} {s s' : S} {y : Lay} {a : Act} {w : World}
theorem lendBoxes_sound (A : At c s y a w) : ∀ {bs : List Nat} {l l' : Lend} {U : List Value} {css : List (List V)}, l.ok (relOf c s y) s U → lendBoxes s l bs = some (css, l') →
    ∃ U', l.le l' U U' ∧ l'.ok (relOf c s y) s U' ∧ css.length = bs.length ∧ (∀ b ∈ bs, b ∈ s.box.map (·.1)) ∧ ∀ (i : Nat) (b : Nat) (cs' : List V), bs[i]? = some b → css[i]? = some cs' → Seens (relOf c s y) s l' U' cs' (y.us b).toList
  | [], l, l', U, css, o, h => by
    simp only [lendBoxes] at h; injection h with h; injection h with h1 h2; subst h1; subst h2
    exact ⟨U, Lend.le.refl _ _, o, rfl, (fun b hb => by cases hb), fun i b cs' e => by simp at e⟩
  | b :: bs, l, l', U, css, o, h => by
    simp only [lendBoxes] at h
    obtain ⟨cs, h1, h⟩ := bnd_eq_some h
    obtain ⟨x, h2, h⟩ := bnd_eq_some h
    obtain ⟨z, h3, h⟩ := bnd_eq_some h
    injection h with h; injection h with h4 h5; subst h4; subst h5
    obtain ⟨U1, a1, a2, a3⟩ := lendCells_sound (fun p r1 r2 e1 e2 => A.apart e1 e2) (l' := x.2) (vs' := x.1) o h2 (A.boxAt h1).2
    obtain ⟨U2, b1, b2, b3, b4, b5⟩ := lendBoxes_sound A (l' := z.2) (css := z.1) a2 h3
    refine ⟨U2, a1.trans b1, b2, by rw [List.length_cons, List.length_cons, b3], fun b' hb => ?_, fun i b' cs' e1 e2 => ?_⟩
    · rcases List.mem_cons.1 hb with hb | hb
      · subst hb; exact key_look.2 ⟨cs, h1⟩
      · exact b4 b' hb
    · cases i with
      | zero => simp at e1 e2; subst e1; subst e2; exact fun ρ' ld SU le L => a3 ρ' ld SU (b1.trans le) L
      | succ i => exact b5 i b' cs' (by simpa using e1) (by simpa using e2)
theorem lentTrees_spec : ∀ {ps : List Nat} {ts : List (List (List D))}, lentTrees s ps = some ts → ts.length = ps.length ∧ ∀ (i : Nat) (p : Nat), ps[i]? = some p → ∃ rows, look p s.tree = some rows ∧ ts[i]? = some rows
  | [], ts, h => by simp only [lentTrees] at h; injection h with h; subst h; exact ⟨rfl, fun i p e => by simp at e⟩
  | p :: ps, ts, h => by
    simp only [lentTrees] at h
    obtain ⟨rows, h1, h⟩ := bnd_eq_some h
    obtain ⟨r, h2, h⟩ := bnd_eq_some h
    injection h with h; subst h
    obtain ⟨k1, k2⟩ := lentTrees_spec h2
    refine ⟨by rw [List.length_cons, List.length_cons, k1], fun i p' e => ?_⟩
    cases i with
    | zero => simp at e; subst e; exact ⟨rows, h1, rfl⟩
    | succ i => simpa using k2 i p' (by simpa using e)
theorem minus_perm {K ns : List Nat} (n1 : K.Nodup) (n2 : ns.Nodup) (h : ∀ x ∈ ns, x ∈ K) : K.Perm (ns ++ K.filter fun k => !ns.contains k) := by
  refine perm_of_mem n1 (List.nodup_append.2 ⟨n2, n1.sublist List.filter_sublist, fun x hx z hz e => ?_⟩) fun x => ?_
  · subst e
    have := (List.mem_filter.1 hz).2
    simp [hx] at this
  · rw [List.mem_append, List.mem_filter]
    constructor
    · intro hx
      by_cases hn : x ∈ ns
      · exact .inl hn
      · exact .inr ⟨hx, by simp [hn]⟩
    · rintro (hx | hx)
      · exact h x hx
      · exact hx.1
structure Back (ρ1 ρ2 : Rel) (ld : Lend) (t : Nat) (SU : List Value) : Prop where
  src : ∀ j u v, ld.src[j]? = some v → ρ1.src j = u → RV ρ2 v u
  K : ld.src.all stable = true → ρ1.K = ρ2.K
  b : ∀ i b, ρ1.Lb i → ld.box[i]? = some b → ρ2.Lb b ∧ ρ2.bl b = ρ1.bl i
  t : ∀ q, ρ1.Lt q → ρ2.Lt (nameOf ld t q) ∧ ρ2.hd (nameOf ld t q) = ρ1.hd q
mutual
theorem backV_sound {ρ1 ρ2 : Rel} {ld : Lend} {t : Nat} {SU : List Value} (B : Back ρ1 ρ2 ld t SU) : ∀ {v v' : V} {u : Value}, backV ld t v = some v' → RV ρ1 v u → RV ρ2 v' u
  | .v x, v', u, h, hv => by simp only [backV] at h; injection h with h; subst h; exact hv
  | .nil, v', u, h, hv => by simp only [backV] at h; injection h with h; subst h; exact hv
  | .lst (some j) rows, v', u, h, hv => by simp only [backV] at h; exact B.src j u v' h (hv.2 j rfl)
  | .lst none rows, v', u, h, hv => by
    simp only [backV] at h
    obtain ⟨h1, h⟩ := grd_eq_some h
    injection h with h; subst h
    refine ⟨?_, fun j e => by cases e⟩
    rw [← B.K h1]; exact hv.1
  | .own q, v', u, h, hv => by
    simp only [backV] at h; injection h with h; subst h
    obtain ⟨k1, k2⟩ := B.t q hv.1
    exact ⟨k1, by rw [k2]; exact hv.2⟩
  | .ref i off, v', u, h, hv => by
    simp only [backV] at h
    obtain ⟨b, h1, h⟩ := bnd_eq_some h
    injection h with h; subst h
    obtain ⟨k1, k2⟩ := B.b i b hv.1 h1
    exact ⟨k1, by rw [k2]; exact hv.2⟩
  | .agg cs, v', u, h, hv => by
    simp only [backV] at h
    obtain ⟨x, h1, h⟩ := bnd_eq_some h
    injection h with h; subst h
    obtain ⟨us, e1, e2⟩ := hv
    exact ⟨us, e1, backL_sound B h1 e2⟩
  | .tup cs, v', u, h, hv => by
    simp only [backV] at h
    obtain ⟨x, h1, h⟩ := bnd_eq_some h
    injection h with h; subst h
    obtain ⟨us, e1, e2⟩ := hv
    exact ⟨us, e1, backL_sound B h1 e2⟩
  | .dead, v', u, h, hv => by simp only [backV] at h; injection h with h; subst h; trivial
  | .fz _, v', u, h, hv => by simp only [backV] at h; cases h
  | .mp _, v', u, h, hv => by simp only [backV] at h; cases h
  | .inn _ _ _ _, v', u, h, hv => by simp only [backV] at h; cases h
  | .pe _ _ _ _, v', u, h, hv => by simp only [backV] at h; cases h
  | .fn _ _, v', u, h, hv => by simp only [backV] at h; cases h
theorem backL_sound {ρ1 ρ2 : Rel} {ld : Lend} {t : Nat} {SU : List Value} (B : Back ρ1 ρ2 ld t SU) : ∀ {vs vs' : List V} {us : List Value}, backL ld t vs = some vs' → RVs ρ1 vs us → RVs ρ2 vs' us
  | [], vs', us, h, hv => by simp only [backL] at h; injection h with h; subst h; exact hv
  | v :: vs, vs', us, h, hv => by
    simp only [backL] at h
    obtain ⟨x, h1, h⟩ := bnd_eq_some h
    obtain ⟨z, h2, h⟩ := bnd_eq_some h
    injection h with h; subst h
    obtain ⟨u, q, rfl, e1, e2⟩ := hv
    exact ⟨u, q, rfl, backV_sound B h1 e1, backL_sound B h2 e2⟩
end
theorem lent_K (A : At c s y a w) {ld : Lend} {R : List Pc} {F : List Nat} (hR : Sep w (R ++ c.L) F) (hf : ∀ x ∈ froPs y.w0 y.F s.fro, x ∈ R) (ht : ∀ p rows, look p s.tree = some rows → p ∉ ld.tree → treeP (y.hd p) rows ∈ R) (hm : noMix ld = true) :
    ∃ K' : Nat → Obj → Prop, (∀ w', St c.W w' [snapP w F] → ∀ b o, K' b o → w'.heap[b]? = some o) ∧ (∀ v ∈ ld.src, ∀ u rows, RV (relOf c s y) v u → s.rows v = some rows → RdD K' (.l rows) u) ∧ (ld.src.all stable = true → K' = c.K) ∧ Zed K' := by
  have hc : ∀ w', St c.W w' [snapP w F] → ∀ b o, c.K b o → w'.heap[b]? = some o := fun w' S b o hk => by
    have := St.unsnap (E := []) S hR
    exact c.hK w' (St.dropL this) b o hk
  by_cases hst : ld.src.all stable = true
  · refine ⟨c.K, hc, fun v hv u rows hr hrow => ?_, fun _ => rfl, c.zed⟩
    have := List.all_eq_true.1 hst v hv
    cases v <;> simp only [stable] at this <;> try (cases this; done)
    case nil => simp only [S.rows] at hrow; injection hrow with hrow; subst hrow; rw [show u = _ from hr]; exact .nil none 0 (by omega) (fun _ => rfl)
    case lst o r => simp only [S.rows] at hrow; injection hrow with hrow; subst hrow; exact hr.1
  · refine ⟨fun b o => w.heap[b]? = some o ∧ (b ∈ F ∨ c.K b o), fun w' S b o hk => ?_, fun v hv u rows hr hrow => ?_, fun h => absurd h hst, fun w2 h => c.zed w2 fun b o hk => h b o ⟨c.hK w (St.dropL (St.dropL (St.dropL A.st))) b o hk, .inr hk⟩⟩
    · rcases hk.2 with h | h
      · exact (S.snap_at (by simp) b h).trans hk.1
      · exact hc w' S b o h
    · have hfro : ∀ p r, look p s.fro = some r → ∀ b ∈ y.F p, b ∈ F := by
        intro p r e b hb
        obtain ⟨F1, ⟨h1, _⟩, h2⟩ := hR.mem (List.mem_append_left _ (hf (snapP (y.w0 p) (y.F p)) (List.mem_map.2 ⟨(p, r), look_mem e, rfl⟩)))
        subst h1; exact h2 b hb
      have hrow9 := hrow
      cases v <;> simp only [S.rows] at hrow <;> try (cases hrow; done)
      case inn p i1 j1 k1 =>
        obtain ⟨rows0, r0, m1, m2, m3, m4⟩ := inn_some hrow9
        have hn : p ∉ ld.tree := by
          intro hp
          have := List.all_eq_true.1 (List.all_eq_true.1 hm p hp) _ hv
          simp [mentions] at this
        obtain ⟨F1, h1, h2⟩ := hR.mem (List.mem_append_left _ (ht p rows0 m1 hn))
        obtain ⟨F2, o2, hF2⟩ := (show TreeD w rows0 (y.hd p) F1 from h1).inner m2 m4
        rw [m3, ← show u = (y.hd p).cv (i1 * k1 + j1) from hr.2.1] at o2
        exact OwnD.rd o2 fun b hb o ho => ⟨ho, .inl (h2 b (hF2 b hb))⟩
      case nil => injection hrow with hrow; subst hrow; rw [show u = _ from hr]; exact .nil none 0 (by omega) (fun _ => rfl)
      case lst o r => injection hrow with hrow; subst hrow; exact hr.1.mono fun b o hk => ⟨A.kw b o hk, .inr hk⟩
      case fz r =>
        injection hrow with hrow; subst hrow
        refine RdD.mono hr fun b o hk => ⟨A.zw b o hk, .inl ?_⟩
        obtain ⟨p, hp, hb, _⟩ := hk
        obtain ⟨r0, e⟩ := key_look.1 hp
        exact hfro p r0 e b hb
      case own p =>
        rw [show u = _ from hr.2]
        cases e : look p s.tree with
        | some r =>
          rw [e] at hrow; simp only [orElse1] at hrow; injection hrow with hrow; subst hrow
          have hn : p ∉ ld.tree := by
            intro hp
            have := List.all_eq_true.1 (List.all_eq_true.1 hm p hp) _ hv
            simp [mentions] at this
          obtain ⟨F1, h1, h2⟩ := hR.mem (List.mem_append_left _ (ht p r e hn))
          exact OwnD.rd (show TreeD w r (y.hd p) F1 from h1).own fun b hb o ho => ⟨ho, .inl (h2 b hb)⟩
        | none =>
          rw [e] at hrow; simp only [orElse1] at hrow
          exact (A.fro p rows (look_mem hrow)).own.rd fun b hb o ho => ⟨A.zw b o ⟨p, key_look.2 ⟨rows, hrow⟩, hb, ho⟩, .inl (hfro p rows hrow b hb)⟩
end
end Go.Proofs.YtjhdikdopdcfcaaGreatDoor
namespace Go.Proofs.YtjhdikdopdcfcaaGreatDoor
open Go.RowKit
set_option linter.unusedSimpArgs false
set_option linter.unusedVariables false
theorem boxPs_keys (bl : Nat → Nat) (T : Nat → TypeId) (us : Nat → Array Value) (l : List (Nat × List V)) : boxPs bl T us l = (l.map (·.1)).map fun b => rowP (bl b) (T b) (us b) := by
  unfold boxPs; rw [List.map_map]; rfl
theorem treePs_keys (hd : Nat → Hd) {l : List (Nat × List (List D))} (n : (l.map (·.1)).Nodup) : treePs hd l = (l.map (·.1)).map fun p => treeP (hd p) ((look p l).getD []) := by
  unfold treePs
  rw [map_look [] n (f := fun x => treeP (hd x.1) x.2)]
theorem perm5 {α : Type} (A B C D Z : List α) : ((A ++ B) ++ ((C ++ D) ++ Z)).Perm (A ++ (C ++ (B ++ (D ++ Z)))) := by
  rw [List.append_assoc, List.append_assoc]
  refine List.Perm.append_left _ ?_
  rw [← List.append_assoc, ← List.append_assoc C]
  exact List.Perm.append_right _ List.perm_append_comm
theorem range_map {α : Type} {l : List Nat} {f : Nat → α} {g : Nat → α} (h : ∀ i b, l[i]? = some b → f i = g b) : (List.range' 0 l.length).map f = l.map g := by
  apply List.ext_getElem?
  intro i
  rw [List.getElem?_map, List.getElem?_map]
  by_cases hi : i < l.length
  · rw [List.getElem?_range' hi, List.getElem?_eq_getElem hi]
    simp only [Option.map_some, Nat.zero_add, Nat.one_mul]
    rw [h i _ (List.getElem?_eq_getElem hi)]
  · rw [List.getElem?_eq_none (by simpa using hi), List.getElem?_eq_none (by simpa using hi)]; rfl
section
variable {P : Program} {c : Ctx} {s s' : S} {y : Lay} {a : Act} {w : World}
theorem call_back (A : At c s y a w) {ld : Lend} {t : Option Nat} {SU : List Value} {R : List Pc} {K' : Nat → Obj → Prop} {L' : List Pc} {hK'} {zd' : Zed K'} {src' : Nat → Value} {n' : Nat} {r : Res} {y1 : Lay} {u : Value} {w' : World}
    (o : ld.ok (relOf c s y) s SU) (hlb : ∀ b ∈ ld.box, b ∈ s.box.map (·.1)) (hlt : ∀ p ∈ ld.tree, p ∈ s.tree.map (·.1)) (hm : noMix ld = true) (hst : ld.src.all stable = true → K' = c.K) (hsrc : ∀ j, src' j = SU[j]?.getD undef)
    (hval : RV (relOf (Ctx.mk c.W L' K' src' n' hK' c.bF c.hF zd') (resS r.box r.tree) y1) r.val u) (hbox : ∀ b cs, (b, cs) ∈ (resS r.box r.tree).box → RVs (relOf (Ctx.mk c.W L' K' src' n' hK' c.bF c.hF zd') (resS r.box r.tree) y1) cs (y1.us b).toList)
    (hnt : (r.tree.map (·.1)).Nodup) (hlen : r.box.length = ld.box.length) (hbl : ∀ i b, ld.box[i]? = some b → y1.bl i = y.bl b) (hhd : ∀ q p, ld.tree[q]? = some p → y1.hd q = y.hd p)
    (S0 : St c.W w' (boxPs y1.bl y1.T y1.us (withIdx 0 r.box) ++ (treePs y1.hd r.tree ++ (((s.box.map (·.1)).filter fun k => !ld.box.contains k).map (fun b => rowP (y.bl b) (y.T b) (y.us b)) ++ (((s.tree.map (·.1)).filter fun k => !ld.tree.contains k).map (fun p => treeP (y.hd p) ((look p s.tree).getD [])) ++ (froPs y.w0 y.F s.fro ++ c.L))))))
    (hd' : dstOk c.n t = true) (h : s.back t ld r = some s') : ∃ y', At c s' y' (a.put t u) w' := by
  unfold S.back at h
  obtain ⟨s3, h3, h⟩ := bnd_eq_some h
  obtain ⟨s4, h4, h⟩ := bnd_eq_some h
  obtain ⟨v, h5, h⟩ := bnd_eq_some h
  injection h with h; subst h
  generalize ht : t.getD 0 = T at h3 h4 h5
  have An := A.nt
  rw [List.map_append, List.nodup_append] at An
  obtain ⟨b1, b2⟩ := backTrees_tree (rt := r.tree) (i := 0) o.nt hlt An.1
  have bk := backTrees_keys r.tree ld.tree 0 s
  have bf := backTrees_fro r.tree ld.tree 0 s
  obtain ⟨c1, c2, c3, c4, c5, c6⟩ := backBoxes_spec h3 o.nb (by rw [bk]; exact hlb) (by rw [bk]; exact A.nb)
  have inj : ∀ q q', nameOf ld T q = nameOf ld T q' → ¬ q < ld.tree.length → ¬ q' < ld.tree.length → q = q' := by
    intro q q' e h1 h2
    unfold nameOf at e
    rw [List.getElem?_eq_none (by omega), List.getElem?_eq_none (by omega)] at e
    simp only [nameIn] at e; omega
  obtain ⟨d1, d2, d3, d4, d5, d6, d7⟩ := addTrees_spec h4 hnt (by rw [c2]; exact b1) inj
  have hnew : ∀ q, ¬ q < ld.tree.length → nameOf ld T q = 1000 * (T + 1) + q := fun q h1 => by
    unfold nameOf; rw [List.getElem?_eq_none (by omega)]; rfl
  have hold : ∀ q p, ld.tree[q]? = some p → nameOf ld T q = p := fun q p e => by unfold nameOf; rw [e]; rfl
  let new : Nat → Prop := fun n => ∃ q, q ∈ r.tree.map (·.1) ∧ ¬ q < ld.tree.length ∧ nameOf ld T q = n
  have newF : ∀ n, new n → look n (backTrees r.tree ld.tree 0 s).tree = none ∧ look n s.fro = none := by
    rintro n ⟨q, h1, h2, rfl⟩
    obtain ⟨rows, hr⟩ := key_look.1 h1
    obtain ⟨_, k2, k3, _⟩ := d6 q rows (look_mem hr) h2
    rw [c2] at k2; rw [c3, bf] at k3
    exact ⟨k2, k3⟩
  classical
  let y2 : Lay := { y with T := fun b => match pos b ld.box 0 with | some i => y1.T i | none => y.T b, us := fun b => match pos b ld.box 0 with | some i => y1.us i | none => y.us b, hd := fun n => if new n then y1.hd (n - 1000 * (T + 1)) else y.hd n }
  have hd_old : ∀ n, ¬ new n → y2.hd n = y.hd n := fun n h1 => if_neg h1
  have hd_new : ∀ q, q ∈ r.tree.map (·.1) → ¬ q < ld.tree.length → y2.hd (nameOf ld T q) = y1.hd q := fun q h1 h2 => by
    show (if new (nameOf ld T q) then _ else _) = _
    have e0 : nameOf ld T q - 1000 * (T + 1) = q := by rw [hnew q h2]; exact Nat.add_sub_cancel_left _ _
    rw [if_pos ⟨q, h1, h2, rfl⟩, e0]
  have k4 : ∀ n, n ∈ s4.tree.map (·.1) ↔ n ∈ (backTrees r.tree ld.tree 0 s).tree.map (·.1) ∨ new n := fun n => by rw [d5 n, c2]
  have f4 : s4.fro = s.fro := d3.trans (c3.trans bf)
  have keep : ∀ n, n ∈ (s.tree ++ s.fro).map (·.1) → (∀ j, ld.tree[j]? = some n → look (0 + j) r.tree = none → False) → n ∈ (s4.tree ++ s4.fro).map (·.1) ∧ y2.hd n = y.hd n := by
    intro n hn hg
    have hin : n ∈ (backTrees r.tree ld.tree 0 s).tree.map (·.1) ∨ n ∈ s.fro.map (·.1) := by
      rw [List.map_append, List.mem_append] at hn
      rcases hn with hn | hn
      · left
        rw [key_look, b2 n]
        cases e : pos n ld.tree 0 with
        | none => exact key_look.1 hn
        | some m =>
          obtain ⟨d, e1, e2⟩ := pos_some e
          have : m = d := by omega
          subst this
          simp only
          cases e3 : look m r.tree with
          | some rows => exact ⟨rows, rfl⟩
          | none => exact (hg m e2 (by rw [Nat.zero_add]; exact e3)).elim
      · exact .inr hn
    refine ⟨?_, hd_old n fun hw => ?_⟩
    · rw [List.map_append, List.mem_append, f4]
      exact hin.imp (fun h => (k4 n).2 (.inl h)) _root_.id
    · obtain ⟨f1, f2⟩ := newF n hw
      rcases hin with h1 | h1
      · obtain ⟨x, hx⟩ := key_look.1 h1; rw [f1] at hx; cases hx
      · obtain ⟨x, hx⟩ := key_look.1 h1; rw [f2] at hx; cases hx
  have kb : s4.box.map (·.1) = s.box.map (·.1) := by rw [d2, c4, bk]
  have trans : ∀ {v : V} {u : Value}, Left r.tree ld.tree 0 v → RV (relOf c s y) v u → RV (relOf c s4 y2) v u := by
    intro v u hl hv
    refine RV.sub (ρ := relOf c s y) (ρ' := relOf c s4 y2) rfl (fun b o ⟨p, h1, h2, h3⟩ => ⟨p, by rw [f4]; exact h1, h2, h3⟩) rfl (fun b hb => ⟨by show b ∈ s4.box.map (·.1); rw [kb]; exact hb, rfl⟩) (fun q hq hin => ?_) hv
    exact keep q hin fun j e1 e2 => by have := hl j q e1 e2; rw [this] at hq; cases hq
  have B : Back (relOf (Ctx.mk c.W L' K' src' n' hK' c.bF c.hF zd') (resS r.box r.tree) y1) (relOf c s4 y2) ld T SU := by
    refine ⟨fun j u v e1 e2 => ?_, hst, fun i b hi e => ?_, fun q hq => ?_⟩
    · obtain ⟨u0, e3, e4⟩ := o.src.get e1
      have : u0 = u := by rw [← e2]; show u0 = src' j; rw [hsrc j, e3]; rfl
      subst this
      refine trans (fun j' p e5 _ => ?_) e4
      have := List.all_eq_true.1 (List.all_eq_true.1 hm p (List.mem_of_getElem? e5)) v (List.mem_of_getElem? e1)
      simpa using this
    · refine ⟨by show b ∈ s4.box.map (·.1); rw [kb]; exact hlb b (List.mem_of_getElem? e), ?_⟩
      exact (hbl i b e).symm
    · have hq : q ∈ (r.tree ++ ([] : List (Nat × List (List D)))).map (·.1) := hq
      rw [List.append_nil] at hq
      by_cases hlt' : q < ld.tree.length
      · have e := List.getElem?_eq_getElem hlt'
        rw [hold q _ e]
        have hp := pos_get (n := 0) o.nt e
        rw [Nat.zero_add] at hp
        have hin : ld.tree[q] ∈ (backTrees r.tree ld.tree 0 s).tree.map (·.1) := by
          rw [key_look, b2, hp]; exact key_look.1 hq
        refine ⟨?_, ?_⟩
        · show _ ∈ (s4.tree ++ s4.fro).map (·.1)
          rw [List.map_append, List.mem_append]; exact .inl ((k4 _).2 (.inl hin))
        · show y2.hd _ = y1.hd q
          rw [hd_old _ fun hw => by obtain ⟨x, hx⟩ := key_look.1 hin; rw [(newF _ hw).1] at hx; cases hx]
          exact (hhd q _ e).symm
      · refine ⟨?_, hd_new q hq hlt'⟩
        show _ ∈ (s4.tree ++ s4.fro).map (·.1)
        rw [List.map_append, List.mem_append]; exact .inl ((k4 _).2 (.inr ⟨q, hq, hlt', rfl⟩))
  have A4 : At c s4 y2 a w' := by
    refine ⟨A.defers, A.size, ?_, fun t' v' e => ?_, fun b cs hb => ?_, fun p rows hp => ?_, by rw [kb]; exact A.nb, ?_, A.fix.1, fun i g1 g2 => ⟨(A.fix.2 i g1 g2).1, (hd_old i fun ⟨q, h1, h2, h3⟩ => ?_).trans (A.fix.2 i g1 g2).2⟩⟩
    ·
      have hperm : (boxPs y2.bl y2.T y2.us s4.box ++ (treePs y2.hd s4.tree ++ (froPs y2.w0 y2.F s4.fro ++ c.L))).Perm (boxPs y1.bl y1.T y1.us (withIdx 0 r.box) ++ (treePs y1.hd r.tree ++ (((s.box.map (·.1)).filter fun k => !ld.box.contains k).map (fun b => rowP (y.bl b) (y.T b) (y.us b)) ++ (((s.tree.map (·.1)).filter fun k => !ld.tree.contains k).map (fun p => treeP (y.hd p) ((look p s.tree).getD [])) ++ (froPs y.w0 y.F s.fro ++ c.L))))) := by
        have p1 : (boxPs y2.bl y2.T y2.us s4.box).Perm (boxPs y1.bl y1.T y1.us (withIdx 0 r.box) ++ ((s.box.map (·.1)).filter fun k => !ld.box.contains k).map (fun b => rowP (y.bl b) (y.T b) (y.us b))) := by
          rw [boxPs_keys, boxPs_keys, kb, withIdx_keys, hlen]
          refine ((minus_perm A.nb o.nb hlb).map _).trans ?_
          rw [List.map_append]
          have e1 : ld.box.map (fun b => rowP (y2.bl b) (y2.T b) (y2.us b)) = (List.range' 0 ld.box.length).map fun b => rowP (y1.bl b) (y1.T b) (y1.us b) := by
            refine (range_map fun i b e => ?_).symm
            have hp := pos_get (n := 0) o.nb e
            rw [Nat.zero_add] at hp
            show rowP (y1.bl i) (y1.T i) (y1.us i) = rowP (y.bl b) (match pos b ld.box 0 with | some i => y1.T i | none => y.T b) (match pos b ld.box 0 with | some i => y1.us i | none => y.us b)
            rw [hp, hbl i b e]
          rw [e1]
          refine List.Perm.append_left _ (List.Perm.of_eq (List.map_congr_left fun b hb => ?_))
          have hnb : b ∉ ld.box := by have := (List.mem_filter.1 hb).2; simpa using this
          have hp : pos b ld.box 0 = none := by
            cases e : pos b ld.box 0 with
            | none => rfl
            | some i => obtain ⟨d, _, e2⟩ := pos_some e; exact absurd (List.mem_of_getElem? e2) hnb
          show rowP (y.bl b) (match pos b ld.box 0 with | some i => y1.T i | none => y.T b) (match pos b ld.box 0 with | some i => y1.us i | none => y.us b) = _
          rw [hp]
        have p2 : (treePs y2.hd s4.tree).Perm (treePs y1.hd r.tree ++ ((s.tree.map (·.1)).filter fun k => !ld.tree.contains k).map (fun p => treeP (y.hd p) ((look p s.tree).getD []))) := by
          rw [treePs_keys _ d4, treePs_keys _ hnt]
          have knew : ∀ n, n ∈ (backTrees r.tree ld.tree 0 s).tree.map (·.1) ↔ (∃ q, q ∈ r.tree.map (·.1) ∧ ld.tree[q]? = some n) ∨ (n ∈ s.tree.map (·.1) ∧ n ∉ ld.tree) := by
            intro n
            rw [key_look, b2 n]
            cases e : pos n ld.tree 0 with
            | none =>
              have hn := pos_none e
              simp only
              rw [← key_look]
              constructor
              · intro h1; exact .inr ⟨h1, hn⟩
              · rintro (⟨q, _, h2⟩ | h1)
                · exact absurd (List.mem_of_getElem? h2) hn
                · exact h1.1
            | some m =>
              obtain ⟨d, e1, e2⟩ := pos_some e
              have : m = d := by omega
              subst this
              simp only
              rw [← key_look]
              constructor
              · intro h1; exact .inl ⟨m, h1, e2⟩
              · rintro (⟨q, h1, h2⟩ | h1)
                · have h3 := pos_get (n := 0) o.nt h2
                  rw [e] at h3; injection h3 with h3
                  have : m = q := by omega
                  subst this; exact h1
                · exact absurd (List.mem_of_getElem? e2) h1.2
          have hlow : ∀ q, q ∈ r.tree.map (·.1) → q < ld.tree.length → ld.tree[q]? = some (nameOf ld T q) := fun q _ h2 => by
            rw [List.getElem?_eq_getElem h2, hold q _ (List.getElem?_eq_getElem h2)]
          have hnd : ((r.tree.map (·.1)).map (nameOf ld T) ++ (s.tree.map (·.1)).filter fun k => !ld.tree.contains k).Nodup := by
            refine List.nodup_append.2 ⟨?_, An.1.sublist List.filter_sublist, fun x hx z hz e => ?_⟩
            · rw [List.nodup_iff_pairwise_ne, List.pairwise_map]
              refine List.Pairwise.imp_of_mem (fun {q q'} h1 h2 hne e => ?_) (List.nodup_iff_pairwise_ne.1 hnt)
              by_cases l1 : q < ld.tree.length
              · by_cases l2 : q' < ld.tree.length
                · have e1 := pos_get (n := 0) o.nt (hlow q h1 l1)
                  have e2 := pos_get (n := 0) o.nt (hlow q' h2 l2)
                  rw [e, e2] at e1; injection e1 with e1; omega
                · have := (newF _ ⟨q', h2, l2, rfl⟩).1
                  have h3 := (knew (nameOf ld T q)).2 (.inl ⟨q, h1, hlow q h1 l1⟩)
                  rw [e] at h3
                  obtain ⟨x, hx⟩ := key_look.1 h3; rw [this] at hx; cases hx
              · by_cases l2 : q' < ld.tree.length
                · have := (newF _ ⟨q, h1, l1, rfl⟩).1
                  have h3 := (knew (nameOf ld T q')).2 (.inl ⟨q', h2, hlow q' h2 l2⟩)
                  rw [← e] at h3
                  obtain ⟨x, hx⟩ := key_look.1 h3; rw [this] at hx; cases hx
                · exact hne (inj q q' e l1 l2)
            · subst e
              obtain ⟨q, h1, rfl⟩ := List.mem_map.1 hx
              obtain ⟨h2, h3⟩ := List.mem_filter.1 hz
              have h3 : nameOf ld T q ∉ ld.tree := by simpa using h3
              by_cases l1 : q < ld.tree.length
              · exact h3 (List.mem_of_getElem? (hlow q h1 l1))
              · have := (newF _ ⟨q, h1, l1, rfl⟩).1
                obtain ⟨x, hx⟩ := key_look.1 ((knew _).2 (.inr ⟨h2, h3⟩)); rw [this] at hx; cases hx
          have hmem : ∀ x, x ∈ s4.tree.map (·.1) ↔ x ∈ ((r.tree.map (·.1)).map (nameOf ld T) ++ (s.tree.map (·.1)).filter fun k => !ld.tree.contains k) := by
            intro n
            rw [k4 n, knew n, List.mem_append, List.mem_filter]
            constructor
            · rintro ((⟨q, h1, h2⟩ | ⟨h1, h2⟩) | ⟨q, h1, h2, h3⟩)
              · exact .inl (List.mem_map.2 ⟨q, h1, hold q n h2⟩)
              · exact .inr ⟨h1, by simpa using h2⟩
              · exact .inl (List.mem_map.2 ⟨q, h1, h3⟩)
            · rintro (h1 | ⟨h1, h2⟩)
              · obtain ⟨q, h7, rfl⟩ := List.mem_map.1 h1
                by_cases l1 : q < ld.tree.length
                · exact .inl (.inl ⟨q, h7, hlow q h7 l1⟩)
                · exact .inr ⟨q, h7, l1, rfl⟩
              · exact .inl (.inr ⟨h1, by simpa using h2⟩)
          refine ((perm_of_mem d4 hnd hmem).map _).trans ?_
          rw [List.map_append, List.map_map]
          refine List.Perm.append (List.Perm.of_eq (List.map_congr_left fun q hq => ?_)) (List.Perm.of_eq (List.map_congr_left fun p hp => ?_))
          · obtain ⟨rows, hr⟩ := key_look.1 hq
            simp only [Function.comp, hr, Option.getD_some]
            by_cases l1 : q < ld.tree.length
            · have e := hlow q hq l1
              have hp := pos_get (n := 0) o.nt e
              rw [Nat.zero_add] at hp
              have e3 : look (nameOf ld T q) (backTrees r.tree ld.tree 0 s).tree = some rows := by rw [b2, hp]; exact hr
              rw [d7 _ _ (by rw [c2]; exact e3), hd_old _ fun hw => by rw [(newF _ hw).1] at e3; cases e3]
              rw [hhd q _ e]; rfl
            · rw [(d6 q rows (look_mem hr) l1).1, hd_new q hq l1]; rfl
          · obtain ⟨h1, h2⟩ := List.mem_filter.1 hp
            have h2 : p ∉ ld.tree := by simpa using h2
            obtain ⟨rows, hr⟩ := key_look.1 h1
            have e3 : look p (backTrees r.tree ld.tree 0 s).tree = some rows := by
              rw [b2]
              cases e : pos p ld.tree 0 with
              | none => exact hr
              | some i => obtain ⟨d, _, e2⟩ := pos_some e; exact absurd (List.mem_of_getElem? e2) h2
            rw [d7 _ _ (by rw [c2]; exact e3), hr, hd_old _ fun hw => by rw [(newF _ hw).1] at e3; cases e3]
        rw [f4]
        exact (List.Perm.append p1 (List.Perm.append p2 (List.Perm.refl _))).trans (perm5 _ _ _ _ _)
      exact S0.perm hperm.symm
    · rw [d1, c1] at e
      rcases backTrees_env e with h1 | ⟨h1, h2⟩
      · subst h1; trivial
      · exact trans h2 (A.env t' v' h1)
    · rw [d2] at hb
      rcases c6 b cs hb with ⟨i, cs0, e1, e2, e3⟩ | ⟨e1, e2⟩
      · have hp := pos_get (n := 0) o.nb e1
        rw [Nat.zero_add] at hp
        have h1 := hbox i cs0 (look_mem (show look i (withIdx 0 r.box) = some cs0 by have := withIdx_look (l := r.box) (n := 0) i; rw [Nat.zero_add] at this; rw [this]; exact e2))
        have h2 := backL_sound B e3 h1
        show RVs _ cs (match pos b ld.box 0 with | some i => y1.us i | none => y.us b).toList
        rw [hp]; exact h2
      · obtain ⟨cs0, f1, f2, f3⟩ := backTrees_box e2
        have hp : pos b ld.box 0 = none := by
          cases e : pos b ld.box 0 with
          | none => rfl
          | some i => obtain ⟨d, _, e2⟩ := pos_some e; exact absurd (List.mem_of_getElem? e2) e1
        show RVs _ cs (match pos b ld.box 0 with | some i => y1.us i | none => y.us b).toList
        rw [hp]
        have h0 := A.box b cs0 f1
        refine RVs.of (by rw [h0.len, f2]) fun k v u e3 e4 => ?_
        rcases f3 k v e3 with h6 | ⟨h6, h7⟩
        · subst h6; trivial
        · obtain ⟨u', g1, g2⟩ := h0.get h6
          rw [e4] at g1; injection g1 with g1; subst g1
          exact trans h7 g2
    · rw [f4] at hp
      show TreeD (y.w0 p) _ (y2.hd p) (y.F p)
      have := (keep p (by rw [List.map_append, List.mem_append]; exact .inr (List.mem_map.2 ⟨_, hp, rfl⟩)) (fun j e _ => An.2.2 p (hlt p (List.mem_of_getElem? e)) p (List.mem_map.2 ⟨_, hp, rfl⟩) rfl)).2
      rw [this]; exact A.fro p rows hp
    · rw [List.map_append, List.nodup_append, f4]
      refine ⟨d4, An.2.1, fun x hx z hz e => ?_⟩
      subst e
      rcases (k4 x).1 hx with h1 | h1
      · rw [key_look, b2] at h1
        cases e : pos x ld.tree 0 with
        | none => rw [e] at h1; exact An.2.2 x (key_look.2 h1) x hz rfl
        | some i => obtain ⟨d, _, e2⟩ := pos_some e; exact An.2.2 x (hlt x (List.mem_of_getElem? e2)) x hz rfl
      · obtain ⟨q, hq⟩ := key_look.1 hz
        rw [(newF x h1).2] at hq; cases hq
    · obtain ⟨rows, hr⟩ := key_look.1 h1
      have := (d6 q rows (look_mem hr) h2).2.2.2
      rw [h3] at this
      unfold parBase at g1; omega
  exact ⟨y2, A4.value (backV_sound B h5 hval) hd'⟩
end
end Go.Proofs.YtjhdikdopdcfcaaGreatDoor
namespace Go.Proofs.YtjhdikdopdcfcaaGreatDoor
open Go.RowKit
set_option linter.unusedSimpArgs false
set_option linter.unusedVariables false
section
variable {P : Program} {c : Ctx} {s s' : S} {y : Lay} {a : Act} {w : World}
theorem run_callFunc {f : FuncId} {fn : Func} (h1 : P.funcs[f]? = some fn) (h2 : (fn.name == "runtime.NumGoroutine") = false) (h3 : fn.body.isNone = false) (args : Array Value) (w : World) : (callFunc f args).run P w = .ok (.enter f args) w := by
  have h2' : ¬ fn.name = "runtime.NumGoroutine" := by simpa using h2
  have h3' : ¬ fn.body = none := by intro e; rw [e] at h3; cases h3
  simp [callFunc, h1, h2', h3']
theorem flatM_perm {f : Nat → List Nat} {m : Nat} : ∀ {l : List Nat}, l.Nodup → m ∈ l → (l.flatMap f).Perm (f m ++ (l.filter fun x => decide (x ≠ m)).flatMap f)
  | [], _, h => by cases h
  | c :: l, n, h => by
    have n2 := List.nodup_cons.1 n
    rw [List.flatMap_cons, List.filter_cons]
    by_cases e : c = m
    · subst e
      rw [if_neg (by simp)]
      have : l.filter (fun x => decide (x ≠ c)) = l := List.filter_eq_self.2 fun x hx => by
        have : x ≠ c := fun e => n2.1 (e ▸ hx)
        simpa using this
      rw [this]
    · rw [if_pos (by simpa using e), List.flatMap_cons]
      have hm : m ∈ l := (List.mem_cons.1 h).resolve_left fun e2 => e e2.symm
      have p := flatM_perm (f := f) n2.2 hm
      refine (List.Perm.append_left _ p).trans ?_
      rw [← List.append_assoc, ← List.append_assoc]
      exact List.Perm.append_right _ List.perm_append_comm
theorem flatM_fset {f : Nat → List Nat} {m : Nat} {x : List Nat} : ∀ (l : List Nat), (l.filter fun x => decide (x ≠ m)).flatMap (fset f m x) = (l.filter fun x => decide (x ≠ m)).flatMap f
  | [] => rfl
  | c :: l => by
    rw [List.filter_cons]
    by_cases e : c = m
    · rw [if_neg (by simpa using e)]; exact flatM_fset l
    · rw [if_pos (by simpa using e), List.flatMap_cons, List.flatMap_cons, flatM_fset l, fset_ne _ _ e]
theorem TreeD.innerSwap {w : World} {rows : List (List D)} {h : Hd} {F : List Nat} (t : TreeD w rows h F) {i j : Nat} {r : List D} {rs : List (List D)} (hi : rows[i]? = some r) (hj : r[j]? = some (.l rs)) :
    ∃ Fi Fr, F.Perm (Fi ++ Fr) ∧ OwnD w (.l rs) (h.cv (i * r.length + j)) Fi ∧ ∀ (w' : World) (rs' : List (List D)) (Fi' : List Nat), OwnD w' (.l rs') (h.cv (i * r.length + j)) Fi' → (∀ b ∈ Fr, w'.heap[b]? = w.heap[b]?) → ∃ F2, F2.Perm (Fi' ++ Fr) ∧ TreeD w' (rows.set i (r.set j (.l rs'))) h F2 := by
  have o := t.own
  have hd := t.hd
  cases hv : h.v with
  | slice A n2 c2 =>
    rw [hv] at o hd
    cases o with
    | nil => simp at hi
    | l _ _ _ gp ob k T cs us fs h1 h2 h3 h4 h5 h6 h0 h7 h8 h9 =>
      have hk : r.length = k := h5 r (List.mem_of_getElem? hi)
      have hjk : j < k := by rw [← hk]; exact (List.getElem?_eq_some_iff.1 hj).1
      have f := flat_get rows i j r _ h5 hi hj
      have hm := (List.getElem?_eq_some_iff.1 f).1
      have e := hd gp ob n2 c2 cs T (0, 0) _ rs rfl h7 f
      have e0 := h8 _ _ f
      rw [e0] at e
      injection e with e
      have oi := h9 _ _ f
      rw [e] at oi
      rw [hk]
      have hmr : i * k + j ∈ List.range rows.flatten.length := List.mem_range.2 hm
      have hpm := flatM_perm (f := fs) List.nodup_range hmr
      refine ⟨fs (i * k + j), gp :: ((List.range rows.flatten.length).filter fun x => decide (x ≠ i * k + j)).flatMap fs, (List.Perm.cons _ hpm).trans List.perm_middle.symm, oi, fun w' rs' Fi' o' ho => ?_⟩
      have hgpw : w'.heap[gp]? = some (.cells cs T (0, 0)) := (ho gp List.mem_cons_self).trans h7
      have hflat := flat_set rows i j r (.l rs') h5 hi hjk
      have hlen : (rows.set i (r.set j (.l rs'))).flatten.length = rows.flatten.length := by rw [hflat, List.length_set]
      have hall : ∀ r' ∈ rows.set i (r.set j (.l rs')), r'.length = k := fun r' hr' => by
        rcases List.mem_or_eq_of_mem_set hr' with hr' | hr'
        · exact h5 r' hr'
        · rw [hr', List.length_set]; exact hk
      have get : ∀ (m : Nat) (d : D), (rows.set i (r.set j (.l rs'))).flatten[m]? = some d → (m = i * k + j ∧ d = .l rs') ∨ (m ≠ i * k + j ∧ rows.flatten[m]? = some d) := by
        intro m d e3
        rw [hflat, List.getElem?_set] at e3
        by_cases hmm : i * k + j = m
        · rw [if_pos hmm, if_pos hm] at e3
          injection e3 with e3; exact .inl ⟨hmm.symm, e3.symm⟩
        · rw [if_neg hmm] at e3; exact .inr ⟨fun h => hmm h.symm, e3⟩
      refine ⟨gp :: (List.range rows.flatten.length).flatMap (fset fs (i * k + j) Fi'), ?_, ?_, fun g' ob' n' c' cs' T' fr m r' q1 q2 q3 => ?_⟩
      · have p2 := flatM_perm (f := fset fs (i * k + j) Fi') List.nodup_range hmr
        rw [fset_self, flatM_fset] at p2
        exact (List.Perm.cons _ p2).trans List.perm_middle.symm
      · rw [hv, ← hlen]
        refine .l _ n2 c2 gp ob k T cs us (fset fs (i * k + j) Fi') (by rw [List.length_set]; exact h1) h2 h3 h4 hall h6 (fun e => h0 (List.eq_nil_of_length_eq_zero (by have := congrArg List.length e; simpa using this))) hgpw (fun m d e3 => ?_) (fun m d e3 => ?_)
        · rcases get m d e3 with ⟨rfl, rfl⟩ | ⟨_, e4⟩
          · exact e0
          · exact h8 m d e4
        · rcases get m d e3 with ⟨rfl, rfl⟩ | ⟨hne, e4⟩
          · rw [fset_self, e]; exact o'
          · rw [fset_ne _ _ hne]
            have hmr2 : m ∈ List.range rows.flatten.length := List.mem_range.2 (List.getElem?_eq_some_iff.1 e4).1
            exact (h9 m d e4).st fun b hb => ho b (List.mem_cons_of_mem _ (List.mem_flatMap.2 ⟨m, List.mem_filter.2 ⟨hmr2, by simpa using hne⟩, hb⟩))
      · rw [hv] at q1
        injection q1 with q1 _ _; injection q1 with q1; injection q1 with q1 qo _
        subst q1; subst qo
        rw [hgpw] at q2; injection q2 with q2; injection q2 with q2 _ _
        subst q2
        rcases get m _ q3 with ⟨rfl, _⟩ | ⟨_, e4⟩
        · exact hd gp ob n2 c2 cs T (0, 0) _ rs rfl h7 f
        · exact hd gp ob n2 c2 cs T (0, 0) m r' rfl h7 e4
  | _ => rw [hv] at o; cases o
theorem plain_same {ρ ρ' : Rel} : ∀ {vs : List V} {us : List Value}, vs.all plainV = true → RVs ρ vs us → RVs ρ' vs us
  | [], _, _, h => h
  | v :: vs, us, ha, h => by
    rw [List.all_cons, Bool.and_eq_true] at ha
    obtain ⟨u, q, h1, h2, h3⟩ := h
    refine ⟨u, q, h1, ?_, plain_same ha.2 h3⟩
    cases v <;> first | exact h2 | (cases ha.1)
theorem backX_back {s s' : S} {d : Option Nat} {ld : Lend} {r : Res} (hN : ¬ ∃ cs, isNew r = some cs ∧ (ld.box.isEmpty && ld.tree.isEmpty) = true) (h : s.backX d ld r = some s') : s.back d ld r = some s' := by
  unfold S.backX at h
  cases e : isNew r with
  | none => rw [e] at h; exact h
  | some cs =>
    rw [e] at h
    simp only [backNew] at h
    rw [if_neg (fun k => hN ⟨cs, e, k⟩)] at h
    exact h
theorem callI_sound {f : FuncId} {M : Mean} (HS : Sound P f M) (A : At c s y a w) {p i j k : Nat} {rest : List V} {us : List Value} (hargs : RVs (relOf c s y) (.inn p i j k :: rest) us) {dst : Option Nat} (hd' : dstOk c.n dst = true) (h : callI M s dst p i j k rest = some s') :
    Calls P f us.toArray w fun e w' => ∃ u, e = .returned u ∧ ∃ y', At c s' y' (a.put dst u) w' := by
  unfold callI at h
  obtain ⟨rows, hl, h⟩ := bnd_eq_some h
  obtain ⟨r, hr, h⟩ := bnd_eq_some h
  obtain ⟨d, hd, h⟩ := bnd_eq_some h
  obtain ⟨rs, hrs, h⟩ := bnd_eq_some h
  obtain ⟨⟨hk, hpl⟩, h⟩ := grd_eq_some h
  obtain ⟨r0, hM, h⟩ := bnd_eq_some h
  rw [rowsD_some hrs] at hd
  unfold innBack at h
  split at h
  case h_2 => cases h
  rename_i v rs'
  obtain ⟨hv, h⟩ := grd_eq_some h
  injection h with h; subst h
  obtain ⟨u0, us', rfl, ⟨_, hu0, _⟩, hrest⟩ := hargs
  have hu0 : u0 = (y.hd p).cv (i * k + j) := hu0
  obtain ⟨F, sp, nd, hb⟩ := (A.out hl).sep
  have hext := A.st.ext
  obtain ⟨F1, G, rfl, t, g⟩ := sp.uncons
  have t : TreeD w rows (y.hd p) F1 := t
  obtain ⟨Fi, Fr, hperm, oi, kk⟩ := t.innerSwap hr hd
  rw [hk, ← hu0] at oi
  obtain ⟨hh, hhv, ti⟩ := OwnD.tree oi
  have hsepR : Sep w (snapP w Fr :: (boxPs y.bl y.T y.us s.box ++ (treePs y.hd (drop1 p s.tree) ++ (froPs y.w0 y.F s.fro ++ c.L)))) (Fr ++ G) := .cons (h := snapP w Fr) ⟨rfl, fun _ _ => rfl⟩ g
  have k1 : ∀ w', St c.W w' [snapP w (Fr ++ G)] → ∀ b o, c.K b o → w'.heap[b]? = some o := fun w' S b o hK => by
    have := St.unsnap (E := []) S hsepR
    exact c.hK w' (St.dropL (St.dropL (St.dropL (this.drop)))) b o hK
  have hpF : (F1 ++ G).Perm (Fi ++ (Fr ++ G)) := (List.Perm.append_right G hperm).trans (List.Perm.of_eq (List.append_assoc _ _ _))
  let y0 : Lay := { bl := fun _ => 0, hd := fun _ => hh, T := fun _ => 0, us := fun _ => #[], w0 := fun _ => w, F := fun _ => [] }
  have M0 : Mem (Ctx.mk c.W [snapP w (Fr ++ G)] c.K c.src c.n k1 c.bF c.hF c.zed) (resS [] (withIdx 0 [rs])) y0 w := by
    refine ⟨⟨hext, Fi ++ ((Fr ++ G) ++ []), .cons (h := treeP hh rs) ti (.cons (h := snapP w (Fr ++ G)) ⟨rfl, fun _ _ => rfl⟩ .nil), ?_, ?_⟩, (fun b cs hb => by cases hb), (fun p rows hp => by cases hp), List.nodup_nil, by simp [resS, withIdx]⟩
    · rw [List.append_nil]; exact hpF.nodup_iff.1 nd
    · intro b hb2; rw [List.append_nil] at hb2; exact hb b (hpF.mem_iff.2 hb2)
  have hcall := HS.run (Ctx.mk c.W [snapP w (Fr ++ G)] c.K c.src c.n k1 c.bF c.hF c.zed) (.own 0 :: rest) [] [rs] _ hM y0 (u0 :: us') w M0 ⟨u0, us', rfl, ⟨by simp [relOf, resS, withIdx], hhv.symm⟩, plain_same hpl hrest⟩
  refine hcall.mono fun e w' he => ?_
  obtain ⟨u, y1, rfl, E⟩ := he
  refine ⟨u, rfl, ?_⟩
  have hh1 : y1.hd 0 = hh := E.hd 0 (by simp)
  have hst : St c.W w' ([treeP (y1.hd 0) rs'] ++ [snapP w (Fr ++ G)]) := E.mem.st
  rw [hh1] at hst
  obtain ⟨F', sp', nd', hb'⟩ := (St.unsnap hst hsepR).sep
  obtain ⟨Fi', G1, rfl, t', g1⟩ := Sep.uncons sp'
  obtain ⟨Fr', G2, rfl, ⟨rfl, hsn⟩, g2⟩ := Sep.uncons g1
  have t' : TreeD w' rs' hh Fi' := t'
  have o' := t'.own
  rw [hhv, hu0, ← hk] at o'
  obtain ⟨F2, hp2, t2⟩ := kk w' rs' Fi' o' hsn
  have hpp : (F2 ++ G2).Perm (Fi' ++ (Fr' ++ G2)) := (List.Perm.append_right G2 hp2).trans (List.Perm.of_eq (List.append_assoc _ _ _))
  have S : St c.W w' (treeP (y.hd p) (rows.set i (r.set j (.l rs'))) :: (boxPs y.bl y.T y.us s.box ++ (treePs y.hd (drop1 p s.tree) ++ (froPs y.w0 y.F s.fro ++ c.L)))) :=
    ⟨hst.ext, _, .cons (h := treeP (y.hd p) (rows.set i (r.set j (.l rs')))) t2 g2, hpp.nodup_iff.2 nd', fun b hb2 => hb' b (hpp.mem_iff.1 hb2)⟩
  have A2 := A.own1 hl S
  obtain ⟨xv, rfl⟩ : ∃ x, v = .v x := by cases v <;> first | exact ⟨_, rfl⟩ | cases hv
  exact ⟨y, A2.value (v := .v xv) (show u = xv from E.val) hd'⟩
theorem calls_ok {G : List (FuncId × Bool × Mean)} (hG : ∀ f M, look f G = some M → Sound P f M.2) : CallOk P G := by
  intro c s s' o cl g args f M ho hcl hargs hg hM h hd' a w hgood next Q kk
  obtain ⟨y, A⟩ := hgood
  obtain ⟨us2, e1, e2⟩ := A.ev hg
  have ea := (evArgs A hargs).app e2
  have HS := hG f.1 M hM
  obtain ⟨fn, n1, n2, n3⟩ := HS.fn
  have hexec : (execOp a.eval o).run P w = .ok (.enter f.1 (cl.args.toList.map a.eval ++ us2).toArray) w := by
    unfold execOp
    simp only [ho, resolve, hcl, e1, Deferred.ofValue, Sem.run_bind, Sem.run_pure, Result.andThen_ok, invoke]
    rw [run_callFunc n1 n2 n3]
    congr 2
    apply Array.ext'
    simp
  by_cases hI : ∃ p i j k rest, args ++ f.2 = .inn p i j k :: rest ∧ M.1 = true
  · obtain ⟨p, i, j, k, rest, e7, e8⟩ := hI
    rw [e7, e8] at h
    unfold callX at h
    simp only [if_true] at h
    rw [e7] at ea
    have hcall := callI_sound HS A ea hd' h
    unfold Oper.wp
    rw [hexec, Oper.upon_enter]
    refine hcall.mono fun e w' he => ?_
    obtain ⟨u, rfl, y', A'⟩ := he
    exact kk _ _ ⟨y', A'⟩
  have h : callV M.1 M.2 s o.dst (args ++ f.2) = some s' := by
    unfold callX at h
    split at h
    · rename_i p i j k rest e7
      cases e8 : M.1 with
      | true => exact absurd ⟨p, i, j, k, rest, e7, e8⟩ hI
      | false => rw [e8, if_neg (by simp)] at h; rw [e7]; exact h
    · exact h
  unfold callV at h
  obtain ⟨x, h1, h⟩ := bnd_eq_some h
  obtain ⟨z, h2, h⟩ := bnd_eq_some h
  obtain ⟨ts, h3, h⟩ := bnd_eq_some h
  obtain ⟨h4, h⟩ := grd_eq_some h
  obtain ⟨r, h5, h⟩ := bnd_eq_some h
  unfold lendOk at h4
  simp only [Bool.and_eq_true, decide_eq_true_eq] at h4
  have o0 : Lend.ok ⟨[], [], []⟩ (relOf c s y) s [] := ⟨rfl, List.nodup_nil, List.nodup_nil, fun p hp => by cases hp⟩
  obtain ⟨U1, a1, a2, a3⟩ := lendA_sound (fun p r1 r2 e1 e2 => A.apart e1 e2) (l' := x.2) (vs' := x.1) o0 h1 ea
  obtain ⟨SU, b1, b2, b3, b4, b5⟩ := lendBoxes_sound A (l' := z.2) (css := z.1) a2 h2
  have hbe : x.2.box = z.2.box := by
    obtain ⟨tl, e⟩ := b1.box
    have := congrArg List.length e
    rw [List.length_append, h4.2, b3] at this
    have : tl = [] := List.eq_nil_of_length_eq_zero (by omega)
    rw [this, List.append_nil] at e; exact e
  rw [hbe] at b3 b4 b5
  obtain ⟨t1, t2⟩ := lentTrees_spec h3
  have hlt : ∀ p ∈ z.2.tree, p ∈ s.tree.map (·.1) := fun p hp => by
    obtain ⟨i, e⟩ := List.getElem?_of_mem hp
    obtain ⟨rows, e2, _⟩ := t2 i p e
    exact key_look.2 ⟨rows, e2⟩
  have An := A.nt
  rw [List.map_append, List.nodup_append] at An
  have hperm : (boxPs y.bl y.T y.us s.box ++ (treePs y.hd s.tree ++ (froPs y.w0 y.F s.fro ++ c.L))).Perm ((z.2.box.map (fun b => rowP (y.bl b) (y.T b) (y.us b)) ++ z.2.tree.map (fun p => treeP (y.hd p) ((look p s.tree).getD []))) ++
      ((((s.box.map (·.1)).filter fun k => !z.2.box.contains k).map (fun b => rowP (y.bl b) (y.T b) (y.us b)) ++ (((s.tree.map (·.1)).filter fun k => !z.2.tree.contains k).map (fun p => treeP (y.hd p) ((look p s.tree).getD [])) ++ froPs y.w0 y.F s.fro)) ++ c.L)) := by
    have p1 := (minus_perm A.nb b2.nb b4).map fun b => rowP (y.bl b) (y.T b) (y.us b)
    have p2 := (minus_perm An.1 b2.nt hlt).map fun p => treeP (y.hd p) ((look p s.tree).getD [])
    rw [← boxPs_keys, List.map_append] at p1
    rw [← treePs_keys _ An.1, List.map_append] at p2
    refine (List.Perm.append p1 (List.Perm.append p2 (List.Perm.refl _))).trans ((perm5 _ _ _ _ _).trans (List.Perm.of_eq ?_))
    simp only [List.append_assoc]
  obtain ⟨F, hsnap, hR⟩ := (A.st.perm hperm).snap
  obtain ⟨K', k1, k2, k3, kz⟩ := lent_K A (ld := z.2) hR (fun x hx => List.mem_append_right _ (List.mem_append_right _ hx)) (fun p rows e hn => List.mem_append_right _ (List.mem_append_left _ (List.mem_map.2 ⟨p, List.mem_filter.2 ⟨key_look.2 ⟨rows, e⟩, by simpa using hn⟩, by rw [e]; rfl⟩))) h4.1
  let y0 : Lay := { bl := fun i => y.bl (z.2.box[i]?.getD 0), hd := fun q => y.hd (z.2.tree[q]?.getD 0), T := fun i => y.T (z.2.box[i]?.getD 0), us := fun i => y.us (z.2.box[i]?.getD 0), w0 := fun _ => w, F := fun _ => [] }
  have L : Lent (relOf c s y) (relOf (Ctx.mk c.W [snapP w F] K' (fun j => SU[j]?.getD undef) c.n k1 c.bF c.hF kz) (resS z.1 (withIdx 0 ts)) y0) s z.2 SU := by
    refine ⟨fun j u e => by show SU[j]?.getD undef = u; rw [e]; rfl, fun i b e => ⟨?_, ?_⟩, fun i p e => ⟨?_, ?_⟩, k2⟩
    · show i ∈ (withIdx 0 z.1).map (·.1)
      rw [withIdx_keys, List.mem_range'_1]
      have := (List.getElem?_eq_some_iff.1 e).1
      omega
    · show y.bl (z.2.box[i]?.getD 0) = y.bl b; rw [e]; rfl
    · show i ∈ (withIdx 0 ts ++ ([] : List (Nat × List (List D)))).map (·.1)
      rw [List.append_nil, withIdx_keys, List.mem_range'_1]
      have := (List.getElem?_eq_some_iff.1 e).1
      omega
    · show y.hd (z.2.tree[i]?.getD 0) = y.hd p; rw [e]; rfl
  have M0 : Mem (Ctx.mk c.W [snapP w F] K' (fun j => SU[j]?.getD undef) c.n k1 c.bF c.hF kz) (resS z.1 (withIdx 0 ts)) y0 w := by
    refine ⟨?_, fun b cs hb => ?_, fun p rows hp => (by cases hp), withIdx_nodup, by show ((withIdx 0 ts ++ ([] : List (Nat × List (List D)))).map (·.1)).Nodup; rw [List.append_nil]; exact withIdx_nodup⟩
    · show St c.W w (boxPs y0.bl y0.T y0.us (withIdx 0 z.1) ++ (treePs y0.hd (withIdx 0 ts) ++ ([] ++ [snapP w F])))
      rw [boxPs_keys, withIdx_keys, b3, treePs_keys _ withIdx_nodup, withIdx_keys, t1, List.nil_append]
      have e1 := range_map (l := z.2.box) (f := fun b => rowP (y0.bl b) (y0.T b) (y0.us b)) (g := fun b => rowP (y.bl b) (y.T b) (y.us b)) (fun i b e => by
        show rowP (y.bl (z.2.box[i]?.getD 0)) (y.T (z.2.box[i]?.getD 0)) (y.us (z.2.box[i]?.getD 0)) = _
        rw [e]; rfl)
      have e2 := range_map (l := z.2.tree) (f := fun p => treeP (y0.hd p) ((look p (withIdx 0 ts)).getD [])) (g := fun p => treeP (y.hd p) ((look p s.tree).getD [])) (fun i p e => by
        obtain ⟨rows, e3, e4⟩ := t2 i p e
        have e5 := withIdx_look (l := ts) (n := 0) i
        rw [Nat.zero_add, e4] at e5
        show treeP (y.hd (z.2.tree[i]?.getD 0)) _ = _
        rw [e, e5, e3]; rfl)
      rw [e1, e2, ← List.append_assoc]
      exact hsnap
    · have hb := List.mem_map.2 ⟨_, hb, rfl⟩ |> fun h : b ∈ (withIdx 0 z.1).map (·.1) => (⟨h, look_of_mem withIdx_nodup hb⟩ : b ∈ (withIdx 0 z.1).map (·.1) ∧ look b (withIdx 0 z.1) = some cs)
      have e5 := withIdx_look (l := z.1) (n := 0) b
      rw [Nat.zero_add, hb.2] at e5
      have hlt : b < z.2.box.length := by rw [← b3]; exact (List.getElem?_eq_some_iff.1 e5.symm).1
      have e6 := List.getElem?_eq_getElem hlt
      have := b5 b _ cs e6 e5.symm _ _ _ (Lend.le.refl _ _) L
      show RVs _ cs (y.us (z.2.box[b]?.getD 0)).toList
      rw [e6]; exact this
  have hcall := HS.run (Ctx.mk c.W [snapP w F] K' (fun j => SU[j]?.getD undef) c.n k1 c.bF c.hF kz) x.1 z.1 ts r h5 y0 (cl.args.toList.map a.eval ++ us2) w M0 (a3 _ _ _ b1 L)
  unfold Oper.wp
  rw [hexec, Oper.upon_enter]
  refine hcall.mono fun e w' he => ?_
  obtain ⟨u, y1, rfl, E⟩ := he
  have hst : St c.W w' (boxPs y1.bl y1.T y1.us (withIdx 0 r.box) ++ (treePs y1.hd r.tree ++ ([] ++ [snapP w F]))) := E.mem.st
  rw [List.nil_append, ← List.append_assoc] at hst
  have hst2 := St.unsnap hst hR
  have hnt : (r.tree.map (·.1)).Nodup := by
    have : ((r.tree ++ ([] : List (Nat × List (List D)))).map (·.1)).Nodup := E.mem.nt
    rw [List.append_nil] at this; exact this
  by_cases hN : ∃ cs, isNew r = some cs ∧ (z.2.box.isEmpty && z.2.tree.isEmpty) = true
  · obtain ⟨cs, e3, he⟩ := hN
    have he0 := he
    rw [Bool.and_eq_true, List.isEmpty_iff, List.isEmpty_iff] at he
    obtain ⟨zb, zt⟩ := he
    unfold S.backX at h
    rw [e3] at h
    simp only [backNew] at h
    rw [if_pos he0] at h
    have hr := isNew_some e3
    subst hr
    obtain ⟨cs', h6, h⟩ := bnd_eq_some h
    unfold newBox1 at h
    obtain ⟨t, ht, h⟩ := bnd_eq_some h
    obtain ⟨hf, h⟩ := grd_eq_some h
    injection h with h; subst h
    have B : Back (relOf (Ctx.mk c.W [snapP w F] K' (fun j => SU[j]?.getD undef) c.n k1 c.bF c.hF kz) (resS [cs] []) y1) (relOf c s y) z.2 (o.dst.getD 0) SU := by
      refine ⟨fun j u v q1 q2 => ?_, k3, fun i b hi q1 => (by rw [zb] at q1; simp at q1), fun q hq => ?_⟩
      · obtain ⟨u0, q3, q4⟩ := b2.src.get q1
        have : u0 = u := by rw [← q2]; show u0 = SU[j]?.getD undef; rw [q3]; rfl
        subst this
        exact q4
      · have hq : q ∈ ((([] : List (Nat × List (List D))) ++ ([] : List (Nat × List (List D)))).map fun x => x.1) := hq
        simp at hq
    have hbx : RVs (relOf (Ctx.mk c.W [snapP w F] K' (fun j => SU[j]?.getD undef) c.n k1 c.bF c.hF kz) (resS [cs] []) y1) cs (y1.us 0).toList := E.mem.box 0 cs (List.mem_cons_self)
    have hv := backL_sound B h6 hbx
    have hv0 : RV (relOf (Ctx.mk c.W [snapP w F] K' (fun j => SU[j]?.getD undef) c.n k1 c.bF c.hF kz) (resS [cs] []) y1) (.ref 0 0) u := E.val
    have hu : u = .pointer (some ⟨y1.bl 0, 0, none⟩) := hv0.2
    have hfl : ∀ (l : List Nat), (l.filter fun k => !([] : List Nat).contains k) = l := fun l => List.filter_eq_self.2 fun x _ => by simp
    have hst3 : St c.W w' (rowP (y1.bl 0) (y1.T 0) (y1.us 0) :: (boxPs y.bl y.T y.us s.box ++ (treePs y.hd s.tree ++ (froPs y.w0 y.F s.fro ++ c.L)))) := by
      rw [zb, zt, hfl, hfl] at hst2
      rw [boxPs_keys y.bl, treePs_keys _ An.1]
      have e9 : boxPs y1.bl y1.T y1.us (withIdx 0 [cs]) ++ treePs y1.hd ([] : List (Nat × List (List D))) = [rowP (y1.bl 0) (y1.T 0) (y1.us 0)] := rfl
      have hst4 := hst2
      rw [show (Res.mk (.ref 0 0) [cs] []).box = [cs] from rfl, show (Res.mk (.ref 0 0) [cs] []).tree = [] from rfl, e9] at hst4
      simpa only [List.append_assoc, List.singleton_append] using hst4
    rw [ht] at hd'
    rw [hu, ht]
    exact kk _ _ ⟨_, A.newBoxAt (isNone_eq hf) hst3 hv hd'⟩
  have h := backX_back hN h
  have hlen : r.box.length = z.1.length := by
    rcases E.len with e | ⟨e1, e2, cs, e3⟩
    · exact e
    · exact absurd ⟨cs, e3, by
        have q1 : z.2.box = [] := List.eq_nil_of_length_eq_zero (by rw [← b3]; exact e1)
        have q2 : z.2.tree = [] := List.eq_nil_of_length_eq_zero (by rw [← t1]; exact e2)
        rw [q1, q2]; rfl⟩ hN
  obtain ⟨y', A'⟩ := call_back A (t := o.dst) (SU := SU) (R := []) (n' := c.n) (hK' := k1) (zd' := kz) (src' := fun j => SU[j]?.getD undef) b2 b4 hlt h4.1 k3 (fun j => rfl) E.val E.mem.box hnt (hlen.trans b3) (fun i b e => by
      have hi : i < z.1.length := by rw [b3]; exact (List.getElem?_eq_some_iff.1 e).1
      rw [E.bl i hi]
      show y.bl (z.2.box[i]?.getD 0) = _
      rw [e]; rfl) (fun q p e => by
      have hi : q < ts.length := by rw [t1]; exact (List.getElem?_eq_some_iff.1 e).1
      rw [E.hd q hi]
      show y.hd (z.2.tree[q]?.getD 0) = _
      rw [e]; rfl) (by simpa only [List.append_assoc] using hst2) hd' h
  exact kk _ _ ⟨y', A'⟩
end
end Go.Proofs.YtjhdikdopdcfcaaGreatDoor
namespace Go.Proofs.YtjhdikdopdcfcaaGreatDoor
open Go.RowKit
set_option linter.unusedSimpArgs false
set_option linter.unusedVariables false
structure Enter (ρ ρ' : Rel) : Prop where
  K : ρ'.K = ρ.K
  Z : ∀ b o, ρ.Z b o → ρ'.Z b o
  src : ρ'.src = ρ.src
  b : ∀ i, ρ.Lb i → ρ'.Lb (parBase + i) ∧ ρ'.bl (parBase + i) = ρ.bl i
  t : ∀ i, ρ.Lt i → ρ'.Lt (parBase + i) ∧ ρ'.hd (parBase + i) = ρ.hd i
mutual
theorem enterV_sound {ρ ρ' : Rel} (e : Enter ρ ρ') : ∀ {v : V} {u : Value}, RV ρ v u → RV ρ' (enterV v) u
  | .v _, _, h => h
  | .nil, _, h => h
  | .lst _ _, _, h => ⟨by rw [e.K]; exact h.1, fun j i => by rw [e.src]; exact h.2 j i⟩
  | .own p, _, h => ⟨(e.t p h.1).1, by rw [(e.t p h.1).2]; exact h.2⟩
  | .inn p _ _ _, _, h => ⟨(e.t p h.1).1, by rw [(e.t p h.1).2]; exact h.2⟩
  | .fz _, _, h => RdD.mono h e.Z
  | .mp _, _, h => MpIn.mono h e.Z
  | .ref b _, _, h => ⟨(e.b b h.1).1, by rw [(e.b b h.1).2]; exact h.2⟩
  | .pe _ _ _ _, _, h => by obtain ⟨ub, h1, h2⟩ := h; exact ⟨ub, enterV_sound e h1, h2⟩
  | .agg _, _, h => by obtain ⟨us, h1, h2⟩ := h; exact ⟨us, h1, enterL_sound e h2⟩
  | .tup _, _, h => by obtain ⟨us, h1, h2⟩ := h; exact ⟨us, h1, enterL_sound e h2⟩
  | .fn _ _, _, h => by obtain ⟨us, h1, h2⟩ := h; exact ⟨us, h1, enterL_sound e h2⟩
  | .dead, _, _ => trivial
theorem enterL_sound {ρ ρ' : Rel} (e : Enter ρ ρ') : ∀ {vs : List V} {us : List Value}, RVs ρ vs us → RVs ρ' (enterL vs) us
  | [], _, h => h
  | _ :: _, _, h => by obtain ⟨u, q, h1, h2, h3⟩ := h; exact ⟨u, q, h1, enterV_sound e h2, enterL_sound e h3⟩
end
theorem look_reverse {α : Type} {l : List (Nat × α)} (n : (l.map (·.1)).Nodup) (k : Nat) : look k l.reverse = look k l := by
  have n2 : (l.reverse.map (·.1)).Nodup := by rw [List.map_reverse]; exact (List.reverse_perm _).nodup_iff.2 n
  cases e : look k l with
  | none =>
    cases e2 : look k l.reverse with
    | none => rfl
    | some x => exact absurd (List.mem_map.2 ⟨_, List.mem_reverse.1 (look_mem e2), rfl⟩) (look_none e)
  | some x => exact look_of_mem n2 (List.mem_reverse.2 (look_mem e))
theorem range_shift {β : Type} (b n : Nat) (f : Nat → β) : (List.range' b n).map f = (List.range' 0 n).map fun i => f (b + i) := by
  apply List.ext_getElem?
  intro i
  rw [List.getElem?_map, List.getElem?_map]
  by_cases hi : i < n
  · rw [List.getElem?_range' hi, List.getElem?_range' hi]
    simp
  · rw [List.getElem?_eq_none (by simpa using hi), List.getElem?_eq_none (by simpa using hi)]; rfl
theorem unB_ex : ∃ f : Nat → Nat, ∀ i, f (parBase + i) = i := ⟨fun b => b - parBase, fun i => Nat.add_sub_cancel_left _ _⟩
def startS (args : List V) (boxes : List (List V)) (trees : List (List (List D))) : S := { env := (withIdx 0 (args.map enterV)).reverse, box := (withIdx parBase (boxes.map enterL)).reverse, tree := (withIdx parBase trees).reverse, fro := [] }
def startA (n : Nat) (us : List Value) : Act := { tmps := us.toArray ++ Array.replicate (n - us.toArray.size) undef, defers := [] }
theorem enter_sound {c : Ctx} {args : List V} {boxes : List (List V)} {trees : List (List (List D))} {y : Lay} {us : List Value} {w : World} (m : Mem c (resS boxes (withIdx 0 trees)) y w) (h : RVs (relOf c (resS boxes (withIdx 0 trees)) y) args us) (n : Nat) {un : Nat → Nat} (hun : ∀ i, un (parBase + i) = i) (hn : (startA n us).tmps.size ≤ parBase) :
    At { c with n := (startA n us).tmps.size, bF := fun b => y.bl (un b), hF := fun p => y.hd (un p) } (startS args boxes trees) { bl := fun b => y.bl (un b), hd := fun p => y.hd (un p), T := fun b => y.T (un b), us := fun b => y.us (un b), w0 := y.w0, F := y.F } (startA n us) w := by
  have sub := hun
  have kB : ∀ b, b ∈ ((withIdx parBase (boxes.map enterL)).reverse.map (·.1)) ↔ ∃ i, i < boxes.length ∧ b = parBase + i := by
    intro b
    rw [List.map_reverse, List.mem_reverse, withIdx_keys, List.mem_range'_1, List.length_map]
    constructor
    · intro h; exact ⟨b - parBase, by omega, by omega⟩
    · rintro ⟨i, h1, h2⟩; omega
  have kT : ∀ b, b ∈ ((withIdx parBase trees).reverse.map (·.1)) ↔ ∃ i, i < trees.length ∧ b = parBase + i := by
    intro b
    rw [List.map_reverse, List.mem_reverse, withIdx_keys, List.mem_range'_1]
    constructor
    · intro h; exact ⟨b - parBase, by omega, by omega⟩
    · rintro ⟨i, h1, h2⟩; omega
  have E : Enter (relOf c (resS boxes (withIdx 0 trees)) y) (relOf { c with n := (startA n us).tmps.size, bF := fun b => y.bl (un b), hF := fun p => y.hd (un p) } (startS args boxes trees) { bl := fun b => y.bl (un b), hd := fun p => y.hd (un p), T := fun b => y.T (un b), us := fun b => y.us (un b), w0 := y.w0, F := y.F }) := by
    refine ⟨rfl, fun b o ⟨p, hp, _⟩ => (by cases hp), rfl, fun i hi => ⟨?_, ?_⟩, fun i hi => ⟨?_, ?_⟩⟩
    · have hi : i ∈ (withIdx 0 boxes).map (·.1) := hi
      rw [withIdx_keys, List.mem_range'_1] at hi
      exact (kB _).2 ⟨i, by omega, rfl⟩
    · show y.bl (un (parBase + i)) = y.bl i; rw [sub]
    · have hi : i ∈ (withIdx 0 trees ++ ([] : List (Nat × List (List D)))).map (·.1) := hi
      rw [List.append_nil, withIdx_keys, List.mem_range'_1] at hi
      show parBase + i ∈ ((withIdx parBase trees).reverse ++ ([] : List (Nat × List (List D)))).map (·.1)
      rw [List.append_nil]
      exact (kT _).2 ⟨i, by omega, rfl⟩
    · show y.hd (un (parBase + i)) = y.hd i; rw [sub]
  have nB : (((withIdx parBase (boxes.map enterL)).reverse).map (·.1)).Nodup := by rw [List.map_reverse]; exact (List.reverse_perm _).nodup_iff.2 withIdx_nodup
  have nT : (((withIdx parBase trees).reverse).map (·.1)).Nodup := by rw [List.map_reverse]; exact (List.reverse_perm _).nodup_iff.2 withIdx_nodup
  refine ⟨rfl, rfl, ?_, fun t v e => ?_, fun b cs hb => ?_, fun p rows hp => (by cases hp), nB, by show (((withIdx parBase trees).reverse ++ ([] : List (Nat × List (List D)))).map (·.1)).Nodup; rw [List.append_nil]; exact nT, hn, fun i _ _ => ⟨rfl, rfl⟩⟩
  · have S0 : St c.W w (boxPs y.bl y.T y.us (withIdx 0 boxes) ++ (treePs y.hd (withIdx 0 trees) ++ ([] ++ c.L))) := m.st
    show St c.W w (boxPs _ _ _ ((withIdx parBase (boxes.map enterL)).reverse) ++ (treePs _ ((withIdx parBase trees).reverse) ++ ([] ++ c.L)))
    refine S0.perm (List.Perm.append ?_ (List.Perm.append ?_ (List.Perm.refl _)))
    · rw [boxPs_keys, boxPs_keys, List.map_reverse, List.map_reverse, withIdx_keys, withIdx_keys, List.length_map, range_shift parBase]
      simp only [sub]
      exact (List.reverse_perm _).symm
    · rw [treePs_keys _ withIdx_nodup, treePs_keys _ nT, List.map_reverse, List.map_reverse, withIdx_keys, withIdx_keys, range_shift parBase]
      simp only [sub]
      refine List.Perm.trans (List.Perm.of_eq (List.map_congr_left fun i hi => ?_)) (List.reverse_perm _).symm
      rw [look_reverse withIdx_nodup, withIdx_look]
      have := withIdx_look (l := trees) (n := 0) i
      rw [Nat.zero_add] at this
      rw [this]
  · have e : look t (withIdx 0 (args.map enterV)).reverse = some v := e
    rw [look_reverse withIdx_nodup] at e
    have e2 := withIdx_look (l := args.map enterV) (n := 0) t
    rw [Nat.zero_add, e, List.getElem?_map] at e2
    obtain ⟨v0, e3, rfl⟩ := Option.map_eq_some_iff.1 e2.symm
    obtain ⟨u, e4, e5⟩ := h.get e3
    have : (startA n us).tmps.getD t undef = u := by
      have hl := (List.getElem?_eq_some_iff.1 e4).1
      rw [Array.getD_eq_getD_getElem?]
      show ((us.toArray ++ Array.replicate _ undef)[t]?).getD undef = u
      rw [Array.getElem?_append_left (by simpa using hl), List.getElem?_toArray, e4]; rfl
    rw [this]
    exact enterV_sound E e5
  · have hb : (b, cs) ∈ (withIdx parBase (boxes.map enterL)).reverse := hb
    have hl := look_of_mem nB hb
    obtain ⟨i, h1, rfl⟩ := (kB b).1 (List.mem_map.2 ⟨_, hb, rfl⟩)
    rw [look_reverse withIdx_nodup, withIdx_look, List.getElem?_map] at hl
    obtain ⟨cs0, e3, rfl⟩ := Option.map_eq_some_iff.1 hl
    have e4 := withIdx_look (l := boxes) (n := 0) i
    rw [Nat.zero_add, e3] at e4
    have := m.box i cs0 (look_mem e4)
    show RVs _ (enterL cs0) (y.us (un (parBase + i))).toList
    rw [sub]
    exact enterL_sound E this
end Go.Proofs.YtjhdikdopdcfcaaGreatDoor
namespace Go.Proofs.YtjhdikdopdcfcaaGreatDoor
open Go.RowKit
set_option linter.unusedSimpArgs false
set_option linter.unusedVariables false
def pcs2 : List (Nat × List (List D)) → List Hd → List Pc
  | x :: l, u :: us => treeP u x.2 :: pcs2 l us
  | _, _ => []
theorem pcs2_app : ∀ {l : List (Nat × List (List D))} {H : List Hd} (x : Nat × List (List D)) (u : Hd), H.length = l.length → pcs2 (l ++ [x]) (H ++ [u]) = pcs2 l H ++ [treeP u x.2]
  | [], [], x, u, _ => rfl
  | [], _ :: _, x, u, h => by simp at h
  | y :: l, [], x, u, h => by simp at h
  | y :: l, v :: H, x, u, h => by
    simp only [List.cons_append, pcs2]
    rw [pcs2_app x u (by simpa using h)]
def ownOf (s : S) (y : Lay) (p : Nat) : Pc := treeP (y.hd p) ((s.rows (.own p)).getD [])
structure Out (s : S) (y : Lay) (n : Nat) (l : List (Nat × List (List D))) (H : List Hd) : Prop where
  len : H.length = l.length
  ex : ∃ N : List Nat, N.Nodup ∧ (∀ p ∈ N, p ∈ l.map (·.1)) ∧ (∀ p ∈ N, ¬ (parBase ≤ p ∧ p < parBase + n)) ∧ (∀ p ∈ N, ∃ rows, s.rows (.own p) = some rows) ∧ ∀ (W w : World) (R : List Pc), St W w (N.map (ownOf s y) ++ R) → St W w (pcs2 l H ++ R)
structure Outs (ρ ρ' : Rel) (s : S) (n : Nat) (H : List Hd) : Prop where
  K : ρ'.K = ρ.K
  src : ρ'.src = ρ.src
  b : ∀ i, ρ.Lb (parBase + i) → ρ'.Lb i ∧ ρ'.bl i = ρ.bl (parBase + i)
  t : ∀ q, q < n → (look (parBase + q) s.tree).isSome = true → ρ'.Lt q ∧ ρ'.hd q = ρ.hd (parBase + q)
  h : ∀ k u, H[k]? = some u → ρ'.Lt (n + k) ∧ ρ'.hd (n + k) = u
section
variable {ρ : Rel} {s : S} {y : Lay} {n : Nat}
def OSeen (ρ : Rel) (s : S) (n : Nat) (H : List Hd) (v' : V) (u : Value) : Prop := ∀ (ρ' : Rel) (Hf : List Hd), H <+: Hf → Outs ρ ρ' s n Hf → RV ρ' v' u
def OSeens (ρ : Rel) (s : S) (n : Nat) (H : List Hd) (vs : List V) (us : List Value) : Prop := ∀ (ρ' : Rel) (Hf : List Hd), H <+: Hf → Outs ρ ρ' s n Hf → RVs ρ' vs us
mutual
theorem outV_sound (hhd : ρ.hd = y.hd) : ∀ {l l' : List (Nat × List (List D))} {H : List Hd} {v v' : V} {u : Value}, Out s y n l H → outV s n l v = some (v', l') → RV ρ v u → ∃ H', H <+: H' ∧ Out s y n l' H' ∧ OSeen ρ s n H' v' u
  | l, l', H, .v x, v', u, o, h, hv => by
    simp only [outV] at h; injection h with h; injection h with h1 h2; subst h1; subst h2
    exact ⟨H, List.prefix_refl _, o, fun _ _ _ _ => hv⟩
  | l, l', H, .dead, v', u, o, h, hv => by
    simp only [outV] at h; injection h with h; injection h with h1 h2; subst h1; subst h2
    exact ⟨H, List.prefix_refl _, o, fun _ _ _ _ => trivial⟩
  | l, l', H, .lst q rows, v', u, o, h, hv => by
    simp only [outV] at h; injection h with h; injection h with h1 h2; subst h1; subst h2
    exact ⟨H, List.prefix_refl _, o, fun ρ' Hf _ O => ⟨by rw [O.K]; exact hv.1, fun j e => by rw [O.src]; exact hv.2 j e⟩⟩
  | l, l', H, .nil, v', u, o, h, hv => by
    simp only [outV] at h; injection h with h; injection h with h1 h2; subst h1; subst h2
    have hu : u = .slice none 0 0 := hv
    subst hu
    refine ⟨H ++ [nilHd], List.prefix_append _ _, ⟨by simp [o.len], ?_⟩, fun ρ' Hf le O => ?_⟩
    · obtain ⟨N, n1, n2, n3, n4, n5⟩ := o.ex
      refine ⟨N, n1, fun p hp => by rw [List.map_append]; exact List.mem_append_left _ (n2 p hp), n3, n4, fun W w R S => ?_⟩
      rw [pcs2_app _ _ o.len, List.append_assoc]
      have S2 := (n5 W w R S).more (Ext.refl w) (h := treeP nilHd []) (F := []) (TreeD.nil w) List.nodup_nil (fun b hb => by cases hb)
      exact S2.perm List.perm_middle.symm
    · have hk := O.h l.length nilHd (prefix_get le (by rw [← o.len]; simp))
      exact ⟨hk.1, by rw [hk.2]; rfl⟩
  | l, l', H, .own p, v', u, o, h, hv => by
    simp only [outV] at h
    by_cases hp : parBase ≤ p ∧ p < parBase + n
    · rw [if_pos hp] at h
      obtain ⟨h1, h⟩ := grd_eq_some h
      injection h with h; injection h with h2 h3; subst h2; subst h3
      refine ⟨H, List.prefix_refl _, o, fun ρ' Hf le O => ?_⟩
      obtain ⟨i, hi⟩ : ∃ i, p = parBase + i := ⟨p - parBase, by omega⟩
      have e : p - parBase = i := by omega
      rw [e]
      rw [hi] at hp h1 hv
      obtain ⟨k1, k2⟩ := O.t i (by omega) h1
      exact ⟨k1, by rw [k2]; exact hv.2⟩
    · rw [if_neg hp] at h
      obtain ⟨rows, h1, h⟩ := bnd_eq_some h
      obtain ⟨h2, h⟩ := grd_eq_some h
      injection h with h; injection h with h3 h4; subst h3; subst h4
      have hnone := look_none (isNone_eq h2)
      have hu : u = (y.hd p).v := by rw [← hhd]; exact hv.2
      refine ⟨H ++ [y.hd p], List.prefix_append _ _, ⟨by simp [o.len], ?_⟩, fun ρ' Hf le O => ?_⟩
      · obtain ⟨N, n1, n2, n3, n4, n5⟩ := o.ex
        refine ⟨p :: N, List.nodup_cons.2 ⟨fun hx => hnone (n2 p hx), n1⟩, fun q hq => ?_, fun q hq => ?_, fun q hq => ?_, fun W w R S => ?_⟩
        · rw [List.map_append]
          rcases List.mem_cons.1 hq with hq | hq
          · subst hq; exact List.mem_append_right _ (by simp)
          · exact List.mem_append_left _ (n2 q hq)
        · rcases List.mem_cons.1 hq with hq | hq
          · subst hq; exact hp
          · exact n3 q hq
        · rcases List.mem_cons.1 hq with hq | hq
          · subst hq; exact ⟨rows, h1⟩
          · exact n4 q hq
        · rw [pcs2_app _ _ o.len, List.append_assoc]
          refine n5 W w _ (S.perm ?_)
          rw [List.map_cons, List.cons_append]
          have e : ownOf s y p = treeP (y.hd p) rows := by unfold ownOf; rw [h1]; rfl
          rw [e]
          exact List.perm_middle.symm
      · have hk := O.h l.length (y.hd p) (prefix_get le (by rw [← o.len]; simp))
        exact ⟨hk.1, by rw [hk.2]; exact hu⟩
  | l, l', H, .ref b off, v', u, o, h, hv => by
    simp only [outV] at h
    obtain ⟨h1, h⟩ := grd_eq_some h
    injection h with h; injection h with h2 h3; subst h2; subst h3
    refine ⟨H, List.prefix_refl _, o, fun ρ' Hf le O => ?_⟩
    obtain ⟨i, hi⟩ : ∃ i, b = parBase + i := ⟨b - parBase, by omega⟩
    have e : b - parBase = i := by omega
    rw [e]
    rw [hi] at hv
    obtain ⟨k1, k2⟩ := O.b i hv.1
    exact ⟨k1, by rw [k2]; exact hv.2⟩
  | l, l', H, .agg cs, v', u, o, h, hv => by
    simp only [outV] at h
    obtain ⟨x, h1, h⟩ := bnd_eq_some h
    injection h with h; injection h with h2 h3; subst h2; subst h3
    obtain ⟨us, e1, e2⟩ := hv
    obtain ⟨H', k1, k2, k3⟩ := outL_sound hhd (l' := x.2) (vs' := x.1) o h1 e2
    exact ⟨H', k1, k2, fun ρ' Hf le O => ⟨us, e1, k3 ρ' Hf le O⟩⟩
  | l, l', H, .tup cs, v', u, o, h, hv => by
    simp only [outV] at h
    obtain ⟨x, h1, h⟩ := bnd_eq_some h
    injection h with h; injection h with h2 h3; subst h2; subst h3
    obtain ⟨us, e1, e2⟩ := hv
    obtain ⟨H', k1, k2, k3⟩ := outL_sound hhd (l' := x.2) (vs' := x.1) o h1 e2
    exact ⟨H', k1, k2, fun ρ' Hf le O => ⟨us, e1, k3 ρ' Hf le O⟩⟩
  | l, l', H, .fz _, v', u, o, h, hv => by simp only [outV] at h; cases h
  | l, l', H, .mp _, v', u, o, h, hv => by simp only [outV] at h; cases h
  | l, l', H, .inn _ _ _ _, v', u, o, h, hv => by simp only [outV] at h; cases h
  | l, l', H, .pe _ _ _ _, v', u, o, h, hv => by simp only [outV] at h; cases h
  | l, l', H, .fn _ _, v', u, o, h, hv => by simp only [outV] at h; cases h
theorem outL_sound (hhd : ρ.hd = y.hd) : ∀ {l l' : List (Nat × List (List D))} {H : List Hd} {vs vs' : List V} {us : List Value}, Out s y n l H → outL s n l vs = some (vs', l') → RVs ρ vs us → ∃ H', H <+: H' ∧ Out s y n l' H' ∧ OSeens ρ s n H' vs' us
  | l, l', H, [], vs', us, o, h, hv => by
    simp only [outL] at h; injection h with h; injection h with h1 h2; subst h1; subst h2
    exact ⟨H, List.prefix_refl _, o, fun _ _ _ _ => hv⟩
  | l, l', H, v :: vs, vs', us, o, h, hv => by
    simp only [outL] at h
    obtain ⟨x, h1, h⟩ := bnd_eq_some h
    obtain ⟨z, h2, h⟩ := bnd_eq_some h
    injection h with h; injection h with h3 h4; subst h3; subst h4
    obtain ⟨u, q, rfl, e1, e2⟩ := hv
    obtain ⟨H1, a1, a2, a3⟩ := outV_sound hhd (l' := x.2) (v' := x.1) o h1 e1
    obtain ⟨H2, b1, b2, b3⟩ := outL_sound hhd (l' := z.2) (vs' := z.1) a2 h2 e2
    exact ⟨H2, a1.trans b1, b2, fun ρ' Hf le O => ⟨u, q, rfl, a3 ρ' Hf (b1.trans le) O, b3 ρ' Hf le O⟩⟩
end
theorem outB_sound (hhd : ρ.hd = y.hd) (hB : ∀ b cs, look b s.box = some cs → RVs ρ cs (y.us b).toList) : ∀ {bs : List Nat} {l l' : List (Nat × List (List D))} {H : List Hd} {css : List (List V)}, Out s y n l H → outB s n l bs = some (css, l') →
    ∃ H', H <+: H' ∧ Out s y n l' H' ∧ css.length = bs.length ∧ (∀ b ∈ bs, parBase + b ∈ s.box.map (·.1)) ∧ ∀ (i b : Nat) (cs : List V), bs[i]? = some b → css[i]? = some cs → OSeens ρ s n H' cs (y.us (parBase + b)).toList
  | [], l, l', H, css, o, h => by
    simp only [outB] at h; injection h with h; injection h with h1 h2; subst h1; subst h2
    exact ⟨H, List.prefix_refl _, o, rfl, (fun b hb => by cases hb), fun i b cs e => by simp at e⟩
  | b :: bs, l, l', H, css, o, h => by
    simp only [outB] at h
    obtain ⟨cs, h1, h⟩ := bnd_eq_some h
    obtain ⟨x, h2, h⟩ := bnd_eq_some h
    obtain ⟨z, h3, h⟩ := bnd_eq_some h
    injection h with h; injection h with h4 h5; subst h4; subst h5
    obtain ⟨H1, a1, a2, a3⟩ := outL_sound hhd (l' := x.2) (vs' := x.1) o h2 (hB _ cs h1)
    obtain ⟨H2, b1, b2, b3, b4, b5⟩ := outB_sound hhd hB (l' := z.2) (css := z.1) a2 h3
    refine ⟨H2, a1.trans b1, b2, by rw [List.length_cons, List.length_cons, b3], fun b' hb => ?_, fun i b' cs' e1 e2 => ?_⟩
    · rcases List.mem_cons.1 hb with hb | hb
      · rw [hb]; exact key_look.2 ⟨cs, h1⟩
      · exact b4 b' hb
    · cases i with
      | zero => simp at e1 e2; rw [← e1, ← e2]; exact fun ρ' Hf le O => a3 ρ' Hf (b1.trans le) O
      | succ i => exact b5 i b' cs' (by simpa using e1) (by simpa using e2)
end
end Go.Proofs.YtjhdikdopdcfcaaGreatDoor
namespace Go.Proofs.YtjhdikdopdcfcaaGreatDoor
open Go.RowKit
set_option linter.unusedSimpArgs false
set_option linter.unusedVariables false
theorem keptTrees_eq (s : S) : ∀ (n j : Nat), keptTrees s j n = (List.range' j n).filterMap fun q => (look (parBase + q) s.tree).map fun rows => (q, rows)
  | 0, j => rfl
  | n + 1, j => by
    simp only [keptTrees, List.range'_succ]
    rw [keptTrees_eq s n (j + 1)]
    cases e : look (parBase + j) s.tree with
    | none => simp only [keptOne, e, List.filterMap_cons, Option.map_none]
    | some rows => simp only [keptOne, e, List.filterMap_cons, Option.map_some]
theorem numbered_eq {α : Type} : ∀ (l : List (Nat × α)) (n : Nat), numbered n l = withIdx n (l.map (·.2))
  | [], _ => rfl
  | x :: r, n => by simp only [numbered, List.map_cons, withIdx]; rw [numbered_eq r]
theorem treePs_numbered {hd : Nat → Hd} : ∀ {l : List (Nat × List (List D))} {H : List Hd} {n : Nat}, H.length = l.length → (∀ k u, H[k]? = some u → hd (n + k) = u) → treePs hd (numbered n l) = pcs2 l H
  | [], [], _, _, _ => rfl
  | [], _ :: _, _, h, _ => by simp at h
  | x :: l, [], _, h, _ => by simp at h
  | x :: l, u :: H, n, h, k => by
    have h0 := k 0 u rfl
    rw [Nat.add_zero] at h0
    have := treePs_numbered (hd := hd) (l := l) (H := H) (n := n + 1) (by simpa using h) fun j v e => by rw [show n + 1 + j = n + (j + 1) by omega]; exact k (j + 1) v (by simpa using e)
    unfold treePs at this ⊢
    simp only [numbered, List.map_cons, pcs2, h0]
    rw [this]
theorem St.thaw {W w : World} {y : Lay} {R : List Pc} : ∀ {l : List (Nat × List (List D))}, (∀ p rows, (p, rows) ∈ l → TreeD (y.w0 p) rows (y.hd p) (y.F p)) → St W w (froPs y.w0 y.F l ++ R) → St W w (treePs y.hd l ++ R)
  | [], _, S => S
  | x :: l, h, S => by
    have S1 : St W w (snapP (y.w0 x.1) (y.F x.1) :: (froPs y.w0 y.F l ++ R)) := S
    obtain ⟨F, s, n, hb⟩ := S1.sep
    obtain ⟨F1, G, rfl, ⟨rfl, e⟩, g⟩ := s.uncons
    have S2 : St W w (treeP (y.hd x.1) x.2 :: (froPs y.w0 y.F l ++ R)) := ⟨S1.ext, _, Sep.cons (h := treeP (y.hd x.1) x.2) ((h x.1 x.2 (by simp)).st e) g, n, hb⟩
    have S3 := (S2.perm (List.perm_middle (l₁ := froPs y.w0 y.F l)).symm)
    have S4 := St.thaw (l := l) (fun p rows hp => h p rows (by simp [hp])) S3
    exact S4.perm List.perm_middle
section
variable {P : Program}
def oneRes (tmps : Array Value) : ResultVar → Sem Value
  | .tmp t => pure (tmps.getD t undef)
  | .cell b t => do loadVar t (← asAddr (tmps.getD b undef))
theorem results_eq (fn : Func) (tmps : Array Value) : results fn tmps = (do
    let vs ← fn.results.mapM (oneRes tmps)
    pure (if h : vs.size = 1 then vs[0] else .tuple vs)) := by
  have e : (fun | .tmp t => pure (tmps.getD t undef) | .cell a t => do loadVar t (← asAddr (tmps.getD a undef)) : ResultVar → Sem Value) = oneRes tmps := by
    funext x; cases x <;> rfl
  rw [← e]; rfl
theorem res_sound {c : Ctx} {s : S} {y : Lay} {a : Act} {w : World} (A : At c s y a w) : ∀ {rs : List ResultVar} {vs : List V}, mapSome (resV P s) rs = some vs → ∃ us, (rs.mapM (oneRes a.tmps)).run P w = .ok us w ∧ RVs (relOf c s y) vs us
  | [], vs, h => by simp only [mapSome] at h; injection h with h; subst h; exact ⟨[], by simp, rfl⟩
  | x :: rs, vs, h => by
    simp only [mapSome] at h
    obtain ⟨v, h1, h⟩ := bnd_eq_some h
    obtain ⟨vs', h2, h⟩ := bnd_eq_some h
    injection h with h; subst h
    obtain ⟨us, k1, k2⟩ := res_sound A h2
    cases x with
    | tmp t =>
      simp only [resV] at h1
      refine ⟨_ :: us, ?_, _, us, rfl, A.env t v h1, k2⟩
      rw [List.mapM_cons]
      simp only [oneRes, Sem.run_bind, Sem.run_pure, Result.andThen_ok, k1]
    | cell b t =>
      simp only [resV] at h1
      obtain ⟨p, h3, h4⟩ := bnd_eq_some h1
      have hp := A.env b p h3
      obtain ⟨u, hr, hv⟩ := A.loadAt (P := P) hp h4
      have hptr : ∃ ad, a.tmps.getD b undef = .pointer (some ad) := by
        cases p <;> simp only [S.load] at h4 <;> try (cases h4; done)
        case ref b' off => exact ⟨_, hp.2⟩
        case pe base k i off => obtain ⟨ub, _, g, q, n, cc, _, _, e⟩ := hp; exact ⟨_, e⟩
      obtain ⟨ad, had⟩ := hptr
      rw [had] at hr
      have hr : (loadVar t ad).run P w = .ok u w := by
        unfold Instr.loadAt at hr
        simpa only [Instr.sureAddr, Sem.run_bind, Sem.run_pure, Result.andThen_ok] using hr
      refine ⟨u :: us, ?_, u, us, rfl, hv, k2⟩
      rw [List.mapM_cons]
      simp only [oneRes, Sem.run_bind, Sem.run_pure, Result.andThen_ok, k1, had, asAddr, hr]
theorem results_sound {c : Ctx} {s : S} {y : Lay} {a : Act} {w : World} (A : At c s y a w) {fn : Func} {vs : List V} (h : mapSome (resV P s) fn.results.toList = some vs) : ∃ u, (results fn a.tmps).run P w = .ok u w ∧ RV (relOf c s y) (tupOf vs) u := by
  obtain ⟨us, h1, h2⟩ := res_sound A h
  have hm : (fn.results.mapM (oneRes a.tmps)).run P w = .ok us.toArray w := by
    rw [Array.mapM_eq_mapM_toList]
    simp only [Sem.run_bind, Sem.run_map]
    rw [h1]; rfl
  have hl := h2.len
  rw [results_eq, Sem.run_bind, hm]
  simp only [Result.andThen_ok]
  cases vs with
  | nil =>
    have : us = [] := List.eq_nil_of_length_eq_zero hl
    subst this
    exact ⟨.tuple #[], rfl, [], rfl, rfl⟩
  | cons v vs =>
    obtain ⟨u, q, rfl, e1, e2⟩ := h2
    cases vs with
    | nil =>
      have : q = [] := e2
      subst this
      exact ⟨u, rfl, e1⟩
    | cons v2 vs =>
      refine ⟨.tuple (u :: q).toArray, ?_, u :: q, rfl, u, q, rfl, e1, e2⟩
      have hne : ¬ ((u :: q).toArray.size = 1) := by
        obtain ⟨u2, q2, rfl, _⟩ := e2
        simp
      rw [dif_neg hne]; rfl
end
end Go.Proofs.YtjhdikdopdcfcaaGreatDoor
namespace Go.Proofs.YtjhdikdopdcfcaaGreatDoor
open Go.RowKit
set_option linter.unusedSimpArgs false
set_option linter.unusedVariables false
section
variable {P : Program}
theorem leave_sound {c : Ctx} {s : S} {y : Lay} {a : Act} {w : World} (A : At c s y a w) {rs : List ResultVar} {nb nt : Nat} {r : Res} {u : Value} {n0 : Nat} {bF' : Nat → Nat} {hF' : Nat → Hd} {vs : List V} (hvs : mapSome (resV P s) rs = some vs) (hu : RV (relOf c s y) (tupOf vs) u) (h : outRes P rs nb nt s = some r) :
    ∃ y' : Lay, Mem { c with n := n0, bF := bF', hF := hF' } (resS r.box r.tree) y' w ∧ RV (relOf { c with n := n0, bF := bF', hF := hF' } (resS r.box r.tree) y') r.val u ∧ r.box.length = nb ∧ (∀ i, i < nb → y'.bl i = y.bl (parBase + i)) ∧ ∀ q, q < nt → y'.hd q = y.hd (parBase + q) := by
  unfold outRes at h
  rw [hvs, bnd_some] at h
  obtain ⟨x, h1, h⟩ := bnd_eq_some h
  obtain ⟨z, h2, h⟩ := bnd_eq_some h
  obtain ⟨h3, h⟩ := grd_eq_some h
  injection h with h; subst h
  have o0 : Out s y nt [] [] := ⟨rfl, [], List.nodup_nil, (fun p hp => by cases hp), (fun p hp => by cases hp), (fun p hp => by cases hp), fun W w R S => S⟩
  obtain ⟨H1, a1, a2, a3⟩ := outV_sound (ρ := relOf c s y) (y := y) rfl (l' := x.2) (v' := x.1) o0 h1 hu
  obtain ⟨H, b1, b2, b3, b4, b5⟩ := outB_sound (ρ := relOf c s y) (y := y) rfl (fun b cs e => A.box b cs (look_mem e)) (l' := z.2) (css := z.1) a2 h2
  rw [List.length_range'] at b3
  have An := A.nt
  have An2 := An
  rw [List.map_append, List.nodup_append] at An2
  obtain ⟨N, n1, n2, n3, n4, n5⟩ := b2.ex
  let y2 : Lay := { bl := fun i => y.bl (parBase + i), hd := fun q => if q < nt then y.hd (parBase + q) else H[q - nt]?.getD nilHd, T := fun i => y.T (parBase + i), us := fun i => y.us (parBase + i), w0 := y.w0, F := y.F }
  have hlow : ∀ q, q < nt → y2.hd q = y.hd (parBase + q) := fun q hq => if_pos hq
  have hhigh : ∀ k u, H[k]? = some u → y2.hd (nt + k) = u := fun k u e => by
    show (if nt + k < nt then _ else H[nt + k - nt]?.getD nilHd) = u
    rw [if_neg (by omega), Nat.add_sub_cancel_left, e]; rfl
  have kkeys : ∀ q, q ∈ (keptTrees s 0 nt).map (·.1) ↔ q < nt ∧ ∃ rows, look (parBase + q) s.tree = some rows := by
    intro q
    rw [keptTrees_eq, List.mem_map]
    constructor
    · rintro ⟨x, hx, rfl⟩
      obtain ⟨q', h4, h5⟩ := List.mem_filterMap.1 hx
      obtain ⟨rows, h6, rfl⟩ := Option.map_eq_some_iff.1 h5
      rw [List.mem_range'_1] at h4
      exact ⟨by omega, rows, h6⟩
    · rintro ⟨h4, rows, h5⟩
      exact ⟨(q, rows), List.mem_filterMap.2 ⟨q, by rw [List.mem_range'_1]; omega, by rw [h5]; rfl⟩, rfl⟩
  have nkeys : (numbered nt z.2).map (·.1) = List.range' nt z.2.length := by rw [numbered_eq, withIdx_keys, List.length_map]
  have hrt : (keptTrees s 0 nt ++ numbered nt z.2).map (·.1) = (keptTrees s 0 nt).map (·.1) ++ List.range' nt z.2.length := by rw [List.map_append, nkeys]
  have Os : Outs (relOf c s y) (relOf { c with n := n0, bF := bF', hF := hF' } (resS z.1 (keptTrees s 0 nt ++ numbered nt z.2)) y2) s nt H := by
    refine ⟨rfl, rfl, fun i hi => ⟨?_, rfl⟩, fun q hq e => ⟨?_, hlow q hq⟩, fun k u e => ⟨?_, hhigh k u e⟩⟩
    · show i ∈ (withIdx 0 z.1).map (·.1)
      rw [withIdx_keys, List.mem_range'_1, b3]
      obtain ⟨xx, hx1, hx2⟩ := List.mem_map.1 (show parBase + i ∈ s.box.map (·.1) from hi)
      have := List.all_eq_true.1 h3 xx hx1
      rw [decide_eq_true_eq, hx2] at this
      omega
    · show q ∈ ((keptTrees s 0 nt ++ numbered nt z.2) ++ ([] : List (Nat × List (List D)))).map (·.1)
      rw [List.append_nil, hrt, List.mem_append]
      exact .inl ((kkeys q).2 ⟨hq, Option.isSome_iff_exists.1 e⟩)
    · show nt + k ∈ ((keptTrees s 0 nt ++ numbered nt z.2) ++ ([] : List (Nat × List (List D)))).map (·.1)
      rw [List.append_nil, hrt, List.mem_append]
      refine .inr ?_
      rw [List.mem_range'_1, ← b2.len]
      have := (List.getElem?_eq_some_iff.1 e).1
      omega
  refine ⟨y2, ⟨?_, fun b cs hb => ?_, fun p rows hp => (by cases hp), withIdx_nodup, ?_⟩, a3 _ _ b1 Os, b3, fun i _ => rfl, hlow⟩
  ·
    have hall : ∀ n, (∃ rows, s.rows (.own n) = some rows) ↔ n ∈ (s.tree ++ s.fro).map (·.1) := by
      intro n
      rw [List.map_append, List.mem_append, key_look, key_look]
      simp only [S.rows]
      cases look n s.tree with
      | some r0 => simp [orElse1]
      | none => simp [orElse1]
    have S1 : St c.W w ((s.box.map (·.1)).map (fun b => rowP (y.bl b) (y.T b) (y.us b)) ++ (((s.tree ++ s.fro).map (·.1)).map (ownOf s y) ++ c.L)) := by
      have S0 := A.st
      have S2 : St c.W w (froPs y.w0 y.F s.fro ++ (boxPs y.bl y.T y.us s.box ++ (treePs y.hd s.tree ++ c.L))) := S0.perm (by
        have := perm5 (boxPs y.bl y.T y.us s.box) [] (treePs y.hd s.tree) (froPs y.w0 y.F s.fro) c.L
        simp only [List.append_nil, List.nil_append] at this
        rw [← List.append_assoc, ← List.append_assoc]
        refine ((List.Perm.append_right c.L List.perm_append_comm).trans ?_)
        simp only [List.append_assoc]
        exact List.Perm.refl _)
      have S3 := St.thaw A.fro S2
      refine S3.perm ?_
      have e1 : treePs y.hd s.tree ++ treePs y.hd s.fro = ((s.tree ++ s.fro).map (·.1)).map (ownOf s y) := by
        rw [List.map_append, List.map_append, treePs_keys _ An2.1, treePs_keys _ An2.2.1]
        congr 1
        · refine List.map_congr_left fun p hp => ?_
          obtain ⟨rows, hr⟩ := key_look.1 hp
          unfold ownOf
          simp only [S.rows, hr, orElse1]
        · refine List.map_congr_left fun p hp => ?_
          obtain ⟨rows, hr⟩ := key_look.1 hp
          have hn : look p s.tree = none := by
            cases e : look p s.tree with
            | none => rfl
            | some r0 => exact absurd rfl (An2.2.2 p (key_look.2 ⟨r0, e⟩) p hp)
          unfold ownOf
          simp only [S.rows, hr, hn, orElse1]
      rw [← e1, boxPs_keys]
      refine (List.perm_append_comm (l₁ := treePs y.hd s.fro)).trans ?_
      rw [List.append_assoc, List.append_assoc]
      refine List.Perm.append_left _ ?_
      rw [List.append_assoc]
      exact List.Perm.append_left _ List.perm_append_comm
    have hbk : ∀ b ∈ List.range' parBase nb, b ∈ s.box.map (·.1) := by
      intro b hb
      rw [List.mem_range'_1] at hb
      have := b4 (b - parBase) (by rw [List.mem_range'_1]; omega)
      rw [show parBase + (b - parBase) = b by omega] at this
      exact this
    have p1 := (minus_perm A.nb List.nodup_range' hbk).map fun b => rowP (y.bl b) (y.T b) (y.us b)
    rw [List.map_append] at p1
    have kn : ((keptTrees s 0 nt).map (·.1)).Nodup := by
      rw [keptTrees_eq, List.nodup_iff_pairwise_ne, List.pairwise_map, List.pairwise_filterMap]
      refine List.Pairwise.imp (fun {q q'} hne b hb b' hb' e => ?_) (List.nodup_iff_pairwise_ne.1 (List.nodup_range' (s := 0) (n := nt)))
      obtain ⟨r1, _, rfl⟩ := Option.map_eq_some_iff.1 hb
      obtain ⟨r2, _, rfl⟩ := Option.map_eq_some_iff.1 hb'
      exact hne e
    have hnd : (((keptTrees s 0 nt).map (·.1)).map (fun q => parBase + q) ++ N).Nodup := by
      refine List.nodup_append.2 ⟨?_, n1, fun x hx p hp e => ?_⟩
      · rw [List.nodup_iff_pairwise_ne, List.pairwise_map]
        exact List.Pairwise.imp (fun {q q'} hne e => hne (by omega)) (List.nodup_iff_pairwise_ne.1 kn)
      · obtain ⟨q, hq, rfl⟩ := List.mem_map.1 hx
        have hq2 := ((kkeys q).1 hq).1
        rw [← e] at hp
        exact n3 _ hp (by omega)
    have hsub : ∀ p ∈ (((keptTrees s 0 nt).map (·.1)).map (fun q => parBase + q) ++ N), p ∈ (s.tree ++ s.fro).map (·.1) := by
      intro p hp
      rcases List.mem_append.1 hp with hp | hp
      · obtain ⟨q, hq, rfl⟩ := List.mem_map.1 hp
        obtain ⟨_, rows, hr⟩ := (kkeys q).1 hq
        rw [List.map_append, List.mem_append]; exact .inl (key_look.2 ⟨rows, hr⟩)
      · exact (hall p).1 (n4 p hp)
    have p2 := ((minus_perm An hnd hsub).map (ownOf s y)).trans (List.Perm.of_eq (by rw [List.map_append, List.map_append]))
    have S4 := S1.perm (List.Perm.append p1 (List.Perm.append p2 (List.Perm.refl c.L)))
    have S5 : St c.W w (N.map (ownOf s y) ++ ((List.range' parBase nb).map (fun b => rowP (y.bl b) (y.T b) (y.us b)) ++ (((keptTrees s 0 nt).map (·.1)).map (fun q => parBase + q)).map (ownOf s y) ++ c.L)) := by
      have hp : ∀ (A B C D E Z : List Pc), ((A ++ B) ++ (((C ++ D) ++ E) ++ Z)).Perm ((B ++ E) ++ (D ++ ((A ++ C) ++ Z))) := by
        intro A B C D E Z
        have q1 : ((A ++ B) ++ (((C ++ D) ++ E) ++ Z)).Perm (B ++ (A ++ (((C ++ D) ++ E) ++ Z))) := by
          rw [← List.append_assoc B]; exact List.Perm.append_right _ List.perm_append_comm
        refine q1.trans ?_
        rw [List.append_assoc B E]
        refine List.Perm.append_left _ ?_
        have q2 : (A ++ (((C ++ D) ++ E) ++ Z)).Perm (E ++ (A ++ ((C ++ D) ++ Z))) := by
          have := List.Perm.append_right Z (List.perm_append_comm (l₁ := C ++ D) (l₂ := E))
          refine (List.Perm.append_left A this).trans ?_
          rw [List.append_assoc E, ← List.append_assoc A, ← List.append_assoc E]
          exact List.Perm.append_right _ List.perm_append_comm
        refine q2.trans (List.Perm.append_left _ ?_)
        have q3 := List.Perm.append_right Z (List.perm_append_comm (l₁ := C) (l₂ := D))
        refine (List.Perm.append_left A q3).trans ?_
        rw [List.append_assoc D, ← List.append_assoc A, List.append_assoc A C, ← List.append_assoc D]
        exact List.Perm.append_right _ List.perm_append_comm
      exact St.dropL (S4.perm (hp _ _ _ _ _ _))
    have S6 := n5 _ _ _ S5
    show St c.W w (boxPs y2.bl y2.T y2.us (withIdx 0 z.1) ++ (treePs y2.hd (keptTrees s 0 nt ++ numbered nt z.2) ++ ([] ++ c.L)))
    have e1 : boxPs y2.bl y2.T y2.us (withIdx 0 z.1) = (List.range' parBase nb).map fun b => rowP (y.bl b) (y.T b) (y.us b) := by
      rw [boxPs_keys, withIdx_keys, b3, range_shift parBase]
    have e2 : treePs y2.hd (keptTrees s 0 nt ++ numbered nt z.2) = (((keptTrees s 0 nt).map (·.1)).map (fun q => parBase + q)).map (ownOf s y) ++ pcs2 z.2 H := by
      have e3 : treePs y2.hd (numbered nt z.2) = pcs2 z.2 H := treePs_numbered b2.len hhigh
      have e4 : treePs y2.hd (keptTrees s 0 nt) = (((keptTrees s 0 nt).map (·.1)).map (fun q => parBase + q)).map (ownOf s y) := by
        unfold treePs
        rw [List.map_map, List.map_map]
        refine List.map_congr_left fun x hx => ?_
        rw [keptTrees_eq] at hx
        obtain ⟨q', h4, h5⟩ := List.mem_filterMap.1 hx
        obtain ⟨rows, h6, rfl⟩ := Option.map_eq_some_iff.1 h5
        rw [List.mem_range'_1] at h4
        simp only [Function.comp]
        rw [hlow q' (by omega)]
        unfold ownOf
        simp only [S.rows, h6, orElse1, Option.getD_some]
      rw [← e3, ← e4]; unfold treePs; rw [List.map_append]
    rw [e1, e2, List.nil_append]
    refine S6.perm ?_
    refine List.perm_append_comm.trans ?_
    rw [List.append_assoc, List.append_assoc]
    refine List.Perm.append_left _ ?_
    rw [List.append_assoc]
    exact List.Perm.append_left _ List.perm_append_comm
  · have hl := look_of_mem withIdx_nodup (show (b, cs) ∈ withIdx 0 z.1 from hb)
    have e5 := withIdx_look (l := z.1) (n := 0) b
    rw [Nat.zero_add, hl] at e5
    have hlt : b < nb := by rw [← b3]; exact (List.getElem?_eq_some_iff.1 e5.symm).1
    exact b5 b b cs (by rw [List.getElem?_range' hlt]; simp) e5.symm _ _ (List.prefix_refl _) Os
  · show ((keptTrees s 0 nt ++ numbered nt z.2 ++ ([] : List (Nat × List (List D)))).map (·.1)).Nodup
    have kn : ((keptTrees s 0 nt).map (·.1)).Nodup := by
      rw [keptTrees_eq, List.nodup_iff_pairwise_ne, List.pairwise_map, List.pairwise_filterMap]
      refine List.Pairwise.imp (fun {q q'} hne b hb b' hb' e => ?_) (List.nodup_iff_pairwise_ne.1 (List.nodup_range' (s := 0) (n := nt)))
      obtain ⟨r1, _, rfl⟩ := Option.map_eq_some_iff.1 hb
      obtain ⟨r2, _, rfl⟩ := Option.map_eq_some_iff.1 hb'
      exact hne e
    rw [List.append_nil, hrt, List.nodup_append]
    refine ⟨kn, List.nodup_range', fun q hq q' hq' e => ?_⟩
    have := ((kkeys q).1 hq).1
    rw [List.mem_range'_1] at hq'
    omega
theorem codeOk_mono {gh : Ghost} {n m : Nat} (h : n ≤ m) : ∀ (x : Code), codeOk gh n x = true → codeOk gh m x = true
  | .region _ ops d, k => by
    unfold codeOk at k ⊢
    rw [Bool.and_eq_true] at k ⊢
    refine ⟨List.all_eq_true.2 fun o ho => ?_, k.2⟩
    have := List.all_eq_true.1 k.1 o ho
    unfold dstOk at this ⊢
    split at this
    · simp at this ⊢; omega
    · rfl
  | .seq x y, k => by unfold codeOk at k ⊢; rw [Bool.and_eq_true] at k ⊢; exact ⟨codeOk_mono h x k.1, codeOk_mono h y k.2⟩
  | .cond _ x y, k => by unfold codeOk at k ⊢; rw [Bool.and_eq_true] at k ⊢; exact ⟨codeOk_mono h x k.1, codeOk_mono h y k.2⟩
  | .block _ x, k => by unfold codeOk at k ⊢; exact codeOk_mono h x k
  | .loop x, k => by unfold codeOk at k ⊢; exact codeOk_mono h x k
  | .scope x, k => by unfold codeOk at k ⊢; exact codeOk_mono h x k
  | .skip, _ => rfl
  | .label _, _ => rfl
  | .exit _, _ => rfl
  | .ret, _ => rfl
  | .goto _, k => k
  | .rangeFunc .., k => k
  | .refuse .., k => k
theorem fun_sound {G : List (FuncId × Bool × Mean)} (hG : ∀ f M, look f G = some M → Sound P f M.2) {gh : Ghost} (hM : MarksOk gh) {f : FuncId} {fn : Func} {x : Code} (hf : P.funcs[f]? = some fn) (hb : fn.body = some x) (hn : (fn.name == "runtime.NumGoroutine") = false) (hsm : fn.ntmps ≤ 1000000) (hx : codeOk gh fn.ntmps x = true) (hm : P.follows .mixedOrders = true) : Sound P f (evFun P G gh f) := by
  refine ⟨⟨fn, hf, hn, by rw [hb]; rfl⟩, fun c args boxes trees r h y us w m hargs => ?_⟩
  unfold evFun at h
  rw [hf, bnd_some, hb, bnd_some] at h
  obtain ⟨⟨hal, hbl9, htl9⟩, h⟩ := grd_eq_some h
  obtain ⟨e, h1, h⟩ := bnd_eq_some h
  obtain ⟨un, hun⟩ := unB_ex
  have hle : us.length ≤ 1000 := by rw [hargs.len]; exact hal
  have hsz0 : (startA fn.ntmps us).tmps.size = us.length + (fn.ntmps - us.length) := by
    show (us.toArray ++ Array.replicate (fn.ntmps - us.toArray.size) undef).size = _
    rw [Array.size_append, Array.size_replicate, List.size_toArray]
  have hsz : fn.ntmps ≤ (startA fn.ntmps us).tmps.size := by rw [hsz0]; omega
  have hpb : (startA fn.ntmps us).tmps.size ≤ parBase := by rw [hsz0]; unfold parBase; omega
  have A := enter_sound m hargs fn.ntmps hun hpb
  refine calls_of_wp hf hb ?_
  refine code_sound (c := { c with n := (startA fn.ntmps us).tmps.size, bF := fun b => y.bl (un b), hF := fun p => y.hd (un p) }) (calls_ok hG) hM hm x (.on (startS args boxes trees)) e (startA fn.ntmps us) w _ (codeOk_mono hsz x hx) h1 ⟨_, A⟩ fun a' w' g => ?_
  obtain ⟨ex, q⟩ := e
  have fin : ∀ s, GoodQ { c with n := (startA fn.ntmps us).tmps.size, bF := fun b => y.bl (un b), hF := fun p => y.hd (un p) } (.on s) a' w' → outRes P fn.results.toList boxes.length trees.length s = some r → a'.defers = [] ∧ ∃ v, (results fn a'.tmps).run P w' = .ok v w' ∧ ∃ u y', Ending.returned v = .returned u ∧ Ends c boxes.length trees.length r y u y' w' := by
    intro s ⟨y1, A1⟩ hr
    have hr2 := hr
    unfold outRes at hr2
    obtain ⟨vs, hvs, _⟩ := bnd_eq_some hr2
    obtain ⟨u, k1, k2⟩ := results_sound A1 hvs
    obtain ⟨y', k3, k4, k5, k6, k7⟩ := leave_sound (n0 := c.n) (bF' := c.bF) (hF' := c.hF) A1 hvs k2 hr
    refine ⟨A1.defers, u, k1, u, y', rfl, k3, k4, .inl k5, fun i hi => ?_, fun q hq => ?_⟩
    · rw [k6 i hi]
      have := (A1.fix.2 (parBase + i) (by omega) (by unfold parBase; omega)).1
      rw [this]
      show y.bl (un (parBase + i)) = y.bl i
      rw [hun]
    · rw [k7 q hq]
      have := (A1.fix.2 (parBase + q) (by omega) (by unfold parBase; omega)).2
      rw [this]
      show y.hd (un (parBase + q)) = y.hd q
      rw [hun]
  cases ex with
  | normal =>
    cases q with
    | off => exact g.elim
    | on s => exact fin s g h
  | ret =>
    cases q with
    | off => exact g.elim
    | on s => exact fin s g h
  | exit i => simp only [leaveV] at h; cases h
end
end Go.Proofs.YtjhdikdopdcfcaaGreatDoor
namespace Go.Proofs.YtjhdikdopdcfcaaGreatDoor
open Go.RowKit
set_option linter.unusedSimpArgs false
set_option linter.unusedVariables false
theorem froPs_fresh {w0 : Nat → World} {F : Nat → List Nat} {k : Nat} {u : World} {f : List Nat} : ∀ {l : List (Nat × List (List D))}, k ∉ l.map (·.1) → froPs (fset w0 k u) (fset F k f) l = froPs w0 F l
  | [], _ => rfl
  | (j, x) :: r, h => by
    simp only [List.map_cons, List.mem_cons, not_or] at h
    have := froPs_fresh (w0 := w0) (F := F) (u := u) (f := f) h.2
    unfold froPs at this ⊢
    rw [List.map_cons, List.map_cons, this]
    simp only [fset_ne _ _ (fun e => h.1 e.symm : j ≠ k)]
theorem At.freeze {c : Ctx} {s : S} {y : Lay} {a : Act} {w : World} (A : At c s y a w) {p : Nat} {rows : List (List D)} (hl : look p s.tree = some rows) : Good c { s with tree := drop1 p s.tree, fro := (p, rows) :: s.fro } a w := by
  have S0 := A.out' hl
  obtain ⟨F, o, hn, hb, k⟩ := S0.open_
  have S1 : St c.W w (snapP w F :: (Pcs (s.kill p) y ++ c.L)) := k w (snapP w F) F rfl rfl rfl (Nat.le_refl _) (fun _ _ _ => rfl) ⟨rfl, fun _ _ => rfl⟩ hn (fun b hx => ⟨.inl hx, (hb b hx).2⟩)
  have An := A.nt
  rw [List.map_append, List.nodup_append] at An
  have hp : p ∈ s.tree.map (·.1) := key_look.2 ⟨rows, hl⟩
  have hpf : p ∉ s.fro.map (·.1) := fun h => An.2.2 p hp p h rfl
  have kk : ∀ n, n ∈ (drop1 p s.tree ++ (p, rows) :: s.fro).map (·.1) ↔ n ∈ (s.tree ++ s.fro).map (·.1) := by
    intro n
    rw [List.map_append, List.map_append, List.mem_append, List.mem_append, List.map_cons, List.mem_cons, drop1_mem]
    constructor
    · rintro (h | h | h)
      · exact .inl h.1
      · subst h; exact .inl hp
      · exact .inr h
    · rintro (h | h)
      · by_cases e : n = p
        · exact .inr (.inl e)
        · exact .inl ⟨h, e⟩
      · exact .inr (.inr h)
  have le : (relOf c s y).le (relOf c { s with tree := drop1 p s.tree, fro := (p, rows) :: s.fro } { y with w0 := fset y.w0 p w, F := fset y.F p F }) := by
    refine ⟨fun _ _ h => h, fun b o ⟨q, h1, h2, h3⟩ => ?_, rfl, fun b h => ⟨h, rfl⟩, fun q h => ⟨(kk q).2 h, rfl⟩⟩
    have hq : q ≠ p := fun e => hpf (by rw [← e]; exact h1)
    exact ⟨q, List.mem_cons_of_mem _ h1, by show b ∈ fset y.F p F q; rw [fset_ne _ _ hq]; exact h2, by show (fset y.w0 p w q).heap[b]? = some o; rw [fset_ne _ _ hq]; exact h3⟩
  refine ⟨{ y with w0 := fset y.w0 p w, F := fset y.F p F }, A.defers, A.size, ?_, fun t v e => (A.env t v e).le le, fun b cs h => (A.box b cs h).le le, fun q r h => ?_, A.nb, ?_, A.fix⟩
  · show St c.W w (boxPs y.bl y.T y.us s.box ++ (treePs y.hd (drop1 p s.tree) ++ ((snapP (fset y.w0 p w p) (fset y.F p F p) :: froPs (fset y.w0 p w) (fset y.F p F) s.fro) ++ c.L)))
    rw [fset_self, fset_self, froPs_fresh hpf]
    rw [pcs_kill] at S1
    have q := (List.perm_middle (a := snapP w F) (l₁ := boxPs y.bl y.T y.us s.box ++ treePs y.hd (drop1 p s.tree)) (l₂ := froPs y.w0 y.F s.fro ++ c.L)).symm
    simp only [List.append_assoc, List.cons_append] at q ⊢ S1
    exact S1.perm q
  · show TreeD (fset y.w0 p w q) _ (y.hd q) (fset y.F p F q)
    rcases List.mem_cons.1 h with h | h
    · injection h with h1 h2; subst h1; subst h2
      rw [fset_self, fset_self]; exact o
    · have hq : q ≠ p := fun e => hpf (by rw [← e]; exact List.mem_map.2 ⟨_, h, rfl⟩)
      rw [fset_ne _ _ hq, fset_ne _ _ hq]; exact A.fro q r h
  · show ((drop1 p s.tree ++ (p, rows) :: s.fro).map (·.1)).Nodup
    rw [List.map_append, List.nodup_append]
    refine ⟨drop1_nodup An.1, List.nodup_cons.2 ⟨hpf, An.2.1⟩, fun x hx z hz e => ?_⟩
    subst e
    have hx := drop1_mem.1 hx
    rcases List.mem_cons.1 hz with h | h
    · exact hx.2 h
    · exact An.2.2 x hx.1 x h rfl
theorem freezeAt_sound {c : Ctx} {s s' : S} {p : Nat} {a : Act} {w : World} (h1 : freezeAt s p (look p s.tree) = some s') (g : Good c s a w) : Good c s' a w := by
  obtain ⟨y, A⟩ := g
  unfold freezeAt at h1
  split at h1
  · rename_i rows e
    injection h1 with h1; subst h1
    exact A.freeze e
  · injection h1 with h1; subst h1; exact ⟨y, A⟩
theorem freezeL_sound {c : Ctx} : ∀ {cs : List V} {s s' : S} {a : Act} {w : World}, freezeL s cs = some s' → Good c s a w → Good c s' a w
  | [], s, s', a, w, h, g => by simp only [freezeL] at h; injection h with h; subst h; exact g
  | v :: cs, s, s', a, w, h, g => by
    cases v <;> simp only [freezeL] at h
    case own p =>
      obtain ⟨s1, h1, h⟩ := bnd_eq_some h
      exact freezeL_sound h (freezeAt_sound h1 g)
    all_goals exact freezeL_sound h g
theorem freezeAll_sound {c : Ctx} : ∀ {ts : List Nat} {s s' : S} {a : Act} {w : World}, freezeAll s ts = some s' → Good c s a w → Good c s' a w
  | [], s, s', a, w, h, g => by simp only [freezeAll] at h; injection h with h; subst h; exact g
  | t :: ts, s, s', a, w, h, g => by
    simp only [freezeAll] at h
    obtain ⟨s1, h1, h⟩ := bnd_eq_some h
    refine freezeAll_sound h ?_
    unfold S.freeze at h1
    obtain ⟨v, h2, h1⟩ := bnd_eq_some h1
    unfold freezeV at h1
    split at h1
    · exact freezeAt_sound h1 g
    · obtain ⟨cs, h3, h1⟩ := bnd_eq_some h1
      exact freezeL_sound h1 g
    · injection h1 with h1; subst h1; exact g
theorem regAt_sound {c : Ctx} {o : Option (List Nat)} {s s' : S} (h : regAt s o = some s') {a : Act} {w : World} (g : Good c s a w) : Good c s' a w := by
  unfold regAt at h
  split at h
  · exact freezeAll_sound h g
  · injection h with h; subst h; exact g
mutual
theorem metV_sub : ∀ (l : List Nat) (v : V), (∀ x ∈ l, x ∈ metV l v) ∧ (∀ p, mentions p v = true → p ∈ metV l v) ∧ (l.Nodup → (metV l v).Nodup)
  | l, .own p => by
    simp only [metV]
    by_cases h : l.contains p = true
    · rw [if_pos h]
      exact ⟨fun x hx => hx, fun q hq => by simp [mentions] at hq; subst hq; simpa using h, fun n => n⟩
    · rw [if_neg h]
      have hp : p ∉ l := by simpa using h
      exact ⟨fun x hx => List.mem_append_left _ hx, fun q hq => by simp [mentions] at hq; subst hq; simp, fun n => List.nodup_append.2 ⟨n, by simp, fun x hx z hz e => by simp at hz; rw [e, hz] at hx; exact hp hx⟩⟩
  | l, .inn p _ _ _ => by
    simp only [metV]
    by_cases h : l.contains p = true
    · rw [if_pos h]
      exact ⟨fun x hx => hx, fun q hq => by simp [mentions] at hq; subst hq; simpa using h, fun n => n⟩
    · rw [if_neg h]
      have hp : p ∉ l := by simpa using h
      exact ⟨fun x hx => List.mem_append_left _ hx, fun q hq => by simp [mentions] at hq; subst hq; simp, fun n => List.nodup_append.2 ⟨n, by simp, fun x hx z hz e => by simp at hz; rw [e, hz] at hx; exact hp hx⟩⟩
  | l, .pe b _ _ _ => by simp only [metV, mentions]; exact metV_sub l b
  | l, .agg cs => by simp only [metV, mentions]; exact metL_sub l cs
  | l, .tup cs => by simp only [metV, mentions]; exact metL_sub l cs
  | l, .fn _ cs => by simp only [metV, mentions]; exact metL_sub l cs
  | l, .v _ => by simp only [metV, mentions]; exact ⟨fun x hx => hx, (fun q hq => by cases hq), fun n => n⟩
  | l, .nil => by simp only [metV, mentions]; exact ⟨fun x hx => hx, (fun q hq => by cases hq), fun n => n⟩
  | l, .lst _ _ => by simp only [metV, mentions]; exact ⟨fun x hx => hx, (fun q hq => by cases hq), fun n => n⟩
  | l, .mp _ => by simp only [metV, mentions]; exact ⟨fun x hx => hx, (fun q hq => by cases hq), fun n => n⟩
  | l, .fz _ => by simp only [metV, mentions]; exact ⟨fun x hx => hx, (fun q hq => by cases hq), fun n => n⟩
  | l, .ref _ _ => by simp only [metV, mentions]; exact ⟨fun x hx => hx, (fun q hq => by cases hq), fun n => n⟩
  | l, .dead => by simp only [metV, mentions]; exact ⟨fun x hx => hx, (fun q hq => by cases hq), fun n => n⟩
theorem metL_sub : ∀ (l : List Nat) (vs : List V), (∀ x ∈ l, x ∈ metL l vs) ∧ (∀ p, mentions.any p vs = true → p ∈ metL l vs) ∧ (l.Nodup → (metL l vs).Nodup)
  | l, [] => by simp only [metL, mentions.any]; exact ⟨fun x hx => hx, (fun q hq => by cases hq), fun n => n⟩
  | l, v :: vs => by
    obtain ⟨a1, a2, a3⟩ := metV_sub l v
    obtain ⟨b1, b2, b3⟩ := metL_sub (metV l v) vs
    simp only [metL, mentions.any]
    refine ⟨fun x hx => b1 x (a1 x hx), fun p hp => ?_, fun n => b3 (a3 n)⟩
    rw [Bool.or_eq_true] at hp
    exact hp.elim (fun h => b1 p (a2 p h)) (b2 p)
end
end Go.Proofs.YtjhdikdopdcfcaaGreatDoor
