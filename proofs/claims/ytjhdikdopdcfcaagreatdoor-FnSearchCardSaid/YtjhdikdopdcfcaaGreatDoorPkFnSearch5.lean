/- Part 5 of a proof in several texts (an abstract evaluator, what the functions compute). -/
import Derived.Test.YtjhdikdopdcfcaaGreatDoorPkFnSearch4
import Derived.Laws.Small
import Derived.Laws.MakeOwn
import Derived.Carry
import Derived.MapKept
import Derived.LoopN
namespace Go.Proofs.YtjhdikdopdcfcaaGreatDoor
open Go.RowKit
set_option linter.unusedSimpArgs false
set_option linter.unusedVariables false
mutual
theorem RV.turn {ρ ρ' : Rel} {p : Nat} (hK : ρ'.K = ρ.K) (hZ : ∀ b o, ρ.Z b o → ρ'.Z b o) (hs : ρ'.src = ρ.src) (hb : ∀ b, ρ.Lb b → ρ'.Lb b ∧ ρ'.bl b = ρ.bl b) (ht : ∀ q, ρ.Lt q → ρ'.Lt q ∧ (ρ'.hd q).v = (ρ.hd q).v ∧ (q ≠ p → ρ'.hd q = ρ.hd q)) :
    ∀ {v : V} {u : Value}, innOf p v = false → RV ρ v u → RV ρ' v u
  | .v _, _, _, h => h
  | .nil, _, _, h => h
  | .lst _ _, _, _, h => ⟨by rw [hK]; exact h.1, fun j i => by rw [hs]; exact h.2 j i⟩
  | .own q, _, _, h => ⟨(ht q h.1).1, by rw [(ht q h.1).2.1]; exact h.2⟩
  | .inn q _ _ _, _, m, h => by
    have hq : q ≠ p := by intro e; subst e; simp [innOf] at m
    exact ⟨(ht q h.1).1, by rw [(ht q h.1).2.2 hq]; exact h.2⟩
  | .fz _, _, _, h => RdD.mono h hZ
  | .mp _, _, _, h => MpIn.mono h hZ
  | .ref b _, _, _, h => ⟨(hb b h.1).1, by rw [(hb b h.1).2]; exact h.2⟩
  | .pe _ _ _ _, _, m, h => by obtain ⟨ub, h1, h2⟩ := h; exact ⟨ub, RV.turn hK hZ hs hb ht (by simpa [innOf] using m) h1, h2⟩
  | .agg _, _, m, h => by obtain ⟨us, h1, h2⟩ := h; exact ⟨us, h1, RVs.turn hK hZ hs hb ht (by simpa [innOf] using m) h2⟩
  | .tup _, _, m, h => by obtain ⟨us, h1, h2⟩ := h; exact ⟨us, h1, RVs.turn hK hZ hs hb ht (by simpa [innOf] using m) h2⟩
  | .fn _ _, _, m, h => by obtain ⟨us, h1, h2⟩ := h; exact ⟨us, h1, RVs.turn hK hZ hs hb ht (by simpa [innOf] using m) h2⟩
  | .dead, _, _, _ => trivial
theorem RVs.turn {ρ ρ' : Rel} {p : Nat} (hK : ρ'.K = ρ.K) (hZ : ∀ b o, ρ.Z b o → ρ'.Z b o) (hs : ρ'.src = ρ.src) (hb : ∀ b, ρ.Lb b → ρ'.Lb b ∧ ρ'.bl b = ρ.bl b) (ht : ∀ q, ρ.Lt q → ρ'.Lt q ∧ (ρ'.hd q).v = (ρ.hd q).v ∧ (q ≠ p → ρ'.hd q = ρ.hd q)) :
    ∀ {vs : List V} {us : List Value}, innOf.any p vs = false → RVs ρ vs us → RVs ρ' vs us
  | [], _, _, h => h
  | _ :: _, _, m, h => by
    simp [innOf.any] at m
    obtain ⟨u, q, h1, h2, h3⟩ := h; exact ⟨u, q, h1, RV.turn hK hZ hs hb ht m.1 h2, RVs.turn hK hZ hs hb ht m.2 h3⟩
end
theorem look_innE (p t : Nat) : ∀ (l : List (Nat × V)), look t (innE p l) = (look t l).map fun v => if innOf p v = true then .dead else v
  | [] => rfl
  | (i, z) :: r => by
    unfold innE
    simp only [look]
    split
    · rfl
    · exact look_innE p t r
theorem innB_keys (p : Nat) : ∀ (l : List (Nat × List V)), (innB p l).map (·.1) = l.map (·.1)
  | [] => rfl
  | (i, z) :: r => by unfold innB; rw [List.map_cons, List.map_cons, innB_keys p r]
theorem boxPs_innB {bl : Nat → Nat} {T : Nat → TypeId} {us : Nat → Array Value} (p : Nat) : ∀ (l : List (Nat × List V)), boxPs bl T us (innB p l) = boxPs bl T us l
  | [] => rfl
  | (i, z) :: r => by
    have := boxPs_innB (bl := bl) (T := T) (us := us) p r
    unfold boxPs at this ⊢
    unfold innB; rw [List.map_cons, List.map_cons, this]
theorem mem_innB {p b : Nat} {cs : List V} : ∀ {l : List (Nat × List V)}, (b, cs) ∈ innB p l → ∃ cs', (b, cs') ∈ l ∧ cs = innC p cs'
  | [], h => by cases h
  | (i, z) :: r, h => by
    unfold innB at h
    rcases List.mem_cons.1 h with h | h
    · injection h with h1 h2; subst h1; subst h2; exact ⟨z, List.mem_cons_self, rfl⟩
    · obtain ⟨cs', h1, h2⟩ := mem_innB h
      exact ⟨cs', List.mem_cons_of_mem _ h1, h2⟩
theorem innC_sound {ρ ρ' : Rel} {p : Nat} (hK : ρ'.K = ρ.K) (hZ : ∀ b o, ρ.Z b o → ρ'.Z b o) (hs : ρ'.src = ρ.src) (hb : ∀ b, ρ.Lb b → ρ'.Lb b ∧ ρ'.bl b = ρ.bl b) (ht : ∀ q, ρ.Lt q → ρ'.Lt q ∧ (ρ'.hd q).v = (ρ.hd q).v ∧ (q ≠ p → ρ'.hd q = ρ.hd q)) :
    ∀ {vs : List V} {us : List Value}, RVs ρ vs us → RVs ρ' (innC p vs) us
  | [], _, h => h
  | v :: _, _, h => by
    obtain ⟨u, q, h1, h2, h3⟩ := h
    refine ⟨u, q, h1, ?_, innC_sound hK hZ hs hb ht h3⟩
    cases e : innOf p v with
    | true => simp; trivial
    | false => simp; exact RV.turn hK hZ hs hb ht e h2
section
variable {P : Program} {c : Ctx} {s : S} {y : Lay} {a : Act} {w : World}
theorem At.turned (A : At c s y a w) {p : Nat} {rows rows' : List (List D)} (hl : look p s.tree = some rows) (hp : ¬ (parBase ≤ p ∧ p < 2 * parBase)) {h' : Hd} (hv : h'.v = (y.hd p).v) {w' : World} {L' : List Pc} (hK' : ∀ w, St c.W w L' → ∀ b o, c.K b o → w.heap[b]? = some o)
    (S : St c.W w' (treeP h' rows' :: (Pcs (s.kill p) y ++ L'))) : At { c with L := L', hK := hK' } (s.turned p rows') { y with hd := fset y.hd p h' } a w' := by
  obtain ⟨l1, l2, h1, h2, h3⟩ := look_split hl
  have n := A.nt
  rw [List.map_append, List.nodup_append] at n
  have h3 := h3 n.1
  have keys : (upd p rows' s.tree).map (·.1) = s.tree.map (·.1) := upd_keys _
  have hpt : p ∈ s.tree.map (·.1) := List.mem_map.2 ⟨_, look_mem hl, rfl⟩
  have ht : ∀ q, (relOf c s y).Lt q → (relOf c (s.turned p rows') { y with hd := fset y.hd p h' }).Lt q ∧ ((relOf c (s.turned p rows') { y with hd := fset y.hd p h' }).hd q).v = ((relOf c s y).hd q).v ∧ (q ≠ p → (relOf c (s.turned p rows') { y with hd := fset y.hd p h' }).hd q = (relOf c s y).hd q) := by
    intro q h
    refine ⟨?_, ?_, fun e => fset_ne _ _ e⟩
    · have h : q ∈ (s.tree ++ s.fro).map (·.1) := h
      show q ∈ (upd p rows' s.tree ++ s.fro).map (·.1)
      rw [List.map_append, keys, ← List.map_append]; exact h
    · show (fset y.hd p h' q).v = (y.hd q).v
      by_cases e : q = p
      · subst e; rw [fset_self]; exact hv
      · rw [fset_ne _ _ e]
  have hb : ∀ b, (relOf c s y).Lb b → (relOf c (s.turned p rows') { y with hd := fset y.hd p h' }).Lb b ∧ (relOf c (s.turned p rows') { y with hd := fset y.hd p h' }).bl b = (relOf c s y).bl b := by
    intro b h
    refine ⟨?_, rfl⟩
    show b ∈ (innB p s.box).map (·.1)
    rw [innB_keys]; exact h
  refine ⟨A.defers, A.size, ?_, fun t v e => ?_, fun b cs h => ?_, fun q r h => ?_, ?_, ?_, A.fix.1, fun i g1 g2 => ⟨(A.fix.2 i g1 g2).1, (fset_ne _ _ (fun e => hp (by rw [← e]; exact ⟨g1, g2⟩))).trans (A.fix.2 i g1 g2).2⟩⟩
  · show St c.W w' (boxPs y.bl y.T y.us (innB p s.box) ++ (treePs (fset y.hd p h') (upd p rows' s.tree) ++ (froPs y.w0 y.F s.fro ++ L')))
    rw [boxPs_innB, h2 rows']
    rw [pcs_kill, h3, List.append_assoc, List.append_assoc] at S
    have hk : p ∉ l1.map (·.1) ∧ p ∉ l2.map (·.1) := by
      have n1 := n.1
      rw [h1, List.map_append, List.map_cons] at n1
      have n2 := List.nodup_cons.1 (List.perm_middle.nodup_iff.1 n1)
      exact ⟨fun h => n2.1 (List.mem_append_left _ h), fun h => n2.1 (List.mem_append_right _ h)⟩
    have e : treePs (fset y.hd p h') (l1 ++ (p, rows') :: l2) = treePs y.hd l1 ++ treeP h' rows' :: treePs y.hd l2 := by
      have e1 := treePs_fresh (hd := y.hd) (u := h') hk.1
      have e2 := treePs_fresh (hd := y.hd) (u := h') hk.2
      unfold treePs at e1 e2 ⊢
      rw [List.map_append, List.map_cons, e1, e2]
      simp only [fset_self]
    rw [e]
    refine S.perm ?_
    have e3 : treePs y.hd (l1 ++ l2) = treePs y.hd l1 ++ treePs y.hd l2 := by unfold treePs; rw [List.map_append]
    rw [e3]
    refine (List.perm_middle (l₁ := boxPs y.bl y.T y.us s.box) (l₂ := (treePs y.hd l1 ++ treePs y.hd l2) ++ (froPs y.w0 y.F s.fro ++ L')) (a := treeP h' rows')).symm.trans ?_
    refine List.Perm.append_left _ ?_
    rw [← List.cons_append]
    refine List.Perm.append_right _ ?_
    exact List.perm_middle.symm
  · have e : look t (innE p s.env) = some v := e
    rw [look_innE] at e
    cases e2 : look t s.env with
    | none => rw [e2] at e; cases e
    | some v' =>
      rw [e2] at e; simp only [Option.map_some, Option.some.injEq] at e
      subst e
      cases e3 : innOf p v' with
      | true => simp; trivial
      | false => simp only [Bool.false_eq_true, if_false]; exact RV.turn (ρ := relOf c s y) (ρ' := relOf c (s.turned p rows') { y with hd := fset y.hd p h' }) rfl (fun _ _ h => h) rfl hb ht e3 (A.env t v' e2)
  · obtain ⟨cs', h4, rfl⟩ := mem_innB h
    exact innC_sound (ρ := relOf c s y) (ρ' := relOf c (s.turned p rows') { y with hd := fset y.hd p h' }) rfl (fun _ _ h => h) rfl hb ht (A.box b cs' h4)
  · show TreeD (y.w0 q) r (fset y.hd p h' q) (y.F q)
    have hq : q ≠ p := fun e => n.2.2 p hpt q (List.mem_map.2 ⟨_, h, rfl⟩) e.symm
    rw [fset_ne _ _ hq]; exact A.fro q r h
  · show ((innB p s.box).map (·.1)).Nodup
    rw [innB_keys]; exact A.nb
  · show ((upd p rows' s.tree ++ s.fro).map (·.1)).Nodup
    rw [List.map_append, keys, ← List.map_append]; exact A.nt
theorem At.turned' (A : At c s y a w) {p : Nat} {rows rows' : List (List D)} (hl : look p s.tree = some rows) (hp : ¬ (parBase ≤ p ∧ p < 2 * parBase)) {w' : World} {L' : List Pc} (hK' : ∀ w, St c.W w L' → ∀ b o, c.K b o → w.heap[b]? = some o)
    (S : St c.W w' (ownP (y.hd p).v rows' :: (Pcs (s.kill p) y ++ L'))) : ∃ h', h'.v = (y.hd p).v ∧ At { c with L := L', hK := hK' } (s.turned p rows') { y with hd := fset y.hd p h' } a w' := by
  obtain ⟨h', hv, S1⟩ := S.tree
  exact ⟨h', hv, A.turned hl hp hv hK' S1⟩
end
theorem pcs_mid {A B : List D} {UA UB : List Value} {d : D} {u : Value} (h : UA.length = A.length) : pcs (A ++ d :: B) (UA ++ u :: UB) = pcs A UA ++ dP d u :: pcs B UB := by
  rw [pcs_app h]; rfl
theorem split_at_get {α : Type} {l : List α} {m : Nat} {x : α} (h : l[m]? = some x) : l = l.take m ++ x :: l.drop (m + 1) ∧ ∀ z, l.set m z = l.take m ++ z :: l.drop (m + 1) := by
  have hm := (List.getElem?_eq_some_iff.1 h).1
  have hx := (List.getElem?_eq_some_iff.1 h).2
  refine ⟨?_, fun z => ?_⟩
  · rw [← hx, ← List.drop_eq_getElem_cons hm, List.take_append_drop]
  · rw [List.set_eq_take_append_cons_drop, if_pos hm]
theorem St.takeOut {W w : World} {L : List Pc} {u : Value} {rows : List (List D)} (S : St W w (ownP u rows :: L)) {i j : Nat} {r : List D} {rs : List (List D)} (hi : rows[i]? = some r) (hj : r[j]? = some (.l rs)) {ui : Value} (ho : ui.oneCell' = true)
    (hcell : ∀ (g ob n c : Nat) (cs : Array Value) (T : TypeId) (fr : Nat × Nat), u = .slice (some ⟨g, ob, none⟩) n c → w.heap[g]? = some (.cells cs T fr) → cs[ob + (i * r.length + j)]? = some ui) :
    St W w (ownP u (rows.set i (r.set j .gone)) :: (ownP ui rs :: L)) := by
  rcases S.split with ⟨e, _⟩ | ⟨g, ob, cc, k, T, cs, us, k1, k2, k3, k4, k5, k6, k7, k8, k9, S1⟩
  · rw [e] at hi; simp at hi
  · have hk : r.length = k := k6 r (List.mem_of_getElem? hi)
    have hjk : j < k := by rw [← hk]; exact (List.getElem?_eq_some_iff.1 hj).1
    have f := flat_get rows i j r _ k6 hi hj
    have hm := (List.getElem?_eq_some_iff.1 f).1
    have hfl := flat_len rows k6
    have hg : w.heap[g]? = some (.cells cs T (0, 0)) := S1.row_at List.mem_cons_self
    have hu : us[i * k + j]? = some ui := by
      have := hcell g ob _ cc cs T (0, 0) k2 hg
      rw [hk] at this
      rw [← k9, List.getElem?_take, if_pos (by rw [← hfl]; exact hm), List.getElem?_drop, Array.getElem?_toList]; exact this
    obtain ⟨a1, a2⟩ := split_at_get f
    obtain ⟨b1, _⟩ := split_at_get hu
    have hlen : (us.take (i * k + j)).length = (rows.flatten.take (i * k + j)).length := by rw [List.length_take, List.length_take, k8]
    rw [a1, b1, pcs_mid hlen] at S1
    have S2 : St W w (dP (.l rs) ui :: (rowP g T cs :: ((pcs (rows.flatten.take (i * k + j)) (us.take (i * k + j)) ++ pcs (rows.flatten.drop (i * k + j + 1)) (us.drop (i * k + j + 1))) ++ L))) := S1.perm (by
      refine (List.Perm.cons _ (List.Perm.append_right L List.perm_middle)).trans ?_
      rw [List.cons_append]
      exact List.Perm.swap _ _ _)
    have S3 := S2.more (Ext.refl w) (h := dP .gone ui) (F := []) (OwnD.gone ui ho) List.nodup_nil (fun b hb => by cases hb)
    have S4 : St W w (rowP g T cs :: (pcs (rows.set i (r.set j .gone)).flatten us ++ (ownP ui rs :: L))) := by
      rw [flat_set rows i j r .gone k6 hi hjk, a2 .gone]
      conv => rw [b1]
      rw [pcs_mid hlen]
      refine S3.perm ?_
      refine (List.Perm.cons _ (List.Perm.swap _ _ _)).trans ?_
      refine (List.Perm.swap _ _ _).trans ?_
      refine List.Perm.cons _ ?_
      rw [List.append_assoc]
      have : ∀ (X Y : List Pc) (a b : Pc), (a :: b :: (X ++ (Y ++ L))).Perm ((X ++ a :: Y) ++ b :: L) := by
        intro X Y a b
        have p1 : ((X ++ a :: Y) ++ b :: L).Perm (b :: ((X ++ a :: Y) ++ L)) := List.perm_middle
        have p2 : (X ++ a :: Y).Perm (a :: (X ++ Y)) := List.perm_middle
        refine List.Perm.trans ?_ p1.symm
        refine List.Perm.trans (List.Perm.swap _ _ _) (List.Perm.cons _ ?_)
        refine List.Perm.trans ?_ (List.Perm.append_right L p2).symm
        rw [List.cons_append, List.append_assoc]
      exact this _ _ _ _
    have hne : rows.set i (r.set j .gone) ≠ [] := fun e => k1 (List.eq_nil_of_length_eq_zero (by have := congrArg List.length e; simpa using this))
    have hall : ∀ r' ∈ rows.set i (r.set j .gone), r'.length = k := fun r' hr' => by
      rcases List.mem_or_eq_of_mem_set hr' with hr' | hr'
      · exact k6 r' hr'
      · rw [hr', List.length_set]; exact hk
    have S5 := S4.join (cc := cc) (k := k) (by rw [k8, flat_set rows i j r .gone k6 hi hjk, List.length_set]) (by rw [List.length_set]; exact k3) k4 k5 hall k7 (fun e => absurd e hne) (by rw [List.length_set]; exact k9)
    rw [List.length_set, ← k2] at S5
    exact S5
section
variable {P : Program} {c : Ctx} {s : S} {y : Lay} {a : Act} {w : World}
theorem At.cellOf (A : At c s y a w) {p i j : Nat} {rows : List (List D)} {r : List D} {rs : List (List D)} {u : Value} (hl : look p s.tree = some rows) (hi : rows[i]? = some r) (hj : r[j]? = some (.l rs)) (hu : u = (y.hd p).cv (i * r.length + j)) :
    ∀ (g ob n c : Nat) (cs : Array Value) (T : TypeId) (fr : Nat × Nat), (y.hd p).v = .slice (some ⟨g, ob, none⟩) n c → w.heap[g]? = some (.cells cs T fr) → cs[ob + (i * r.length + j)]? = some u := by
  intro g ob n cc cs T fr e1 e2
  obtain ⟨F, t⟩ := A.treeAt hl
  have o := t.own
  rw [e1] at o
  cases o with
  | nil => simp at hi
  | l _ _ _ _ _ k T2 cs2 us fs a1 a2 a3 a4 a5 =>
    have hk : r.length = k := a5 r (List.mem_of_getElem? hi)
    have f := flat_get rows i j r _ a5 hi hj
    rw [hk] at hu ⊢
    rw [hu]
    exact t.hd g ob n cc cs T fr _ rs e1 e2 f
theorem At.takeInn (A : At c s y a w) {p i j k : Nat} {u : Value} {rs : List (List D)} {s1 : S} (hv : RV (relOf c s y) (.inn p i j k) u) (h : s.rows (.inn p i j k) = some rs) (h1 : s.takeInn p i j = some s1) :
    ∃ y', At (c.with [ownP u rs]) s1 y' a w := by
  obtain ⟨rows, r, k1, k2, k3, k4⟩ := inn_some h
  unfold S.takeInn at h1
  obtain ⟨rows2, q1, h1⟩ := bnd_eq_some h1
  rw [k1] at q1; injection q1 with q1; subst q1
  obtain ⟨r2, q2, h1⟩ := bnd_eq_some h1
  rw [k2] at q2; injection q2 with q2; subst q2
  obtain ⟨hp, h1⟩ := grd_eq_some h1
  have hp : ¬ (parBase ≤ p ∧ p < 2 * parBase) := by unfold parBase; exact hp
  injection h1 with h1; subst h1
  have hu := hv.2.1
  rw [← k3] at hu
  have S := (A.out' k1).untree
  have S1 := S.takeOut k2 k4 hv.2.2 (A.cellOf k1 k2 k4 hu)
  obtain ⟨h', _, A'⟩ := A.turned' k1 hp (L' := [ownP u rs] ++ c.L) (Ctx.with c _).hK (rows' := rows.set i (r.set j .gone)) (S1.perm (List.Perm.cons _ List.perm_middle.symm))
  exact ⟨_, A'⟩
end
end Go.Proofs.YtjhdikdopdcfcaaGreatDoor
namespace Go.Proofs.YtjhdikdopdcfcaaGreatDoor
open Go.RowKit
set_option linter.unusedSimpArgs false
set_option linter.unusedVariables false
section
variable {P : Program} {c : Ctx} {s : S} {y : Lay} {a : Act} {w : World}
def Kind (P : Program) (t : TypeId) : Prop := (∃ e', P.underlying t = some (.slice e')) ∨ P.underlying t = some .string
theorem seqT_kind {t : TypeId} (h : seqT P t = true) : Kind P t := by
  unfold seqT at h
  split at h
  · rename_i d hd
    unfold seqD at h
    split at h
    · exact .inl ⟨_, hd⟩
    · exact .inr hd
    · cases h
  · cases h
theorem RdD.one {G : Nat → Obj → Prop} {d : D} {u : Value} (h : RdD G d u) (o : oneD d = true) : u.oneCell' = true := by
  cases d with
  | a x => rw [h.atom]; exact o
  | l r => obtain ⟨A, c, e, _⟩ := h.len; rw [e]; rfl
  | gone => cases h; assumption
theorem RdD.source {k : Nat} {rows : List (List D)} {u : Value} (h : RdD (heapOf w) (.l rows) u) (hw : wid k rows = true) {t : TypeId} (ht : Kind P t) :
    ∃ news, Src P k t u rows.length news w ∧ news.length = rows.flatten.length ∧ ∀ (i : Nat) (x : Value) (v : Value), rows.flatten[i]? = some (.a x) → news[i]? = some v → v = x := by
  cases h with
  | nil A c h1 h2 =>
    refine ⟨[], ?_, rfl, fun i x v e => by simp at e⟩
    cases A with
    | none => exact ⟨ht, fun _ => rfl, run_firstCells_none w k 0 0 c, run_firstCells_none w.drew k 0 0 c, by simp, fun _ h => by cases h⟩
    | some ad => exact ⟨ht, fun _ => rfl, run_firstCells_some w k 0 ad 0 c [] (by simp) (fun j v h => by simp at h), run_firstCells_some w.drew k 0 ad 0 c [] (by simp) (fun j v h => by simp at h), by simp, fun _ h => by cases h⟩
  | l _ n c b o k' T fr cs us q1 q2 q3 q4 q5 q6 q7 q8 q9 =>
    subst q1
    have hk : k' = k := by
      cases rows with
      | nil => simp at q2
      | cons r rs => rw [← q6 r (by simp), wid_spec hw r (by simp)]
    subst hk
    have hfl := flat_len rows q6
    have hl : ((List.range rows.flatten.length).map us).length = rows.length * k' := by rw [List.length_map, List.length_range, hfl]
    have hget : ∀ j u, ((List.range rows.flatten.length).map us)[j]? = some u → ∃ d, rows.flatten[j]? = some d ∧ u = us j := by
      intro j u e
      rw [List.getElem?_map] at e
      obtain ⟨m, e1, rfl⟩ := Option.map_eq_some_iff.1 e
      have hj := (List.getElem?_eq_some_iff.1 e1).1
      rw [List.length_range] at hj
      rw [List.getElem?_range hj] at e1
      injection e1 with e1; subst e1
      exact ⟨_, List.getElem?_eq_getElem hj, rfl⟩
    have hcell : ∀ j u, ((List.range rows.flatten.length).map us)[j]? = some u → w.cell? ((⟨b, o, none⟩ : Addr).add j) = some u := by
      intro j u e
      obtain ⟨d, e1, rfl⟩ := hget j u e
      rw [Addr.add_mid, cell_of_row w b _ cs T fr q7]
      exact q8 j d e1
    refine ⟨(List.range rows.flatten.length).map us, ⟨ht, fun _ => rfl, run_firstCells_some w k' rows.length ⟨b, o, none⟩ rows.length c _ hl hcell, run_firstCells_some w.drew k' rows.length ⟨b, o, none⟩ rows.length c _ hl hcell, hl, fun u hu => ?_⟩, by rw [hl, hfl], fun i x v e1 e2 => ?_⟩
    · obtain ⟨j, e⟩ := List.getElem?_of_mem hu
      obtain ⟨d, e1, rfl⟩ := hget j u e
      obtain ⟨r, hr, hd⟩ := List.mem_flatten.1 (List.mem_of_getElem? e1)
      exact (q9 j d e1).one (wid_one hw r hr d hd)
    · obtain ⟨d, e3, rfl⟩ := hget i v e2
      rw [e1] at e3; injection e3 with e3; subst e3
      exact (q9 i _ e1).atom
theorem flat_flat {rows : List (List D)} (h : rowsFlat rows = true) : ∀ d ∈ rows.flatten, flatD d = true := by
  intro d hd
  obtain ⟨r, hr, hd⟩ := List.mem_flatten.1 hd
  exact List.all_eq_true.1 (List.all_eq_true.1 h r hr) d hd
theorem str_source {k : Nat} {b : ByteArray} (hw : wid k (b.toList.map fun c => [.a (.int .u8 (c.toNat : Int))]) = true) {t : TypeId} (ht : Kind P t) :
    ∃ news, Src P k t (.string b) (b.toList.map fun c => [D.a (.int .u8 (c.toNat : Int))]).length news w ∧ news.length = (b.toList.map fun c => [D.a (.int .u8 (c.toNat : Int))]).flatten.length ∧
      ∀ (i : Nat) (x : Value) (v : Value), (b.toList.map fun c => [D.a (.int .u8 (c.toNat : Int))]).flatten[i]? = some (.a x) → news[i]? = some v → v = x := by
  have hsz : b.toList.length = b.size := by rw [ByteArray.toList_eq, Array.length_toList]; rfl
  have hfl := flat_len (k := 1) (b.toList.map fun c => [D.a (.int .u8 (c.toNat : Int))]) (fun r hr => by obtain ⟨x, _, rfl⟩ := List.mem_map.1 hr; rfl)
  have hf : ∀ w' : World, (Builtin.firstCells k b.size (.string b)).run P w' = .ok (byteCells b).toArray w' := by
    intro w'
    have := firstCells_string (P := P) b w'
    exact this
  refine ⟨byteCells b, ⟨ht, fun _ => by rw [List.length_map, hsz]; rfl, by rw [List.length_map, hsz]; exact hf w, by rw [List.length_map, hsz]; exact hf w.drew, ?_, fun u hu => ?_⟩, ?_, fun i x v e1 e2 => ?_⟩
  · rw [byteCells_length, List.length_map, hsz]
    by_cases h0 : b.size = 0
    · rw [h0]; simp
    · have hne : b.toList ≠ [] := by intro e; rw [e] at hsz; simp at hsz; omega
      obtain ⟨x, r, e⟩ := List.exists_cons_of_ne_nil hne
      rw [e] at hw
      have := wid_spec hw [D.a (.int .u8 (x.toNat : Int))] (by simp)
      simp at this
      rw [← this]; simp
  · obtain ⟨_, _, rfl⟩ := List.mem_map.1 hu
    rfl
  · rw [byteCells_length, hfl, List.length_map, hsz, Nat.mul_one]
  · have hi : i < b.toList.length := by
      have := (List.getElem?_eq_some_iff.1 e1).1
      rw [hfl, List.length_map, Nat.mul_one] at this; exact this
    have := flat_get (k := 1) (b.toList.map fun c => [D.a (.int .u8 (c.toNat : Int))]) i 0 _ _ (fun r hr => by obtain ⟨x, _, rfl⟩ := List.mem_map.1 hr; rfl) (by rw [List.getElem?_map, List.getElem?_eq_getElem hi]; rfl) rfl
    rw [show i * 1 + 0 = i by omega, e1] at this
    injection this with this; injection this with this; subst this
    unfold byteCells at e2
    rw [← ByteArray.toList_eq, List.getElem?_map, List.getElem?_eq_getElem hi] at e2
    simpa using e2.symm
theorem srcV_sound (A : At c s y a w) {v : V} {u : Value} (hv : RV (relOf c s y) v u) {rows : List (List D)} {s1 : S} (h : srcV s v = some (rows, s1)) {k : Nat} (hw : wid k rows = true) {t : TypeId} (ht : Kind P t) :
    ∃ E news, At (c.with E) s1 y a w ∧ E = pcs rows.flatten news ∧ Src P k t u rows.length news w ∧ news.length = rows.flatten.length := by
  have flat : ∀ (rows : List (List D)), rowsFlat rows = true → (∃ news, Src P k t u rows.length news w ∧ news.length = rows.flatten.length ∧ ∀ (i : Nat) (x : Value) (v : Value), rows.flatten[i]? = some (.a x) → news[i]? = some v → v = x) →
      ∃ E news, At (c.with E) s y a w ∧ E = pcs rows.flatten news ∧ Src P k t u rows.length news w ∧ news.length = rows.flatten.length := by
    intro rows hf ⟨news, h1, h2, h3⟩
    have S := St.atoms A.pcs (flat_flat hf) h3
    refine ⟨_, news, A.withL (L' := pcs rows.flatten news ++ c.L) (Ctx.with c _).hK (S.perm ?_), rfl, h1, h2⟩
    rw [← List.append_assoc, ← List.append_assoc]
    exact List.Perm.append_right _ List.perm_append_comm
  unfold srcV at h
  split at h
  · rename_i b
    injection h with h; injection h with h1 h2; subst h1; subst h2
    rw [show u = .string b from hv]
    have hf : rowsFlat (b.toList.map fun c => [D.a (.int .u8 (c.toNat : Int))]) = true := by
      unfold rowsFlat; rw [List.all_eq_true]; intro r hr
      obtain ⟨x, _, rfl⟩ := List.mem_map.1 hr
      rfl
    have := flat _ hf (by rw [show u = .string b from hv]; exact str_source hw ht)
    rw [show u = .string b from hv] at this
    exact this
  · rename_i q
    unfold srcOwn at h
    split at h
    · rename_i rows' hq
      injection h with h; injection h with h1 h2; subst h1
      by_cases hf : rowsFlat rows' = true
      · rw [if_pos hf] at h2; subst h2
        exact flat _ hf (RdD.source (A.rows hv (by simp only [S.rows, hq, orElse1])) hw ht)
      · rw [if_neg hf] at h2; subst h2
        have hu : u = (y.hd q).v := hv.2
        rcases (A.out' hq).untree.split with ⟨e, _⟩ | ⟨g, ob, cc, k', T, cs, us, k1, k2, k3, k4, k5, k6, k7, k8, k9, S⟩
        · rw [e] at hf; exact absurd rfl hf
        · have hk : k' = k := by
            cases hr : rows' with
            | nil => exact absurd hr k1
            | cons r rs => rw [hr] at k6 hw; rw [← k6 r (by simp), wid_spec hw r (by simp)]
          subst hk
          have hg : w.heap[g]? = some (.cells cs T (0, 0)) := S.row_at List.mem_cons_self
          have hfl := flat_len rows' k6
          have hcell : ∀ j v, us[j]? = some v → w.cell? ((⟨g, ob, none⟩ : Addr).add j) = some v := by
            intro j v e
            rw [Addr.add_mid, cell_of_row w g _ cs T (0, 0) hg]
            rw [← k9, List.getElem?_take] at e
            split at e
            · rw [List.getElem?_drop, Array.getElem?_toList] at e; exact e
            · cases e
          have S2 := S.drop
          refine ⟨_, us, A.killed' (L' := pcs rows'.flatten us ++ c.L) (Ctx.with c _).hK (S2.perm ?_) hq, rfl, ?_, k8⟩
          · rw [← List.append_assoc, ← List.append_assoc]
            exact List.Perm.append_right _ List.perm_append_comm
          · rw [hu, k2]
            refine ⟨ht, fun _ => rfl, run_firstCells_some w k' rows'.length ⟨g, ob, none⟩ rows'.length cc _ (by rw [k8, hfl]) hcell, run_firstCells_some w.drew k' rows'.length ⟨g, ob, none⟩ rows'.length cc _ (by rw [k8, hfl]) hcell, by rw [k8, hfl], fun x hx => ?_⟩
            obtain ⟨j, e⟩ := List.getElem?_of_mem hx
            have hj : j < rows'.flatten.length := by rw [← k8]; exact (List.getElem?_eq_some_iff.1 e).1
            have hd := List.getElem?_eq_getElem hj
            obtain ⟨F, o⟩ := A.treeAt hq
            have hrd := o.own.rd (G := heapOf w) fun _ _ _ e => e
            rw [k2] at hrd
            cases hrd with
            | nil => exact absurd rfl k1
            | l _ n c' b' o' k'' T' fr' cs' us' q1 q2 q3 q4 q5 q6 q7 q8 q9 =>
              have e7 : heapOf w g (.cells cs' T' fr') := q7
              unfold heapOf at e7
              rw [hg] at e7
              injection e7 with e7; injection e7 with e7 _ _
              have e8 := q8 j _ hd
              rw [← e7] at e8
              have e9 : cs[ob + j]? = some x := by
                have := hcell j x e
                rw [Addr.add_mid, cell_of_row w g _ cs T (0, 0) hg] at this
                exact this
              rw [e9] at e8; injection e8 with e8
              rw [e8]
              obtain ⟨r, hr, hdr⟩ := List.mem_flatten.1 (List.mem_of_getElem? hd)
              exact (q9 j _ hd).one (wid_one hw r hr _ hdr)
    · rename_i hq
      obtain ⟨rows', h1, h⟩ := bnd_eq_some h
      obtain ⟨hf, h⟩ := grd_eq_some h
      injection h with h; injection h with h2 h3; subst h2; subst h3
      exact flat _ hf (RdD.source (A.rows hv (by simp only [S.rows, hq, orElse1, h1])) hw ht)
  · injection h with h; injection h with h1 h2; subst h1; subst h2
    exact flat [] rfl (RdD.source (A.rows hv rfl) hw ht)
  · rename_i rows'
    obtain ⟨hf, h⟩ := grd_eq_some h
    injection h with h; injection h with h2 h3; subst h2; subst h3
    exact flat _ hf (RdD.source (A.rows hv rfl) hw ht)
  · rename_i rows'
    obtain ⟨hf, h⟩ := grd_eq_some h
    injection h with h; injection h with h2 h3; subst h2; subst h3
    exact flat _ hf (RdD.source (A.rows hv rfl) hw ht)
  · rename_i p i j k
    obtain ⟨rows', hr, h⟩ := bnd_eq_some h
    obtain ⟨hf, h⟩ := grd_eq_some h
    injection h with h; injection h with h2 h3; subst h2; subst h3
    exact flat _ hf (RdD.source (A.rows hv hr) hw ht)
  · cases h
theorem run_append_roomT (t tx ty e : TypeId) (i : TypeInfo) (ht : P.underlying t = some (.slice e)) (hi : P.info? e = some i) (g ob sLen sCap : Nat) (cur : Array Value) (T : TypeId) (hg : w.heap[g]? = some (.cells cur T (0, 0))) (x : Value) (n : Nat) (news : List Value) (hs : Src P i.size tx x n news w)
    (hroom : sLen + n ≤ sCap) (hfit : ob + sLen * i.size + news.length ≤ cur.size) :
    (Builtin.append_ #[t, tx] ty #[.slice (some ⟨g, ob, none⟩) sLen sCap, x]).run P w = .ok (.slice (some ⟨g, ob, none⟩) (sLen + n) sCap) (w.setRow g (cur.toList.take (ob + sLen * i.size) ++ news ++ cur.toList.drop (ob + sLen * i.size + news.length)).toArray) := by
  have hst := run_storeCells_at P g (ob + sLen * i.size) T news 0 cur w hg (by simpa using hfit) hs.one
  simp only [Nat.add_zero] at hst
  rcases hs.kind with ⟨e', hk⟩ | hk <;> simp [Builtin.append_, run_underlying ht, run_underlying hk, sizeOf, typeInfo, hi, hs.len, hroom, hs.cells, Addr.add_mid, hst]
end
end Go.Proofs.YtjhdikdopdcfcaaGreatDoor
namespace Go.Proofs.YtjhdikdopdcfcaaGreatDoor
open Go.RowKit
set_option linter.unusedSimpArgs false
set_option linter.unusedVariables false
section
variable {P : Program} {c : Ctx} {s : S} {y : Lay} {a : Act} {w : World}
theorem take_app3 {α : Type} {l n z : List α} {o m : Nat} (h : o + m ≤ l.length) : (l.take (o + m) ++ n ++ z).drop o = (l.drop o).take m ++ n ++ z := by
  rw [List.append_assoc, List.drop_append_of_le_length (by rw [List.length_take]; omega), List.drop_take, Nat.add_sub_cancel_left, List.append_assoc]
theorem St.grow {W : World} {L : List Pc} {rows new : List (List D)} {olds news : List Value} {e : TypeId} {k cap : Nat} {zs : Array Value} (S : St W w (pcs rows.flatten olds ++ (pcs new.flatten news ++ L))) (ho : olds.length = rows.flatten.length) (hn : news.length = new.flatten.length) (h1 : ∀ r ∈ rows, r.length = k) (h2 : ∀ r ∈ new, r.length = k)
    (hk : 0 < k) (hz : zs.size = k) (hc : rows.length + new.length ≤ cap) (hm : cap ≤ maxLen) (hne : new ≠ []) :
    St W (w.drew.alloc (.cells ((olds ++ news).toArray ++ Builtin.zeroCells zs (cap - (rows.length + new.length))) e)) (ownP (.slice (some ⟨w.heap.size, 0, none⟩) (rows.length + new.length) cap) (rows ++ new) :: L) := by
  have hall : ∀ r ∈ rows ++ new, r.length = k := fun r hr => (List.mem_append.1 hr).elim (h1 r) (h2 r)
  have hfl := flat_len _ hall
  have hlen : (olds ++ news).length = (rows.length + new.length) * k := by
    rw [List.length_append, ho, hn, ← List.length_append, ← List.flatten_append, hfl, List.length_append]
  have S1 := S.drew.alloc ((olds ++ news).toArray ++ Builtin.zeroCells zs (cap - (rows.length + new.length))) e
  rw [← List.append_assoc, ← pcs_app ho, ← List.flatten_append] at S1
  have := S1.join (ob := 0) (cc := cap) (k := k) (by rw [hlen, hfl, List.length_append]) (by rw [List.length_append]; exact hc) hm hk hall (by
    rw [Nat.zero_add, Array.size_append, List.size_toArray, hlen, size_zeroCells, hz, ← Nat.add_mul]
    congr 1; omega) (fun e => absurd (List.append_eq_nil_iff.1 e).2 hne) (by
    rw [List.drop_zero, Array.toList_append, List.length_append, ← hlen]
    exact List.take_left)
  rw [List.length_append] at this
  exact this
theorem appendTo_sound {E : List Pc} {news : List Value} {new : List (List D)} {e t tx ty : TypeId} {x : V} {ux uy : Value} {dst : Option Nat} {s' : S} (A : At (c.with E) s y a w) (hE : E = pcs new.flatten news) (hs : Src P (P.cellsOf e) tx uy new.length news w) (hnl : news.length = new.flatten.length)
    (hx : PV y x ux) (h : appendTo P s dst e new x = some s' ∨ ∃ p, x = .own p ∧ look p s.tree = some [] ∧ sizeOk P e new.length = true ∧ wid (P.cellsOf e) new = true ∧ s.newTree dst new = some s') (ht : P.underlying t = some (.slice e)) (hd' : dstOk c.n dst = true) :
    ∃ u' w' y', (Builtin.append_ #[t, tx] ty #[ux, uy]).run P w = .ok u' w' ∧ At c s' y' (a.put dst u') w' := by
  have fit : ∀ n, sizeOk P e n = true → ∃ i z, P.info? e = some i ∧ i.zero = some z ∧ z.cells.size = i.size ∧ 0 < i.size ∧ P.cellsOf e = i.size ∧ n * i.bytes ≤ 140737488355328 ∧ n ≤ 4611686018427387904 := by
    intro n hn
    unfold sizeOk at hn
    simp only [Bool.and_eq_true, decide_eq_true_eq] at hn
    obtain ⟨i, z, z1, z2, z3, z4, z5⟩ := zeroOk_some hn.1.1
    refine ⟨i, z, z1, z2, z3, z4, z5, ?_, hn.2⟩
    have := hn.1.2
    unfold Program.bytesOf at this
    rw [z1] at this
    exact this
  have grow : ∀ (y : Lay) (s0 : S) (A0 : At (c.with E) s0 y a w) (rows : List (List D)) (olds : List Value) (base : Option Addr) (cap : Nat), ux = .slice base rows.length cap → cap < rows.length + new.length → new ≠ [] → sizeOk P e (rows.length + new.length) = true → (∀ r ∈ rows, r.length = P.cellsOf e) → wid (P.cellsOf e) new = true →
      olds.length = rows.flatten.length → (Builtin.firstCells (P.cellsOf e) rows.length (.slice base rows.length cap)).run P w.drew = .ok olds.toArray w.drew → St c.W w (pcs rows.flatten olds ++ (E ++ (Pcs s0 y ++ c.L))) → s0.newTree dst (rows ++ new) = some s' →
      ∃ u' w' y', (Builtin.append_ #[t, tx] ty #[ux, uy]).run P w = .ok u' w' ∧ At c s' y' (a.put dst u') w' := by
    intro y s0 A0 rows olds base cap hu hcap hne hso hw1 hw2 hol hold S hnt
    obtain ⟨i, z, z1, z2, z3, z4, z5, z6, z7⟩ := fit _ hso
    rw [z5] at hs hold
    have hr := run_append_grow_src (P := P) w t tx ty e i z ht z1 z2 base rows.length cap olds hold uy new.length news hs hcap (by omega) (growslice_fits hcap z6)
    rw [← hu] at hr
    rw [hE] at S
    have S2 := St.grow (e := e) (cap := grownCap w (rows.length + new.length) cap e) (zs := z.cells) S hol hnl hw1 (wid_spec hw2) (by rw [z5]; exact z4) (by rw [z5]; exact z3) (grownCap_ge _ _ _ _) (grownCap_le_maxLen _ _ _ _ (by unfold maxLen; omega)) hne
    obtain ⟨y', A'⟩ := newTree_sound A0 hd' hnt S2
    exact ⟨_, _, y', hr, A'⟩
  have nothing : ∀ (y : Lay) (s0 : S) (A0 : At (c.with E) s0 y a w) (rows : List (List D)) (base : Option Addr) (n cap : Nat), new = [] → ux = .slice base n cap → n ≤ cap → sizeOk P e (rows.length + new.length) = true → St c.W w (ownP ux rows :: (Pcs s0 y ++ c.L)) → s0.newTree dst (rows ++ new) = some s' →
      ∃ u' w' y', (Builtin.append_ #[t, tx] ty #[ux, uy]).run P w = .ok u' w' ∧ At c s' y' (a.put dst u') w' := by
    intro y s0 A0 rows base n cap hne hu hle hso S hnt
    obtain ⟨i, z, z1, z2, z3, z4, z5, z6, z7⟩ := fit _ hso
    subst hne
    obtain rfl : news = [] := List.eq_nil_of_length_eq_zero hnl
    rw [List.append_nil] at hnt
    rw [z5] at hs
    have hr := run_append_nothing (P := P) w t tx ty e i ht z1 base n cap hle uy hs
    rw [← hu] at hr
    obtain ⟨y', A'⟩ := newTree_sound A0 hd' hnt S
    exact ⟨_, _, y', hr, A'⟩
  have room : ∀ (y : Lay) (s1 : S) (A1 : At (c.with E) s1 y a w) (rows : List (List D)) (us : List Value) (g ob cc : Nat) (T : TypeId) (cs : Array Value), rows ≠ [] → ux = .slice (some ⟨g, ob, none⟩) rows.length cc → rows.length ≤ cc → cc ≤ maxLen → 0 < P.cellsOf e → (∀ r ∈ rows, r.length = P.cellsOf e) → cs.size = ob + cc * P.cellsOf e → us.length = rows.flatten.length →
      (cs.toList.drop ob).take (rows.length * P.cellsOf e) = us → St c.W w (rowP g T cs :: (pcs rows.flatten us ++ (E ++ (Pcs s1 y ++ c.L)))) → sizeOk P e (rows.length + new.length) = true → wid (P.cellsOf e) rows = true → wid (P.cellsOf e) new = true → new ≠ [] → w.heap[g]? = some (.cells cs T (0, 0)) → s1.newTree dst (rows ++ new) = some s' →
      ∃ u' w' y', (Builtin.append_ #[t, tx] ty #[ux, uy]).run P w = .ok u' w' ∧ At c s' y' (a.put dst u') w' := by
    intro y s1 A1 rows us g ob cc T cs k1 k2 k3 k4 k5 k6 k7 k8 k9 S h1 h2 h3 hne hg h
    have hfl := flat_len rows k6
    by_cases hroom : rows.length + new.length ≤ cc
    · obtain ⟨i, z, z1, z2, z3, z4, z5, z6, z7⟩ := fit _ h1
      have hfit : ob + rows.length * i.size + news.length ≤ cs.size := by
        rw [hs.newsLen, z5, k7, z5, Nat.add_assoc, ← Nat.add_mul]
        exact Nat.add_le_add_left (Nat.mul_le_mul_right _ hroom) _
      rw [z5] at hs
      have hr := run_append_roomT (P := P) t tx ty e i ht z1 g ob rows.length cc cs T hg uy new.length news hs hroom hfit
      rw [← k2] at hr
      have S2 := S.set (setRow_heap w g cs (cs.toList.take (ob + rows.length * i.size) ++ news ++ cs.toList.drop (ob + rows.length * i.size + news.length)).toArray T (0, 0) hg) ⟨rfl, rfl, rfl, by simp, fun k _ hk => setRow_other w g k _ (fun e => hk (by rw [e]))⟩
      rw [hE, ← List.append_assoc, ← pcs_app k8, ← List.flatten_append] at S2
      have hall : ∀ r ∈ rows ++ new, r.length = P.cellsOf e := fun r hr => (List.mem_append.1 hr).elim (k6 r) (wid_spec h3 r)
      have hlen : (us ++ news).length = (rows ++ new).length * P.cellsOf e := by
        rw [List.length_append, k8, hnl, ← List.length_append, ← List.flatten_append, flat_len _ hall]
      have S4 := S2.join (ob := ob) (cc := cc) (k := P.cellsOf e) (by rw [hlen, flat_len _ hall]) (by rw [List.length_append]; exact hroom) k4 k5 hall (by
        rw [List.size_toArray, List.length_append, List.length_append, List.length_take, List.length_drop, ← k7]; have hcl : cs.toList.length = cs.size := Array.length_toList; rw [hcl]; revert hfit; generalize ob + rows.length * i.size = M; generalize cs.size = Z; generalize news.length = N; intro hfit; omega) (fun e => absurd (List.append_eq_nil_iff.1 e).2 hne) (by
        have hol : ob + rows.length * i.size ≤ cs.toList.length := by rw [Array.length_toList]; exact Nat.le_trans (Nat.le_add_right _ _) hfit
        have huse : us = (cs.toList.drop ob).take (rows.length * i.size) := by rw [← z5]; exact k9.symm
        rw [← hlen, take_app3 hol, ← huse]
        exact List.take_left)
      obtain ⟨y', A'⟩ := newTree_sound A1 hd' h S4
      rw [List.length_append] at A'
      exact ⟨_, _, y', hr, A'⟩
    · refine grow y _ A1 rows us (some ⟨g, ob, none⟩) cc k2 (by omega) hne h1 k6 h3 k8 (run_firstCells_some _ _ rows.length _ _ _ us (by rw [k8, hfl]) fun j v e1 => ?_) S.drop h
      show w.cell? _ = some v
      rw [Addr.add_mid, cell_of_row w g _ cs T (0, 0) hg]
      rw [← k9, List.getElem?_take] at e1
      split at e1
      · rw [List.getElem?_drop, Array.getElem?_toList] at e1; exact e1
      · cases e1
  rcases h with h | ⟨p, rfl, hl, h1, h3, h⟩
  rotate_left
  · have hu : ux = (y.hd p).v := hx
    have S0 := (A.out' hl).untree
    have h1' : sizeOk P e (([] : List (List D)).length + new.length) = true := by simpa using h1
    rcases S0.split with ⟨_, g, cc, k1, _, k2, S⟩ | ⟨_, _, _, _, _, _, _, k1, _⟩
    · subst k2
      by_cases hne : new = []
      · have hE0 : E = [] := by rw [hE, hne]; cases news <;> rfl
        have S1 := A.pcs
        rw [hE0] at S1
        refine nothing y s A [] g 0 0 hne (hu.trans k1) (Nat.le_refl _) h1' ?_ h
        rw [hu, k1]
        exact S1.more (Ext.refl w) (h := ownP (.slice g 0 0) []) (F := []) (.nil g []) List.nodup_nil (fun b hb => by cases hb)
      · have hpos : 0 < new.length := List.length_pos_iff.2 hne
        refine grow y s A [] [] g 0 (hu.trans k1) (by simpa using hpos) hne h1' (fun r hr => by cases hr) h3 rfl ?_ (by exact A.front) h
        cases g with
        | none => exact run_firstCells_none _ _ _ _ _
        | some ad => exact run_firstCells_some _ _ 0 ad _ _ [] (by simp) (fun j v hh => by simp at hh)
    · exact absurd rfl k1
  unfold appendTo at h
  split at h
  · obtain ⟨⟨h1, h2⟩, h⟩ := grd_eq_some h
    have hu : ux = .slice none 0 0 := hx
    by_cases hne : new = []
    · have h1' : sizeOk P e (([] : List (List D)).length + new.length) = true := by simpa using h1
      exact nothing y s A [] none 0 0 hne hu (Nat.le_refl _) h1' (by rw [hu]; exact A.pop.pcs.more (Ext.refl w) (h := ownP (.slice none 0 0) []) (F := []) (.nil none []) List.nodup_nil (fun b hb => by cases hb)) h
    · have h1' : sizeOk P e (([] : List (List D)).length + new.length) = true := by simpa using h1
      have hpos : 0 < new.length := List.length_pos_iff.2 hne
      exact grow y s A [] [] none 0 hu (by simpa using hpos) hne h1' (fun r hr => by cases hr) h2 rfl (run_firstCells_none _ _ _ _ _) (by exact A.front) h
  · rename_i p
    obtain ⟨rows, hl, h⟩ := bnd_eq_some h
    obtain ⟨⟨h1, h2, h3⟩, h⟩ := grd_eq_some h
    have hu : ux = (y.hd p).v := hx
    have S0 := (A.out' hl).untree
    have A1 : At (c.with E) (s.kill p) y a w := A.killed' (c := c.with E) (c.with E).hK S0.drop hl
    by_cases hne : new = []
    · obtain ⟨F, o⟩ := A.treeAt hl
      obtain ⟨B, cc, e1, e2, _⟩ := (o.own.rd (G := heapOf w) fun _ _ _ e => e).len
      have hE0 : E = [] := by rw [hE, hne]; cases news <;> rfl
      refine nothing y _ A1 rows B rows.length cc hne (hu.trans e1) e2 h1 ?_ h
      rw [hu]; rw [hE0] at S0; exact S0
    · have hpos : 0 < new.length := List.length_pos_iff.2 hne
      rcases S0.split with ⟨e0, g, cc, k1, _, k2, S⟩ | ⟨g, ob, cc, k', T, cs, us, k1, k2, k3, k4, k5, k6, k7, k8, k9, S⟩
      · subst e0; subst k2
        refine grow y _ A1 [] [] g 0 (hu.trans k1) (by simpa using hpos) hne h1 (fun r hr => by cases hr) h3 rfl ?_ (by exact A1.front) h
        cases g with
        | none => exact run_firstCells_none _ _ _ _ _
        | some ad => exact run_firstCells_some _ _ 0 ad _ _ [] (by simp) (fun j v hh => by simp at hh)
      · have hk : k' = P.cellsOf e := by
          cases hr : rows with
          | nil => exact absurd hr k1
          | cons r rs => rw [hr] at k6 h2; rw [← k6 r (by simp), wid_spec h2 r (by simp)]
        subst hk
        have hg : w.heap[g]? = some (.cells cs T (0, 0)) := S.row_at List.mem_cons_self
        have hfl := flat_len rows k6
        have hperm : (Pcs (s.kill p) y ++ (E ++ c.L)).Perm (E ++ (Pcs (s.kill p) y ++ c.L)) := by
          rw [← List.append_assoc, ← List.append_assoc]
          exact List.Perm.append_right _ List.perm_append_comm
        exact room y (s.kill p) A1 rows us g ob cc T cs k1 (hu.trans k2) k3 k4 k5 k6 k7 k8 k9 (S.perm (List.Perm.cons _ (List.Perm.append_left _ hperm))) h1 h2 h3 hne hg h
  · rename_i p i0 j0 k0
    obtain ⟨rows, hl, h⟩ := bnd_eq_some h
    obtain ⟨⟨h1, h2, h3⟩, h⟩ := grd_eq_some h
    obtain ⟨s1, hs1, h⟩ := bnd_eq_some h
    have hin : RV (relOf (c.with E) s y) (.inn p i0 j0 k0) ux := by
      obtain ⟨rows0, r0, m1, m2, m3, m4⟩ := inn_some hl
      exact ⟨by show p ∈ (s.tree ++ s.fro).map (·.1); rw [List.map_append, List.mem_append]; exact .inl (List.mem_map.2 ⟨_, look_mem m1, rfl⟩), hx.1, hx.2⟩
    obtain ⟨y1, A1⟩ := At.takeInn (c := c.with E) A hin hl hs1
    have S00 : St c.W w (Pcs s1 y1 ++ ([ownP ux rows] ++ (E ++ c.L))) := A1.pcs
    have S0 : St c.W w (ownP ux rows :: (Pcs s1 y1 ++ (E ++ c.L))) := S00.perm List.perm_middle
    have A2 : At (c.with E) s1 y1 a w := A1.pop (c := c.with E)
    by_cases hne : new = []
    · have hE0 : E = [] := by rw [hE, hne]; cases news <;> rfl
      obtain ⟨F, o⟩ := S0.own_at (u := ux) (rows := rows) List.mem_cons_self
      obtain ⟨B, cc, e1, e2, _⟩ := (o.rd (G := heapOf w) fun _ _ _ e => e).len
      exact nothing y1 _ A2 rows B rows.length cc hne e1 e2 h1 (by rw [hE0] at S0; exact S0) h
    · have hpos : 0 < new.length := List.length_pos_iff.2 hne
      have hswap : ∀ (X Y : List Pc), (X ++ (Y ++ c.L)).Perm (Y ++ (X ++ c.L)) := by
        intro X Y
        rw [← List.append_assoc, ← List.append_assoc]
        exact List.Perm.append_right _ List.perm_append_comm
      rcases S0.split with ⟨e0, g, cc, k1, _, k2, S⟩ | ⟨g, ob, cc, k', T, cs, us, k1, k2, k3, k4, k5, k6, k7, k8, k9, S⟩
      · subst e0; subst k2
        refine grow y1 _ A2 [] [] g 0 k1 (by simpa using hpos) hne h1 (fun r hr => by cases hr) h3 rfl ?_ (by exact A2.front) h
        cases g with
        | none => exact run_firstCells_none _ _ _ _ _
        | some ad => exact run_firstCells_some _ _ 0 ad _ _ [] (by simp) (fun j v hh => by simp at hh)
      · have hk : k' = P.cellsOf e := by
          cases hr : rows with
          | nil => exact absurd hr k1
          | cons r rs => rw [hr] at k6 h2; rw [← k6 r (by simp), wid_spec h2 r (by simp)]
        subst hk
        have hg : w.heap[g]? = some (.cells cs T (0, 0)) := S.row_at List.mem_cons_self
        exact room y1 s1 A2 rows us g ob cc T cs k1 k2 k3 k4 k5 k6 k7 k8 k9 (S.perm (List.Perm.cons _ (List.Perm.append_left _ (hswap _ _)))) h1 h2 h3 hne hg h
  · cases h
theorem append_args (ats : Array TypeId) {t tx : TypeId} (h0 : ats[0]? = some t) (h1 : ats[1]? = some tx) (ty : TypeId) (args : Array Value) : Builtin.append_ ats ty args = Builtin.append_ #[t, tx] ty args := by
  unfold Builtin.append_
  simp [h0, h1]
theorem evArgs (A : At c s y a w) : ∀ {xs : List Operand} {vs : List V}, mapSome s.ev xs = some vs → RVs (relOf c s y) vs (xs.map a.eval)
  | [], vs, h => by simp only [mapSome] at h; injection h with h; subst h; rfl
  | x :: xs, vs, h => by
    simp only [mapSome] at h
    obtain ⟨v, h1, h⟩ := bnd_eq_some h
    obtain ⟨vs', h2, h⟩ := bnd_eq_some h
    injection h with h; subst h
    exact ⟨_, _, rfl, A.ev h1, evArgs A h2⟩
theorem strT_some {t : TypeId} (h : strT P t = true) : P.underlying t = some .string := by
  unfold strT at h
  split at h
  · rename_i d hd
    unfold isStrD at h; split at h
    · exact hd
    · cases h
  · cases h
theorem lstT_some {t : TypeId} (h : lstT P t = true) : ∃ e, P.underlying t = some (.slice e) := by
  unfold lstT at h
  split at h
  · rename_i d hd
    unfold lstD at h; split at h
    · exact ⟨_, hd⟩
    · cases h
  · cases h
theorem step_append0 {o : Oper} {cl : Call} (ho : o.op = .call cl) (hb : cl.callee = .builtin .append) (hd' : dstOk c.n o.dst = true) {p : Nat} {z : V} {s' : S} {t tx e : TypeId} {new : List (List D)} (hargs : mapSome s.ev cl.args.toList = some [.own p, z])
    (h0 : cl.argTypes[0]? = some t) (h1 : cl.argTypes[1]? = some tx) (hk : seqT P tx = true) (hd : P.underlying t = some (.slice e)) (hz : srcV s z = some (new, s)) (hl : look p s.tree = some []) (hso : sizeOk P e new.length = true) (hw : wid (P.cellsOf e) new = true) (hnt : s.newTree o.dst new = some s') : Step P c o s s' := by
  intro a w G next Q kk
  obtain ⟨y, A⟩ := G
  have ea := evArgs A hargs
  obtain ⟨u1, q, e1, e2, u2, q2, e3, e4, e5⟩ := ea
  rw [e3, show q2 = [] from e5] at e1
  obtain ⟨E, news, A1, hE, hs, hnl⟩ := srcV_sound A e4 hz hw (seqT_kind hk)
  obtain ⟨u', w', y', hr, A'⟩ := appendTo_sound (t := t) (tx := tx) (ty := o.type) A1 hE hs hnl (PV.of e2) (.inr ⟨p, rfl, hl, hso, hw, hnt⟩) hd hd'
  refine op_value (?_ : (execOp a.eval o).run P w = .ok (.value u') w') (kk _ _ ⟨y', A'⟩)
  unfold execOp
  simp only [ho, resolve, hb, Sem.run_bind, Sem.run_pure, Result.andThen_ok, invoke]
  have hcl : (cl.args.map a.eval) = (cl.args.toList.map a.eval).toArray := by apply Array.ext'; simp
  simp only [hcl, e1, builtin, Sem.run_bind, append_args cl.argTypes h0 h1, hr]
  rfl
theorem step_builtin {o : Oper} {cl : Call} {b : Builtin} (ho : o.op = .call cl) (hb : cl.callee = .builtin b) (hd' : dstOk c.n o.dst = true) {args : List V} {s' : S} (hargs : mapSome s.ev cl.args.toList = some args) (h : builtinV P s o.dst b cl.argTypes args = some s') : Step P c o s s' := by
  intro a w G next Q kk
  obtain ⟨y, A⟩ := G
  have ea := evArgs A hargs
  have exec : ∀ (u : Value) (w' : World), (∀ cs : Array Bool, (builtin b cl.argTypes o.type cs (cl.args.toList.map a.eval).toArray).run P w = .ok (.value u) w') → (execOp a.eval o).run P w = .ok (.value u) w' := by
    intro u w' hr
    unfold execOp
    simp only [ho, resolve, hb, Sem.run_bind, Sem.run_pure, Result.andThen_ok, invoke]
    rw [← hr _]
    congr 2
    apply Array.ext'
    simp
  have val : ∀ (v : V) (u : Value), RV (relOf c s y) v u → some s' = some (s.put o.dst v) → (∀ cs : Array Bool, (builtin b cl.argTypes o.type cs (cl.args.toList.map a.eval).toArray).run P w = .ok (.value u) w) → o.wp P a w next Q := by
    intro v u hv hs' hr
    injection hs' with hs'; subst hs'
    exact op_value (exec u w hr) (kk _ _ ⟨y, A.value hv hd'⟩)
  unfold builtinV at h
  split at h
  · obtain ⟨t, h0, h⟩ := bnd_eq_some h
    obtain ⟨ht, h⟩ := grd_eq_some h
    obtain ⟨u1, q, e1, e2, e3⟩ := ea
    rw [show q = [] from e3] at e1
    rename_i x _ _
    refine val (.v (.int .i64 x.size)) (.int .i64 x.size) rfl h.symm fun cs => ?_
    rw [e1, show u1 = _ from e2]
    have hu := run_underlying (strT_some ht) w
    simp [builtin, Builtin.len_, h0, hu, goInt]
  · rename_i x _
    obtain ⟨t, h0, h⟩ := bnd_eq_some h
    obtain ⟨ht, h⟩ := grd_eq_some h
    obtain ⟨rows, hr, h⟩ := bnd_eq_some h
    obtain ⟨u1, q, e1, e2, e3⟩ := ea
    rw [show q = [] from e3] at e1
    obtain ⟨B, cc, e4, _⟩ := (A.rows e2 hr).len
    obtain ⟨e, ht⟩ := lstT_some ht
    refine val (.v (.int .i64 rows.length)) (.int .i64 rows.length) rfl h.symm fun cs => ?_
    rw [e1, e4]
    have hu := run_underlying ht w
    simp [builtin, Builtin.len_, h0, hu, goInt]
  · rename_i x z
    obtain ⟨t, h0, h⟩ := bnd_eq_some h
    obtain ⟨tx, h1, h⟩ := bnd_eq_some h
    obtain ⟨hk, h⟩ := grd_eq_some h
    unfold appendV at h
    obtain ⟨d, hd, hh⟩ := bnd_eq_some h
    obtain ⟨e, he, hh2⟩ := bnd_eq_some hh
    obtain ⟨zz, hz, hf⟩ := bnd_eq_some hh2
    have hdd : d = .slice e := by unfold sliceElem at he; split at he <;> first | (injection he with he; subst he; rfl) | cases he
    rw [hdd] at hd
    obtain ⟨u1, q, e1, e2, u2, q2, e3, e4, e5⟩ := ea
    rw [e3, show q2 = [] from e5] at e1
    have hw : wid (P.cellsOf e) zz.1 = true := by
      unfold appendTo at hf
      split at hf
      · obtain ⟨⟨_, h2⟩, _⟩ := grd_eq_some hf; exact h2
      · obtain ⟨_, _, hf⟩ := bnd_eq_some hf
        obtain ⟨⟨_, _, h2⟩, _⟩ := grd_eq_some hf; exact h2
      · obtain ⟨_, _, hf⟩ := bnd_eq_some hf
        obtain ⟨⟨_, _, h2⟩, _⟩ := grd_eq_some hf; exact h2
      · cases hf
    obtain ⟨E, news, A1, hE, hs, hnl⟩ := srcV_sound A e4 (rows := zz.1) (s1 := zz.2) hz hw (seqT_kind hk)
    obtain ⟨u', w', y', hr, A'⟩ := appendTo_sound (t := t) (tx := tx) (ty := o.type) A1 hE hs hnl (PV.of e2) (.inl hf) hd hd'
    refine op_value (exec u' w' fun cs => ?_) (kk _ _ ⟨y', A'⟩)
    rw [e1]
    simp only [builtin, Sem.run_bind, append_args cl.argTypes h0 h1, hr]
    rfl
  · obtain ⟨u1, q, e1, e2, u2, q2, e3, e4, e5⟩ := ea
    rw [e3, show q2 = [] from e5, show u1 = _ from e2, show u2 = _ from e4] at e1
    rename_i x z
    refine val (.v (.int .i64 (max x z))) (.int .i64 (max x z)) rfl h.symm fun cs => ?_
    rw [e1]
    simp only [builtin, Sem.run_bind]
    have := run_max_int2 (P := P) (w := w) cl.argTypes o.type .i64 .i64 x z
    rw [this, show (if z > x then z else x) = max x z by omega]
    rfl
  · obtain ⟨u1, q, e1, e2, u2, q2, e3, e4, e5⟩ := ea
    rw [e3, show q2 = [] from e5, show u1 = _ from e2, show u2 = _ from e4] at e1
    rename_i x z
    refine val (.v (.int .i64 (min x z))) (.int .i64 (min x z)) rfl h.symm fun cs => ?_
    rw [e1]
    simp only [builtin, Sem.run_bind]
    have := run_min_int2 (P := P) (w := w) cl.argTypes o.type .i64 .i64 x z
    rw [this, show (if z < x then z else x) = min x z by omega]
    rfl
  · cases h
end
end Go.Proofs.YtjhdikdopdcfcaaGreatDoor
namespace Go.Proofs.YtjhdikdopdcfcaaGreatDoor
open Go.RowKit
set_option linter.unusedSimpArgs false
set_option linter.unusedVariables false
theorem setD_len : ∀ {ds r : List D} {off : Nat}, (setD r off ds).length = r.length
  | [], _, _ => rfl
  | d :: ds, r, off => by unfold setD; rw [setD_len, List.length_set]
theorem setD_eq : ∀ {ds r : List D} {off : Nat}, off + ds.length ≤ r.length → setD r off ds = r.take off ++ (ds ++ r.drop (off + ds.length))
  | [], r, off, _ => by simp [setD]
  | d :: ds, r, off, h => by
    simp only [List.length_cons] at h
    unfold setD
    rw [setD_eq (by rw [List.length_set]; omega)]
    have hlt : off < r.length := by omega
    rw [List.set_eq_take_append_cons_drop, if_pos hlt]
    have h1 : (r.take off).length = off := by rw [List.length_take]; omega
    have h2 : (r.take off ++ d :: r.drop (off + 1)).take (off + 1) = r.take off ++ [d] := by
      rw [List.take_append, h1, List.take_take, Nat.min_eq_right (by omega), show off + 1 - off = 1 by omega]; rfl
    have h3 : (r.take off ++ d :: r.drop (off + 1)).drop (off + 1 + ds.length) = r.drop (off + (ds.length + 1)) := by
      rw [List.drop_append, h1, List.drop_eq_nil_of_le (by rw [h1]; omega), show off + 1 + ds.length - off = ds.length + 1 by omega, List.drop_succ_cons, List.drop_drop, List.nil_append]
      congr 1; omega
    rw [h2, h3, List.append_assoc, List.length_cons]
    rfl
theorem setD_flat {k : Nat} {i : Nat} : ∀ {ds r : List D} {rows : List (List D)} {off : Nat}, (∀ r ∈ rows, r.length = k) → rows[i]? = some r → off + ds.length ≤ k → (rows.set i (setD r off ds)).flatten = setD rows.flatten (i * k + off) ds
  | [], r, rows, off, hu, hi, h => by
    have e := (split_at_get hi).1
    simp only [setD]
    rw [(split_at_get hi).2 r, ← e]
  | d :: ds, r, rows, off, hu, hi, h => by
    simp only [List.length_cons] at h
    have hlt := (List.getElem?_eq_some_iff.1 hi).1
    unfold setD
    have h1 := flat_set rows i off r d hu hi (by omega)
    have hu2 : ∀ r' ∈ rows.set i (r.set off d), r'.length = k := fun r' hr' => by
      rcases List.mem_or_eq_of_mem_set hr' with hr' | hr'
      · exact hu r' hr'
      · rw [hr', List.length_set]; exact hu r (List.mem_of_getElem? hi)
    have h2 := setD_flat (i := i) (ds := ds) (r := r.set off d) (rows := rows.set i (r.set off d)) (off := off + 1) hu2 (by rw [List.getElem?_set_self hlt]) (by omega)
    rw [List.set_set] at h2
    rw [h2, h1]; rfl
theorem seg_take {α : Type} {l x : List α} {n N : Nat} (h : n + x.length ≤ N) (h2 : N ≤ l.length) : (l.take n ++ x ++ l.drop (n + x.length)).take N = (l.take N).take n ++ (x ++ (l.take N).drop (n + x.length)) := by
  have h1 : (l.take n).length = n := by rw [List.length_take]; omega
  rw [List.append_assoc, List.take_append, h1, List.take_append, List.take_take, List.take_take, Nat.min_eq_right (show n ≤ N by omega), Nat.min_eq_left (show n ≤ N by omega), List.take_of_length_le (show x.length ≤ N - n by omega), List.drop_take]
  congr 3
  omega
section
variable {P : Program} {c : Ctx} {s : S} {y : Lay} {a : Act} {w : World}
theorem step_storeRow {o : Oper} {t : TypeId} {x z : Operand} (ho : o.op = .store t x z) {q i off k : Nat} {v : V} {ds : List D} {s1 : S} {rows : List (List D)} {r : List D} (hx : s.ev x = some (.pe (.own q) k i off)) (hv : s.ev z = some v) (hz : v.cells.length = P.cellsOf t) (hsz : sizedT P t = true)
    (hp : packRow s v.cells = some (ds, s1)) (hl : look q s1.tree = some rows) (hr : rows[i]? = some r) (hk : r.length = k) (hle : off + ds.length ≤ r.length) (h1 : v.cells.all V.one = true) (hn : ¬ (1000000000 ≤ q ∧ q < 2000000000)) :
    Step P c o s ((s1.turned q (rows.set i (setD r off ds))).skip o.dst) := by
  intro a w G next Q kk
  obtain ⟨y, A⟩ := G
  obtain ⟨ub, ⟨_, rfl⟩, g, o', n, cc, e1, e2, e3⟩ := A.ev hx
  have e1 : (y.hd q).v = .slice (some ⟨g, o', none⟩) n cc := e1
  obtain ⟨ev, eo⟩ := A.cells (A.ev hv) h1
  have A0 : At (c.with []) s y a w := A
  obtain ⟨E, a1, a2, a3⟩ := packRow_sound (vs := v.cells) (us := (a.eval z).cells.toList) A0 ev.len (fun j v' u' f1 f2 => by
    obtain ⟨u2, f3, f4⟩ := ev.get f1
    rw [f2] at f3; injection f3 with f3; subst f3
    exact PV.of f4) hp
  rw [List.append_nil] at a1
  have lu : (a.eval z).cells.toList.length = ds.length := by rw [ev.len, a3]
  have lsz : (a.eval z).cells.size = ds.length := by rw [← Array.length_toList]; exact lu
  have S0 : St c.W w (ownP (y.hd q).v rows :: (Pcs (s1.kill q) y ++ (E ++ c.L))) := (At.out' (c := c.with E) a1 hl).untree
  rcases S0.split with ⟨e, _⟩ | ⟨g2, ob, c2, k2, T, cs, us, k1, q2, k3, k4, k5, k6, k7, k8, k9, S⟩
  · rw [e] at hr; simp at hr
  rw [e1] at q2
  injection q2 with q2 q3 q4
  injection q2 with q2; injection q2 with q2 q5 _
  subst q2; subst q5
  have hkk : k2 = k := by rw [← k6 r (List.mem_of_getElem? hr), hk]
  subst hkk
  have hfl := flat_len rows k6
  have hil : i < rows.length := (List.getElem?_eq_some_iff.1 hr).1
  have hg : w.heap[g]? = some (.cells cs T (0, 0)) := S.row_at List.mem_cons_self
  have hN : i * k2 + off + ds.length ≤ rows.length * k2 := by
    have := Nat.mul_le_mul_right k2 (show i + 1 ≤ rows.length by omega)
    rw [Nat.succ_mul] at this
    omega
  have hNc : o' + rows.length * k2 ≤ cs.size := by rw [k7]; exact Nat.add_le_add_left (Nat.mul_le_mul_right _ k3) _
  have hrun := run_storeAt_row (P := P) (t := t) (v := a.eval z) (off := o' + (i * k2 + off)) (by rw [lsz, a3]; exact hz) hsz hg (by rw [lsz]; omega) eo
  have S2 := S.set (setRow_heap w g cs (cs.toList.take (o' + (i * k2 + off)) ++ (a.eval z).cells.toList ++ cs.toList.drop (o' + (i * k2 + off) + (a.eval z).cells.size)).toArray T (0, 0) hg) ⟨rfl, rfl, rfl, by simp, fun k _ hk => setRow_other w g k _ (fun e => hk (by rw [e]))⟩
  generalize hN0 : i * k2 + off = N at *
  have d1 : rows.flatten = rows.flatten.take N ++ ((rows.flatten.drop N).take ds.length ++ rows.flatten.drop (N + ds.length)) := by
    rw [← List.drop_drop, List.take_append_drop, List.take_append_drop]
  have d2 : us = us.take N ++ ((us.drop N).take ds.length ++ us.drop (N + ds.length)) := by
    rw [← List.drop_drop, List.take_append_drop, List.take_append_drop]
  have l1 : (us.take N).length = (rows.flatten.take N).length := by rw [List.length_take, List.length_take, k8]
  have l2 : ((us.drop N).take ds.length).length = ((rows.flatten.drop N).take ds.length).length := by rw [List.length_take, List.length_take, List.length_drop, List.length_drop, k8]
  rw [d1, d2, pcs_app l1, pcs_app l2] at S2
  have hrot : ∀ (R : Pc) (X M B Y Z : List Pc), (R :: ((X ++ (M ++ B)) ++ (Y ++ (E ++ Z)))).Perm (M ++ (R :: ((X ++ (E ++ B)) ++ (Y ++ Z)))) := by
    intro R X M B Y Z
    have p1 : ((X ++ (M ++ B)) ++ (Y ++ (E ++ Z))).Perm (M ++ ((X ++ (E ++ B)) ++ (Y ++ Z))) := by
      have q1 : (X ++ (M ++ B)).Perm (M ++ (X ++ B)) := by
        rw [← List.append_assoc, ← List.append_assoc]; exact List.Perm.append_right _ List.perm_append_comm
      have q2 : (Y ++ (E ++ Z)).Perm (E ++ (Y ++ Z)) := by
        rw [← List.append_assoc, ← List.append_assoc]; exact List.Perm.append_right _ List.perm_append_comm
      refine (List.Perm.append q1 q2).trans ?_
      rw [List.append_assoc M]
      refine List.Perm.append_left M ?_
      have e1 : (X ++ B) ++ (E ++ (Y ++ Z)) = X ++ ((B ++ E) ++ (Y ++ Z)) := by simp only [List.append_assoc]
      have e2 : (X ++ (E ++ B)) ++ (Y ++ Z) = X ++ ((E ++ B) ++ (Y ++ Z)) := by simp only [List.append_assoc]
      rw [e1, e2]
      exact List.Perm.append_left X (List.Perm.append_right _ List.perm_append_comm)
    refine (List.Perm.cons R p1).trans ?_
    exact List.perm_middle.symm
  have S3 := St.dropL (S2.perm (hrot _ _ _ _ _ _))
  have S4 := S3.perm (List.Perm.cons _ (List.Perm.append_right _ (List.Perm.append_left _ (List.Perm.append_right _ a2))))
  rw [← pcs_app lu, ← pcs_app l1] at S4
  have hflat := setD_flat (i := i) (ds := ds) (off := off) k6 hr (by rw [← hk]; exact hle)
  rw [hN0] at hflat
  have hflat2 : (rows.set i (setD r off ds)).flatten = rows.flatten.take N ++ (ds ++ rows.flatten.drop (N + ds.length)) := by
    rw [hflat, setD_eq (by rw [hfl]; omega)]
  rw [← hflat2] at S4
  have hall : ∀ r' ∈ rows.set i (setD r off ds), r'.length = k2 := fun r' hr' => by
    rcases List.mem_or_eq_of_mem_set hr' with hr' | hr'
    · exact k6 r' hr'
    · rw [hr', setD_len]; exact hk
  have S5 := S4.join (ob := o') (cc := c2) (k := k2) (by
      rw [hflat, setD_len, hfl, List.length_append, List.length_append, lu, List.length_take, List.length_drop, k8, hfl]
      omega) (by rw [List.length_set]; exact k3) k4 k5 hall (by
      rw [List.size_toArray, List.length_append, List.length_append, List.length_take, List.length_drop, Array.length_toList, Array.length_toList, lsz, ← k7]; omega)
    (fun e => absurd e fun e => k1 (List.eq_nil_of_length_eq_zero (by have := congrArg List.length e; simpa using this))) (by
      rw [List.length_set, ← k9]
      have := seg_take (l := cs.toList.drop o') (x := (a.eval z).cells.toList) (n := N) (N := rows.length * k2) (by rw [lu]; exact hN) (by rw [List.length_drop, Array.length_toList]; exact Nat.le_sub_of_add_le (by rw [Nat.add_comm]; exact hNc))
      rw [lu] at this
      rw [lsz, take_app3 (by rw [Array.length_toList]; omega), ← this, List.drop_drop, Nat.add_assoc])
  rw [List.length_set, ← q3, ← q4, ← e1] at S5
  obtain ⟨h', _, A'⟩ := At.turned' (c := c.with E) a1 hl (by unfold parBase; exact hn) (L' := c.L) c.hK S5
  have A'' : At c (s1.turned q (rows.set i (setD r off ds))) { y with hd := fset y.hd q h' } a _ := A'
  refine op_skip ?_ (kk _ _ ⟨_, A''.skip undef⟩)
  unfold execOp; simp only [ho, e3]
  rw [Sem.run_bind, hrun]; rfl
theorem flat_nd {fs : Nat → List Nat} : ∀ {l : List Nat}, (l.flatMap fs).Nodup → ∀ a ∈ l, (fs a).Nodup
  | [], _, a, h => by cases h
  | c :: l, n, a, h => by
    rw [List.flatMap_cons, List.nodup_append] at n
    rcases List.mem_cons.1 h with h | h
    · rw [h]; exact n.1
    · exact flat_nd n.2.1 a h
theorem flat_disj {fs : Nat → List Nat} : ∀ {l : List Nat}, (l.flatMap fs).Nodup → ∀ a ∈ l, ∀ b ∈ l, a ≠ b → ∀ x ∈ fs a, x ∉ fs b
  | [], _, a, h => by cases h
  | c :: l, n, a, h => by
    rw [List.flatMap_cons, List.nodup_append] at n
    intro b hb hne x hx hx2
    rcases List.mem_cons.1 h with h3 | h3
    · rcases List.mem_cons.1 hb with h4 | h4
      · exact hne (h3.trans h4.symm)
      · rw [h3] at hx; exact n.2.2 x hx x (List.mem_flatMap.2 ⟨b, h4, hx2⟩) rfl
    · rcases List.mem_cons.1 hb with h4 | h4
      · rw [h4] at hx2; exact n.2.2 x hx2 x (List.mem_flatMap.2 ⟨a, h3, hx⟩) rfl
      · exact flat_disj n.2.1 a h3 b h4 hne x hx hx2
theorem TreeD.innerPut {w w' : World} {rows : List (List D)} {h : Hd} {F : List Nat} (t : TreeD w rows h F) (hF : F.Nodup) {i j : Nat} {r : List D} {rs rs' : List (List D)} (hi : rows[i]? = some r) (hj : r[j]? = some (.l rs)) {g o1 : Nat} {n c : Nat} (hu : h.cv (i * r.length + j) = .slice (some ⟨g, o1, none⟩) n c)
    (hin : ∀ F', F'.Nodup → OwnD w (.l rs) (.slice (some ⟨g, o1, none⟩) n c) F' → OwnD w' (.l rs') (.slice (some ⟨g, o1, none⟩) n c) F') (hne : rs ≠ []) (ho : ∀ b ∈ F, b ≠ g → w'.heap[b]? = w.heap[b]?) : TreeD w' (rows.set i (r.set j (.l rs'))) h F := by
  have o := t.own
  have hd := t.hd
  cases hv : h.v with
  | slice A n2 c2 =>
    rw [hv] at o hd
    cases o with
    | nil => simp at hi
    | l _ _ _ gp ob k T cs us fs h1 h2 h3 h4 h5 h6 h0 h7 h8 h9 =>
      have hk : r.length = k := h5 r (List.mem_of_getElem? hi)
      have hjk : j < k := by rw [← hk]; exact (List.getElem?_eq_some_iff.1 hj).1
      have f := flat_get rows i j r _ h5 hi hj
      have hm := (List.getElem?_eq_some_iff.1 f).1
      have e := hd gp ob n2 c2 cs T (0, 0) _ rs rfl h7 f
      have e0 := h8 _ _ f
      rw [e0] at e
      injection e with e
      rw [hk] at hu
      rw [hu] at e
      have oi := h9 _ _ f
      rw [e] at oi
      have nd := List.nodup_cons.1 hF
      have hmr : i * k + j ∈ List.range rows.flatten.length := List.mem_range.2 hm
      have oi2 := hin _ (flat_nd nd.2 _ hmr) oi
      have hgF : g ∈ fs (i * k + j) := by
        generalize fs (i * k + j) = F0 at oi
        cases oi with
        | nil => exact absurd rfl hne
        | l => exact List.mem_cons_self
      have hgp : gp ≠ g := fun e2 => nd.1 (by rw [e2]; exact List.mem_flatMap.2 ⟨_, hmr, hgF⟩)
      have hgpw : w'.heap[gp]? = some (.cells cs T (0, 0)) := (ho gp List.mem_cons_self hgp).trans h7
      have hflat := flat_set rows i j r (.l rs') h5 hi hjk
      have hlen : (rows.set i (r.set j (.l rs'))).flatten.length = rows.flatten.length := by rw [hflat, List.length_set]
      have hall : ∀ r' ∈ rows.set i (r.set j (.l rs')), r'.length = k := fun r' hr' => by
        rcases List.mem_or_eq_of_mem_set hr' with hr' | hr'
        · exact h5 r' hr'
        · rw [hr', List.length_set]; exact hk
      have get : ∀ (m : Nat) (d : D), (rows.set i (r.set j (.l rs'))).flatten[m]? = some d → (m = i * k + j ∧ d = .l rs') ∨ (m ≠ i * k + j ∧ rows.flatten[m]? = some d) := by
        intro m d e3
        rw [hflat, List.getElem?_set] at e3
        by_cases hmm : i * k + j = m
        · rw [if_pos hmm, if_pos hm] at e3
          injection e3 with e3; exact .inl ⟨hmm.symm, e3.symm⟩
        · rw [if_neg hmm] at e3; exact .inr ⟨fun h => hmm h.symm, e3⟩
      refine ⟨?_, fun g' ob' n' c' cs' T' fr m r' q1 q2 q3 => ?_⟩
      · rw [hv, ← hlen]
        refine .l _ n2 c2 gp ob k T cs us fs (by rw [List.length_set]; exact h1) h2 h3 h4 hall h6 (fun e => h0 (List.eq_nil_of_length_eq_zero (by have := congrArg List.length e; simpa using this))) hgpw (fun m d e3 => ?_) (fun m d e3 => ?_)
        · rcases get m d e3 with ⟨rfl, rfl⟩ | ⟨_, e4⟩
          · exact e0
          · exact h8 m d e4
        · rcases get m d e3 with ⟨rfl, rfl⟩ | ⟨hne, e4⟩
          · rw [e]; exact oi2
          · have hmr2 : m ∈ List.range rows.flatten.length := List.mem_range.2 (List.getElem?_eq_some_iff.1 e4).1
            exact (h9 m d e4).st fun b hb => ho b (List.mem_cons_of_mem _ (List.mem_flatMap.2 ⟨m, hmr2, hb⟩)) fun e5 => by
              subst e5
              exact flat_disj nd.2 m hmr2 (i * k + j) hmr hne b hb hgF
      · rw [hv] at q1
        injection q1 with q1 _ _; injection q1 with q1; injection q1 with q1 qo _
        subst q1; subst qo
        rw [hgpw] at q2; injection q2 with q2; injection q2 with q2 _ _
        subst q2
        rcases get m _ q3 with ⟨rfl, _⟩ | ⟨_, e4⟩
        · exact hd gp ob n2 c2 cs T (0, 0) _ rs rfl h7 f
        · exact hd gp ob n2 c2 cs T (0, 0) m r' rfl h7 e4
  | _ => rw [hv] at o; cases o
theorem step_storeInn {o : Oper} {t : TypeId} {x z : Operand} (ho : o.op = .store t x z) {p i j k k' i' off : Nat} {v : V} {d d0 : D} {rows rs : List (List D)} {r r' : List D} (hx : s.ev x = some (.pe (.inn p i j k) k' i' off)) (hv : s.ev z = some v) (hz : v.cells.length = P.cellsOf t) (hsz : sizedT P t = true)
    (hl : look p s.tree = some rows) (hat : v.atom = some d) (hr : rows[i]? = some r) (hrj : r[j]? = some (.l rs)) (hr' : rs[i']? = some r') (hd0 : r'[off]? = some d0) (hk : r.length = k) (hk' : r'.length = k') (hf : flatD d0 = true) (h1 : oneD d = true) :
    Step P c o s ({ s with tree := upd p (rows.set i (r.set j (.l (rs.set i' (r'.set off d))))) s.tree }.skip o.dst) := by
  intro a w G next Q kk
  obtain ⟨y, A⟩ := G
  obtain ⟨X, rfl, rfl⟩ := atom_some hat
  obtain ⟨ub, ⟨hlt0, hub, hub1⟩, g, o', n, cc, e1, e2, e3⟩ := A.ev hx
  have ez : a.eval z = X := A.ev hv
  have hX : X.oneCell' = true := h1
  cases d0 with
  | l _ => cases hf
  | gone => cases hf
  | a x0 =>
  obtain ⟨F, htree, hnd, hbd, rest⟩ := (A.out hl).open_
  have htree : TreeD w rows (y.hd p) F := htree
  have hub : ub = (y.hd p).cv (i * k + j) := hub
  obtain ⟨F', oin, hF'⟩ := htree.inner hr hrj
  rw [hk, ← hub, e1] at oin
  obtain ⟨T, cs, hh, hlt, hput⟩ := OwnD.put oin hr' hd0 (u := X) rfl
  rw [hk'] at hlt hput
  have hXc := one_of_v hX
  have hrun := run_storeAt_row (P := P) (t := t) (v := X) (off := o' + (i' * k' + off)) (by rw [hXc]; exact hz) hsz hh (by rw [hXc]; exact hlt) (by rw [hXc]; simpa using hX)
  have earr : (cs.toList.take (o' + (i' * k' + off)) ++ X.cells.toList ++ cs.toList.drop (o' + (i' * k' + off) + X.cells.size)).toArray = cs.setIfInBounds (o' + (i' * k' + off)) X := by
    rw [hXc]
    apply Array.ext'
    rw [Array.toList_setIfInBounds, List.set_eq_take_append_cons_drop, if_pos (by simpa using hlt)]
    simp
  rw [earr] at hrun
  have hset := setRow_heap w g cs (cs.setIfInBounds (o' + (i' * k' + off)) X) T (0, 0) hh
  have hoth : ∀ b, b ≠ g → (w.setRow g (cs.setIfInBounds (o' + (i' * k' + off)) X)).heap[b]? = w.heap[b]? := fun b hb => setRow_other w g b _ hb
  have hgF : g ∈ F := hF' g (by
    cases oin with
    | nil => simp at hr'
    | l => exact List.mem_cons_self)
  have A2 := A.own1 hl (rest (w.setRow g (cs.setIfInBounds (o' + (i' * k' + off)) X)) (treeP (y.hd p) (rows.set i (r.set j (.l (rs.set i' (r'.set off (.a X))))))) F rfl rfl rfl (by simp) (fun b hb hne => hoth b fun e => hne (by rw [e]; exact hgF))
    (TreeD.innerPut htree hnd hr hrj (by rw [hk, ← hub, e1]) (fun F2 n2 o2 => by
      obtain ⟨T2, cs2, hh2, _, hput2⟩ := OwnD.put o2 hr' hd0 (u := X) rfl
      rw [hh] at hh2; injection hh2 with hh2; injection hh2 with q1 q2 _
      subst q1; subst q2
      rw [hk'] at hput2
      exact hput2 _ hset (fun b _ hb => hoth b hb) n2) (by intro e; rw [e] at hr'; simp at hr') fun b _ hb => hoth b hb) hnd (fun b hb => ⟨.inl hb, by have := (hbd b hb).2; simpa using this⟩))
  refine op_skip ?_ (kk _ _ ⟨_, A2.skip undef⟩)
  unfold execOp; simp only [ho, e3, ez]
  rw [Sem.run_bind, hrun]; rfl
end
end Go.Proofs.YtjhdikdopdcfcaaGreatDoor
namespace Go.Proofs.YtjhdikdopdcfcaaGreatDoor
open Go.RowKit
set_option linter.unusedSimpArgs false
set_option linter.unusedVariables false
section
variable {P : Program} {c : Ctx} {s : S} {y : Lay} {a : Act} {w : World}
theorem packV_own {v : V} {d : D} {u : Value} (h : packV v = some d) (hv : ∀ ρ : Rel, RV ρ v u) (w : World) : OwnD w d u [] := by
  have hv := hv ⟨fun _ _ => False, fun _ _ => False, fun _ => undef, fun _ => 0, fun _ => nilHd, fun _ => False, fun _ => False⟩
  cases v <;> simp only [packV] at h <;> try (cases h; done)
  · injection h with h; subst h; rw [show u = _ from hv]; exact .a _
  · injection h with h; subst h; rw [show u = _ from hv]; exact .nil none _
theorem RVs.get' {cs : List V} {us : List Value} (h : ∀ ρ : Rel, RVs ρ cs us) {i : Nat} {v : V} (e : cs[i]? = some v) : ∃ u, us[i]? = some u ∧ ∀ ρ : Rel, RV ρ v u := by
  have h0 := h ⟨fun _ _ => False, fun _ _ => False, fun _ => undef, fun _ => 0, fun _ => nilHd, fun _ => False, fun _ => False⟩
  obtain ⟨u, e1, _⟩ := h0.get e
  refine ⟨u, e1, fun ρ => ?_⟩
  obtain ⟨u2, e2, h2⟩ := (h ρ).get e
  rw [e1] at e2; injection e2 with e2; rw [e2]; exact h2
theorem replicate_flat {α : Type} (r : List α) : ∀ (n m : Nat) (d : α), (List.replicate n r).flatten[m]? = some d → r[m % r.length]? = some d
  | 0, m, d, h => by simp at h
  | n + 1, m, d, h => by
    rw [List.replicate_succ, List.flatten_cons] at h
    by_cases hm : m < r.length
    · rw [List.getElem?_append_left hm] at h; rw [Nat.mod_eq_of_lt hm]; exact h
    · rw [List.getElem?_append_right (by omega)] at h
      have := replicate_flat r n (m - r.length) d h
      rw [Nat.mod_eq_sub_mod (by omega)]; exact this
theorem step_make {o : Oper} {t : TypeId} {xn xc : Operand} (ho : o.op = .makeSlice t xn xc) (hd' : dstOk c.n o.dst = true) {vn vc : V} {s' : S} (hn : s.ev xn = some vn) (hc : s.ev xc = some vc) (h : evMake P s o.dst t vn vc = some s') : Step P c o s s' := by
  intro a w G next Q k
  obtain ⟨y, A⟩ := G
  unfold evMake at h
  obtain ⟨d, hu, h⟩ := bnd_eq_some h
  obtain ⟨e, he, h⟩ := bnd_eq_some h
  obtain ⟨l, h1, h⟩ := bnd_eq_some h
  obtain ⟨cc, h2, h⟩ := bnd_eq_some h
  obtain ⟨⟨h3, h4, h5, h6, h7⟩, h⟩ := grd_eq_some h
  obtain ⟨z, h8, h⟩ := bnd_eq_some h
  obtain ⟨r, h9, hfin⟩ := bnd_eq_some h
  clear h
  subst h5
  have hdd : d = .slice e := by unfold sliceElem at he; split at he <;> first | (injection he with he; subst he; rfl) | cases he
  rw [hdd] at hu
  obtain ⟨k1, rfl⟩ := idxOf_some h1
  obtain ⟨k2, rfl⟩ := idxOf_some h2
  have en : a.eval xn = .int k1 l := A.ev hn
  have ec : a.eval xc = .int k2 l := A.ev hc
  obtain ⟨i, z0, z1, z2, z3, z4, z5⟩ := zeroOk_some h3
  obtain ⟨i', z', y1, y2, y3⟩ := zeroV_sound h8
  rw [z1] at y1; injection y1 with y1; subst y1
  rw [z2] at y2; injection y2 with y2; subst y2
  have hb : (i.bytes : Int) * l ≤ 281474976710656 := by
    unfold Program.bytesOf at h6
    rw [z1] at h6
    have h6 : l.toNat * i.bytes ≤ 140737488355328 := h6
    have : ((l.toNat * i.bytes : Nat) : Int) ≤ ((140737488355328 : Nat) : Int) := Int.ofNat_le.2 h6
    rw [Int.natCast_mul, Int.toNat_of_nonneg h4, Int.mul_comm] at this
    omega
  have hrun := run_make (P := P) w t e i z0 hu z1 z2 k1 k2 l l h4 (Int.le_refl _) hb (by omega)
  obtain ⟨m1, m2⟩ := mapSome_get h9
  have hzl := (y3 (relOf c s y)).len
  rw [Array.length_toList] at hzl
  have hrl : r.length = i.size := by rw [m1, ← hzl, z3]
  have own : OwnD (w.alloc (.cells (madeCells z0.cells (l.toNat * i.size)) e)) (.l (List.replicate l.toNat r)) (.slice (some ⟨w.heap.size, 0, none⟩) l.toNat l.toNat) [w.heap.size] := by
    have := OwnD.l (w := w.alloc (.cells (madeCells z0.cells (l.toNat * i.size)) e)) (List.replicate l.toNat r) l.toNat l.toNat w.heap.size 0 i.size e (madeCells z0.cells (l.toNat * i.size)) (fun m => (madeCells z0.cells (l.toNat * i.size))[m]?.getD undef) (fun _ => []) List.length_replicate (Nat.le_refl _) (by unfold maxLen; omega) z4 (fun r' hr' => by rw [List.eq_of_mem_replicate hr', hrl]) (by rw [Nat.zero_add]; exact size_madeCells _ _) (fun e0 => by
        have := congrArg List.length e0; simpa using this) (row_new w _) (fun m d e1 => ?_) (fun m d e1 => ?_)
    · have e9 : ∀ n : Nat, (List.range n).flatMap (fun _ => ([] : List Nat)) = [] := fun n => by induction n <;> simp_all [List.range_succ]
      rw [e9] at this; exact this
    · have hm : m < l.toNat * i.size := by
        have := (List.getElem?_eq_some_iff.1 e1).1
        rw [flat_len (k := i.size) _ (fun r' hr' => by rw [List.eq_of_mem_replicate hr', hrl]), List.length_replicate] at this; exact this
      rw [Nat.zero_add, Array.getElem?_eq_getElem (by rw [size_madeCells]; exact hm)]; rfl
    · have hm : m < l.toNat * i.size := by
        have := (List.getElem?_eq_some_iff.1 e1).1
        rw [flat_len (k := i.size) _ (fun r' hr' => by rw [List.eq_of_mem_replicate hr', hrl]), List.length_replicate] at this; exact this
      have f := replicate_flat r _ _ _ e1
      rw [hrl] at f
      have hmod : m % i.size < i.size := Nat.mod_lt _ z4
      have hzi : m % i.size < z.length := by rw [← hzl, z3]; exact hmod
      obtain ⟨d2, f2, f3⟩ := m2 (m % i.size) _ (List.getElem?_eq_getElem hzi)
      rw [f] at f2; injection f2 with f2; subst f2
      obtain ⟨u, g1, g2⟩ := RVs.get' y3 (List.getElem?_eq_getElem hzi)
      have : (madeCells z0.cells (l.toNat * i.size))[m]?.getD undef = u := by
        have hs : m % z0.cells.size < z0.cells.size := by rw [z3]; exact hmod
        have g1' : z0.cells[m % z0.cells.size] = u := by
          have : z0.cells.toList[m % i.size]? = some u := g1
          rw [Array.getElem?_toList] at this
          have := (Array.getElem?_eq_some_iff.1 this).2
          simpa [z3] using this
        unfold madeCells
        simp only [Array.getElem?_map, Array.getElem?_range, hm, if_true, Option.map_some, Option.getD_some]
        rw [getElem!_pos z0.cells _ hs]
        exact g1'
      rw [this]
      exact packV_own f3 g2 _
  have S := A.pcs.more (Ext.alloc (Ext.refl w) (.cells (madeCells z0.cells (l.toNat * i.size)) e)) (h := ownP (.slice (some ⟨w.heap.size, 0, none⟩) l.toNat l.toNat) (List.replicate l.toNat r)) (F := [w.heap.size]) own (by simp) (fun b hb => by simp at hb; subst hb; simp)
  have A0 : At (c.with []) s y a w := A
  obtain ⟨y', A'⟩ := newTree_sound A0 hd' hfin S
  refine op_value (u := .slice (some ⟨w.heap.size, 0, none⟩) l.toNat l.toNat) (w' := w.alloc (.cells (madeCells z0.cells (l.toNat * i.size)) e)) ?_ (k _ _ ⟨y', A'⟩)
  unfold execOp; simp only [ho, en, ec, Sem.run_bind, hrun]; rfl
end
end Go.Proofs.YtjhdikdopdcfcaaGreatDoor
namespace Go.Proofs.YtjhdikdopdcfcaaGreatDoor
open Go.RowKit
set_option linter.unusedSimpArgs false
set_option linter.unusedVariables false
theorem St.cutFront {W w : World} {rows : List (List D)} {u : Value} {h : Nat} {L : List Pc} (S : St W w (ownP u rows :: L)) (h0 : 0 < h) (hh : h ≤ rows.length) :
    ∃ g ob c, u = .slice (some ⟨g, ob, none⟩) rows.length c ∧ rows.length ≤ c ∧ c ≤ maxLen ∧ St W w (ownP (.slice (some ⟨g, ob, none⟩) h c) (rows.take h) :: L) := by
  rcases S.split with ⟨e, _⟩ | ⟨g, ob, c, k, T, cs, us, k1, k2, k3, k4, k5, k6, k7, k8, k9, S1⟩
  · rw [e] at hh; simp at hh; omega
  · refine ⟨g, ob, c, k2, k3, k4, ?_⟩
    have hfl := flat_len rows k6
    have ht : ∀ r ∈ rows.take h, r.length = k := fun r hr => k6 r (List.mem_of_mem_take hr)
    have hft := flat_len (rows.take h) ht
    have hlt : (rows.take h).length = h := by rw [List.length_take]; omega
    have hle : h * k ≤ us.length := by rw [k8, hfl]; exact Nat.mul_le_mul_right _ hh
    have e1 : rows.flatten = (rows.take h).flatten ++ (rows.drop h).flatten := by rw [← List.flatten_append, List.take_append_drop]
    have hu1 : (us.take (h * k)).length = (rows.take h).flatten.length := by rw [List.length_take, hft, hlt]; omega
    have e2 : pcs rows.flatten us = pcs (rows.take h).flatten (us.take (h * k)) ++ pcs (rows.drop h).flatten (us.drop (h * k)) := by
      rw [← pcs_app hu1, ← e1, List.take_append_drop]
    rw [e2] at S1
    have S2 : St W w (rowP g T cs :: (pcs (rows.take h).flatten (us.take (h * k)) ++ L)) := by
      refine St.dropL (L1 := pcs (rows.drop h).flatten (us.drop (h * k))) (S1.perm ?_)
      rw [List.append_assoc]
      have p1 : (rowP g T cs :: (pcs (rows.take h).flatten (us.take (h * k)) ++ (pcs (rows.drop h).flatten (us.drop (h * k)) ++ L))).Perm (rowP g T cs :: (pcs (rows.drop h).flatten (us.drop (h * k)) ++ (pcs (rows.take h).flatten (us.take (h * k)) ++ L))) := by
        refine List.Perm.cons _ ?_
        rw [← List.append_assoc, ← List.append_assoc]
        exact List.Perm.append_right _ List.perm_append_comm
      exact p1.trans List.perm_middle.symm
    have S3 := S2.join (cc := c) (k := k) hu1 (by rw [hlt]; omega) k4 k5 ht k7 (fun e => by rw [e] at hlt; simp at hlt; omega) (by
      rw [hlt, ← k9, List.take_take]
      congr 1
      have := Nat.mul_le_mul_right k hh
      omega)
    rw [hlt] at S3
    exact S3
theorem St.cutBack {W w : World} {rows : List (List D)} {u : Value} {lo kk : Nat} {L : List Pc} (S : St W w (ownP u rows :: L)) (hl : lo < rows.length) (hw : wid kk rows = true) :
    ∃ g ob c, u = .slice (some ⟨g, ob, none⟩) rows.length c ∧ rows.length ≤ c ∧ c ≤ maxLen ∧ St W w (ownP (.slice (some ⟨g, ob + lo * kk, none⟩) (rows.length - lo) (c - lo)) (rows.drop lo) :: L) := by
  rcases S.split with ⟨e, _⟩ | ⟨g, ob, c, k, T, cs, us, k1, k2, k3, k4, k5, k6, k7, k8, k9, S1⟩
  · rw [e] at hl; simp at hl
  · obtain rfl : k = kk := by
      obtain ⟨r, l, e⟩ := List.exists_cons_of_ne_nil k1
      have hr : r ∈ rows := by rw [e]; simp
      rw [← k6 r hr, wid_spec hw r hr]
    refine ⟨g, ob, c, k2, k3, k4, ?_⟩
    have hfl := flat_len rows k6
    have ht : ∀ r ∈ rows.drop lo, r.length = k := fun r hr => k6 r (List.mem_of_mem_drop hr)
    have hft := flat_len (rows.drop lo) ht
    have hlt : (rows.drop lo).length = rows.length - lo := List.length_drop
    have hta := flat_len (rows.take lo) (fun r hr => k6 r (List.mem_of_mem_take hr))
    have hlq : (rows.take lo).length = lo := by rw [List.length_take]; omega
    have hle : lo * k ≤ us.length := by rw [k8, hfl]; exact Nat.mul_le_mul_right _ (Nat.le_of_lt hl)
    have e1 : rows.flatten = (rows.take lo).flatten ++ (rows.drop lo).flatten := by rw [← List.flatten_append, List.take_append_drop]
    have hu1 : (us.take (lo * k)).length = (rows.take lo).flatten.length := by rw [List.length_take, hta, hlq]; omega
    have e2 : pcs rows.flatten us = pcs (rows.take lo).flatten (us.take (lo * k)) ++ pcs (rows.drop lo).flatten (us.drop (lo * k)) := by
      rw [← pcs_app hu1, ← e1, List.take_append_drop]
    rw [e2] at S1
    have S2 : St W w (rowP g T cs :: (pcs (rows.drop lo).flatten (us.drop (lo * k)) ++ L)) := by
      refine St.dropL (L1 := pcs (rows.take lo).flatten (us.take (lo * k))) (S1.perm ?_)
      rw [List.append_assoc]
      exact List.perm_middle.symm
    have hm : lo * k + (rows.length - lo) * k = rows.length * k := by rw [← Nat.add_mul]; congr 1; omega
    have hm2 : lo * k + (c - lo) * k = c * k := by rw [← Nat.add_mul]; congr 1; omega
    have S3 := S2.join (ob := ob + lo * k) (cc := c - lo) (k := k) (by rw [hft, hlt, List.length_drop, k8, hfl]; omega) (by rw [hlt]; omega) (by omega) k5 ht (by rw [k7]; omega) (fun e => by rw [e] at hlt; simp at hlt; omega) (by
      rw [hlt, ← k9, List.drop_take, List.drop_drop]
      congr 1
      omega)
    rw [hlt] at S3
    exact S3
theorem St.cutMid {W w : World} {rows : List (List D)} {u : Value} {lo h kk : Nat} {L : List Pc} (S : St W w (ownP u rows :: L)) (hl : lo < h) (hh : h ≤ rows.length) (hw : wid kk rows = true) :
    ∃ g ob c, u = .slice (some ⟨g, ob, none⟩) rows.length c ∧ rows.length ≤ c ∧ c ≤ maxLen ∧ St W w (ownP (.slice (some ⟨g, ob + lo * kk, none⟩) (h - lo) (c - lo)) ((rows.drop lo).take (h - lo)) :: L) := by
  obtain ⟨g, ob, c, k1, k2, k3, S1⟩ := S.cutBack (lo := lo) (by omega) hw
  obtain ⟨g', ob', c', m1, m2, m3, S2⟩ := S1.cutFront (h := h - lo) (by omega) (by rw [List.length_drop]; omega)
  injection m1 with m1 m4 m5
  injection m1 with m1; injection m1 with m1 m6 _
  subst m1; subst m6; subst m5
  exact ⟨g, ob, c, k1, k2, k3, S2⟩
section
variable {P : Program} {c : Ctx} {s : S}
theorem step_cut {o : Oper} {t : TypeId} {x : Operand} {lo hi : Option Operand} {s' : S} {p : Nat} {rows : List (List D)} (ho : o.op = .slice t x lo hi none) (hd' : dstOk c.n o.dst = true) {vl vh : Option V} {d : TypeDesc} (hx : s.ev x = some (.own p)) (hlo : evOptOp s lo = some vl) (hhi : evOptOp s hi = some vh) (hu : P.underlying t = some d)
    (hl : look p s.tree = some rows) (h : cutP P s o.dst p rows vl vh d = some s') : Step P c o s s' := by
  intro a w G next Q kk
  obtain ⟨y, A⟩ := G
  unfold cutP at h
  split at h
  · rename_i e
    obtain ⟨hz, h2⟩ := grd_eq_some h
    unfold cutOwn at h2
    obtain ⟨q, hq, h3⟩ := bnd_eq_some h2
    obtain ⟨⟨q1, hw⟩, h4⟩ := grd_eq_some h3
    have ex : RV (relOf c s y) (.own p) (a.eval x) := A.ev hx
    have exv : a.eval x = (y.hd p).v := ex.2
    have hq2 : q.2 ≤ rows.length := by
      unfold bounds at hq
      obtain ⟨l0, _, hq⟩ := bnd_eq_some hq
      obtain ⟨h0, _, hq⟩ := bnd_eq_some hq
      obtain ⟨⟨b1, b2, b3⟩, hq⟩ := grd_eq_some hq
      injection hq with hq; subst hq
      show h0.toNat ≤ rows.length
      omega
    obtain ⟨g, ob, cc, k1, k2, k3, S1⟩ := (A.out' hl).untree.cutMid q1 hq2 hw
    obtain ⟨y', A'⟩ := newTree_sound (A.take hl) hd' h4 S1
    refine op_value (u := .slice (some ⟨g, ob + q.1 * P.cellsOf e, none⟩) (q.2 - q.1) (cc - q.1)) ?_ (kk _ _ ⟨y', A'⟩)
    obtain ⟨b1, b2, hb⟩ := bounds_sound (P := P) A hlo hhi hq k2 true
    have hne : ¬ cc = q.1 := by omega
    unfold execOp
    simp only [ho, exv, k1]
    simp [Instr.sliceAt, Instr.slice, run_underlying hu, hb, run_sizeOf_some hz, hne, Addr.add]
  · cases h
theorem step_sliceS {o : Oper} {t : TypeId} {x : Operand} {lo hi : Option Operand} {s' : S} (ho : o.op = .slice t x lo hi none) (hd' : dstOk c.n o.dst = true) {vx : V} {vl vh : Option V} {d : TypeDesc} (hx : s.ev x = some vx) (hlo : evOptOp s lo = some vl) (hhi : evOptOp s hi = some vh) (hu : P.underlying t = some d)
    (h : sliceS P s o.dst vx vl vh d = some s') : Step P c o s s' := by
  have plain : ∀ v, (bnd (sliceV P s v vl vh d) fun v => some (s.put o.dst v)) = some s' → v = vx → Step P c o s s' := fun v h7 e => by
    obtain ⟨r, h1, h8⟩ := bnd_eq_some h7
    injection h8 with h8; subst h8
    rw [e] at h1
    exact step_slice ho hd' hx hlo hhi hu h1
  unfold sliceS at h
  split at h
  · rename_i p
    cases hf : look p s.fro with
    | some r => rw [hf] at h; exact plain _ h rfl
    | none =>
      rw [hf] at h
      simp only [cutS] at h
      cases ht : look p s.tree with
      | none => rw [ht] at h; exact plain _ h rfl
      | some rows => rw [ht] at h; exact step_cut ho hd' hx hlo hhi hu ht h
  · exact plain _ h rfl
end
end Go.Proofs.YtjhdikdopdcfcaaGreatDoor
namespace Go.Proofs.YtjhdikdopdcfcaaGreatDoor
open Go.RowKit
set_option linter.unusedSimpArgs false
set_option linter.unusedVariables false
theorem intD_some {d : TypeDesc} (h : intD d = true) : d = .int .i64 := by
  unfold intD at h; split at h
  · rfl
  · cases h
theorem mapD_some {d : TypeDesc} {x : TypeId × TypeId} (h : mapD d = some x) : d = .map x.1 x.2 := by
  unfold mapD at h; split at h
  · injection h with h; subst h; rfl
  · cases h
theorem zeroI_some {v : Value} {n : Int} (h : zeroI v = some n) : v = .int .i64 n := by
  unfold zeroI at h; split at h
  · injection h with h; subst h; rfl
  · cases h
theorem mapT_some {P : Program} {t : TypeId} {z : Int} (h : mapT P t = some z) : ∃ k e, P.underlying t = some (.map k e) ∧ P.underlying k = some (.int .i64) ∧ ∀ w, (zeroValue e).run P w = .ok (.int .i64 z) w := by
  unfold mapT at h
  obtain ⟨d, h1, h⟩ := bnd_eq_some h
  obtain ⟨x, h2, h⟩ := bnd_eq_some h
  obtain ⟨k, h3, h⟩ := bnd_eq_some h
  obtain ⟨h4, h⟩ := grd_eq_some h
  obtain ⟨i, h5, h⟩ := bnd_eq_some h
  obtain ⟨v, h6, h⟩ := bnd_eq_some h
  rw [mapD_some h2] at h1
  rw [intD_some h4] at h3
  rw [zeroI_some h] at h6
  exact ⟨x.1, x.2, h1, h3, fun w => by simp [zeroValue, typeInfo, h5, h6]⟩
theorem mpOf_some {v : V} {es : List (Int × Int)} (h : mpOf v = some es) : v = .mp es := by
  unfold mpOf at h; split at h
  · injection h with h; subst h; rfl
  · cases h
theorem key64_some {v : V} {n : Int} (h : key64 v = some n) : v = .v (.int .i64 n) := by
  unfold key64 at h; split at h
  · injection h with h; subst h; rfl
  · cases h
theorem find_none {k : Int} : ∀ {es : List (Int × Int)} {l : List MapEntry} (i : Nat), l.map (fun e => (e.key, e.val)) = (es.map fun p => (Value.int .i64 p.1, Value.int .i64 p.2)) → lookM k es = none → Instr.findNow (.int .i64) (.int .i64 k) l i = some none
  | [], [], i, _, _ => rfl
  | [], _ :: _, i, h, _ => by simp at h
  | _ :: _, [], i, h, _ => by simp at h
  | (j, x) :: es, e :: l, i, h, hl => by
    simp only [List.map_cons, List.cons.injEq, Prod.mk.injEq] at h
    unfold lookM at hl
    split at hl
    · cases hl
    · rename_i hne
      unfold Instr.findNow
      rw [h.1.1]
      have : Instr.sameNow (.int .i64) (.int .i64 k) (.int .i64 j) = some false := by simp [Instr.sameNow, hne]
      rw [this]
      exact find_none (i + 1) h.2 hl
theorem find_some {k v : Int} : ∀ {es : List (Int × Int)} {l : List MapEntry} (i : Nat), l.map (fun e => (e.key, e.val)) = (es.map fun p => (Value.int .i64 p.1, Value.int .i64 p.2)) → lookM k es = some v → ∃ j, Instr.findNow (.int .i64) (.int .i64 k) l i = some (some (j, .int .i64 v))
  | [], l, i, _, h => by cases h
  | _ :: _, [], i, h, _ => by simp at h
  | (j, x) :: es, e :: l, i, h, hl => by
    simp only [List.map_cons, List.cons.injEq, Prod.mk.injEq] at h
    unfold lookM at hl
    unfold Instr.findNow
    rw [h.1.1]
    split at hl
    · rename_i he
      injection hl with hl; subst hl; subst he
      have : Instr.sameNow (.int .i64) (.int .i64 k) (.int .i64 k) = some true := by simp [Instr.sameNow]
      rw [this, h.1.2]
      exact ⟨i, rfl⟩
    · rename_i hne
      have : Instr.sameNow (.int .i64) (.int .i64 k) (.int .i64 j) = some false := by simp [Instr.sameNow, hne]
      rw [this]
      exact find_some (i + 1) h.2 hl
theorem run_look {P : Program} {t : TypeId} {z : Int} (ht : mapT P t = some z) {w : World} {b : Nat} {ents : Array MapEntry} {clock : Nat} {es : List (Int × Int)} (hb : w.heap[b]? = some (.map ents clock)) (hm : IsMp es ents) (n : Int) :
    ∃ x ok, (Instr.lookup t (.map (some b)) (.int .i64 n) true).run P w = .ok (.tuple #[.int .i64 x, .bool ok]) w ∧ foundV z (lookM n es) = .tup [.v (.int .i64 x), .v (.bool ok)] := by
  obtain ⟨k, e, h1, h2, h3⟩ := mapT_some ht
  have hc : ∀ em, (Instr.checkKey em 10000 k (.int .i64 n)).run P w = .ok () w := fun em => MapKept.run_checkKey h2 (by simp [MapKept.IsKey]) em 9999
  cases hl : lookM n es with
  | none =>
    have hf := MapKept.run_findKey (w := w) h2 (find_none 0 hm hl)
    exact ⟨z, false, by simp [Instr.lookup, run_underlying h1, MapKept.run_getObj_map hb, hc, hf, h3, Result.andThen], rfl⟩
  | some x =>
    obtain ⟨j, hj⟩ := find_some 0 hm hl
    have hf := MapKept.run_findKey (w := w) h2 hj
    exact ⟨x, true, by simp [Instr.lookup, run_underlying h1, MapKept.run_getObj_map hb, hc, hf, Result.andThen], rfl⟩
theorem run_ins {P : Program} {t : TypeId} {z : Int} (ht : mapT P t = some z) {w : World} {ents : Array MapEntry} {clock : Nat} {es : List (Int × Int)} (hm : IsMp es ents) {k v : Int} (hk : lookM k es = none) :
    ∃ ents' clock', (Instr.mapUpdate t (.map (some w.heap.size)) (.int .i64 k) (.int .i64 v)).run P (w.alloc (.map ents clock)) = .ok () (w.alloc (.map ents' clock')) ∧ IsMp (es ++ [(k, v)]) ents' := by
  obtain ⟨kt, e, h1, h2, _⟩ := mapT_some ht
  have hb : (w.alloc (.map ents clock)).heap[w.heap.size]? = some (.map ents clock) := row_new w _
  have hc : ∀ em, (Instr.checkKey em 10000 kt (.int .i64 k)).run P (w.alloc (.map ents clock)) = .ok () (w.alloc (.map ents clock)) := fun em => MapKept.run_checkKey h2 (by simp [MapKept.IsKey]) em 9999
  have hf := MapKept.run_findKey (w := w.alloc (.map ents clock)) h2 (find_none 0 hm hk)
  refine ⟨ents.push ⟨.int .i64 k, .int .i64 v, clock⟩, clock + 1, ?_, ?_⟩
  · have hs : ∀ o, (w.alloc (.map ents clock)).heap.setIfInBounds w.heap.size o = (w.alloc o).heap := fun o => by
      unfold World.alloc; simp [Array.setIfInBounds, Array.push, Array.set]
    simp [Instr.mapUpdate, run_underlying h1, MapKept.run_getObj_map hb, hc, hf, MapKept.run_setObj_map _ hb, Result.andThen, hs]
    rfl
  · unfold IsMp at hm ⊢
    simp only [Array.toList_push, List.map_append, List.map_cons, List.map_nil, hm]
theorem litIns_more {t : TypeId} {d : Nat} : ∀ (l : List Oper) (acc : List (Int × Int)), ∃ m, (litIns t d l acc).1 = acc ++ m
  | [], acc => ⟨[], by simp [litIns]⟩
  | o :: r, acc => by
    unfold litIns
    cases insOf t d o with
    | none => exact ⟨[], by simp [litSel]⟩
    | some e =>
      obtain ⟨m, h⟩ := litIns_more (t := t) (d := d) r (acc ++ [e])
      exact ⟨e :: m, by simp [litSel, h]⟩
theorem litIns_rest {t : TypeId} {d : Nat} : ∀ (l : List Oper) (acc : List (Int × Int)), ∀ o ∈ (litIns t d l acc).2, o ∈ l
  | [], acc => by simp [litIns]
  | o :: r, acc => by
    unfold litIns
    cases insOf t d o with
    | none => intro x hx; exact hx
    | some e => intro x hx; exact List.mem_cons_of_mem _ (litIns_rest r _ x hx)
theorem lookM_app {k : Int} : ∀ {a b : List (Int × Int)}, lookM k (a ++ b) = none → lookM k a = none ∧ lookM k b = none
  | [], b, h => ⟨rfl, h⟩
  | (j, x) :: a, b, h => by
    rw [List.cons_append] at h
    have e1 : ∀ l, lookM k ((j, x) :: l) = if k = j then some x else lookM k l := fun _ => rfl
    rw [e1] at h ⊢
    split at h
    · cases h
    · rename_i hne
      rw [if_neg hne]
      exact lookM_app h
theorem apart_mid {e : Int × Int} {m : List (Int × Int)} : ∀ {acc : List (Int × Int)}, apartK (acc ++ e :: m) = true → lookM e.1 acc = none
  | [], _ => rfl
  | (j, x) :: a, h => by
    rw [List.cons_append] at h
    unfold apartK at h
    rw [Bool.and_eq_true, Option.isNone_iff_eq_none] at h
    unfold lookM
    split
    · rename_i he
      have := (lookM_app h.1).2
      unfold lookM at this
      have h2 : (j, x).1 = e.1 := he.symm
      rw [if_pos h2] at this
      cases this
    · exact apart_mid h.2
section
variable {P : Program} {c : Ctx} {s : S} {y : Lay} {a : Act} {w : World}
theorem insOf_some {t : TypeId} {d : Nat} {o : Oper} {e : Int × Int} (h : insOf t d o = some e) : o.dst = none ∧ o.op = .insert t (.tmp d) (.const (.int .i64 e.1)) (.const (.int .i64 e.2)) ∧ o.guard = none := by
  unfold insOf at h
  split at h
  · split at h
    · rename_i hh
      injection h with h; subst h
      obtain ⟨rfl, rfl⟩ := hh
      exact ⟨rfl, rfl, rfl⟩
    · cases h
  · cases h
theorem lit_ins {ops : Array Oper} {Q : Exit → Act → World → Prop} {t : TypeId} {d : Nat} {z : Int} (ht : mapT P t = some z) (he : a.eval (.tmp d) = .map (some w.heap.size)) :
    ∀ (l : List Oper) (acc : List (Int × Int)) (ents : Array MapEntry) (clock : Nat), apartK (litIns t d l acc).1 = true → IsMp acc ents → (∀ ents clock, IsMp (litIns t d l acc).1 ents → wpList P ops Q (litIns t d l acc).2 a (w.alloc (.map ents clock))) → wpList P ops Q l a (w.alloc (.map ents clock))
  | [], acc, ents, clock, _, hm, k => k ents clock hm
  | o :: r, acc, ents, clock, hp, hm, k => by
    unfold litIns at hp k
    cases hi : insOf t d o with
    | none =>
      rw [hi] at k
      exact k ents clock hm
    | some e =>
      rw [hi] at k hp
      simp only [litSel] at k hp
      obtain ⟨h1, h2, h3⟩ := insOf_some hi
      obtain ⟨m, hmm⟩ := litIns_more (t := t) (d := d) r (acc ++ [e])
      have hk : lookM e.1 acc = none := apart_mid (m := m) (by rw [hmm] at hp; simpa using hp)
      obtain ⟨ents', clock', hr, hm'⟩ := run_ins ht (w := w) (clock := clock) hm (v := e.2) hk
      unfold wpList
      have hw : Region.wanted o (yielded ops a.tmps) = true := by unfold Region.wanted; rw [h3]
      rw [hw]
      refine .inl ?_
      refine op_skip (w' := w.alloc (.map ents' clock')) ?_ ?_
      · unfold execOp
        simp only [h2]
        rw [he]
        have e1 : a.eval (.const (.int .i64 e.1)) = .int .i64 e.1 := rfl
        have e2 : a.eval (.const (.int .i64 e.2)) = .int .i64 e.2 := rfl
        rw [e1, e2, Sem.run_bind, hr]
        rfl
      · rw [h1]
        exact lit_ins ht he r (acc ++ [e]) ents' clock' hp hm' k
theorem lit_rest {l r : List Oper} {t : TypeId} {d : Nat} {es : List (Int × Int)} (h : litOf l = some (t, d, es, r)) : (∃ o ∈ l, o.dst = some d) ∧ ∀ o ∈ r, o ∈ l := by
  unfold litOf at h
  split at h
  · injection h with h
    injection h with e1 h
    injection h with e2 h
    injection h with e3 e4
    subst e1; subst e2; subst e4
    exact ⟨⟨_, List.mem_cons_self, rfl⟩, fun o ho => List.mem_cons_of_mem _ (litIns_rest _ _ o ho)⟩
  · cases h
theorem lit_made {ops : Array Oper} {Q : Exit → Act → World → Prop} {l r : List Oper} {t : TypeId} {d : Nat} {es : List (Int × Int)} {z : Int} (hsz : d < a.tmps.size) (h : litOf l = some (t, d, es, r)) (ht : mapT P t = some z) (hp : apartK es = true)
    (k : ∀ ents clock, IsMp es ents → wpList P ops Q r (a.put (some d) (.map (some w.heap.size))) (w.alloc (.map ents clock))) : wpList P ops Q l a w := by
  unfold litOf at h
  split at h
  · rename_i d' t' ty ps af r'
    injection h with h
    injection h with e1 h
    injection h with e2 h
    injection h with e3 e4
    subst e1; subst e2; subst e3; subst e4
    unfold wpList
    have hw : Region.wanted (⟨some d', .makeMap t' none, ty, ps, af, none⟩ : Oper) (yielded ops a.tmps) = true := rfl
    rw [hw]
    refine .inl (op_value (u := .map (some w.heap.size)) (w' := w.alloc (.map #[] 0)) ?_ ?_)
    · unfold execOp
      simp only [Option.map_none]
      rw [Sem.run_bind, run_makeMap]
      rfl
    · refine lit_ins ht ?_ r' [] #[] 0 hp rfl k
      exact (put_get a _ _ _ hsz).trans (if_pos rfl)
  · cases h
theorem At.mapped (A : At c s y a w) {t : Nat} {es : List (Int × Int)} {ents : Array MapEntry} {clock : Nat} (hm : IsMp es ents) (hf : fresh s t = true) (hd' : dstOk c.n (some t) = true) :
    Good c (s.withMap t es) (a.put (some t) (.map (some w.heap.size))) (w.alloc (.map ents clock)) := by
  unfold fresh at hf
  rw [Bool.and_eq_true] at hf
  have hn1 := look_none (isNone_eq hf.1)
  have hn2 := look_none (isNone_eq hf.2)
  have hn : t ∉ (s.tree ++ s.fro).map (·.1) := by rw [List.map_append, List.mem_append]; exact fun h => h.elim hn1 hn2
  have hx : Ext w (w.alloc (.map ents clock)) := (Ext.refl w).alloc _
  have kk : ∀ n, n ∈ (s.tree ++ s.fro).map (·.1) → n ∈ (s.tree ++ (t, ([] : List (List D))) :: s.fro).map (·.1) := by
    intro n h
    rw [List.map_append, List.mem_append] at h ⊢
    exact h.elim .inl fun h => .inr (List.mem_cons_of_mem _ h)
  have le : (relOf c s y).le (relOf c { s with fro := (t, []) :: s.fro } { y with hd := fset y.hd t nilHd, w0 := fset y.w0 t (w.alloc (.map ents clock)), F := fset y.F t [w.heap.size] }) := by
    refine ⟨fun _ _ h => h, fun b' o ⟨q, h1, h2, h3⟩ => ?_, rfl, fun b h => ⟨h, rfl⟩, fun q h => ⟨kk q h, fset_ne _ _ fun e => hn (by rw [← e]; exact h)⟩⟩
    have hq : q ≠ t := fun e => hn2 (by rw [← e]; exact h1)
    exact ⟨q, List.mem_cons_of_mem _ h1, by show b' ∈ fset y.F t _ q; rw [fset_ne _ _ hq]; exact h2, by show (fset y.w0 t _ q).heap[b']? = some o; rw [fset_ne _ _ hq]; exact h3⟩
  have A1 : At c { s with fro := (t, []) :: s.fro } { y with hd := fset y.hd t nilHd, w0 := fset y.w0 t (w.alloc (.map ents clock)), F := fset y.F t [w.heap.size] } a (w.alloc (.map ents clock)) := by
    refine ⟨A.defers, A.size, ?_, fun t' v e => (A.env t' v e).le le, fun b cs h => (A.box b cs h).le le, fun q r h => ?_, A.nb, ?_, A.fix.1, fun i h1 h2 => ⟨(A.fix.2 i h1 h2).1, (fset_ne _ _ (by have := dstOk.lt hd'; have := A.fix.1; omega)).trans (A.fix.2 i h1 h2).2⟩⟩
    · have S1 : St c.W (w.alloc (.map ents clock)) (snapP (w.alloc (.map ents clock)) [w.heap.size] :: (boxPs y.bl y.T y.us s.box ++ (treePs y.hd s.tree ++ (froPs y.w0 y.F s.fro ++ c.L)))) :=
        A.st.more hx (h := snapP (w.alloc (.map ents clock)) [w.heap.size]) (F := [w.heap.size]) ⟨rfl, fun _ _ => rfl⟩ (by simp) (fun k hk => by simp only [List.mem_singleton] at hk; subst hk; exact ⟨Nat.le_refl _, by unfold World.alloc; simp⟩)
      show St c.W _ (boxPs y.bl y.T y.us s.box ++ (treePs (fset y.hd t nilHd) s.tree ++ ((snapP (fset y.w0 t (w.alloc (.map ents clock)) t) (fset y.F t [w.heap.size] t) :: froPs (fset y.w0 t (w.alloc (.map ents clock))) (fset y.F t [w.heap.size]) s.fro) ++ c.L)))
      rw [fset_self, fset_self, froPs_fresh' hn2, treePs_fresh hn1]
      have q := (List.perm_middle (a := snapP (w.alloc (.map ents clock)) [w.heap.size]) (l₁ := boxPs y.bl y.T y.us s.box ++ treePs y.hd s.tree) (l₂ := froPs y.w0 y.F s.fro ++ c.L)).symm
      simp only [List.append_assoc, List.cons_append] at q ⊢ S1
      exact S1.perm q
    · show TreeD (fset y.w0 t _ q) _ (fset y.hd t nilHd q) (fset y.F t _ q)
      rcases List.mem_cons.1 h with h | h
      · injection h with h1 h2; subst h1; subst h2
        rw [fset_self, fset_self, fset_self]
        exact ⟨.nil none _, fun g ob n c cs T fr m r' e1 => by cases e1⟩
      · have hq : q ≠ t := fun e => hn2 (by rw [← e]; exact List.mem_map.2 ⟨_, h, rfl⟩)
        rw [fset_ne _ _ hq, fset_ne _ _ hq, fset_ne _ _ hq]; exact A.fro q r h
    · show ((s.tree ++ (t, []) :: s.fro).map (·.1)).Nodup
      have An := A.nt
      rw [List.map_append, List.nodup_append] at An ⊢
      refine ⟨An.1, List.nodup_cons.2 ⟨hn2, An.2.1⟩, fun x hx z hz e => ?_⟩
      subst e
      rcases List.mem_cons.1 hz with h | h
      · have h : x = t := h
        subst h
        exact hn1 hx
      · exact An.2.2 x hx x h rfl
  refine ⟨_, A1.value (v := .mp es) ?_ hd'⟩
  refine ⟨w.heap.size, ents, clock, rfl, ⟨t, List.mem_cons_self, ?_, ?_⟩, hm⟩
  · show w.heap.size ∈ fset y.F t _ t
    rw [fset_self]; exact List.mem_singleton_self _
  · show (fset y.w0 t _ t).heap[w.heap.size]? = some _
    rw [fset_self]; exact row_new w _
theorem step_lookup {o : Oper} {t : TypeId} {m x : Operand} (ho : o.op = .lookup t m x true) (hd' : dstOk c.n o.dst = true) {vm vk : V} {es : List (Int × Int)} {n z : Int} (hm : s.ev m = some vm) (hx : s.ev x = some vk) (h1 : mpOf vm = some es) (h2 : key64 vk = some n) (h3 : mapT P t = some z) : Step P c o s (s.put o.dst (foundV z (lookM n es))) := by
  rw [mpOf_some h1] at hm
  rw [key64_some h2] at hx
  refine step_value hd' fun yy a w A => ?_
  obtain ⟨b, ents, clock, e1, ⟨p, q1, q2, q3⟩, hi⟩ := A.ev hm
  have e2 : a.eval x = .int .i64 n := A.ev hx
  have hb : w.heap[b]? = some (.map ents clock) := by
    have := A.st.snap_at (w0 := yy.w0 p) (F := yy.F p) (by
      refine List.mem_append_right _ (List.mem_append_right _ (List.mem_append_left _ ?_))
      obtain ⟨pp, hpp, rfl⟩ := List.mem_map.1 q1
      exact List.mem_map.2 ⟨pp, hpp, rfl⟩) b q2
    rw [this]; exact q3
  obtain ⟨r, ok, hr, hv⟩ := run_look h3 hb hi n
  refine ⟨.tuple #[.int .i64 r, .bool ok], ?_, ?_⟩
  · unfold execOp
    simp only [ho]
    rw [e1, e2, Sem.run_bind, hr]
    rfl
  · rw [hv]
    exact ⟨[_, _], rfl, _, _, rfl, rfl, _, _, rfl, rfl, rfl⟩
end
end Go.Proofs.YtjhdikdopdcfcaaGreatDoor
namespace Go.Proofs.YtjhdikdopdcfcaaGreatDoor
open Go.RowKit
set_option linter.unusedSimpArgs false
set_option linter.unusedVariables false
def CallOk (P : Program) (G : List (FuncId × Bool × Mean)) : Prop := ∀ (c : Ctx) (s s' : S) (o : Oper) (cl : Call) (g : Operand) (args : List V) (f : FuncId × List V) (M : Bool × Mean), o.op = .call cl → cl.callee = .value g → mapSome s.ev cl.args.toList = some args → s.ev g = some (.fn f.1 f.2) → look f.1 G = some M → callX M.1 M.2 s o.dst (args ++ f.2) = some s' → dstOk c.n o.dst = true → Step P c o s s'
section
variable {P : Program} {c : Ctx} {s s' : S} {y : Lay} {a : Act} {w : World} {G : List (FuncId × Bool × Mean)}
theorem step_makeFunc {o : Oper} {fn : Fn} {first cap : Array Operand} (ho : o.op = .makeFunc fn first cap) (hd' : dstOk c.n o.dst = true) {vs : List V} {v : V} (hvs : mapSome s.ev cap.toList = some vs) (h : fnV vs first fn = some v) : Step P c o s (s.put o.dst v) := step_value hd' fun yy a w A => by
  have ea := evArgs A hvs
  unfold fnV at h
  split at h
  · rename_i f
    obtain ⟨h1, h⟩ := grd_eq_some h
    injection h with h; subst h
    have hf : first = #[] := Array.isEmpty_iff.1 h1
    subst hf
    refine ⟨.func (.func f) #[] (cap.toList.map a.eval).toArray, ?_, _, rfl, ea⟩
    unfold execOp; simp only [ho]
    have hcl : (cap.map a.eval) = (cap.toList.map a.eval).toArray := by apply Array.ext'; simp
    rw [hcl]
    simp [Instr.makeFunc]
  · cases h
theorem step_op (hC : CallOk P G) {o : Oper} (hd' : dstOk c.n o.dst = true) (h : evOp P G s o.dst o.op = some s') : Step P c o s s' := by
  generalize ho : o.op = q at h
  cases q <;> simp only [evOp] at h <;> try (cases h; done)
  case alloc t =>
    obtain ⟨cs, h1, h⟩ := bnd_eq_some h
    exact step_alloc ho hd' h1 h
  case box t x =>
    obtain ⟨v, h1, h⟩ := bnd_eq_some h
    obtain ⟨h2, h⟩ := grd_eq_some h
    exact step_box ho hd' h1 h2.2 h
  case build t ps =>
    obtain ⟨d, h1, h⟩ := bnd_eq_some h
    obtain ⟨fs, h2, h⟩ := bnd_eq_some h
    obtain ⟨h3, h⟩ := grd_eq_some h
    obtain ⟨z, h4, h⟩ := bnd_eq_some h
    obtain ⟨vs, h5, h⟩ := bnd_eq_some h
    obtain ⟨cs, h6, h⟩ := bnd_eq_some h
    injection h with h; subst h
    exact step_build ho hd' h1 h2 h3 h4 h5 h6
  case buildSlice t n ps =>
    obtain ⟨d, h1, h⟩ := bnd_eq_some h
    obtain ⟨e, h2, h⟩ := bnd_eq_some h
    obtain ⟨vs, h3, h⟩ := bnd_eq_some h
    obtain ⟨h4, h⟩ := grd_eq_some h
    obtain ⟨x, h5, h⟩ := bnd_eq_some h
    have : d = .slice e := by unfold sliceElem at h2; split at h2 <;> first | (injection h2 with h2; subst h2; rfl) | cases h2
    rw [this] at h1
    simp only [Bool.and_eq_true, decide_eq_true_eq] at h4
    obtain ⟨⟨⟨k1, k2⟩, k3⟩, k4⟩ := h4
    refine step_buildSlice ho hd' h1 h3 k1 k2 k3 (fun v hv => ?_) (rows := x.1) (s1 := x.2) h5 h
    have := List.all_eq_true.1 k4 v hv
    simp only [Bool.and_eq_true, decide_eq_true_eq] at this
    exact this
  case load t x =>
    obtain ⟨v, h1, h⟩ := bnd_eq_some h
    obtain ⟨u, h2, h⟩ := bnd_eq_some h
    injection h with h; subst h
    exact step_load ho hd' h1 h2
  case store t x z =>
    obtain ⟨p, h1, h⟩ := bnd_eq_some h
    obtain ⟨v, h2, h⟩ := bnd_eq_some h
    obtain ⟨s1, h3, h⟩ := bnd_eq_some h
    injection h with h; subst h
    unfold S.store at h3
    obtain ⟨⟨k1, k2⟩, h3⟩ := grd_eq_some h3
    split at h3
    · obtain ⟨cs, h4, h3⟩ := bnd_eq_some h3
      obtain ⟨⟨k3, k4⟩, h3⟩ := grd_eq_some h3
      injection h3 with h3; subst h3
      exact step_storeBox ho h1 h2 k2 k1 k4 h4 k3
    · cases hat : v.atom with
      | some d =>
        rw [hat] at h3
        simp only [storeOwn] at h3
        obtain ⟨rows, h4, h3⟩ := bnd_eq_some h3
        obtain ⟨r, h6, h3⟩ := bnd_eq_some h3
        obtain ⟨d0, h7, h3⟩ := bnd_eq_some h3
        obtain ⟨⟨k3, k4, k5⟩, h3⟩ := grd_eq_some h3
        injection h3 with h3; subst h3
        exact step_storeOwn ho h1 h2 k2 k1 h4 hat h6 h7 k3 k4 k5
      | none =>
        rw [hat] at h3
        simp only [storeOwn] at h3
        obtain ⟨x2, h4, h3⟩ := bnd_eq_some h3
        obtain ⟨rows, h5, h3⟩ := bnd_eq_some h3
        obtain ⟨r, h6, h3⟩ := bnd_eq_some h3
        obtain ⟨⟨k3, k4, k5, k6⟩, h3⟩ := grd_eq_some h3
        injection h3 with h3; subst h3
        exact step_storeRow ho h1 h2 k2 k1 (ds := x2.1) (s1 := x2.2) h4 h5 h6 k3 k4 k5 k6
    · cases hat : v.atom with
      | some d =>
        rw [hat] at h3
        simp only [storeInn] at h3
        obtain ⟨rows, h4, h3⟩ := bnd_eq_some h3
        obtain ⟨r, h5, h3⟩ := bnd_eq_some h3
        obtain ⟨cc, h6, h3⟩ := bnd_eq_some h3
        obtain ⟨rs, h7, h3⟩ := bnd_eq_some h3
        obtain ⟨r', h8, h3⟩ := bnd_eq_some h3
        obtain ⟨d0, h9, h3⟩ := bnd_eq_some h3
        obtain ⟨⟨k3, k4, k5, k6⟩, h3⟩ := grd_eq_some h3
        injection h3 with h3; subst h3
        rw [rowsD_some h7] at h6
        exact step_storeInn ho h1 h2 k2 k1 h4 hat h5 h6 h8 h9 k3 k4 k5 k6
      | none => rw [hat] at h3; simp only [storeInn] at h3; cases h3
    · cases h3
  case nilCheck x =>
    obtain ⟨v, h1, h⟩ := bnd_eq_some h
    obtain ⟨u, h2, h⟩ := bnd_eq_some h
    injection h with h; subst h
    exact step_nilCheck ho hd' h1 h2
  case binOp op t x z t' =>
    obtain ⟨v, h1, h⟩ := bnd_eq_some h
    obtain ⟨u, h2, h⟩ := bnd_eq_some h
    obtain ⟨r, h3, h⟩ := bnd_eq_some h
    injection h with h; subst h
    exact step_bin ho hd' h1 h2 h3
  case unOp op t x =>
    obtain ⟨v, h1, h⟩ := bnd_eq_some h
    obtain ⟨r, h3, h⟩ := bnd_eq_some h
    injection h with h; subst h
    exact step_un ho hd' h1 h3
  case convert t0 t x =>
    obtain ⟨v, h1, h⟩ := bnd_eq_some h
    obtain ⟨d0, h2, h⟩ := bnd_eq_some h
    obtain ⟨d, h3, h⟩ := bnd_eq_some h
    exact step_bytes ho hd' h1 h2 h3 h
  case slice t x lo hi mx =>
    cases mx with
    | some m => cases h
    | none =>
    simp only [evOp] at h
    obtain ⟨v, h1, h⟩ := bnd_eq_some h
    obtain ⟨l, h2, h⟩ := bnd_eq_some h
    obtain ⟨hh, h3, h⟩ := bnd_eq_some h
    obtain ⟨d, h4, h⟩ := bnd_eq_some h
    exact step_sliceS ho hd' h1 h2 h3 h4 h
  case fieldAddr t x f =>
    obtain ⟨v, h1, h⟩ := bnd_eq_some h
    obtain ⟨q, h2, h⟩ := bnd_eq_some h
    obtain ⟨r, h3, h⟩ := bnd_eq_some h
    injection h with h; subst h
    exact step_fieldAddr ho hd' h1 h2 h3
  case field t x f =>
    obtain ⟨v, h1, h⟩ := bnd_eq_some h
    obtain ⟨cs, h2, h⟩ := bnd_eq_some h
    obtain ⟨q, h3, h⟩ := bnd_eq_some h
    obtain ⟨g, h4, h⟩ := bnd_eq_some h
    obtain ⟨r, h5, h⟩ := bnd_eq_some h
    injection h with h; subst h
    have : v = .agg cs := by unfold aggOf at h2; split at h2 <;> first | (injection h2 with h2; subst h2; rfl) | cases h2
    subst this
    exact step_field ho hd' h1 h3 h4 h5
  case indexAddr t x i =>
    obtain ⟨v, h1, h⟩ := bnd_eq_some h
    obtain ⟨vi, h2, h⟩ := bnd_eq_some h
    obtain ⟨n, h3, h⟩ := bnd_eq_some h
    obtain ⟨e, h4, h⟩ := bnd_eq_some h
    obtain ⟨r, h5, h⟩ := bnd_eq_some h
    injection h with h; subst h
    exact step_indexAddr ho hd' h1 h2 h3 h4 h5
  case index t x i =>
    obtain ⟨v, h1, h⟩ := bnd_eq_some h
    obtain ⟨vi, h2, h⟩ := bnd_eq_some h
    obtain ⟨n, h3, h⟩ := bnd_eq_some h
    obtain ⟨r, h5, h⟩ := bnd_eq_some h
    injection h with h; subst h
    exact step_index ho hd' h1 h2 h3 h5
  case makeFunc fn first cap =>
    obtain ⟨vs, h1, h⟩ := bnd_eq_some h
    obtain ⟨v, h2, h⟩ := bnd_eq_some h
    injection h with h; subst h
    exact step_makeFunc ho hd' h1 h2
  case extract x i =>
    obtain ⟨v, h1, h⟩ := bnd_eq_some h
    obtain ⟨r, h5, h⟩ := bnd_eq_some h
    injection h with h; subst h
    exact step_extract ho hd' h1 h5
  case move x =>
    obtain ⟨v, h1, h⟩ := bnd_eq_some h
    injection h with h; subst h
    exact step_move ho hd' h1
  case assign x =>
    obtain ⟨v, h1, h⟩ := bnd_eq_some h
    injection h with h; subst h
    exact step_assign ho hd' h1
  case pick x y z =>
    obtain ⟨v, h1, h⟩ := bnd_eq_some h
    obtain ⟨b, h2, h⟩ := bnd_eq_some h
    obtain ⟨r, h5, h⟩ := bnd_eq_some h
    injection h with h; subst h
    rw [boolOf_some h2] at h1
    exact step_pick ho hd' h1 h5
  case makeSlice t n cc =>
    obtain ⟨vn, h1, h⟩ := bnd_eq_some h
    obtain ⟨vc, h2, h⟩ := bnd_eq_some h
    exact step_make ho hd' h1 h2 h
  case lookup t m x ok =>
    cases ok with
    | false => cases h
    | true =>
    simp only at h
    obtain ⟨vm, h1, h⟩ := bnd_eq_some h
    obtain ⟨vk, h2, h⟩ := bnd_eq_some h
    obtain ⟨es, h3, h⟩ := bnd_eq_some h
    obtain ⟨n, h4, h⟩ := bnd_eq_some h
    obtain ⟨z, h5, h⟩ := bnd_eq_some h
    injection h with h; subst h
    exact step_lookup ho hd' h1 h2 h3 h4 h5
  case call cl =>
    obtain ⟨args, h1, h⟩ := bnd_eq_some h
    unfold evCall at h
    split at h
    · rename_i b hb
      exact step_builtin ho hb hd' h1 h
    · rename_i g hg
      obtain ⟨v, h2, h⟩ := bnd_eq_some h
      obtain ⟨f, h3, h⟩ := bnd_eq_some h
      obtain ⟨M, h4, h⟩ := bnd_eq_some h
      have : v = .fn f.1 f.2 := by unfold fnOf at h3; split at h3 <;> first | (injection h3 with h3; subst h3; rfl) | cases h3
      rw [this] at h2
      exact hC c s s' o cl g args f M ho hg h1 h2 h4 h hd'
    · cases h
theorem wants_sound (A : At c s y a w) {ops : Array Oper} {o : Oper} {g : Bool} (h : s.wants ops o.guard = some g) : Region.wanted o (yielded ops a.tmps) = g := by
  unfold Region.wanted
  cases e : o.guard with
  | none => rw [e] at h; simp only [S.wants] at h; injection h
  | some jw =>
    obtain ⟨j, want⟩ := jw
    rw [e] at h
    simp only [S.wants] at h
    simp only
    cases hd : (ops[j]?).bind (·.dst) with
    | none =>
      rw [hd] at h; simp only [wantsAt] at h; injection h with h; subst h
      unfold yielded
      rw [hd]; cases want <;> rfl
    | some d =>
      rw [hd] at h; simp only [wantsAt] at h
      have hy : ∀ v u, look d s.env = some v → RV (relOf c s y) v u → (a.tmps.getD d undef) = u → True := fun _ _ _ _ _ => trivial
      unfold yielded
      rw [hd]
      simp only [Option.bind_some]
      cases hl : look d s.env with
      | none => rw [hl] at h; simp only [wantsV] at h; cases h
      | some v =>
        have hv := A.env d v hl
        rw [hl] at h
        unfold wantsV at h
        split at h
        · rename_i b e2
          injection e2 with e2; subst e2
          injection h with h; subst h
          have e3 : a.tmps.getD d undef = .bool b := hv
          cases e4 : a.tmps[d]? with
          | none => rw [Array.getD_eq_getD_getElem?, e4] at e3; cases e3
          | some u => rw [Array.getD_eq_getD_getElem?, e4] at e3; have e3 : u = .bool b := e3; subst e3; simp
        · rename_i e2
          injection e2 with e2; subst e2
          injection h with h; subst h
          obtain ⟨us, e5, e6⟩ := hv
          have e6 : us = [] := e6
          subst e6
          cases e4 : a.tmps[d]? with
          | none => cases want <;> rfl
          | some u => rw [Array.getD_eq_getD_getElem?, e4] at e5; have e5 : u = .tuple #[] := e5; subst e5; cases want <;> rfl
        · cases h
theorem ops_sound (hC : CallOk P G) {ops : Array Oper} {Q : Exit → Act → World → Prop} : ∀ {l : List Oper} {s : S} {q : S} {a : Act} {w : World}, (∀ o ∈ l, dstOk c.n o.dst = true) → evOps P G ops l (.on s) = some (.on q) → Good c s a w → (∀ a w, Good c q a w → Q .normal a w) → wpList P ops Q l a w
  | [], s, q, a, w, _, h, g, k => by
    simp only [evOps] at h; injection h with h; injection h with h; subst h
    exact k a w g
  | o :: l, s, q, a, w, hd, h, g, k => by
    rw [evOps_cons] at h
    obtain ⟨gd, h1, h⟩ := bnd_eq_some h
    obtain ⟨y, A⟩ := g
    have hw := wants_sound A h1
    unfold wpList
    rw [hw]
    cases gd with
    | true =>
      rw [if_pos rfl] at h ⊢
      obtain ⟨q1, h2, h⟩ := bnd_eq_some h
      cases e : evOp P G s o.dst o.op with
      | none => rw [e] at h2; cases h2
      | some s1 =>
        rw [e, onQ_some] at h2; injection h2 with h2; subst h2
        exact .inl (step_op hC (hd o (by simp)) e a w ⟨y, A⟩ _ _ fun a' w' g' => ops_sound hC (fun o ho => hd o (by simp [ho])) h g' k)
    | false =>
      rw [if_neg (by simp)] at h ⊢
      obtain ⟨q1, h2, h⟩ := bnd_eq_some h
      rw [onQ_some] at h2; injection h2 with h2; subst h2
      exact ops_sound hC (fun o ho => hd o (by simp [ho])) h ⟨y, A.value (v := .tup []) ⟨[], rfl, rfl⟩ (hd o (by simp))⟩ k
theorem lit_sound (hC : CallOk P G) {ops : Array Oper} {Q : Exit → Act → World → Prop} {l : List Oper} {q : S} {a : Act} {w : World} (hd : ∀ o ∈ l, dstOk c.n o.dst = true) (h : evLit P G ops l s = some (.on q)) (g : Good c s a w) (k : ∀ a w, Good c q a w → Q .normal a w) : wpList P ops Q l a w := by
  unfold evLit at h
  obtain ⟨x, h1, h⟩ := bnd_eq_some h
  obtain ⟨z, h2, h⟩ := bnd_eq_some h
  obtain ⟨⟨h3, h4⟩, h⟩ := grd_eq_some h
  obtain ⟨t, d, es, r⟩ := x
  obtain ⟨y, A⟩ := g
  have hr := lit_rest h1
  have hdd : dstOk c.n (some d) = true := by obtain ⟨o, ho, e⟩ := hr.1; rw [← e]; exact hd o ho
  refine lit_made (by rw [A.size]; exact dstOk.lt hdd) h1 h2 h4 (fun ents clock hm => ?_)
  refine ops_sound hC (fun o ho => hd o (hr.2 o ho)) h ?_ k
  exact A.mapped hm h3 hdd
end
end Go.Proofs.YtjhdikdopdcfcaaGreatDoor
namespace Go.Proofs.YtjhdikdopdcfcaaGreatDoor
open Go.RowKit
set_option linter.unusedSimpArgs false
set_option linter.unusedVariables false
def keysB (s : S) : List Nat := s.box.map (·.1)
def keysT (s : S) : List Nat := (s.tree ++ s.fro).map (·.1)
structure Agr (oB oT : Nat → Prop) (s s' : S) : Prop where
  box : ∀ b cs, look b s.box = some cs → oB b → look b s'.box = some cs
  own : ∀ p rows, s.rows (.own p) = some rows → oT p → s'.rows (.own p) = some rows
  tree : ∀ p rows, look p s.tree = some rows → oT p → look p s'.tree = some rows
  fro : s'.fro = s.fro
mutual
def inS (oB oT : Nat → Prop) : V → Prop
  | .own p => oT p
  | .inn p _ _ _ => oT p
  | .ref b _ => oB b
  | .pe base _ _ _ => inS oB oT base
  | .agg cs => inSs oB oT cs
  | .tup cs => inSs oB oT cs
  | .fn _ cs => inSs oB oT cs
  | _ => True
def inSs (oB oT : Nat → Prop) : List V → Prop
  | [] => True
  | v :: r => inS oB oT v ∧ inSs oB oT r
end
theorem inSs_app {oB oT : Nat → Prop} : ∀ {l m : List V}, inSs oB oT l → inSs oB oT m → inSs oB oT (l ++ m)
  | [], _, _, h => h
  | _ :: _, _, h, k => ⟨h.1, inSs_app h.2 k⟩
mutual
theorem inS_true : ∀ (v : V), inS (fun _ => True) (fun _ => True) v
  | .v _ => trivial
  | .nil => trivial
  | .lst _ _ => trivial
  | .own _ => trivial
  | .inn _ _ _ _ => trivial
  | .fz _ => trivial
  | .mp _ => trivial
  | .ref _ _ => trivial
  | .pe b _ _ _ => inS_true b
  | .agg cs => inSs_true cs
  | .tup cs => inSs_true cs
  | .fn _ cs => inSs_true cs
  | .dead => trivial
theorem inSs_true : ∀ (l : List V), inSs (fun _ => True) (fun _ => True) l
  | [] => trivial
  | v :: l => ⟨inS_true v, inSs_true l⟩
end
theorem constC_inS {oB oT : Nat → Prop} (x : Value) : inS oB oT (constC x) := by
  unfold constC; split <;> trivial
theorem constV_inS {oB oT : Nat → Prop} {x : Value} {v : V} (h : constV x = some v) : inS oB oT v := by
  unfold constV at h
  split at h <;> first | (injection h with h; subst h; trivial) | (cases h; done) | skip
  injection h with h; subst h
  rename_i cs
  have : ∀ l : List Value, inSs oB oT (l.map constC) := by
    intro l; induction l with
    | nil => trivial
    | cons x l ih => exact ⟨constC_inS x, ih⟩
  exact this cs.toList
section
variable {c : Ctx} {s : S} {y : Lay}
mutual
theorem RV.inS : ∀ {v : V} {u : Value}, RV (relOf c s y) v u → inS (· ∈ keysB s) (· ∈ keysT s) v
  | .v _, _, _ => trivial
  | .nil, _, _ => trivial
  | .lst _ _, _, _ => trivial
  | .own p, _, h => h.1
  | .inn p _ _ _, _, h => h.1
  | .fz _, _, _ => trivial
  | .mp _, _, _ => trivial
  | .ref b _, _, h => h.1
  | .pe b _ _ _, _, h => by obtain ⟨ub, h1, _⟩ := h; exact RV.inS (v := b) h1
  | .agg _, _, h => by obtain ⟨us, _, h2⟩ := h; exact RVs.inSs h2
  | .tup _, _, h => by obtain ⟨us, _, h2⟩ := h; exact RVs.inSs h2
  | .fn _ _, _, h => by obtain ⟨us, _, h2⟩ := h; exact RVs.inSs h2
  | .dead, _, _ => trivial
theorem RVs.inSs : ∀ {vs : List V} {us : List Value}, RVs (relOf c s y) vs us → inSs (· ∈ keysB s) (· ∈ keysT s) vs
  | [], _, _ => trivial
  | _ :: _, _, h => by obtain ⟨u, q, _, h2, h3⟩ := h; exact ⟨RV.inS h2, RVs.inSs h3⟩
end
end
theorem bnd_mono {α β : Type} {x x' : Option α} {f f' : α → Option β} {b : β} (hx : ∀ a, x = some a → x' = some a) (hf : ∀ a, x = some a → f a = some b → f' a = some b) (h : bnd x f = some b) : bnd x' f' = some b := by
  obtain ⟨a, h1, h2⟩ := bnd_eq_some h
  rw [hx a h1]; exact hf a h1 h2
theorem grd_mono {α : Type} {c : Prop} [Decidable c] {x x' : Option α} {b : α} (hx : x = some b → x' = some b) (h : grd c x = some b) : grd c x' = some b := by
  obtain ⟨h1, h2⟩ := grd_eq_some h
  rw [grd_pos _ h1]; exact hx h2
section
variable {P : Program} {oB oT : Nat → Prop} {s s' : S}
theorem Agr.rows (A : Agr oB oT s s') {x : V} {r : List (List D)} (i : inS oB oT x) (h : s.rows x = some r) : s'.rows x = some r := by
  cases x <;> first | exact h | exact A.own _ _ h i | exact bnd_mono (fun _ h => A.tree _ _ h i) (fun _ _ h => h) h
theorem Agr.under (A : Agr oB oT s s') {base : V} {k i j : Nat} {d : D} : s'.under base k i j d = s.under base k i j d := by
  cases d with
  | a x => rfl
  | gone => rfl
  | l rows => cases base <;> first | rfl | simp only [S.under, A.fro]
theorem Agr.underL (A : Agr oB oT s s') {base : V} {k i : Nat} : ∀ {l : List D} {j : Nat}, YtjhdikdopdcfcaaGreatDoor.underL s' base k i j l = YtjhdikdopdcfcaaGreatDoor.underL s base k i j l
  | [], _ => rfl
  | d :: l, j => by simp only [YtjhdikdopdcfcaaGreatDoor.underL, A.under, Agr.underL A]
theorem Agr.load (A : Agr oB oT s s') {t : TypeId} {p v : V} (i : inS oB oT p) (h : s.load P t p = some v) : s'.load P t p = some v := by
  cases p <;> simp only [S.load] at h ⊢ <;> try (cases h; done)
  case ref b off => exact bnd_mono (fun _ h => h) (fun g _ h => bnd_mono (fun cs h => A.box b cs h i) (fun _ _ h => h) h) h
  case pe base k i0 off =>
    refine bnd_mono (fun _ h => h) (fun g _ h => bnd_mono (fun r h => A.rows (x := base) i h) (fun r _ h => bnd_mono (fun _ h => h) (fun r _ h => grd_mono (fun h => ?_) h) h) h) h
    have e : ∀ j, s'.under base k i0 j = s.under base k i0 j := fun j => funext fun d => A.under
    unfold S.loadRow at h ⊢
    rw [e, A.underL]; exact h
theorem Agr.slice (A : Agr oB oT s s') {x : V} {lo hi : Option V} {d : TypeDesc} : sliceV P s' x lo hi d = sliceV P s x lo hi d := by
  unfold sliceV
  split
  · rfl
  · congr 1
    unfold sliceL
    cases x <;> first | rfl | simp only [A.fro]
  · rfl
theorem Agr.conv (A : Agr oB oT s s') {x v : V} {d0 d : TypeDesc} (i : inS oB oT x) (h : convD P s x d0 d = some v) : convD P s' x d0 d = some v := by
  have bytes : ∀ x, inS oB oT x → bytesV P s x d0 = some v → bytesV P s' x d0 = some v := fun x i h => by
    unfold bytesV at h ⊢
    exact bnd_mono (fun _ h => h) (fun _ _ h => bnd_mono (fun _ h => h) (fun _ _ h => grd_mono (fun h => bnd_mono (fun r h => A.rows i h) (fun _ _ h => h) h) h) h) h
  unfold convD at h ⊢
  split at h
  · exact h
  · cases x with
    | v y => cases y <;> first | exact h | cases h
    | _ => exact bytes _ i h
  · cases h
theorem Agr.indexAddr (A : Agr oB oT s s') {x : V} {i : Int} {e : TypeId} {n : Option Nat} {v : V} (hi : inS oB oT x) (h : indexAddrV P s x i e n = some v) : indexAddrV P s' x i e n = some v := by
  cases n with
  | some n => exact h
  | none => exact bnd_mono (fun _ h => A.rows hi h) (fun _ _ h => h) h
def SameAt (oB oT : Nat → Prop) (s s' : S) (x : Operand) : Prop := ∀ v, s.ev x = some v → s'.ev x = some v ∧ inS oB oT v
theorem evs_same : ∀ {l : List Operand} {vs : List V}, (∀ x ∈ l, SameAt oB oT s s' x) → mapSome s.ev l = some vs → mapSome s'.ev l = some vs ∧ inSs oB oT vs
  | [], vs, _, h => by simp only [mapSome] at h ⊢; injection h with h; subst h; exact ⟨rfl, trivial⟩
  | x :: l, vs, E, h => by
    simp only [mapSome] at h ⊢
    obtain ⟨v, h1, h⟩ := bnd_eq_some h
    obtain ⟨r, h2, h⟩ := bnd_eq_some h
    injection h with h; subst h
    obtain ⟨k1, k2⟩ := E x List.mem_cons_self v h1
    obtain ⟨k3, k4⟩ := evs_same (fun z hz => E z (List.mem_cons_of_mem _ hz)) h2
    rw [k1, k3]; exact ⟨rfl, k2, k4⟩
theorem pairs_same : ∀ {l : List (Nat × Operand)} {vs : List (Nat × V)}, (∀ x ∈ l, SameAt oB oT s s' x.2) → mapSome (evPair s) l = some vs → mapSome (evPair s') l = some vs
  | [], vs, _, h => h
  | x :: l, vs, E, h => by
    simp only [mapSome] at h ⊢
    refine bnd_mono (fun a h => bnd_mono (fun v h => (E x List.mem_cons_self v h).1) (fun _ _ h => h) h) (fun a _ h => bnd_mono (fun b h => pairs_same (fun z hz => E z (List.mem_cons_of_mem _ hz)) h) (fun _ _ h => h) h) h
theorem opt_same {x : Option Operand} {v : Option V} (E : ∀ y, x = some y → SameAt oB oT s s' y) (h : evOptOp s x = some v) : evOptOp s' x = some v := by
  cases x with
  | none => exact h
  | some x => exact bnd_mono (fun v h => (E x rfl v h).1) (fun _ _ h => h) h
theorem valOp_ev {G : List (FuncId × Bool × Mean)} {d : Option Nat} {op : Op} {v : V} (h : valOp P s op = some v) : evOp P G s d op = some (s.put d v) := by
  have key : ∀ (x : Option V), x = some v → bnd x (fun v => some (s.put d v)) = some (s.put d v) := fun x e => by rw [e]; rfl
  cases op <;> simp only [valOp] at h <;> try (cases h; done)
  case slice t x lo hi mx =>
    cases mx with
    | some m => cases h
    | none =>
      simp only [valOp] at h
      obtain ⟨vx, h1, h5⟩ := bnd_eq_some h
      obtain ⟨vl, h2, h6⟩ := bnd_eq_some h5
      obtain ⟨vh, h3, h7⟩ := bnd_eq_some h6
      obtain ⟨dd, h4, h8⟩ := bnd_eq_some h7
      simp only [evOp, h1, h2, h3, h4, bnd_some]
      cases vx
      case own p =>
        show cutS P s d p vl vh dd (look p s.fro) = _
        cases hf : look p s.fro with
        | some r => simp only [cutS]; rw [h8]; rfl
        | none =>
          exfalso
          unfold sliceV at h8
          split at h8
          · cases h8
          · obtain ⟨_, h9⟩ := grd_eq_some h8
            simp only [sliceL] at h9
            rw [hf] at h9; cases h9
          · cases h8
      all_goals (simp only [sliceS]; rw [h8]; rfl)
  case build t ps =>
    simp only [evOp]; rw [← key _ h]; simp only [bnd_assoc]
    congr 1; funext d'; congr 1; funext fs
    unfold grd
    split
    · simp only [bnd_assoc]; rfl
    · rfl
  case convert t0 t x =>
    obtain ⟨vx, h1, h⟩ := bnd_eq_some h
    obtain ⟨d0, h2, h⟩ := bnd_eq_some h
    obtain ⟨dd, h3, h⟩ := bnd_eq_some h
    simp only [evOp, h1, h2, h3, bnd_some]
    cases dd <;> first | (simp only [convD] at h; cases h; done) | (simp only [convS]; rw [h]; rfl)
  case call c =>
    obtain ⟨args, h1, h⟩ := bnd_eq_some h
    simp only [evOp, h1, bnd_some]
    unfold valCall at h
    split at h
    · rename_i b hb
      rw [hb]
      unfold valMM at h
      split at h
      · injection h with h; subst h; rfl
      · injection h with h; subst h; rfl
      · cases h
    · cases h
  all_goals (simp only [evOp]; rw [← key _ h]; try simp only [bnd_assoc])
theorem valOp_agr (A : Agr oB oT s s') {op : Op} {v : V} (E : ∀ x ∈ op.operands.toList, SameAt oB oT s s' x) (h : valOp P s op = some v) : valOp P s' op = some v := by
  cases op <;> try (simp only [valOp] at h; done)
  case move x => exact (E x (by simp [Op.operands]) v h).1
  case assign x => exact (E x (by simp [Op.operands]) v h).1
  case pick c x y =>
    refine bnd_mono (fun v h => (E c (by simp [Op.operands]) v h).1) (fun _ _ h => bnd_mono (fun _ h => h) (fun b _ h => ?_) h) h
    cases b
    · exact (E y (by simp [Op.operands]) v h).1
    · exact (E x (by simp [Op.operands]) v h).1
  case build t ps => exact bnd_mono (fun _ h => h) (fun _ _ h => bnd_mono (fun _ h => h) (fun _ _ h => grd_mono (fun h => bnd_mono (fun _ h => h) (fun _ _ h => bnd_mono (fun _ h => pairs_same (fun x hx => E x.2 (by simp only [Op.operands]; exact List.mem_map.2 ⟨x, hx, rfl⟩)) h) (fun _ _ h => h) h) h) h) h) h
  case load t p => exact bnd_mono (fun v h => (E p (by simp [Op.operands]) v h).1) (fun v h1 h => A.load (E p (by simp [Op.operands]) v h1).2 h) h
  case nilCheck x => exact bnd_mono (fun v h => (E x (by simp [Op.operands]) v h).1) (fun _ _ h => h) h
  case binOp op t x y t' => exact bnd_mono (fun v h => (E x (by simp [Op.operands]) v h).1) (fun _ _ h => bnd_mono (fun v h => (E y (by simp [Op.operands]) v h).1) (fun _ _ h => h) h) h
  case unOp op t x => exact bnd_mono (fun v h => (E x (by simp [Op.operands]) v h).1) (fun _ _ h => h) h
  case convert t0 t x => exact bnd_mono (fun v h => (E x (by simp [Op.operands]) v h).1) (fun v h1 h => bnd_mono (fun _ h => h) (fun _ _ h => bnd_mono (fun _ h => h) (fun _ _ h => A.conv (E x (by simp [Op.operands]) v h1).2 h) h) h) h
  case slice t x lo hi mx =>
    cases mx with
    | some m => cases h
    | none => exact bnd_mono (fun v h => (E x (by simp [Op.operands]) v h).1) (fun _ _ h => bnd_mono (fun _ h => opt_same (fun y hy => E y (by subst hy; simp [Op.operands])) h) (fun _ _ h => bnd_mono (fun _ h => opt_same (fun y hy => E y (by subst hy; simp [Op.operands])) h) (fun _ _ h => bnd_mono (fun _ h => h) (fun _ _ h => by rw [A.slice]; exact h) h) h) h) h
  case fieldAddr t x f => exact bnd_mono (fun v h => (E x (by simp [Op.operands]) v h).1) (fun _ _ h => h) h
  case field t x f => exact bnd_mono (fun v h => (E x (by simp [Op.operands]) v h).1) (fun _ _ h => h) h
  case indexAddr t x i => exact bnd_mono (fun v h => (E x (by simp [Op.operands]) v h).1) (fun v h1 h => bnd_mono (fun v h => (E i (by simp [Op.operands]) v h).1) (fun _ _ h => bnd_mono (fun _ h => h) (fun _ _ h => bnd_mono (fun _ h => h) (fun _ _ h => A.indexAddr (E x (by simp [Op.operands]) v h1).2 h) h) h) h) h
  case index t x i => exact bnd_mono (fun v h => (E x (by simp [Op.operands]) v h).1) (fun _ _ h => bnd_mono (fun v h => (E i (by simp [Op.operands]) v h).1) (fun _ _ h => h) h) h
  case extract x i => exact bnd_mono (fun v h => (E x (by simp [Op.operands]) v h).1) (fun _ _ h => h) h
  case makeFunc fn first cap => exact bnd_mono (fun _ h => (evs_same (fun x hx => E x (by simp only [Op.operands, Array.toList_append]; exact List.mem_append_right _ hx)) h).1) (fun _ _ h => h) h
  case call c => exact bnd_mono (fun _ h => (evs_same (fun x hx => E x (by simp only [Op.operands, Call.operands, Array.toList_append]; exact List.mem_append_right _ hx)) h).1) (fun _ _ h => h) h
  all_goals (first | (simp only [valOp] at h; cases h; done) | skip)
end
section
variable {P : Program} {oB oT : Nat → Prop} {s s' : S}
mutual
theorem lendV_agr (A : Agr oB oT s s') : ∀ {c : Lend} {v : V} {r : V × Lend}, inS oB oT v → lendV s c v = some r → lendV s' c v = some r
  | c, .v _, r, _, h => h
  | c, .ref _ _, r, _, h => h
  | c, .agg cs, r, i, h => by simp only [lendV] at h ⊢; exact bnd_mono (fun _ h => lendL_agr A i h) (fun _ _ h => h) h
  | c, .fn f cs, r, i, h => by simp only [lendV] at h ⊢; exact bnd_mono (fun _ h => lendL_agr A i h) (fun _ _ h => h) h
  | c, .nil, r, _, h => h
  | c, .lst _ _, r, _, h => h
  | c, .fz _, r, _, h => h
  | c, .mp _, r, _, h => h
  | c, .own p, r, i, h => by simp only [lendV] at h ⊢; exact bnd_mono (fun _ h => A.rows (x := .own p) i h) (fun _ _ h => h) h
  | c, .inn p i1 j1 k1, r, i, h => by simp only [lendV] at h ⊢; exact bnd_mono (fun _ h => A.rows (x := .inn p i1 j1 k1) i h) (fun _ _ h => h) h
  | c, .pe _ _ _ _, r, _, h => h
  | c, .tup _, r, _, h => h
  | c, .dead, r, _, h => h
theorem lendL_agr (A : Agr oB oT s s') : ∀ {c : Lend} {vs : List V} {r : List V × Lend}, inSs oB oT vs → lendL s c vs = some r → lendL s' c vs = some r
  | c, [], r, _, h => h
  | c, v :: vs, r, i, h => by
    simp only [lendL] at h ⊢
    exact bnd_mono (fun _ h => lendV_agr A i.1 h) (fun _ _ h => bnd_mono (fun _ h => lendL_agr A i.2 h) (fun _ _ h => h) h) h
end
theorem effCall_agr (A : Agr oB oT s s') {M : Mean} {d : Nat} {args : List V} {e : Eff} (i : inSs oB oT args) (h : effCall M s d args = some e) : effCall M s' d args = some e :=
  bnd_mono (fun _ h => lendL_agr A i h) (fun _ _ h => h) h
theorem addTrees_eff {src : List V} {box : List Nat} {t : Nat} : ∀ {rt : List (Nat × List (List D))} {s : S}, freshAll s (effTrees t rt) = true → addTrees ⟨src, box, []⟩ t rt s = some { s with tree := (effTrees t rt).reverse ++ s.tree }
  | [], s, _ => rfl
  | (q, rows) :: r, s, h => by
    simp only [effTrees, freshAll, Bool.and_eq_true, decide_eq_true_eq] at h
    simp only [addTrees]
    have hn : nameOf ⟨src, box, []⟩ t q = 1000 * (t + 1) + q := rfl
    rw [if_neg (by simp), hn, grd_pos _ h.1, addTrees_eff h.2]
    simp only [effTrees, List.reverse_cons, List.append_assoc]
    rfl
theorem callX_false (M : Mean) (s : S) (dst : Option Nat) (args : List V) : callX false M s dst args = callV false M s dst args := by
  unfold callX; split
  · rw [if_neg (by simp)]
  · rfl
theorem effCall_ev {M : Mean} {s : S} {d : Nat} {args : List V} {e : Eff} (h : effCall M s d args = some e) (hf : freshAll s e.tree = true) : callV false M s (some d) args = some (s.app (some d) e) := by
  unfold effCall at h
  obtain ⟨x, h1, h⟩ := bnd_eq_some h
  obtain ⟨h2, h⟩ := grd_eq_some h
  obtain ⟨r, h3, h⟩ := bnd_eq_some h
  obtain ⟨h4, h⟩ := grd_eq_some h
  obtain ⟨v, h5, h⟩ := bnd_eq_some h
  injection h with h; subst h
  obtain ⟨vs, src, box, tree⟩ := x
  obtain ⟨rv, rb, rt⟩ := r
  simp only [Bool.and_eq_true, List.isEmpty_iff] at h2 h4
  obtain ⟨rfl, rfl⟩ := h2
  subst h4
  unfold callV lendA
  rw [if_neg (by simp), h1, bnd_some]
  simp only [lendBoxes, bnd_some, lentTrees]
  rw [grd_pos _ (by rfl), h3, bnd_some]
  refine backX_of ?_
  unfold S.back
  simp only [backTrees, backBoxes, bnd_some, Option.getD_some]
  rw [addTrees_eff hf, bnd_some, h5, bnd_some]
  rfl
end
end Go.Proofs.YtjhdikdopdcfcaaGreatDoor
