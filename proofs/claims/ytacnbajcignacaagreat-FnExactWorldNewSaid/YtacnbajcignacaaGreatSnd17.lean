/-
  Soundness of the evaluator, seventeenth part: a call.
-/
import Derived.Test.YtacnbajcignacaaGreatSnd16
namespace Go.Proofs.YtacnbajcignacaaGreat
open Go.RowKit
set_option linter.unusedSimpArgs false
set_option linter.unusedVariables false

theorem boxPs_keys (bl : Nat → Nat) (T : Nat → TypeId) (us : Nat → Array Value) (l : List (Nat × List V)) : boxPs bl T us l = (l.map (·.1)).map fun b => rowP (bl b) (T b) (us b) := by
  unfold boxPs; rw [List.map_map]; rfl
theorem treePs_keys (hd : Nat → Value) {l : List (Nat × List (List D))} (n : (l.map (·.1)).Nodup) : treePs hd l = (l.map (·.1)).map fun p => ownP (hd p) ((look p l).getD []) := by
  unfold treePs
  rw [map_look [] n (f := fun x => ownP (hd x.1) x.2)]
theorem perm5 {α : Type} (A B C D Z : List α) : ((A ++ B) ++ ((C ++ D) ++ Z)).Perm (A ++ (C ++ (B ++ (D ++ Z)))) := by
  rw [List.append_assoc, List.append_assoc]
  refine List.Perm.append_left _ ?_
  rw [← List.append_assoc, ← List.append_assoc C]
  exact List.Perm.append_right _ List.perm_append_comm
theorem range_map {α : Type} {l : List Nat} {f : Nat → α} {g : Nat → α} (h : ∀ i b, l[i]? = some b → f i = g b) : (List.range' 0 l.length).map f = l.map g := by
  apply List.ext_getElem?
  intro i
  rw [List.getElem?_map, List.getElem?_map]
  by_cases hi : i < l.length
  · rw [List.getElem?_range' hi, List.getElem?_eq_getElem hi]
    simp only [Option.map_some, Nat.zero_add, Nat.one_mul]
    rw [h i _ (List.getElem?_eq_getElem hi)]
  · rw [List.getElem?_eq_none (by simpa using hi), List.getElem?_eq_none (by simpa using hi)]; rfl
section
variable {P : Program} {c : Ctx} {s s' : S} {y : Lay} {a : Act} {w : World}
theorem call_back (A : At c s y a w) {ld : Lend} {t : Option Nat} {SU : List Value} {R : List Pc} {K' : Nat → Obj → Prop} {L' : List Pc} {hK'} {src' : Nat → Value} {n' : Nat} {r : Res} {y1 : Lay} {u : Value} {w' : World}
    (o : ld.ok (relOf c s y) s SU) (hlb : ∀ b ∈ ld.box, b ∈ s.box.map (·.1)) (hlt : ∀ p ∈ ld.tree, p ∈ s.tree.map (·.1)) (hm : noMix ld = true) (hst : ld.src.all stable = true → K' = c.K) (hsrc : ∀ j, src' j = SU[j]?.getD undef)
    (hval : RV (relOf (Ctx.mk c.W L' K' src' n' hK' c.bF c.hF) (resS r.box r.tree) y1) r.val u) (hbox : ∀ b cs, (b, cs) ∈ (resS r.box r.tree).box → RVs (relOf (Ctx.mk c.W L' K' src' n' hK' c.bF c.hF) (resS r.box r.tree) y1) cs (y1.us b).toList)
    (hnt : (r.tree.map (·.1)).Nodup) (hlen : r.box.length = ld.box.length) (hbl : ∀ i b, ld.box[i]? = some b → y1.bl i = y.bl b) (hhd : ∀ q p, ld.tree[q]? = some p → y1.hd q = y.hd p)
    (S0 : St c.W w' (boxPs y1.bl y1.T y1.us (withIdx 0 r.box) ++ (treePs y1.hd r.tree ++ (((s.box.map (·.1)).filter fun k => !ld.box.contains k).map (fun b => rowP (y.bl b) (y.T b) (y.us b)) ++ (((s.tree.map (·.1)).filter fun k => !ld.tree.contains k).map (fun p => ownP (y.hd p) ((look p s.tree).getD [])) ++ (froPs y.w0 y.F s.fro ++ c.L))))))
    (hd' : dstOk c.n t = true) (h : s.back t ld r = some s') : ∃ y', At c s' y' (a.put t u) w' := by
  unfold S.back at h
  obtain ⟨s3, h3, h⟩ := bnd_eq_some h
  obtain ⟨s4, h4, h⟩ := bnd_eq_some h
  obtain ⟨v, h5, h⟩ := bnd_eq_some h
  injection h with h; subst h
  generalize ht : t.getD 0 = T at h3 h4 h5
  have An := A.nt
  rw [List.map_append, List.nodup_append] at An
  -- the lists handed over
  obtain ⟨b1, b2⟩ := backTrees_tree (rt := r.tree) (i := 0) o.nt hlt An.1
  have bk := backTrees_keys r.tree ld.tree 0 s
  have bf := backTrees_fro r.tree ld.tree 0 s
  -- the boxes
  obtain ⟨c1, c2, c3, c4, c5, c6⟩ := backBoxes_spec h3 o.nb (by rw [bk]; exact hlb) (by rw [bk]; exact A.nb)
  -- the new lists
  have inj : ∀ q q', nameOf ld T q = nameOf ld T q' → ¬ q < ld.tree.length → ¬ q' < ld.tree.length → q = q' := by
    intro q q' e h1 h2
    unfold nameOf at e
    rw [List.getElem?_eq_none (by omega), List.getElem?_eq_none (by omega)] at e
    simp only [nameIn] at e; omega
  obtain ⟨d1, d2, d3, d4, d5, d6, d7⟩ := addTrees_spec h4 hnt (by rw [c2]; exact b1) inj
  have hnew : ∀ q, ¬ q < ld.tree.length → nameOf ld T q = 1000 * (T + 1) + q := fun q h1 => by
    unfold nameOf; rw [List.getElem?_eq_none (by omega)]; rfl
  have hold : ∀ q p, ld.tree[q]? = some p → nameOf ld T q = p := fun q p e => by unfold nameOf; rw [e]; rfl
  -- a name is new
  let new : Nat → Prop := fun n => ∃ q, q ∈ r.tree.map (·.1) ∧ ¬ q < ld.tree.length ∧ nameOf ld T q = n
  have newF : ∀ n, new n → look n (backTrees r.tree ld.tree 0 s).tree = none ∧ look n s.fro = none := by
    rintro n ⟨q, h1, h2, rfl⟩
    obtain ⟨rows, hr⟩ := key_look.1 h1
    obtain ⟨_, k2, k3, _⟩ := d6 q rows (look_mem hr) h2
    rw [c2] at k2; rw [c3, bf] at k3
    exact ⟨k2, k3⟩
  classical
  let y2 : Lay := { y with T := fun b => match pos b ld.box 0 with | some i => y1.T i | none => y.T b, us := fun b => match pos b ld.box 0 with | some i => y1.us i | none => y.us b, hd := fun n => if new n then y1.hd (n - 1000 * (T + 1)) else y.hd n }
  have hd_old : ∀ n, ¬ new n → y2.hd n = y.hd n := fun n h1 => if_neg h1
  have hd_new : ∀ q, q ∈ r.tree.map (·.1) → ¬ q < ld.tree.length → y2.hd (nameOf ld T q) = y1.hd q := fun q h1 h2 => by
    show (if new (nameOf ld T q) then _ else _) = _
    have e0 : nameOf ld T q - 1000 * (T + 1) = q := by rw [hnew q h2]; exact Nat.add_sub_cancel_left _ _
    rw [if_pos ⟨q, h1, h2, rfl⟩, e0]
  have k4 : ∀ n, n ∈ s4.tree.map (·.1) ↔ n ∈ (backTrees r.tree ld.tree 0 s).tree.map (·.1) ∨ new n := fun n => by rw [d5 n, c2]
  have f4 : s4.fro = s.fro := d3.trans (c3.trans bf)
  -- what is not gone is as it was
  have keep : ∀ n, n ∈ (s.tree ++ s.fro).map (·.1) → (∀ j, ld.tree[j]? = some n → look (0 + j) r.tree = none → False) → n ∈ (s4.tree ++ s4.fro).map (·.1) ∧ y2.hd n = y.hd n := by
    intro n hn hg
    have hin : n ∈ (backTrees r.tree ld.tree 0 s).tree.map (·.1) ∨ n ∈ s.fro.map (·.1) := by
      rw [List.map_append, List.mem_append] at hn
      rcases hn with hn | hn
      · left
        rw [key_look, b2 n]
        cases e : pos n ld.tree 0 with
        | none => exact key_look.1 hn
        | some m =>
          obtain ⟨d, e1, e2⟩ := pos_some e
          have : m = d := by omega
          subst this
          simp only
          cases e3 : look m r.tree with
          | some rows => exact ⟨rows, rfl⟩
          | none => exact (hg m e2 (by rw [Nat.zero_add]; exact e3)).elim
      · exact .inr hn
    refine ⟨?_, hd_old n fun hw => ?_⟩
    · rw [List.map_append, List.mem_append, f4]
      exact hin.imp (fun h => (k4 n).2 (.inl h)) _root_.id
    · obtain ⟨f1, f2⟩ := newF n hw
      rcases hin with h1 | h1
      · obtain ⟨x, hx⟩ := key_look.1 h1; rw [f1] at hx; cases hx
      · obtain ⟨x, hx⟩ := key_look.1 h1; rw [f2] at hx; cases hx
  have kb : s4.box.map (·.1) = s.box.map (·.1) := by rw [d2, c4, bk]
  have trans : ∀ {v : V} {u : Value}, Left r.tree ld.tree 0 v → RV (relOf c s y) v u → RV (relOf c s4 y2) v u := by
    intro v u hl hv
    refine RV.sub (ρ := relOf c s y) (ρ' := relOf c s4 y2) rfl (fun b o ⟨p, h1, h2, h3⟩ => ⟨p, by rw [f4]; exact h1, h2, h3⟩) rfl (fun b hb => ⟨by show b ∈ s4.box.map (·.1); rw [kb]; exact hb, rfl⟩) (fun q hq hin => ?_) hv
    exact keep q hin fun j e1 e2 => by have := hl j q e1 e2; rw [this] at hq; cases hq
  have B : Back (relOf (Ctx.mk c.W L' K' src' n' hK' c.bF c.hF) (resS r.box r.tree) y1) (relOf c s4 y2) ld T SU := by
    refine ⟨fun j u v e1 e2 => ?_, hst, fun i b hi e => ?_, fun q hq => ?_⟩
    · obtain ⟨u0, e3, e4⟩ := o.src.get e1
      have : u0 = u := by rw [← e2]; show u0 = src' j; rw [hsrc j, e3]; rfl
      subst this
      refine trans (fun j' p e5 _ => ?_) e4
      have := List.all_eq_true.1 (List.all_eq_true.1 hm p (List.mem_of_getElem? e5)) v (List.mem_of_getElem? e1)
      simpa using this
    · refine ⟨by show b ∈ s4.box.map (·.1); rw [kb]; exact hlb b (List.mem_of_getElem? e), ?_⟩
      exact (hbl i b e).symm
    · have hq : q ∈ (r.tree ++ ([] : List (Nat × List (List D)))).map (·.1) := hq
      rw [List.append_nil] at hq
      by_cases hlt' : q < ld.tree.length
      · have e := List.getElem?_eq_getElem hlt'
        rw [hold q _ e]
        have hp := pos_get (n := 0) o.nt e
        rw [Nat.zero_add] at hp
        have hin : ld.tree[q] ∈ (backTrees r.tree ld.tree 0 s).tree.map (·.1) := by
          rw [key_look, b2, hp]; exact key_look.1 hq
        refine ⟨?_, ?_⟩
        · show _ ∈ (s4.tree ++ s4.fro).map (·.1)
          rw [List.map_append, List.mem_append]; exact .inl ((k4 _).2 (.inl hin))
        · show y2.hd _ = y1.hd q
          rw [hd_old _ fun hw => by obtain ⟨x, hx⟩ := key_look.1 hin; rw [(newF _ hw).1] at hx; cases hx]
          exact (hhd q _ e).symm
      · refine ⟨?_, hd_new q hq hlt'⟩
        show _ ∈ (s4.tree ++ s4.fro).map (·.1)
        rw [List.map_append, List.mem_append]; exact .inl ((k4 _).2 (.inr ⟨q, hq, hlt', rfl⟩))
  have A4 : At c s4 y2 a w' := by
    refine ⟨A.defers, A.size, ?_, fun t' v' e => ?_, fun b cs hb => ?_, fun p rows hp => ?_, by rw [kb]; exact A.nb, ?_, A.fix.1, fun i g1 g2 => ⟨(A.fix.2 i g1 g2).1, (hd_old i fun ⟨q, h1, h2, h3⟩ => ?_).trans (A.fix.2 i g1 g2).2⟩⟩
    · -- the pieces
      have hperm : (boxPs y2.bl y2.T y2.us s4.box ++ (treePs y2.hd s4.tree ++ (froPs y2.w0 y2.F s4.fro ++ c.L))).Perm (boxPs y1.bl y1.T y1.us (withIdx 0 r.box) ++ (treePs y1.hd r.tree ++ (((s.box.map (·.1)).filter fun k => !ld.box.contains k).map (fun b => rowP (y.bl b) (y.T b) (y.us b)) ++ (((s.tree.map (·.1)).filter fun k => !ld.tree.contains k).map (fun p => ownP (y.hd p) ((look p s.tree).getD [])) ++ (froPs y.w0 y.F s.fro ++ c.L))))) := by
        have p1 : (boxPs y2.bl y2.T y2.us s4.box).Perm (boxPs y1.bl y1.T y1.us (withIdx 0 r.box) ++ ((s.box.map (·.1)).filter fun k => !ld.box.contains k).map (fun b => rowP (y.bl b) (y.T b) (y.us b))) := by
          rw [boxPs_keys, boxPs_keys, kb, withIdx_keys, hlen]
          refine ((minus_perm A.nb o.nb hlb).map _).trans ?_
          rw [List.map_append]
          have e1 : ld.box.map (fun b => rowP (y2.bl b) (y2.T b) (y2.us b)) = (List.range' 0 ld.box.length).map fun b => rowP (y1.bl b) (y1.T b) (y1.us b) := by
            refine (range_map fun i b e => ?_).symm
            have hp := pos_get (n := 0) o.nb e
            rw [Nat.zero_add] at hp
            show rowP (y1.bl i) (y1.T i) (y1.us i) = rowP (y.bl b) (match pos b ld.box 0 with | some i => y1.T i | none => y.T b) (match pos b ld.box 0 with | some i => y1.us i | none => y.us b)
            rw [hp, hbl i b e]
          rw [e1]
          refine List.Perm.append_left _ (List.Perm.of_eq (List.map_congr_left fun b hb => ?_))
          have hnb : b ∉ ld.box := by have := (List.mem_filter.1 hb).2; simpa using this
          have hp : pos b ld.box 0 = none := by
            cases e : pos b ld.box 0 with
            | none => rfl
            | some i => obtain ⟨d, _, e2⟩ := pos_some e; exact absurd (List.mem_of_getElem? e2) hnb
          show rowP (y.bl b) (match pos b ld.box 0 with | some i => y1.T i | none => y.T b) (match pos b ld.box 0 with | some i => y1.us i | none => y.us b) = _
          rw [hp]
        have p2 : (treePs y2.hd s4.tree).Perm (treePs y1.hd r.tree ++ ((s.tree.map (·.1)).filter fun k => !ld.tree.contains k).map (fun p => ownP (y.hd p) ((look p s.tree).getD []))) := by
          rw [treePs_keys _ d4, treePs_keys _ hnt]
          have knew : ∀ n, n ∈ (backTrees r.tree ld.tree 0 s).tree.map (·.1) ↔ (∃ q, q ∈ r.tree.map (·.1) ∧ ld.tree[q]? = some n) ∨ (n ∈ s.tree.map (·.1) ∧ n ∉ ld.tree) := by
            intro n
            rw [key_look, b2 n]
            cases e : pos n ld.tree 0 with
            | none =>
              have hn := pos_none e
              simp only
              rw [← key_look]
              constructor
              · intro h1; exact .inr ⟨h1, hn⟩
              · rintro (⟨q, _, h2⟩ | h1)
                · exact absurd (List.mem_of_getElem? h2) hn
                · exact h1.1
            | some m =>
              obtain ⟨d, e1, e2⟩ := pos_some e
              have : m = d := by omega
              subst this
              simp only
              rw [← key_look]
              constructor
              · intro h1; exact .inl ⟨m, h1, e2⟩
              · rintro (⟨q, h1, h2⟩ | h1)
                · have h3 := pos_get (n := 0) o.nt h2
                  rw [e] at h3; injection h3 with h3
                  have : m = q := by omega
                  subst this; exact h1
                · exact absurd (List.mem_of_getElem? e2) h1.2
          have hlow : ∀ q, q ∈ r.tree.map (·.1) → q < ld.tree.length → ld.tree[q]? = some (nameOf ld T q) := fun q _ h2 => by
            rw [List.getElem?_eq_getElem h2, hold q _ (List.getElem?_eq_getElem h2)]
          have hnd : ((r.tree.map (·.1)).map (nameOf ld T) ++ (s.tree.map (·.1)).filter fun k => !ld.tree.contains k).Nodup := by
            refine List.nodup_append.2 ⟨?_, An.1.sublist List.filter_sublist, fun x hx z hz e => ?_⟩
            · rw [List.nodup_iff_pairwise_ne, List.pairwise_map]
              refine List.Pairwise.imp_of_mem (fun {q q'} h1 h2 hne e => ?_) (List.nodup_iff_pairwise_ne.1 hnt)
              by_cases l1 : q < ld.tree.length
              · by_cases l2 : q' < ld.tree.length
                · have e1 := pos_get (n := 0) o.nt (hlow q h1 l1)
                  have e2 := pos_get (n := 0) o.nt (hlow q' h2 l2)
                  rw [e, e2] at e1; injection e1 with e1; omega
                · have := (newF _ ⟨q', h2, l2, rfl⟩).1
                  have h3 := (knew (nameOf ld T q)).2 (.inl ⟨q, h1, hlow q h1 l1⟩)
                  rw [e] at h3
                  obtain ⟨x, hx⟩ := key_look.1 h3; rw [this] at hx; cases hx
              · by_cases l2 : q' < ld.tree.length
                · have := (newF _ ⟨q, h1, l1, rfl⟩).1
                  have h3 := (knew (nameOf ld T q')).2 (.inl ⟨q', h2, hlow q' h2 l2⟩)
                  rw [← e] at h3
                  obtain ⟨x, hx⟩ := key_look.1 h3; rw [this] at hx; cases hx
                · exact hne (inj q q' e l1 l2)
            · subst e
              obtain ⟨q, h1, rfl⟩ := List.mem_map.1 hx
              obtain ⟨h2, h3⟩ := List.mem_filter.1 hz
              have h3 : nameOf ld T q ∉ ld.tree := by simpa using h3
              by_cases l1 : q < ld.tree.length
              · exact h3 (List.mem_of_getElem? (hlow q h1 l1))
              · have := (newF _ ⟨q, h1, l1, rfl⟩).1
                obtain ⟨x, hx⟩ := key_look.1 ((knew _).2 (.inr ⟨h2, h3⟩)); rw [this] at hx; cases hx
          have hmem : ∀ x, x ∈ s4.tree.map (·.1) ↔ x ∈ ((r.tree.map (·.1)).map (nameOf ld T) ++ (s.tree.map (·.1)).filter fun k => !ld.tree.contains k) := by
            intro n
            rw [k4 n, knew n, List.mem_append, List.mem_filter]
            constructor
            · rintro ((⟨q, h1, h2⟩ | ⟨h1, h2⟩) | ⟨q, h1, h2, h3⟩)
              · exact .inl (List.mem_map.2 ⟨q, h1, hold q n h2⟩)
              · exact .inr ⟨h1, by simpa using h2⟩
              · exact .inl (List.mem_map.2 ⟨q, h1, h3⟩)
            · rintro (h1 | ⟨h1, h2⟩)
              · obtain ⟨q, h7, rfl⟩ := List.mem_map.1 h1
                by_cases l1 : q < ld.tree.length
                · exact .inl (.inl ⟨q, h7, hlow q h7 l1⟩)
                · exact .inr ⟨q, h7, l1, rfl⟩
              · exact .inl (.inr ⟨h1, by simpa using h2⟩)
          refine ((perm_of_mem d4 hnd hmem).map _).trans ?_
          rw [List.map_append, List.map_map]
          refine List.Perm.append (List.Perm.of_eq (List.map_congr_left fun q hq => ?_)) (List.Perm.of_eq (List.map_congr_left fun p hp => ?_))
          · obtain ⟨rows, hr⟩ := key_look.1 hq
            simp only [Function.comp, hr, Option.getD_some]
            by_cases l1 : q < ld.tree.length
            · have e := hlow q hq l1
              have hp := pos_get (n := 0) o.nt e
              rw [Nat.zero_add] at hp
              have e3 : look (nameOf ld T q) (backTrees r.tree ld.tree 0 s).tree = some rows := by rw [b2, hp]; exact hr
              rw [d7 _ _ (by rw [c2]; exact e3), hd_old _ fun hw => by rw [(newF _ hw).1] at e3; cases e3]
              rw [hhd q _ e]; rfl
            · rw [(d6 q rows (look_mem hr) l1).1, hd_new q hq l1]; rfl
          · obtain ⟨h1, h2⟩ := List.mem_filter.1 hp
            have h2 : p ∉ ld.tree := by simpa using h2
            obtain ⟨rows, hr⟩ := key_look.1 h1
            have e3 : look p (backTrees r.tree ld.tree 0 s).tree = some rows := by
              rw [b2]
              cases e : pos p ld.tree 0 with
              | none => exact hr
              | some i => obtain ⟨d, _, e2⟩ := pos_some e; exact absurd (List.mem_of_getElem? e2) h2
            rw [d7 _ _ (by rw [c2]; exact e3), hr, hd_old _ fun hw => by rw [(newF _ hw).1] at e3; cases e3]
        rw [f4]
        exact (List.Perm.append p1 (List.Perm.append p2 (List.Perm.refl _))).trans (perm5 _ _ _ _ _)
      exact S0.perm hperm.symm
    · rw [d1, c1] at e
      rcases backTrees_env e with h1 | ⟨h1, h2⟩
      · subst h1; trivial
      · exact trans h2 (A.env t' v' h1)
    · rw [d2] at hb
      rcases c6 b cs hb with ⟨i, cs0, e1, e2, e3⟩ | ⟨e1, e2⟩
      · have hp := pos_get (n := 0) o.nb e1
        rw [Nat.zero_add] at hp
        have h1 := hbox i cs0 (look_mem (show look i (withIdx 0 r.box) = some cs0 by have := withIdx_look (l := r.box) (n := 0) i; rw [Nat.zero_add] at this; rw [this]; exact e2))
        have h2 := backL_sound B e3 h1
        show RVs _ cs (match pos b ld.box 0 with | some i => y1.us i | none => y.us b).toList
        rw [hp]; exact h2
      · obtain ⟨cs0, f1, f2, f3⟩ := backTrees_box e2
        have hp : pos b ld.box 0 = none := by
          cases e : pos b ld.box 0 with
          | none => rfl
          | some i => obtain ⟨d, _, e2⟩ := pos_some e; exact absurd (List.mem_of_getElem? e2) e1
        show RVs _ cs (match pos b ld.box 0 with | some i => y1.us i | none => y.us b).toList
        rw [hp]
        have h0 := A.box b cs0 f1
        refine RVs.of (by rw [h0.len, f2]) fun k v u e3 e4 => ?_
        rcases f3 k v e3 with h6 | ⟨h6, h7⟩
        · subst h6; trivial
        · obtain ⟨u', g1, g2⟩ := h0.get h6
          rw [e4] at g1; injection g1 with g1; subst g1
          exact trans h7 g2
    · rw [f4] at hp
      show OwnD (y.w0 p) _ (y2.hd p) (y.F p)
      have := (keep p (by rw [List.map_append, List.mem_append]; exact .inr (List.mem_map.2 ⟨_, hp, rfl⟩)) (fun j e _ => An.2.2 p (hlt p (List.mem_of_getElem? e)) p (List.mem_map.2 ⟨_, hp, rfl⟩) rfl)).2
      rw [this]; exact A.fro p rows hp
    · rw [List.map_append, List.nodup_append, f4]
      refine ⟨d4, An.2.1, fun x hx z hz e => ?_⟩
      subst e
      rcases (k4 x).1 hx with h1 | h1
      · rw [key_look, b2] at h1
        cases e : pos x ld.tree 0 with
        | none => rw [e] at h1; exact An.2.2 x (key_look.2 h1) x hz rfl
        | some i => obtain ⟨d, _, e2⟩ := pos_some e; exact An.2.2 x (hlt x (List.mem_of_getElem? e2)) x hz rfl
      · obtain ⟨q, hq⟩ := key_look.1 hz
        rw [(newF x h1).2] at hq; cases hq
    · obtain ⟨rows, hr⟩ := key_look.1 h1
      have := (d6 q rows (look_mem hr) h2).2.2.2
      rw [h3] at this
      unfold parBase at g1; omega
  exact ⟨y2, A4.value (backV_sound B h5 hval) hd'⟩
end
end Go.Proofs.YtacnbajcignacaaGreat
