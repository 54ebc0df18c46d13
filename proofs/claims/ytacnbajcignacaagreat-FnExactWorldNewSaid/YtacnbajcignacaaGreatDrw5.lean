/-
  Regions in any order, fifth part: the region.
-/
import Derived.Test.YtacnbajcignacaaGreatDrw4
namespace Go.Proofs.YtacnbajcignacaaGreat
open Go.RowKit
set_option linter.unusedSimpArgs false
set_option linter.unusedVariables false

section
variable {P : Program} {G : List (FuncId × Bool × Mean)} {ops : Array Oper} {bar : List Nat} {c : Ctx}
theorem ready_iff {listed : Array Bool} {j : Nat} : j ∈ Region.ready .any ops listed ↔ listed.getD j true = false ∧ ∃ o, ops[j]? = some o ∧ ∀ e ∈ edgesOf o, listed.getD e false = true := by
  rw [mem_ready]
  refine and_congr_right fun _ => exists_congr fun o => and_congr_right fun _ => ?_
  unfold edgesOf
  simp only [List.mem_map, List.mem_filter, Array.mem_toList_iff]
  constructor
  · rintro h e ⟨x, ⟨h1, h2⟩, rfl⟩; exact h x h1 h2
  · intro h x h1 h2; exact h x.on ⟨x, ⟨h1, h2⟩, rfl⟩
theorem Good.same {c : Ctx} {s s' : S} {a : Act} {w : World} (g : Good c s a w) (hE : ∀ t v, look t s'.env = some v → look t s.env = some v) (hB : s'.box.Perm s.box) (hT : s'.tree.Perm s.tree) (hF : s'.fro = s.fro) : Good c s' a w := by
  obtain ⟨y, A⟩ := g
  have kB : ∀ b, b ∈ s'.box.map (·.1) ↔ b ∈ s.box.map (·.1) := fun b => (hB.map _).mem_iff
  have kT : ∀ b, b ∈ (s'.tree ++ s'.fro).map (·.1) ↔ b ∈ (s.tree ++ s.fro).map (·.1) := fun b => by
    rw [hF]; exact ((hT.append_right _).map _).mem_iff
  have le : (relOf c s y).le (relOf c s' y) := ⟨fun _ _ h => h, fun b o ⟨p, h1, h2⟩ => ⟨p, by rw [hF]; exact h1, h2⟩, rfl, fun b h => ⟨(kB b).2 h, rfl⟩, fun p h => ⟨(kT p).2 h, rfl⟩⟩
  refine ⟨y, A.defers, A.size, ?_, fun t v e => (A.env t v (hE t v e)).le le, fun b cs h => (A.box b cs (hB.mem_iff.1 h)).le le, fun p rows h => A.fro p rows (by rw [← hF]; exact h), (hB.map _).nodup_iff.2 A.nb, ?_, A.fix⟩
  · rw [hF]
    refine A.st.perm (List.Perm.append ?_ (List.Perm.append ?_ (List.Perm.refl _)))
    · exact (hB.map _).symm
    · exact (hT.map _).symm
  · rw [hF]
    exact ((hT.append_right s.fro).map _).nodup_iff.2 A.nt
theorem Eqv.good {s s2 : S} (h : Eqv s s2) {a : Act} {w : World} (g : Good c s a w) : Good c s2 a w :=
  g.same (fun t v e => by rw [← h.env t]; exact e) h.box h.tree h.fro
theorem Good.nd {s : S} {a : Act} {w : World} (g : Good c s a w) : Nd s := by
  obtain ⟨y, A⟩ := g
  exact ⟨A.nb, A.nt⟩
theorem Good.inS {s : S} {a : Act} {w : World} (g : Good c s a w) : ∀ r v, look r s.env = some v → inS (· ∈ keysB s) (· ∈ keysT s) v := by
  obtain ⟨y, A⟩ := g
  exact fun r v e => RV.inS (A.env r v e)
theorem split_at {l : List Pd} {i : Nat} (h : i ∈ l.map (·.i)) : ∃ l1 x l2, l = l1 ++ x :: l2 ∧ x.i = i := by
  obtain ⟨x, hx, rfl⟩ := List.mem_map.1 h
  obtain ⟨l1, l2, e⟩ := List.append_of_mem hx
  exact ⟨l1, x, l2, e, rfl⟩
theorem drw_main (hC : CallOk P G) (hO : DrawOk ops bar) (hd : ∀ o ∈ ops.toList, dstOk c.n o.dst = true) {q : S} {Q1 : Exit → Act → World → Prop} (k : ∀ a w, Good c q a w → Q1 .normal a w) :
    ∀ (fuel : Nat) (listed : Array Bool) (a : Act) (w : World) (b : Nat) (pend : List Pd) (s t tt : S),
      listed.size = ops.size → (∀ i, i < ops.size → listed.getD i false = decide (i < b ∧ i ∉ pend.map (·.i))) →
      (pend.map (·.i)).Pairwise (· < ·) → (∀ x ∈ pend, x.i < b ∧ ops[x.i]? = some x.o) → b ≤ ops.size → (b < ops.size → bar.contains b = true) →
      Seg P G ops s pend t → Eqv t tt → evDrw P G ops bar (ops.toList.drop b) b (.on tt) = some (.on q) →
      (∀ i o, listed.getD i false = true → ops.toList[i]? = some o → ∀ e ∈ edgesOf o, listed.getD e false = true) →
      pend.length + (ops.size - b) ≤ fuel → Good c s a w → wpAny P .any ops Q1 fuel listed a w := by
  intro fuel
  induction fuel with
  | zero =>
    intro listed a w b pend s t tt hsz hL hp hx hb hbar hS hE hev hcl hf g
    have hp0 : pend = [] := List.eq_nil_of_length_eq_zero (by omega)
    have hbn : b = ops.size := by omega
    subst hp0
    subst hbn
    cases hS
    rw [List.drop_eq_nil_of_le (by simp)] at hev
    simp only [evDrw] at hev
    injection hev with hev; injection hev with hev
    refine ⟨List.eq_nil_iff_forall_not_mem.2 fun j hj => ?_, k a w (hev ▸ hE.good g)⟩
    obtain ⟨h1, o, h2, _⟩ := ready_iff.1 hj
    have hlt : j < ops.size := (Array.getElem?_eq_some_iff.1 h2).1
    have h3 := hL j hlt
    simp only [List.map_nil, List.not_mem_nil, not_false_eq_true, and_true, hlt, decide_true] at h3
    rw [Array.getD_eq_getD_getElem?, Array.getElem?_eq_getElem (by omega)] at h1 h3
    rw [Option.getD_some] at h1 h3
    rw [h1] at h3; cases h3
  | succ fuel ih =>
    intro listed a w b pend s t tt hsz hL hp hx hb hbar hS hE hev hcl hf g
    have un : ∀ j, j < ops.size → listed.getD j true = listed.getD j false := fun j hj => by
      rw [Array.getD_eq_getD_getElem?, Array.getD_eq_getD_getElem?, Array.getElem?_eq_getElem (by omega)]; rfl
    refine ⟨fun hr => ?_, fun i hi => ?_⟩
    · have hno : ∀ j, j < ops.size → listed.getD j false = false → (∀ e, e < j → listed.getD e false = true) → False := fun j hj h1 h2 => by
        have : j ∈ Region.ready .any ops listed := ready_iff.2 ⟨by rw [un j hj]; exact h1, ops[j], Array.getElem?_eq_getElem hj, fun e he => h2 e (hO.back j _ (Array.getElem?_eq_getElem hj) e he)⟩
        rw [hr] at this; cases this
      cases pend with
      | cons x l =>
        exfalso
        obtain ⟨h1, h2⟩ := hx x (by simp)
        have hp' := List.pairwise_cons.1 hp
        refine hno x.i (by omega) (by rw [hL _ (by omega)]; simp) fun e he => ?_
        rw [hL e (by omega)]
        refine decide_eq_true ⟨by omega, fun hm => ?_⟩
        rw [List.map_cons, List.mem_cons] at hm
        rcases hm with hm | hm
        · omega
        · have : x.i < e := hp'.1 e hm; omega
      | nil =>
        rcases Nat.lt_or_ge b ops.size with hlt | hge
        · exfalso
          exact hno b hlt (by rw [hL b hlt]; simp) fun e he => by rw [hL e (by omega)]; simpa using he
        · have hbn : b = ops.size := by omega
          subst hbn
          cases hS
          rw [List.drop_eq_nil_of_le (by simp)] at hev
          simp only [evDrw] at hev
          injection hev with hev; injection hev with hev
          exact k a w (hev ▸ hE.good g)
    · obtain ⟨h1, o, h2, h3⟩ := ready_iff.1 hi
      have hlt : i < ops.size := (Array.getElem?_eq_some_iff.1 h2).1
      rw [un i hlt, hL i hlt] at h1
      have h3' : ∀ o, ops.toList[i]? = some o → ∀ e ∈ edgesOf o, listed.getD e false = true := fun o' ho' e he => by
        rw [Array.getElem?_toList, h2] at ho'; injection ho' with ho'; subst ho'; exact h3 e he
      have hreach : ∀ j, Reach ops.toList i j → listed.getD j false = true := fun j hr => reach_listed (L := fun j => listed.getD j false = true) hcl hr h3'
      have hunl : ∀ j, j < ops.size → listed.getD j false = false → ¬ Reach ops.toList i j := fun j hj hf hr => by
        rw [hreach j hr] at hf; cases hf
      -- the table behind this operation
      have hsz2 : (listed.setIfInBounds i true).size = ops.size := by rw [Array.size_setIfInBounds]; exact hsz
      have hget : ∀ j, j < ops.size → (listed.setIfInBounds i true).getD j false = if j = i then true else listed.getD j false := fun j hj => by
        by_cases e : j = i
        · subst e; rw [if_pos rfl, Array.getD_eq_getD_getElem?, Array.getElem?_setIfInBounds_self_of_lt (by omega)]; rfl
        · rw [if_neg e]; exact getD_set_ne false (fun e2 => e e2.symm)
      have hcl2 : ∀ j o, (listed.setIfInBounds i true).getD j false = true → ops.toList[j]? = some o → ∀ e ∈ edgesOf o, (listed.setIfInBounds i true).getD e false = true := fun j o' hj ho' e he => by
        have hjlt : j < ops.size := by
          rw [Array.getElem?_toList] at ho'; exact (Array.getElem?_eq_some_iff.1 ho').1
        have helt : e < ops.size := by
          have := hO.back j o' (by rw [← Array.getElem?_toList]; exact ho') e he; omega
        rw [hget e helt]
        rw [hget j hjlt] at hj
        by_cases e2 : e = i
        · rw [if_pos e2]
        · rw [if_neg e2]
          by_cases e3 : j = i
          · subst e3; exact h3' o' ho' e he
          · rw [if_neg e3] at hj; exact hcl j o' hj ho' e he
      by_cases hm : i ∈ pend.map (·.i)
      · obtain ⟨l1, x, l2, rfl, hxi⟩ := split_at hm
        subst hxi
        have hxb := hx x (by simp)
        have ho : o = x.o := by rw [hxb.2] at h2; injection h2 with h2; exact h2.symm
        rw [List.map_append, List.map_cons] at hp
        obtain ⟨hp1, hp2, hp3⟩ := List.pairwise_append.1 hp
        have hp4 := List.pairwise_cons.1 hp2
        have hap : ∀ y ∈ l1, x.o.apart ops y.o = true := fun y hy => by
          have hyb := hx y (by simp [hy])
          have hyx : y.i < x.i := hp3 y.i (List.mem_map.2 ⟨y, hy, rfl⟩) x.i (by simp)
          rcases hO.pair x.i y.i x.o y.o hxb.2 hyb.2 hyx with h | h
          · refine absurd h (hunl y.i (by omega) ?_)
            rw [hL y.i (by omega)]
            refine decide_eq_false fun hh => hh.2 ?_
            simp only [List.map_append, List.mem_append, List.mem_map]
            exact .inl ⟨y, hy, rfl⟩
          · exact h.2.2
        obtain ⟨hok, t2, hS2, hE2⟩ := hS.front hap g.nd g.inS
        refine pd_step hC hok hxb.2 (hd x.o (by rw [Array.mem_toList_iff]; exact Array.mem_of_getElem? hxb.2)) g fun a' w' g' => ?_
        refine ih _ a' w' b (l1 ++ l2) _ t2 tt hsz2 (fun j hj => ?_) ?_ (fun y hy => hx y ?_) hb hbar hS2 (hE2.symm.trans hE) hev hcl2 ?_ g'
        · rw [hget j hj]
          by_cases e : j = x.i
          · rw [if_pos e]; subst e
            refine (decide_eq_true ⟨hxb.1, fun hm => ?_⟩).symm
            rw [List.map_append, List.mem_append] at hm
            rcases hm with hm | hm
            · have := hp3 x.i hm x.i (by simp); omega
            · have := hp4.1 x.i hm; omega
          · rw [if_neg e, hL j hj]
            simp only [List.map_append, List.map_cons, List.mem_append, List.mem_cons]
            congr 1
            simp [e]
        · rw [List.map_append]
          exact List.pairwise_append.2 ⟨hp1, hp4.2, fun u hu v hv => hp3 u hu v (by simp [hv])⟩
        · rcases List.mem_append.1 hy with hy | hy <;> simp [hy]
        · simp only [List.length_append, List.length_cons] at hf ⊢; omega
      · have hge : b ≤ i := by
          rcases Nat.lt_or_ge i b with h | h
          · exfalso
            have h1 := of_decide_eq_false h1
            exact h1 ⟨h, hm⟩
          · exact h
        have hbl : b < ops.size := by omega
        have hbb := hbar hbl
        have hib : i = b := by
          rcases Nat.lt_or_ge b i with h | h
          · exfalso
            rcases hO.pair i b o ops[b] h2 (Array.getElem?_eq_getElem hbl) h with hr | hr
            · exact hunl b hbl (by rw [hL b hbl]; simp) hr
            · rw [hr.2.1] at hbb; cases hbb
          · omega
        subst hib
        have hp0 : pend = [] := by
          cases pend with
          | nil => rfl
          | cons x l =>
            exfalso
            have hxb := hx x (by simp)
            rcases hO.pair i x.i o x.o h2 hxb.2 hxb.1 with hr | hr
            · exact hunl x.i (by omega) (by rw [hL x.i (by omega)]; simp) hr
            · rw [hr.1] at hbb; cases hbb
        subst hp0
        cases hS
        have g2 := hE.good g
        have hdrop : ops.toList.drop i = o :: ops.toList.drop (i + 1) := by
          rw [List.drop_eq_getElem_cons (by simpa using hlt)]
          congr 1
          have := (Array.getElem?_eq_some_iff.1 h2).2
          simpa using this
        rw [hdrop, evDrw_cons, hbb] at hev
        obtain ⟨gd, h4, hev⟩ := bnd_eq_some hev
        have hdo := hd o (by rw [Array.mem_toList_iff]; exact Array.mem_of_getElem? h2)
        -- the stretch behind the bar
        have next : ∀ (s1 : S) (a' : Act) (w' : World), evDrw P G ops bar (ops.toList.drop (i + 1)) (i + 1) (.on s1) = some (.on q) → Good c s1 a' w' → wpAny P .any ops Q1 fuel (listed.setIfInBounds i true) a' w' := fun s1 a' w' hev g' => by
          obtain ⟨b', pend, t', k1, k2, k3, k4, k5, k6, k7⟩ := collect rfl hev
          have hb' : b' ≤ ops.size := by rcases k6 with k6 | k6 <;> omega
          have hlen : pend.length = b' - (i + 1) := by
            have := congrArg List.length k5; simpa using this
          refine ih _ a' w' b' pend s1 t' t' hsz2 (fun j hj => ?_) ?_ (fun x hx => ⟨?_, k7 x hx⟩) hb' k2 k3 (.refl _) k4 hcl2 ?_ g'
          · rw [hget j hj, k5, hL j hj]
            simp only [List.map_nil, List.not_mem_nil, not_false_eq_true, and_true]
            by_cases e : j = i
            · subst e; rw [if_pos rfl]
              refine (decide_eq_true ⟨by omega, fun hm => ?_⟩).symm
              have := List.mem_range'_1.1 hm; omega
            · rw [if_neg e]
              by_cases e2 : j < i
              · rw [decide_eq_true e2]
                refine (decide_eq_true ⟨by omega, fun hm => ?_⟩).symm
                have := List.mem_range'_1.1 hm; omega
              · rw [decide_eq_false e2]
                refine (decide_eq_false fun hh => hh.2 ?_).symm
                exact List.mem_range'_1.2 ⟨by omega, by omega⟩
          · rw [k5]; exact List.pairwise_lt_range'
          · have : x.i ∈ pend.map (·.i) := List.mem_map.2 ⟨x, hx, rfl⟩
            rw [k5] at this
            have := List.mem_range'_1.1 this; omega
          · simp only [List.length_nil] at hf; omega
        unfold wpOp
        rw [h2]
        simp only
        obtain ⟨y, A⟩ := g2
        rw [wants_sound A h4]
        cases gd with
        | true =>
          rw [if_pos rfl] at hev ⊢
          obtain ⟨q1, h5, hev⟩ := bnd_eq_some hev
          unfold drwOp at h5
          rw [if_pos rfl] at h5
          cases e : evOp P G tt o.dst o.op with
          | none => rw [e] at h5; cases h5
          | some s1 =>
            rw [e, onQ_some] at h5; injection h5 with h5; subst h5
            exact .inl (step_op hC hdo e a w ⟨y, A⟩ _ _ fun a' w' g' => next s1 a' w' hev g')
        | false =>
          rw [if_neg (by simp)] at hev ⊢
          obtain ⟨q1, h5, hev⟩ := bnd_eq_some hev
          rw [onQ_some] at h5; injection h5 with h5; subst h5
          exact next _ _ _ hev ⟨y, A.value (v := .tup []) ⟨[], rfl, rfl⟩ hdo⟩
/-- a region in any order -/
theorem drw_sound (hC : CallOk P G) (hm : P.follows .mixedOrders = true) (hO : drawOk ops bar = true) (hd : ∀ o ∈ ops.toList, dstOk c.n o.dst = true) {s q : S} {Q1 : Exit → Act → World → Prop} {id : Nat} {a : Act} {w : World}
    (h : evDrw P G ops bar ops.toList 0 (.on s) = some (.on q)) (g : Good c s a w) (k : ∀ a w, Good c q a w → Q1 .normal a w) : (Code.region id ops true).wp P Q1 a w := by
  refine wp_region_any hm ?_
  obtain ⟨b, pend, t, k1, k2, k3, k4, k5, k6, k7⟩ := collect (k := 0) (l := ops.toList) rfl h
  have hb : b ≤ ops.size := by rcases k6 with k6 | k6 <;> omega
  have hlen : pend.length = b := by
    have := congrArg List.length k5; simpa using this
  have g' : Good c s a { w with drawn := w.drawn + 1 } := by
    obtain ⟨y, A⟩ := g
    exact ⟨y, A.defers, A.size, A.st.drew, A.env, A.box, A.fro, A.nb, A.nt, A.fix⟩
  have hnone : ∀ i, (Array.replicate ops.size false).getD i false = false := fun i => by
    rw [Array.getD_eq_getD_getElem?, Array.getElem?_replicate]; split <;> rfl
  refine drw_main hC (drawOk_spec hO) hd k _ _ a _ b pend s t t (by simp) (fun i hi => ?_) ?_ (fun x hx => ⟨?_, k7 x hx⟩) hb k2 k3 (.refl _) k4 (fun i o hi => by rw [hnone] at hi; cases hi) (by omega) g'
  · rw [hnone, k5]
    refine (decide_eq_false fun hh => hh.2 ?_).symm
    exact List.mem_range'_1.2 ⟨by omega, by omega⟩
  · rw [k5]; exact List.pairwise_lt_range'
  · have : x.i ∈ pend.map (·.i) := List.mem_map.2 ⟨x, hx, rfl⟩
    rw [k5] at this
    have := List.mem_range'_1.1 this; omega
end
end Go.Proofs.YtacnbajcignacaaGreat
