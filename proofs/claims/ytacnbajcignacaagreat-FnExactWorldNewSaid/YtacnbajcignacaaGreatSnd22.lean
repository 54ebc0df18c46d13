/-
  Soundness of the evaluator, twenty-second part: a function's contract.
-/
import Derived.Test.YtacnbajcignacaaGreatSnd21
namespace Go.Proofs.YtacnbajcignacaaGreat
open Go.RowKit
set_option linter.unusedSimpArgs false
set_option linter.unusedVariables false

section
variable {P : Program}
theorem leave_sound {c : Ctx} {s : S} {y : Lay} {a : Act} {w : World} (A : At c s y a w) {rs : List ResultVar} {nb nt : Nat} {r : Res} {u : Value} {n0 : Nat} {bF' : Nat → Nat} {hF' : Nat → Value} {vs : List V} (hvs : mapSome (resV P s) rs = some vs) (hu : RV (relOf c s y) (tupOf vs) u) (h : outRes P rs nb nt s = some r) :
    ∃ y' : Lay, Mem { c with n := n0, bF := bF', hF := hF' } (resS r.box r.tree) y' w ∧ RV (relOf { c with n := n0, bF := bF', hF := hF' } (resS r.box r.tree) y') r.val u ∧ r.box.length = nb ∧ (∀ i, i < nb → y'.bl i = y.bl (parBase + i)) ∧ ∀ q, q < nt → y'.hd q = y.hd (parBase + q) := by
  unfold outRes at h
  rw [hvs, bnd_some] at h
  obtain ⟨x, h1, h⟩ := bnd_eq_some h
  obtain ⟨z, h2, h⟩ := bnd_eq_some h
  obtain ⟨h3, h⟩ := grd_eq_some h
  injection h with h; subst h
  have o0 : Out s y nt [] [] := ⟨rfl, [], List.nodup_nil, (fun p hp => by cases hp), (fun p hp => by cases hp), (fun p hp => by cases hp), fun W w R S => S⟩
  obtain ⟨H1, a1, a2, a3⟩ := outV_sound (ρ := relOf c s y) (y := y) rfl (l' := x.2) (v' := x.1) o0 h1 hu
  obtain ⟨H, b1, b2, b3, b4, b5⟩ := outB_sound (ρ := relOf c s y) (y := y) rfl (fun b cs e => A.box b cs (look_mem e)) (l' := z.2) (css := z.1) a2 h2
  rw [List.length_range'] at b3
  have An := A.nt
  have An2 := An
  rw [List.map_append, List.nodup_append] at An2
  obtain ⟨N, n1, n2, n3, n4, n5⟩ := b2.ex
  let y2 : Lay := { bl := fun i => y.bl (parBase + i), hd := fun q => if q < nt then y.hd (parBase + q) else H[q - nt]?.getD undef, T := fun i => y.T (parBase + i), us := fun i => y.us (parBase + i), w0 := y.w0, F := y.F }
  have hlow : ∀ q, q < nt → y2.hd q = y.hd (parBase + q) := fun q hq => if_pos hq
  have hhigh : ∀ k u, H[k]? = some u → y2.hd (nt + k) = u := fun k u e => by
    show (if nt + k < nt then _ else H[nt + k - nt]?.getD undef) = u
    rw [if_neg (by omega), Nat.add_sub_cancel_left, e]; rfl
  have kkeys : ∀ q, q ∈ (keptTrees s 0 nt).map (·.1) ↔ q < nt ∧ ∃ rows, look (parBase + q) s.tree = some rows := by
    intro q
    rw [keptTrees_eq, List.mem_map]
    constructor
    · rintro ⟨x, hx, rfl⟩
      obtain ⟨q', h4, h5⟩ := List.mem_filterMap.1 hx
      obtain ⟨rows, h6, rfl⟩ := Option.map_eq_some_iff.1 h5
      rw [List.mem_range'_1] at h4
      exact ⟨by omega, rows, h6⟩
    · rintro ⟨h4, rows, h5⟩
      exact ⟨(q, rows), List.mem_filterMap.2 ⟨q, by rw [List.mem_range'_1]; omega, by rw [h5]; rfl⟩, rfl⟩
  have nkeys : (numbered nt z.2).map (·.1) = List.range' nt z.2.length := by rw [numbered_eq, withIdx_keys, List.length_map]
  have hrt : (keptTrees s 0 nt ++ numbered nt z.2).map (·.1) = (keptTrees s 0 nt).map (·.1) ++ List.range' nt z.2.length := by rw [List.map_append, nkeys]
  have Os : Outs (relOf c s y) (relOf { c with n := n0, bF := bF', hF := hF' } (resS z.1 (keptTrees s 0 nt ++ numbered nt z.2)) y2) s nt H := by
    refine ⟨rfl, rfl, fun i hi => ⟨?_, rfl⟩, fun q hq e => ⟨?_, hlow q hq⟩, fun k u e => ⟨?_, hhigh k u e⟩⟩
    · show i ∈ (withIdx 0 z.1).map (·.1)
      rw [withIdx_keys, List.mem_range'_1, b3]
      obtain ⟨xx, hx1, hx2⟩ := List.mem_map.1 (show parBase + i ∈ s.box.map (·.1) from hi)
      have := List.all_eq_true.1 h3 xx hx1
      rw [decide_eq_true_eq, hx2] at this
      omega
    · show q ∈ ((keptTrees s 0 nt ++ numbered nt z.2) ++ ([] : List (Nat × List (List D)))).map (·.1)
      rw [List.append_nil, hrt, List.mem_append]
      exact .inl ((kkeys q).2 ⟨hq, Option.isSome_iff_exists.1 e⟩)
    · show nt + k ∈ ((keptTrees s 0 nt ++ numbered nt z.2) ++ ([] : List (Nat × List (List D)))).map (·.1)
      rw [List.append_nil, hrt, List.mem_append]
      refine .inr ?_
      rw [List.mem_range'_1, ← b2.len]
      have := (List.getElem?_eq_some_iff.1 e).1
      omega
  refine ⟨y2, ⟨?_, fun b cs hb => ?_, fun p rows hp => (by cases hp), withIdx_nodup, ?_⟩, a3 _ _ b1 Os, b3, fun i _ => rfl, hlow⟩
  · -- the pieces
    have hall : ∀ n, (∃ rows, s.rows (.own n) = some rows) ↔ n ∈ (s.tree ++ s.fro).map (·.1) := by
      intro n
      rw [List.map_append, List.mem_append, key_look, key_look]
      simp only [S.rows]
      cases look n s.tree with
      | some r0 => simp [orElse1]
      | none => simp [orElse1]
    have S1 : St c.W w ((s.box.map (·.1)).map (fun b => rowP (y.bl b) (y.T b) (y.us b)) ++ (((s.tree ++ s.fro).map (·.1)).map (ownOf s y) ++ c.L)) := by
      have S0 := A.st
      have S2 : St c.W w (froPs y.w0 y.F s.fro ++ (boxPs y.bl y.T y.us s.box ++ (treePs y.hd s.tree ++ c.L))) := S0.perm (by
        have := perm5 (boxPs y.bl y.T y.us s.box) [] (treePs y.hd s.tree) (froPs y.w0 y.F s.fro) c.L
        simp only [List.append_nil, List.nil_append] at this
        rw [← List.append_assoc, ← List.append_assoc]
        refine ((List.Perm.append_right c.L List.perm_append_comm).trans ?_)
        simp only [List.append_assoc]
        exact List.Perm.refl _)
      have S3 := St.thaw A.fro S2
      refine S3.perm ?_
      have e1 : treePs y.hd s.tree ++ treePs y.hd s.fro = ((s.tree ++ s.fro).map (·.1)).map (ownOf s y) := by
        rw [List.map_append, List.map_append, treePs_keys _ An2.1, treePs_keys _ An2.2.1]
        congr 1
        · refine List.map_congr_left fun p hp => ?_
          obtain ⟨rows, hr⟩ := key_look.1 hp
          unfold ownOf
          simp only [S.rows, hr, orElse1]
        · refine List.map_congr_left fun p hp => ?_
          obtain ⟨rows, hr⟩ := key_look.1 hp
          have hn : look p s.tree = none := by
            cases e : look p s.tree with
            | none => rfl
            | some r0 => exact absurd rfl (An2.2.2 p (key_look.2 ⟨r0, e⟩) p hp)
          unfold ownOf
          simp only [S.rows, hr, hn, orElse1]
      rw [← e1, boxPs_keys]
      refine (List.perm_append_comm (l₁ := treePs y.hd s.fro)).trans ?_
      rw [List.append_assoc, List.append_assoc]
      refine List.Perm.append_left _ ?_
      rw [List.append_assoc]
      exact List.Perm.append_left _ List.perm_append_comm
    -- what goes out
    have hbk : ∀ b ∈ List.range' parBase nb, b ∈ s.box.map (·.1) := by
      intro b hb
      rw [List.mem_range'_1] at hb
      have := b4 (b - parBase) (by rw [List.mem_range'_1]; omega)
      rw [show parBase + (b - parBase) = b by omega] at this
      exact this
    have p1 := (minus_perm A.nb List.nodup_range' hbk).map fun b => rowP (y.bl b) (y.T b) (y.us b)
    rw [List.map_append] at p1
    have kn : ((keptTrees s 0 nt).map (·.1)).Nodup := by
      rw [keptTrees_eq, List.nodup_iff_pairwise_ne, List.pairwise_map, List.pairwise_filterMap]
      refine List.Pairwise.imp (fun {q q'} hne b hb b' hb' e => ?_) (List.nodup_iff_pairwise_ne.1 (List.nodup_range' (s := 0) (n := nt)))
      obtain ⟨r1, _, rfl⟩ := Option.map_eq_some_iff.1 hb
      obtain ⟨r2, _, rfl⟩ := Option.map_eq_some_iff.1 hb'
      exact hne e
    have hnd : (((keptTrees s 0 nt).map (·.1)).map (fun q => parBase + q) ++ N).Nodup := by
      refine List.nodup_append.2 ⟨?_, n1, fun x hx p hp e => ?_⟩
      · rw [List.nodup_iff_pairwise_ne, List.pairwise_map]
        exact List.Pairwise.imp (fun {q q'} hne e => hne (by omega)) (List.nodup_iff_pairwise_ne.1 kn)
      · obtain ⟨q, hq, rfl⟩ := List.mem_map.1 hx
        have hq2 := ((kkeys q).1 hq).1
        rw [← e] at hp
        exact n3 _ hp (by omega)
    have hsub : ∀ p ∈ (((keptTrees s 0 nt).map (·.1)).map (fun q => parBase + q) ++ N), p ∈ (s.tree ++ s.fro).map (·.1) := by
      intro p hp
      rcases List.mem_append.1 hp with hp | hp
      · obtain ⟨q, hq, rfl⟩ := List.mem_map.1 hp
        obtain ⟨_, rows, hr⟩ := (kkeys q).1 hq
        rw [List.map_append, List.mem_append]; exact .inl (key_look.2 ⟨rows, hr⟩)
      · exact (hall p).1 (n4 p hp)
    have p2 := ((minus_perm An hnd hsub).map (ownOf s y)).trans (List.Perm.of_eq (by rw [List.map_append, List.map_append]))
    have S4 := S1.perm (List.Perm.append p1 (List.Perm.append p2 (List.Perm.refl c.L)))
    -- drop the rest
    have S5 : St c.W w (N.map (ownOf s y) ++ ((List.range' parBase nb).map (fun b => rowP (y.bl b) (y.T b) (y.us b)) ++ (((keptTrees s 0 nt).map (·.1)).map (fun q => parBase + q)).map (ownOf s y) ++ c.L)) := by
      have hp : ∀ (A B C D E Z : List Pc), ((A ++ B) ++ (((C ++ D) ++ E) ++ Z)).Perm ((B ++ E) ++ (D ++ ((A ++ C) ++ Z))) := by
        intro A B C D E Z
        have q1 : ((A ++ B) ++ (((C ++ D) ++ E) ++ Z)).Perm (B ++ (A ++ (((C ++ D) ++ E) ++ Z))) := by
          rw [← List.append_assoc B]; exact List.Perm.append_right _ List.perm_append_comm
        refine q1.trans ?_
        rw [List.append_assoc B E]
        refine List.Perm.append_left _ ?_
        have q2 : (A ++ (((C ++ D) ++ E) ++ Z)).Perm (E ++ (A ++ ((C ++ D) ++ Z))) := by
          have := List.Perm.append_right Z (List.perm_append_comm (l₁ := C ++ D) (l₂ := E))
          refine (List.Perm.append_left A this).trans ?_
          rw [List.append_assoc E, ← List.append_assoc A, ← List.append_assoc E]
          exact List.Perm.append_right _ List.perm_append_comm
        refine q2.trans (List.Perm.append_left _ ?_)
        have q3 := List.Perm.append_right Z (List.perm_append_comm (l₁ := C) (l₂ := D))
        refine (List.Perm.append_left A q3).trans ?_
        rw [List.append_assoc D, ← List.append_assoc A, List.append_assoc A C, ← List.append_assoc D]
        exact List.Perm.append_right _ List.perm_append_comm
      exact St.dropL (S4.perm (hp _ _ _ _ _ _))
    have S6 := n5 _ _ _ S5
    show St c.W w (boxPs y2.bl y2.T y2.us (withIdx 0 z.1) ++ (treePs y2.hd (keptTrees s 0 nt ++ numbered nt z.2) ++ ([] ++ c.L)))
    have e1 : boxPs y2.bl y2.T y2.us (withIdx 0 z.1) = (List.range' parBase nb).map fun b => rowP (y.bl b) (y.T b) (y.us b) := by
      rw [boxPs_keys, withIdx_keys, b3, range_shift parBase]
    have e2 : treePs y2.hd (keptTrees s 0 nt ++ numbered nt z.2) = (((keptTrees s 0 nt).map (·.1)).map (fun q => parBase + q)).map (ownOf s y) ++ pcs2 z.2 H := by
      have e3 : treePs y2.hd (numbered nt z.2) = pcs2 z.2 H := treePs_numbered b2.len hhigh
      have e4 : treePs y2.hd (keptTrees s 0 nt) = (((keptTrees s 0 nt).map (·.1)).map (fun q => parBase + q)).map (ownOf s y) := by
        unfold treePs
        rw [List.map_map, List.map_map]
        refine List.map_congr_left fun x hx => ?_
        rw [keptTrees_eq] at hx
        obtain ⟨q', h4, h5⟩ := List.mem_filterMap.1 hx
        obtain ⟨rows, h6, rfl⟩ := Option.map_eq_some_iff.1 h5
        rw [List.mem_range'_1] at h4
        simp only [Function.comp]
        rw [hlow q' (by omega)]
        unfold ownOf
        simp only [S.rows, h6, orElse1, Option.getD_some]
      rw [← e3, ← e4]; unfold treePs; rw [List.map_append]
    rw [e1, e2, List.nil_append]
    refine S6.perm ?_
    refine List.perm_append_comm.trans ?_
    rw [List.append_assoc, List.append_assoc]
    refine List.Perm.append_left _ ?_
    rw [List.append_assoc]
    exact List.Perm.append_left _ List.perm_append_comm
  · have hl := look_of_mem withIdx_nodup (show (b, cs) ∈ withIdx 0 z.1 from hb)
    have e5 := withIdx_look (l := z.1) (n := 0) b
    rw [Nat.zero_add, hl] at e5
    have hlt : b < nb := by rw [← b3]; exact (List.getElem?_eq_some_iff.1 e5.symm).1
    exact b5 b b cs (by rw [List.getElem?_range' hlt]; simp) e5.symm _ _ (List.prefix_refl _) Os
  · show ((keptTrees s 0 nt ++ numbered nt z.2 ++ ([] : List (Nat × List (List D)))).map (·.1)).Nodup
    have kn : ((keptTrees s 0 nt).map (·.1)).Nodup := by
      rw [keptTrees_eq, List.nodup_iff_pairwise_ne, List.pairwise_map, List.pairwise_filterMap]
      refine List.Pairwise.imp (fun {q q'} hne b hb b' hb' e => ?_) (List.nodup_iff_pairwise_ne.1 (List.nodup_range' (s := 0) (n := nt)))
      obtain ⟨r1, _, rfl⟩ := Option.map_eq_some_iff.1 hb
      obtain ⟨r2, _, rfl⟩ := Option.map_eq_some_iff.1 hb'
      exact hne e
    rw [List.append_nil, hrt, List.nodup_append]
    refine ⟨kn, List.nodup_range', fun q hq q' hq' e => ?_⟩
    have := ((kkeys q).1 hq).1
    rw [List.mem_range'_1] at hq'
    omega
theorem codeOk_mono {gh : Ghost} {n m : Nat} (h : n ≤ m) : ∀ (x : Code), codeOk gh n x = true → codeOk gh m x = true
  | .region _ ops d, k => by
    unfold codeOk at k ⊢
    rw [Bool.and_eq_true] at k ⊢
    refine ⟨List.all_eq_true.2 fun o ho => ?_, k.2⟩
    have := List.all_eq_true.1 k.1 o ho
    unfold dstOk at this ⊢
    split at this
    · simp at this ⊢; omega
    · rfl
  | .seq x y, k => by unfold codeOk at k ⊢; rw [Bool.and_eq_true] at k ⊢; exact ⟨codeOk_mono h x k.1, codeOk_mono h y k.2⟩
  | .cond _ x y, k => by unfold codeOk at k ⊢; rw [Bool.and_eq_true] at k ⊢; exact ⟨codeOk_mono h x k.1, codeOk_mono h y k.2⟩
  | .block _ x, k => by unfold codeOk at k ⊢; exact codeOk_mono h x k
  | .loop x, k => by unfold codeOk at k ⊢; exact codeOk_mono h x k
  | .scope x, k => by unfold codeOk at k ⊢; exact codeOk_mono h x k
  | .skip, _ => rfl
  | .label _, _ => rfl
  | .exit _, _ => rfl
  | .ret, _ => rfl
  | .goto _, k => k
  | .rangeFunc .., k => k
  | .refuse .., k => k
/-- a function, whole: what the evaluator makes of it is its contract -/
theorem fun_sound {G : List (FuncId × Bool × Mean)} (hG : ∀ f M, look f G = some M → Sound P f M.2) {gh : Ghost} (hM : MarksOk gh) {f : FuncId} {fn : Func} {x : Code} (hf : P.funcs[f]? = some fn) (hb : fn.body = some x) (hn : (fn.name == "runtime.NumGoroutine") = false) (hsm : fn.ntmps ≤ 1000000) (hx : codeOk gh fn.ntmps x = true) (hm : P.follows .mixedOrders = true) : Sound P f (evFun P G gh f) := by
  refine ⟨⟨fn, hf, hn, by rw [hb]; rfl⟩, fun c args boxes trees r h y us w m hargs => ?_⟩
  unfold evFun at h
  rw [hf, bnd_some, hb, bnd_some] at h
  obtain ⟨⟨hal, hbl9, htl9⟩, h⟩ := grd_eq_some h
  obtain ⟨e, h1, h⟩ := bnd_eq_some h
  obtain ⟨un, hun⟩ := unB_ex
  have hle : us.length ≤ 1000 := by rw [hargs.len]; exact hal
  have hsz0 : (startA fn.ntmps us).tmps.size = us.length + (fn.ntmps - us.length) := by
    show (us.toArray ++ Array.replicate (fn.ntmps - us.toArray.size) undef).size = _
    rw [Array.size_append, Array.size_replicate, List.size_toArray]
  have hsz : fn.ntmps ≤ (startA fn.ntmps us).tmps.size := by rw [hsz0]; omega
  have hpb : (startA fn.ntmps us).tmps.size ≤ parBase := by rw [hsz0]; unfold parBase; omega
  have A := enter_sound m hargs fn.ntmps hun hpb
  refine calls_of_wp hf hb ?_
  refine code_sound (c := { c with n := (startA fn.ntmps us).tmps.size, bF := fun b => y.bl (un b), hF := fun p => y.hd (un p) }) (calls_ok hG) hM hm x (.on (startS args boxes trees)) e (startA fn.ntmps us) w _ (codeOk_mono hsz x hx) h1 ⟨_, A⟩ fun a' w' g => ?_
  obtain ⟨ex, q⟩ := e
  have fin : ∀ s, GoodQ { c with n := (startA fn.ntmps us).tmps.size, bF := fun b => y.bl (un b), hF := fun p => y.hd (un p) } (.on s) a' w' → outRes P fn.results.toList boxes.length trees.length s = some r → a'.defers = [] ∧ ∃ v, (results fn a'.tmps).run P w' = .ok v w' ∧ ∃ u y', Ending.returned v = .returned u ∧ Ends c boxes.length trees.length r y u y' w' := by
    intro s ⟨y1, A1⟩ hr
    have hr2 := hr
    unfold outRes at hr2
    obtain ⟨vs, hvs, _⟩ := bnd_eq_some hr2
    obtain ⟨u, k1, k2⟩ := results_sound A1 hvs
    obtain ⟨y', k3, k4, k5, k6, k7⟩ := leave_sound (n0 := c.n) (bF' := c.bF) (hF' := c.hF) A1 hvs k2 hr
    refine ⟨A1.defers, u, k1, u, y', rfl, k3, k4, k5, fun i hi => ?_, fun q hq => ?_⟩
    · rw [k6 i hi]
      have := (A1.fix.2 (parBase + i) (by omega) (by unfold parBase; omega)).1
      rw [this]
      show y.bl (un (parBase + i)) = y.bl i
      rw [hun]
    · rw [k7 q hq]
      have := (A1.fix.2 (parBase + q) (by omega) (by unfold parBase; omega)).2
      rw [this]
      show y.hd (un (parBase + q)) = y.hd q
      rw [hun]
  cases ex with
  | normal =>
    cases q with
    | off => exact g.elim
    | on s => exact fin s g h
  | ret =>
    cases q with
    | off => exact g.elim
    | on s => exact fin s g h
  | exit i => simp only [leaveV] at h; cases h
end
end Go.Proofs.YtacnbajcignacaaGreat
