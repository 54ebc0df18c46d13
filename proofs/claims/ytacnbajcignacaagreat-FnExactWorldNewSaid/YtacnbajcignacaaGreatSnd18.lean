/-
  Soundness of the evaluator, eighteenth part: calls, whole.
-/
import Derived.Test.YtacnbajcignacaaGreatSnd17
namespace Go.Proofs.YtacnbajcignacaaGreat
open Go.RowKit
set_option linter.unusedSimpArgs false
set_option linter.unusedVariables false

section
variable {P : Program} {c : Ctx} {s s' : S} {y : Lay} {a : Act} {w : World}
theorem run_callFunc {f : FuncId} {fn : Func} (h1 : P.funcs[f]? = some fn) (h2 : (fn.name == "runtime.NumGoroutine") = false) (h3 : fn.body.isNone = false) (args : Array Value) (w : World) : (callFunc f args).run P w = .ok (.enter f args) w := by
  have h2' : ¬ fn.name = "runtime.NumGoroutine" := by simpa using h2
  have h3' : ¬ fn.body = none := by intro e; rw [e] at h3; cases h3
  simp [callFunc, h1, h2', h3']
theorem calls_ok {G : List (FuncId × Bool × Mean)} (hG : ∀ f M, look f G = some M → Sound P f M.2) : CallOk P G := by
  intro c s s' o cl g args f M ho hcl hargs hg hM h hd' a w hgood next Q kk
  obtain ⟨y, A⟩ := hgood
  obtain ⟨us2, e1, e2⟩ := A.ev hg
  have ea := (evArgs A hargs).app e2
  have HS := hG f.1 M hM
  obtain ⟨fn, n1, n2, n3⟩ := HS.fn
  -- into the callee
  have hexec : (execOp a.eval o).run P w = .ok (.enter f.1 (cl.args.toList.map a.eval ++ us2).toArray) w := by
    unfold execOp
    simp only [ho, resolve, hcl, e1, Deferred.ofValue, Sem.run_bind, Sem.run_pure, Result.andThen_ok, invoke]
    rw [run_callFunc n1 n2 n3]
    congr 2
    apply Array.ext'
    simp
  unfold callV at h
  obtain ⟨x, h1, h⟩ := bnd_eq_some h
  obtain ⟨z, h2, h⟩ := bnd_eq_some h
  obtain ⟨ts, h3, h⟩ := bnd_eq_some h
  obtain ⟨h4, h⟩ := grd_eq_some h
  obtain ⟨r, h5, h⟩ := bnd_eq_some h
  unfold lendOk at h4
  simp only [Bool.and_eq_true, decide_eq_true_eq] at h4
  have o0 : Lend.ok ⟨[], [], []⟩ (relOf c s y) s [] := ⟨rfl, List.nodup_nil, List.nodup_nil, fun p hp => by cases hp⟩
  obtain ⟨U1, a1, a2, a3⟩ := lendA_sound (fun p r1 r2 e1 e2 => A.apart e1 e2) (l' := x.2) (vs' := x.1) o0 h1 ea
  obtain ⟨SU, b1, b2, b3, b4, b5⟩ := lendBoxes_sound A (l' := z.2) (css := z.1) a2 h2
  have hbe : x.2.box = z.2.box := by
    obtain ⟨tl, e⟩ := b1.box
    have := congrArg List.length e
    rw [List.length_append, h4.2, b3] at this
    have : tl = [] := List.eq_nil_of_length_eq_zero (by omega)
    rw [this, List.append_nil] at e; exact e
  rw [hbe] at b3 b4 b5
  obtain ⟨t1, t2⟩ := lentTrees_spec h3
  have hlt : ∀ p ∈ z.2.tree, p ∈ s.tree.map (·.1) := fun p hp => by
    obtain ⟨i, e⟩ := List.getElem?_of_mem hp
    obtain ⟨rows, e2, _⟩ := t2 i p e
    exact key_look.2 ⟨rows, e2⟩
  have An := A.nt
  rw [List.map_append, List.nodup_append] at An
  -- the pieces
  have hperm : (boxPs y.bl y.T y.us s.box ++ (treePs y.hd s.tree ++ (froPs y.w0 y.F s.fro ++ c.L))).Perm ((z.2.box.map (fun b => rowP (y.bl b) (y.T b) (y.us b)) ++ z.2.tree.map (fun p => ownP (y.hd p) ((look p s.tree).getD []))) ++
      ((((s.box.map (·.1)).filter fun k => !z.2.box.contains k).map (fun b => rowP (y.bl b) (y.T b) (y.us b)) ++ (((s.tree.map (·.1)).filter fun k => !z.2.tree.contains k).map (fun p => ownP (y.hd p) ((look p s.tree).getD [])) ++ froPs y.w0 y.F s.fro)) ++ c.L)) := by
    have p1 := (minus_perm A.nb b2.nb b4).map fun b => rowP (y.bl b) (y.T b) (y.us b)
    have p2 := (minus_perm An.1 b2.nt hlt).map fun p => ownP (y.hd p) ((look p s.tree).getD [])
    rw [← boxPs_keys, List.map_append] at p1
    rw [← treePs_keys _ An.1, List.map_append] at p2
    refine (List.Perm.append p1 (List.Perm.append p2 (List.Perm.refl _))).trans ((perm5 _ _ _ _ _).trans (List.Perm.of_eq ?_))
    simp only [List.append_assoc]
  obtain ⟨F, hsnap, hR⟩ := (A.st.perm hperm).snap
  obtain ⟨K', k1, k2, k3⟩ := lent_K A (ld := z.2) hR (fun x hx => List.mem_append_right _ (List.mem_append_right _ hx)) (fun p rows e hn => List.mem_append_right _ (List.mem_append_left _ (List.mem_map.2 ⟨p, List.mem_filter.2 ⟨key_look.2 ⟨rows, e⟩, by simpa using hn⟩, by rw [e]; rfl⟩))) h4.1
  let y0 : Lay := { bl := fun i => y.bl (z.2.box[i]?.getD 0), hd := fun q => y.hd (z.2.tree[q]?.getD 0), T := fun i => y.T (z.2.box[i]?.getD 0), us := fun i => y.us (z.2.box[i]?.getD 0), w0 := fun _ => w, F := fun _ => [] }
  have L : Lent (relOf c s y) (relOf (Ctx.mk c.W [snapP w F] K' (fun j => SU[j]?.getD undef) c.n k1 c.bF c.hF) (resS z.1 (withIdx 0 ts)) y0) s z.2 SU := by
    refine ⟨fun j u e => by show SU[j]?.getD undef = u; rw [e]; rfl, fun i b e => ⟨?_, ?_⟩, fun i p e => ⟨?_, ?_⟩, k2⟩
    · show i ∈ (withIdx 0 z.1).map (·.1)
      rw [withIdx_keys, List.mem_range'_1]
      have := (List.getElem?_eq_some_iff.1 e).1
      omega
    · show y.bl (z.2.box[i]?.getD 0) = y.bl b; rw [e]; rfl
    · show i ∈ (withIdx 0 ts ++ ([] : List (Nat × List (List D)))).map (·.1)
      rw [List.append_nil, withIdx_keys, List.mem_range'_1]
      have := (List.getElem?_eq_some_iff.1 e).1
      omega
    · show y.hd (z.2.tree[i]?.getD 0) = y.hd p; rw [e]; rfl
  have M0 : Mem (Ctx.mk c.W [snapP w F] K' (fun j => SU[j]?.getD undef) c.n k1 c.bF c.hF) (resS z.1 (withIdx 0 ts)) y0 w := by
    refine ⟨?_, fun b cs hb => ?_, fun p rows hp => (by cases hp), withIdx_nodup, by show ((withIdx 0 ts ++ ([] : List (Nat × List (List D)))).map (·.1)).Nodup; rw [List.append_nil]; exact withIdx_nodup⟩
    · show St c.W w (boxPs y0.bl y0.T y0.us (withIdx 0 z.1) ++ (treePs y0.hd (withIdx 0 ts) ++ ([] ++ [snapP w F])))
      rw [boxPs_keys, withIdx_keys, b3, treePs_keys _ withIdx_nodup, withIdx_keys, t1, List.nil_append]
      have e1 := range_map (l := z.2.box) (f := fun b => rowP (y0.bl b) (y0.T b) (y0.us b)) (g := fun b => rowP (y.bl b) (y.T b) (y.us b)) (fun i b e => by
        show rowP (y.bl (z.2.box[i]?.getD 0)) (y.T (z.2.box[i]?.getD 0)) (y.us (z.2.box[i]?.getD 0)) = _
        rw [e]; rfl)
      have e2 := range_map (l := z.2.tree) (f := fun p => ownP (y0.hd p) ((look p (withIdx 0 ts)).getD [])) (g := fun p => ownP (y.hd p) ((look p s.tree).getD [])) (fun i p e => by
        obtain ⟨rows, e3, e4⟩ := t2 i p e
        have e5 := withIdx_look (l := ts) (n := 0) i
        rw [Nat.zero_add, e4] at e5
        show ownP (y.hd (z.2.tree[i]?.getD 0)) _ = _
        rw [e, e5, e3]; rfl)
      rw [e1, e2, ← List.append_assoc]
      exact hsnap
    · have hb := List.mem_map.2 ⟨_, hb, rfl⟩ |> fun h : b ∈ (withIdx 0 z.1).map (·.1) => (⟨h, look_of_mem withIdx_nodup hb⟩ : b ∈ (withIdx 0 z.1).map (·.1) ∧ look b (withIdx 0 z.1) = some cs)
      have e5 := withIdx_look (l := z.1) (n := 0) b
      rw [Nat.zero_add, hb.2] at e5
      have hlt : b < z.2.box.length := by rw [← b3]; exact (List.getElem?_eq_some_iff.1 e5.symm).1
      have e6 := List.getElem?_eq_getElem hlt
      have := b5 b _ cs e6 e5.symm _ _ _ (Lend.le.refl _ _) L
      show RVs _ cs (y.us (z.2.box[b]?.getD 0)).toList
      rw [e6]; exact this
  have hcall := HS.run (Ctx.mk c.W [snapP w F] K' (fun j => SU[j]?.getD undef) c.n k1 c.bF c.hF) x.1 z.1 ts r h5 y0 (cl.args.toList.map a.eval ++ us2) w M0 (a3 _ _ _ b1 L)
  unfold Oper.wp
  rw [hexec, Oper.upon_enter]
  refine hcall.mono fun e w' he => ?_
  obtain ⟨u, y1, rfl, E⟩ := he
  have hst : St c.W w' (boxPs y1.bl y1.T y1.us (withIdx 0 r.box) ++ (treePs y1.hd r.tree ++ ([] ++ [snapP w F]))) := E.mem.st
  rw [List.nil_append, ← List.append_assoc] at hst
  have hst2 := St.unsnap hst hR
  have hnt : (r.tree.map (·.1)).Nodup := by
    have : ((r.tree ++ ([] : List (Nat × List (List D)))).map (·.1)).Nodup := E.mem.nt
    rw [List.append_nil] at this; exact this
  obtain ⟨y', A'⟩ := call_back A (t := o.dst) (SU := SU) (R := []) (n' := c.n) (hK' := k1) (src' := fun j => SU[j]?.getD undef) b2 b4 hlt h4.1 k3 (fun j => rfl) E.val E.mem.box hnt (E.len.trans b3) (fun i b e => by
      have hi : i < z.1.length := by rw [b3]; exact (List.getElem?_eq_some_iff.1 e).1
      rw [E.bl i hi]
      show y.bl (z.2.box[i]?.getD 0) = _
      rw [e]; rfl) (fun q p e => by
      have hi : q < ts.length := by rw [t1]; exact (List.getElem?_eq_some_iff.1 e).1
      rw [E.hd q hi]
      show y.hd (z.2.tree[q]?.getD 0) = _
      rw [e]; rfl) (by simpa only [List.append_assoc] using hst2) hd' h
  exact kk _ _ ⟨y', A'⟩
end
end Go.Proofs.YtacnbajcignacaaGreat
