/-
  Soundness of the evaluator, eleventh part: append itself; builtins.
-/
import Derived.Test.YtacnbajcignacaaGreatSnd10
import Derived.Laws.Small
namespace Go.Proofs.YtacnbajcignacaaGreat
open Go.RowKit
set_option linter.unusedSimpArgs false
set_option linter.unusedVariables false

section
variable {P : Program} {c : Ctx} {s : S} {y : Lay} {a : Act} {w : World}
theorem St.grow {W : World} {L : List Pc} {rows new : List (List D)} {olds news : List Value} {e : TypeId} {k cap : Nat} {zs : Array Value} (S : St W w (pcs rows.flatten olds ++ (pcs new.flatten news ++ L))) (ho : olds.length = rows.flatten.length) (hn : news.length = new.flatten.length) (h1 : ∀ r ∈ rows, r.length = k) (h2 : ∀ r ∈ new, r.length = k)
    (hk : 0 < k) (hz : zs.size = k) (hc : rows.length + new.length ≤ cap) (hm : cap ≤ maxLen) (hne : new ≠ []) :
    St W (w.drew.alloc (.cells ((olds ++ news).toArray ++ Builtin.zeroCells zs (cap - (rows.length + new.length))) e)) (ownP (.slice (some ⟨w.heap.size, 0, none⟩) (rows.length + new.length) cap) (rows ++ new) :: L) := by
  have hall : ∀ r ∈ rows ++ new, r.length = k := fun r hr => (List.mem_append.1 hr).elim (h1 r) (h2 r)
  have hfl := flat_len _ hall
  have hlen : (olds ++ news).length = (rows.length + new.length) * k := by
    rw [List.length_append, ho, hn, ← List.length_append, ← List.flatten_append, hfl, List.length_append]
  have S1 := S.drew.alloc ((olds ++ news).toArray ++ Builtin.zeroCells zs (cap - (rows.length + new.length))) e
  rw [← List.append_assoc, ← pcs_app ho, ← List.flatten_append] at S1
  have := S1.join (cc := cap) (k := k) (by rw [hlen, hfl, List.length_append]) (by rw [List.length_append]; exact hc) hm hk hall (by
    rw [Array.size_append, List.size_toArray, hlen, size_zeroCells, hz, ← Nat.add_mul]
    congr 1; omega) (fun e => absurd (List.append_eq_nil_iff.1 e).2 hne) (by
    rw [Array.toList_append, List.length_append, ← hlen]
    exact List.take_left)
  rw [List.length_append] at this
  exact this
theorem appendTo_sound {E : List Pc} {news : List Value} {new : List (List D)} {e t tx ty : TypeId} {x : V} {ux uy : Value} {dst : Option Nat} {s' : S} (A : At (c.with E) s y a w) (hE : E = pcs new.flatten news) (hs : Src P (P.cellsOf e) tx uy new.length news w) (hnl : news.length = new.flatten.length)
    (hx : PV y x ux) (h : appendTo P s dst e new x = some s') (ht : P.underlying t = some (.slice e)) (hd' : dstOk c.n dst = true) :
    ∃ u' w' y', (Builtin.append_ #[t, tx] ty #[ux, uy]).run P w = .ok u' w' ∧ At c s' y' (a.put dst u') w' := by
  have fit : ∀ n, sizeOk P e n = true → ∃ i z, P.info? e = some i ∧ i.zero = some z ∧ z.cells.size = i.size ∧ 0 < i.size ∧ P.cellsOf e = i.size ∧ n * i.bytes ≤ 140737488355328 ∧ n ≤ 4611686018427387904 := by
    intro n hn
    unfold sizeOk at hn
    simp only [Bool.and_eq_true, decide_eq_true_eq] at hn
    obtain ⟨i, z, z1, z2, z3, z4, z5⟩ := zeroOk_some hn.1.1
    refine ⟨i, z, z1, z2, z3, z4, z5, ?_, hn.2⟩
    have := hn.1.2
    unfold Program.bytesOf at this
    rw [z1] at this
    exact this
  -- a new row
  have grow : ∀ (s0 : S) (A0 : At (c.with E) s0 y a w) (rows : List (List D)) (olds : List Value) (base : Option Addr) (cap : Nat), ux = .slice base rows.length cap → cap < rows.length + new.length → new ≠ [] → sizeOk P e (rows.length + new.length) = true → (∀ r ∈ rows, r.length = P.cellsOf e) → wid (P.cellsOf e) new = true →
      olds.length = rows.flatten.length → (Builtin.firstCells (P.cellsOf e) rows.length (.slice base rows.length cap)).run P w.drew = .ok olds.toArray w.drew → St c.W w (pcs rows.flatten olds ++ (E ++ (Pcs s0 y ++ c.L))) → s0.newTree dst (rows ++ new) = some s' →
      ∃ u' w' y', (Builtin.append_ #[t, tx] ty #[ux, uy]).run P w = .ok u' w' ∧ At c s' y' (a.put dst u') w' := by
    intro s0 A0 rows olds base cap hu hcap hne hso hw1 hw2 hol hold S hnt
    obtain ⟨i, z, z1, z2, z3, z4, z5, z6, z7⟩ := fit _ hso
    rw [z5] at hs hold
    have hr := run_append_grow_src (P := P) w t tx ty e i z ht z1 z2 base rows.length cap olds hold uy new.length news hs hcap (by omega) (growslice_fits hcap z6)
    rw [← hu] at hr
    rw [hE] at S
    have S2 := St.grow (e := e) (cap := grownCap w (rows.length + new.length) cap e) (zs := z.cells) S hol hnl hw1 (wid_spec hw2) (by rw [z5]; exact z4) (by rw [z5]; exact z3) (grownCap_ge _ _ _ _) (grownCap_le_maxLen _ _ _ _ (by unfold maxLen; omega)) hne
    obtain ⟨y', A'⟩ := newTree_sound A0 hd' hnt S2
    exact ⟨_, _, y', hr, A'⟩
  -- nothing
  have nothing : ∀ (s0 : S) (A0 : At (c.with E) s0 y a w) (rows : List (List D)) (base : Option Addr) (n cap : Nat), new = [] → ux = .slice base n cap → n ≤ cap → sizeOk P e (rows.length + new.length) = true → St c.W w (ownP ux rows :: (Pcs s0 y ++ c.L)) → s0.newTree dst (rows ++ new) = some s' →
      ∃ u' w' y', (Builtin.append_ #[t, tx] ty #[ux, uy]).run P w = .ok u' w' ∧ At c s' y' (a.put dst u') w' := by
    intro s0 A0 rows base n cap hne hu hle hso S hnt
    obtain ⟨i, z, z1, z2, z3, z4, z5, z6, z7⟩ := fit _ hso
    subst hne
    obtain rfl : news = [] := List.eq_nil_of_length_eq_zero hnl
    rw [List.append_nil] at hnt
    rw [z5] at hs
    have hr := run_append_nothing (P := P) w t tx ty e i ht z1 base n cap hle uy hs
    rw [← hu] at hr
    obtain ⟨y', A'⟩ := newTree_sound A0 hd' hnt S
    exact ⟨_, _, y', hr, A'⟩
  unfold appendTo at h
  split at h
  · obtain ⟨⟨h1, h2⟩, h⟩ := grd_eq_some h
    have hu : ux = .slice none 0 0 := hx
    by_cases hne : new = []
    · have h1' : sizeOk P e (([] : List (List D)).length + new.length) = true := by simpa using h1
      exact nothing s A [] none 0 0 hne hu (Nat.le_refl _) h1' (by rw [hu]; exact A.pop.pcs.more (Ext.refl w) (h := ownP (.slice none 0 0) []) (F := []) .nil List.nodup_nil (fun b hb => by cases hb)) h
    · have h1' : sizeOk P e (([] : List (List D)).length + new.length) = true := by simpa using h1
      have hpos : 0 < new.length := List.length_pos_iff.2 hne
      exact grow s A [] [] none 0 hu (by simpa using hpos) hne h1' (fun r hr => by cases hr) h2 rfl (run_firstCells_none _ _ _ _ _) (by exact A.front) h
  · rename_i p
    obtain ⟨rows, hl, h⟩ := bnd_eq_some h
    obtain ⟨⟨h1, h2, h3⟩, h⟩ := grd_eq_some h
    have hu : ux = y.hd p := hx
    have S0 := A.out' hl
    have A1 : At (c.with E) (s.kill p) y a w := A.killed' (c := c.with E) (c.with E).hK S0.drop hl
    by_cases hne : new = []
    · obtain ⟨F, o⟩ := A.treeAt hl
      obtain ⟨B, cc, e1, e2, _⟩ := (o.rd (G := heapOf w) fun _ _ _ e => e).len
      have hE0 : E = [] := by rw [hE, hne]; cases news <;> rfl
      refine nothing _ A1 rows B rows.length cc hne (hu.trans e1) e2 h1 ?_ h
      rw [hu]; rw [hE0] at S0; exact S0
    · have hpos : 0 < new.length := List.length_pos_iff.2 hne
      rcases S0.split with ⟨e0, g, cc, k1, _, k2, S⟩ | ⟨g, cc, k', T, cs, us, k1, k2, k3, k4, k5, k6, k7, k8, k9, S⟩
      · subst e0; subst k2
        refine grow _ A1 [] [] g 0 (hu.trans k1) (by simpa using hpos) hne h1 (fun r hr => by cases hr) h3 rfl ?_ (by exact A1.front) h
        cases g with
        | none => exact run_firstCells_none _ _ _ _ _
        | some ad => exact run_firstCells_some _ _ 0 ad _ _ [] (by simp) (fun j v hh => by simp at hh)
      · have hk : k' = P.cellsOf e := by
          cases hr : rows with
          | nil => exact absurd hr k1
          | cons r rs => rw [hr] at k6 h2; rw [← k6 r (by simp), wid_spec h2 r (by simp)]
        subst hk
        have hg : w.heap[g]? = some (.cells cs T (0, 0)) := S.row_at List.mem_cons_self
        have hfl := flat_len rows k6
        have hperm : (Pcs (s.kill p) y ++ (E ++ c.L)).Perm (E ++ (Pcs (s.kill p) y ++ c.L)) := by
          rw [← List.append_assoc, ← List.append_assoc]
          exact List.Perm.append_right _ List.perm_append_comm
        by_cases hroom : rows.length + new.length ≤ cc
        · obtain ⟨i, z, z1, z2, z3, z4, z5, z6, z7⟩ := fit _ h1
          have hfit : rows.length * i.size + news.length ≤ cs.size := by
            rw [hs.newsLen, z5, k7, z5, ← Nat.add_mul]
            exact Nat.mul_le_mul_right _ hroom
          rw [z5] at hs
          have hr := run_append_roomT (P := P) t tx ty e i ht z1 g rows.length cc cs T hg uy new.length news hs hroom hfit
          rw [← k2, ← hu] at hr
          have S2 := S.set (setRow_heap w g cs (cs.toList.take (rows.length * i.size) ++ news ++ cs.toList.drop (rows.length * i.size + news.length)).toArray T (0, 0) hg) ⟨rfl, rfl, rfl, by simp, fun k _ hk => setRow_other w g k _ (fun e => hk (by rw [e]))⟩
          have S3 := S2.perm (List.Perm.cons _ (List.Perm.append_left _ hperm))
          rw [hE, ← List.append_assoc, ← pcs_app k8, ← List.flatten_append] at S3
          have hall : ∀ r ∈ rows ++ new, r.length = P.cellsOf e := fun r hr => (List.mem_append.1 hr).elim (k6 r) (wid_spec h3 r)
          have hlen : (us ++ news).length = (rows ++ new).length * P.cellsOf e := by
            rw [List.length_append, k8, hnl, ← List.length_append, ← List.flatten_append, flat_len _ hall]
          have S4 := S3.join (cc := cc) (k := P.cellsOf e) (by rw [hlen, flat_len _ hall]) (by rw [List.length_append]; exact hroom) k4 k5 hall (by
            rw [List.size_toArray, List.length_append, List.length_append, List.length_take, List.length_drop, ← k7]; have hcl : cs.toList.length = cs.size := Array.length_toList; rw [hcl]; revert hfit; generalize rows.length * i.size = M; generalize cs.size = Z; generalize news.length = N; intro hfit; omega) (fun e => absurd (List.append_eq_nil_iff.1 e).2 hne) (by
            rw [← hlen, ← z5, k9]
            exact List.take_left)
          obtain ⟨y', A'⟩ := newTree_sound A1 hd' h S4
          rw [List.length_append] at A'
          exact ⟨_, _, y', hr, A'⟩
        · refine grow _ A1 rows us (some ⟨g, 0, none⟩) cc (hu.trans k2) (by omega) hne h1 k6 h3 k8 (run_firstCells_some _ _ rows.length _ _ _ us (by rw [k8, hfl]) fun j v e1 => ?_) ?_ h
          · show w.cell? _ = some v
            rw [Addr.add_mid, Nat.zero_add, cell_of_row w g _ cs T (0, 0) hg]
            rw [← k9, List.getElem?_take] at e1
            split at e1
            · rw [Array.getElem?_toList] at e1; exact e1
            · cases e1
          · exact S.drop.perm (List.Perm.append_left _ hperm)
  · cases h
theorem append_args (ats : Array TypeId) {t tx : TypeId} (h0 : ats[0]? = some t) (h1 : ats[1]? = some tx) (ty : TypeId) (args : Array Value) : Builtin.append_ ats ty args = Builtin.append_ #[t, tx] ty args := by
  unfold Builtin.append_
  simp [h0, h1]
theorem evArgs (A : At c s y a w) : ∀ {xs : List Operand} {vs : List V}, mapSome s.ev xs = some vs → RVs (relOf c s y) vs (xs.map a.eval)
  | [], vs, h => by simp only [mapSome] at h; injection h with h; subst h; rfl
  | x :: xs, vs, h => by
    simp only [mapSome] at h
    obtain ⟨v, h1, h⟩ := bnd_eq_some h
    obtain ⟨vs', h2, h⟩ := bnd_eq_some h
    injection h with h; subst h
    exact ⟨_, _, rfl, A.ev h1, evArgs A h2⟩
theorem strT_some {t : TypeId} (h : strT P t = true) : P.underlying t = some .string := by
  unfold strT at h
  split at h
  · rename_i d hd
    unfold isStrD at h; split at h
    · exact hd
    · cases h
  · cases h
theorem lstT_some {t : TypeId} (h : lstT P t = true) : ∃ e, P.underlying t = some (.slice e) := by
  unfold lstT at h
  split at h
  · rename_i d hd
    unfold lstD at h; split at h
    · exact ⟨_, hd⟩
    · cases h
  · cases h
/-- a builtin -/
theorem step_builtin {o : Oper} {cl : Call} {b : Builtin} (ho : o.op = .call cl) (hb : cl.callee = .builtin b) (hd' : dstOk c.n o.dst = true) {args : List V} {s' : S} (hargs : mapSome s.ev cl.args.toList = some args) (h : builtinV P s o.dst b cl.argTypes args = some s') : Step P c o s s' := by
  intro a w G next Q kk
  obtain ⟨y, A⟩ := G
  have ea := evArgs A hargs
  have exec : ∀ (u : Value) (w' : World), (∀ cs : Array Bool, (builtin b cl.argTypes o.type cs (cl.args.toList.map a.eval).toArray).run P w = .ok (.value u) w') → (execOp a.eval o).run P w = .ok (.value u) w' := by
    intro u w' hr
    unfold execOp
    simp only [ho, resolve, hb, Sem.run_bind, Sem.run_pure, Result.andThen_ok, invoke]
    rw [← hr _]
    congr 2
    apply Array.ext'
    simp
  have val : ∀ (v : V) (u : Value), RV (relOf c s y) v u → some s' = some (s.put o.dst v) → (∀ cs : Array Bool, (builtin b cl.argTypes o.type cs (cl.args.toList.map a.eval).toArray).run P w = .ok (.value u) w) → o.wp P a w next Q := by
    intro v u hv hs' hr
    injection hs' with hs'; subst hs'
    exact op_value (exec u w hr) (kk _ _ ⟨y, A.value hv hd'⟩)
  unfold builtinV at h
  split at h
  · obtain ⟨t, h0, h⟩ := bnd_eq_some h
    obtain ⟨ht, h⟩ := grd_eq_some h
    obtain ⟨u1, q, e1, e2, e3⟩ := ea
    rw [show q = [] from e3] at e1
    rename_i x _ _
    refine val (.v (.int .i64 x.size)) (.int .i64 x.size) rfl h.symm fun cs => ?_
    rw [e1, show u1 = _ from e2]
    have hu := run_underlying (strT_some ht) w
    simp [builtin, Builtin.len_, h0, hu, goInt]
  · rename_i x _
    obtain ⟨t, h0, h⟩ := bnd_eq_some h
    obtain ⟨ht, h⟩ := grd_eq_some h
    obtain ⟨rows, hr, h⟩ := bnd_eq_some h
    obtain ⟨u1, q, e1, e2, e3⟩ := ea
    rw [show q = [] from e3] at e1
    obtain ⟨B, cc, e4, _⟩ := (A.rows e2 hr).len
    obtain ⟨e, ht⟩ := lstT_some ht
    refine val (.v (.int .i64 rows.length)) (.int .i64 rows.length) rfl h.symm fun cs => ?_
    rw [e1, e4]
    have hu := run_underlying ht w
    simp [builtin, Builtin.len_, h0, hu, goInt]
  · rename_i x z
    obtain ⟨t, h0, h⟩ := bnd_eq_some h
    obtain ⟨tx, h1, h⟩ := bnd_eq_some h
    obtain ⟨hk, h⟩ := grd_eq_some h
    unfold appendV at h
    obtain ⟨d, hd, hh⟩ := bnd_eq_some h
    obtain ⟨e, he, hh2⟩ := bnd_eq_some hh
    obtain ⟨zz, hz, hf⟩ := bnd_eq_some hh2
    have hdd : d = .slice e := by unfold sliceElem at he; split at he <;> first | (injection he with he; subst he; rfl) | cases he
    rw [hdd] at hd
    obtain ⟨u1, q, e1, e2, u2, q2, e3, e4, e5⟩ := ea
    rw [e3, show q2 = [] from e5] at e1
    have hw : wid (P.cellsOf e) zz.1 = true := by
      unfold appendTo at hf
      split at hf
      · obtain ⟨⟨_, h2⟩, _⟩ := grd_eq_some hf; exact h2
      · obtain ⟨_, _, hf⟩ := bnd_eq_some hf
        obtain ⟨⟨_, _, h2⟩, _⟩ := grd_eq_some hf; exact h2
      · cases hf
    obtain ⟨E, news, A1, hE, hs, hnl⟩ := srcV_sound A e4 (rows := zz.1) (s1 := zz.2) hz hw (seqT_kind hk)
    obtain ⟨u', w', y', hr, A'⟩ := appendTo_sound (t := t) (tx := tx) (ty := o.type) A1 hE hs hnl (PV.of e2) hf hd hd'
    refine op_value (exec u' w' fun cs => ?_) (kk _ _ ⟨y', A'⟩)
    rw [e1]
    simp only [builtin, Sem.run_bind, append_args cl.argTypes h0 h1, hr]
    rfl
  · obtain ⟨u1, q, e1, e2, u2, q2, e3, e4, e5⟩ := ea
    rw [e3, show q2 = [] from e5, show u1 = _ from e2, show u2 = _ from e4] at e1
    rename_i x z
    refine val (.v (.int .i64 (max x z))) (.int .i64 (max x z)) rfl h.symm fun cs => ?_
    rw [e1]
    simp only [builtin, Sem.run_bind]
    have := run_max_int2 (P := P) (w := w) cl.argTypes o.type .i64 .i64 x z
    rw [this, show (if z > x then z else x) = max x z by omega]
    rfl
  · obtain ⟨u1, q, e1, e2, u2, q2, e3, e4, e5⟩ := ea
    rw [e3, show q2 = [] from e5, show u1 = _ from e2, show u2 = _ from e4] at e1
    rename_i x z
    refine val (.v (.int .i64 (min x z))) (.int .i64 (min x z)) rfl h.symm fun cs => ?_
    rw [e1]
    simp only [builtin, Sem.run_bind]
    have := run_min_int2 (P := P) (w := w) cl.argTypes o.type .i64 .i64 x z
    rw [this, show (if z < x then z else x) = min x z by omega]
    rfl
  · cases h
end
end Go.Proofs.YtacnbajcignacaaGreat
