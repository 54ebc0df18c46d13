/-
  Soundness of the evaluator, tenth part: append, len, max, min.
-/
import Derived.Test.YtacnbajcignacaaGreatSnd9
namespace Go.Proofs.YtacnbajcignacaaGreat
open Go.RowKit
set_option linter.unusedSimpArgs false
set_option linter.unusedVariables false

section
variable {P : Program} {c : Ctx} {s : S} {y : Lay} {a : Act} {w : World}
def Kind (P : Program) (t : TypeId) : Prop := (∃ e', P.underlying t = some (.slice e')) ∨ P.underlying t = some .string
theorem seqT_kind {t : TypeId} (h : seqT P t = true) : Kind P t := by
  unfold seqT at h
  split at h
  · rename_i d hd
    unfold seqD at h
    split at h
    · exact .inl ⟨_, hd⟩
    · exact .inr hd
    · cases h
  · cases h
theorem RdD.one {G : Nat → Obj → Prop} {d : D} {u : Value} (h : RdD G d u) (o : oneD d = true) : u.oneCell' = true := by
  cases d with
  | a x => rw [h.atom]; exact o
  | l r => obtain ⟨A, c, e, _⟩ := h.len; rw [e]; rfl
/-- what a list that can be read yields -/
theorem RdD.source {k : Nat} {rows : List (List D)} {u : Value} (h : RdD (heapOf w) (.l rows) u) (hw : wid k rows = true) {t : TypeId} (ht : Kind P t) :
    ∃ news, Src P k t u rows.length news w ∧ news.length = rows.flatten.length ∧ ∀ (i : Nat) (x : Value) (v : Value), rows.flatten[i]? = some (.a x) → news[i]? = some v → v = x := by
  cases h with
  | nil A c h1 h2 =>
    refine ⟨[], ?_, rfl, fun i x v e => by simp at e⟩
    cases A with
    | none => exact ⟨ht, fun _ => rfl, run_firstCells_none w k 0 0 c, run_firstCells_none w.drew k 0 0 c, by simp, fun _ h => by cases h⟩
    | some ad => exact ⟨ht, fun _ => rfl, run_firstCells_some w k 0 ad 0 c [] (by simp) (fun j v h => by simp at h), run_firstCells_some w.drew k 0 ad 0 c [] (by simp) (fun j v h => by simp at h), by simp, fun _ h => by cases h⟩
  | l _ n c b o k' T fr cs us q1 q2 q3 q4 q5 q6 q7 q8 q9 =>
    subst q1
    have hk : k' = k := by
      cases rows with
      | nil => simp at q2
      | cons r rs => rw [← q6 r (by simp), wid_spec hw r (by simp)]
    subst hk
    have hfl := flat_len rows q6
    have hl : ((List.range rows.flatten.length).map us).length = rows.length * k' := by rw [List.length_map, List.length_range, hfl]
    have hget : ∀ j u, ((List.range rows.flatten.length).map us)[j]? = some u → ∃ d, rows.flatten[j]? = some d ∧ u = us j := by
      intro j u e
      rw [List.getElem?_map] at e
      obtain ⟨m, e1, rfl⟩ := Option.map_eq_some_iff.1 e
      have hj := (List.getElem?_eq_some_iff.1 e1).1
      rw [List.length_range] at hj
      rw [List.getElem?_range hj] at e1
      injection e1 with e1; subst e1
      exact ⟨_, List.getElem?_eq_getElem hj, rfl⟩
    have hcell : ∀ j u, ((List.range rows.flatten.length).map us)[j]? = some u → w.cell? ((⟨b, o, none⟩ : Addr).add j) = some u := by
      intro j u e
      obtain ⟨d, e1, rfl⟩ := hget j u e
      rw [Addr.add_mid, cell_of_row w b _ cs T fr q7]
      exact q8 j d e1
    refine ⟨(List.range rows.flatten.length).map us, ⟨ht, fun _ => rfl, run_firstCells_some w k' rows.length ⟨b, o, none⟩ rows.length c _ hl hcell, run_firstCells_some w.drew k' rows.length ⟨b, o, none⟩ rows.length c _ hl hcell, hl, fun u hu => ?_⟩, by rw [hl, hfl], fun i x v e1 e2 => ?_⟩
    · obtain ⟨j, e⟩ := List.getElem?_of_mem hu
      obtain ⟨d, e1, rfl⟩ := hget j u e
      obtain ⟨r, hr, hd⟩ := List.mem_flatten.1 (List.mem_of_getElem? e1)
      exact (q9 j d e1).one (wid_one hw r hr d hd)
    · obtain ⟨d, e3, rfl⟩ := hget i v e2
      rw [e1] at e3; injection e3 with e3; subst e3
      exact (q9 i _ e1).atom
theorem flat_flat {rows : List (List D)} (h : rowsFlat rows = true) : ∀ d ∈ rows.flatten, flatD d = true := by
  intro d hd
  obtain ⟨r, hr, hd⟩ := List.mem_flatten.1 hd
  exact List.all_eq_true.1 (List.all_eq_true.1 h r hr) d hd
theorem str_source {k : Nat} {b : ByteArray} (hw : wid k (b.toList.map fun c => [.a (.int .u8 (c.toNat : Int))]) = true) {t : TypeId} (ht : Kind P t) :
    ∃ news, Src P k t (.string b) (b.toList.map fun c => [D.a (.int .u8 (c.toNat : Int))]).length news w ∧ news.length = (b.toList.map fun c => [D.a (.int .u8 (c.toNat : Int))]).flatten.length ∧
      ∀ (i : Nat) (x : Value) (v : Value), (b.toList.map fun c => [D.a (.int .u8 (c.toNat : Int))]).flatten[i]? = some (.a x) → news[i]? = some v → v = x := by
  have hsz : b.toList.length = b.size := by rw [ByteArray.toList_eq, Array.length_toList]; rfl
  have hfl := flat_len (k := 1) (b.toList.map fun c => [D.a (.int .u8 (c.toNat : Int))]) (fun r hr => by obtain ⟨x, _, rfl⟩ := List.mem_map.1 hr; rfl)
  have hf : ∀ w' : World, (Builtin.firstCells k b.size (.string b)).run P w' = .ok (byteCells b).toArray w' := by
    intro w'
    have := firstCells_string (P := P) b w'
    exact this
  refine ⟨byteCells b, ⟨ht, fun _ => by rw [List.length_map, hsz]; rfl, by rw [List.length_map, hsz]; exact hf w, by rw [List.length_map, hsz]; exact hf w.drew, ?_, fun u hu => ?_⟩, ?_, fun i x v e1 e2 => ?_⟩
  · rw [byteCells_length, List.length_map, hsz]
    by_cases h0 : b.size = 0
    · rw [h0]; simp
    · have hne : b.toList ≠ [] := by intro e; rw [e] at hsz; simp at hsz; omega
      obtain ⟨x, r, e⟩ := List.exists_cons_of_ne_nil hne
      rw [e] at hw
      have := wid_spec hw [D.a (.int .u8 (x.toNat : Int))] (by simp)
      simp at this
      rw [← this]; simp
  · obtain ⟨_, _, rfl⟩ := List.mem_map.1 hu
    rfl
  · rw [byteCells_length, hfl, List.length_map, hsz, Nat.mul_one]
  · have hi : i < b.toList.length := by
      have := (List.getElem?_eq_some_iff.1 e1).1
      rw [hfl, List.length_map, Nat.mul_one] at this; exact this
    have := flat_get (k := 1) (b.toList.map fun c => [D.a (.int .u8 (c.toNat : Int))]) i 0 _ _ (fun r hr => by obtain ⟨x, _, rfl⟩ := List.mem_map.1 hr; rfl) (by rw [List.getElem?_map, List.getElem?_eq_getElem hi]; rfl) rfl
    rw [show i * 1 + 0 = i by omega, e1] at this
    injection this with this; injection this with this; subst this
    unfold byteCells at e2
    rw [← ByteArray.toList_eq, List.getElem?_map, List.getElem?_eq_getElem hi] at e2
    simpa using e2.symm
/-- what is appended, and its cells beside -/
theorem srcV_sound (A : At c s y a w) {v : V} {u : Value} (hv : RV (relOf c s y) v u) {rows : List (List D)} {s1 : S} (h : srcV s v = some (rows, s1)) {k : Nat} (hw : wid k rows = true) {t : TypeId} (ht : Kind P t) :
    ∃ E news, At (c.with E) s1 y a w ∧ E = pcs rows.flatten news ∧ Src P k t u rows.length news w ∧ news.length = rows.flatten.length := by
  have flat : ∀ (rows : List (List D)), rowsFlat rows = true → (∃ news, Src P k t u rows.length news w ∧ news.length = rows.flatten.length ∧ ∀ (i : Nat) (x : Value) (v : Value), rows.flatten[i]? = some (.a x) → news[i]? = some v → v = x) →
      ∃ E news, At (c.with E) s y a w ∧ E = pcs rows.flatten news ∧ Src P k t u rows.length news w ∧ news.length = rows.flatten.length := by
    intro rows hf ⟨news, h1, h2, h3⟩
    have S := St.atoms A.pcs (flat_flat hf) h3
    refine ⟨_, news, A.withL (L' := pcs rows.flatten news ++ c.L) (Ctx.with c _).hK (S.perm ?_), rfl, h1, h2⟩
    rw [← List.append_assoc, ← List.append_assoc]
    exact List.Perm.append_right _ List.perm_append_comm
  unfold srcV at h
  split at h
  · rename_i b
    injection h with h; injection h with h1 h2; subst h1; subst h2
    rw [show u = .string b from hv]
    have hf : rowsFlat (b.toList.map fun c => [D.a (.int .u8 (c.toNat : Int))]) = true := by
      unfold rowsFlat; rw [List.all_eq_true]; intro r hr
      obtain ⟨x, _, rfl⟩ := List.mem_map.1 hr
      rfl
    have := flat _ hf (by rw [show u = .string b from hv]; exact str_source hw ht)
    rw [show u = .string b from hv] at this
    exact this
  · rename_i q
    unfold srcOwn at h
    split at h
    · rename_i rows' hq
      injection h with h; injection h with h1 h2; subst h1
      by_cases hf : rowsFlat rows' = true
      · rw [if_pos hf] at h2; subst h2
        exact flat _ hf (RdD.source (A.rows hv (by simp only [S.rows, hq, orElse1])) hw ht)
      · rw [if_neg hf] at h2; subst h2
        have hu : u = y.hd q := hv.2
        rcases (A.out' hq).split with ⟨e, _⟩ | ⟨g, cc, k', T, cs, us, k1, k2, k3, k4, k5, k6, k7, k8, k9, S⟩
        · rw [e] at hf; exact absurd rfl hf
        · have hk : k' = k := by
            cases hr : rows' with
            | nil => exact absurd hr k1
            | cons r rs => rw [hr] at k6 hw; rw [← k6 r (by simp), wid_spec hw r (by simp)]
          subst hk
          have hg : w.heap[g]? = some (.cells cs T (0, 0)) := S.row_at List.mem_cons_self
          have hfl := flat_len rows' k6
          have hcell : ∀ j v, us[j]? = some v → w.cell? ((⟨g, 0, none⟩ : Addr).add j) = some v := by
            intro j v e
            rw [Addr.add_mid, Nat.zero_add, cell_of_row w g _ cs T (0, 0) hg]
            rw [← k9, List.getElem?_take] at e
            split at e
            · rw [Array.getElem?_toList] at e; exact e
            · cases e
          have S2 := S.drop
          refine ⟨_, us, A.killed' (L' := pcs rows'.flatten us ++ c.L) (Ctx.with c _).hK (S2.perm ?_) hq, rfl, ?_, k8⟩
          · rw [← List.append_assoc, ← List.append_assoc]
            exact List.Perm.append_right _ List.perm_append_comm
          · rw [hu, k2]
            refine ⟨ht, fun _ => rfl, run_firstCells_some w k' rows'.length ⟨g, 0, none⟩ rows'.length cc _ (by rw [k8, hfl]) hcell, run_firstCells_some w.drew k' rows'.length ⟨g, 0, none⟩ rows'.length cc _ (by rw [k8, hfl]) hcell, by rw [k8, hfl], fun x hx => ?_⟩
            obtain ⟨j, e⟩ := List.getElem?_of_mem hx
            have hj : j < rows'.flatten.length := by rw [← k8]; exact (List.getElem?_eq_some_iff.1 e).1
            have hd := List.getElem?_eq_getElem hj
            obtain ⟨F, o⟩ := A.treeAt hq
            have hrd := o.rd (G := heapOf w) fun _ _ _ e => e
            rw [k2] at hrd
            cases hrd with
            | nil => exact absurd rfl k1
            | l _ n c' b' o' k'' T' fr' cs' us' q1 q2 q3 q4 q5 q6 q7 q8 q9 =>
              have e7 : heapOf w g (.cells cs' T' fr') := q7
              unfold heapOf at e7
              rw [hg] at e7
              injection e7 with e7; injection e7 with e7 _ _
              have e8 := q8 j _ hd
              rw [Nat.zero_add, ← e7] at e8
              have e9 : cs[j]? = some x := by
                have := hcell j x e
                rw [Addr.add_mid, Nat.zero_add, cell_of_row w g _ cs T (0, 0) hg] at this
                exact this
              rw [e9] at e8; injection e8 with e8
              rw [e8]
              obtain ⟨r, hr, hdr⟩ := List.mem_flatten.1 (List.mem_of_getElem? hd)
              exact (q9 j _ hd).one (wid_one hw r hr _ hdr)
    · rename_i hq
      obtain ⟨rows', h1, h⟩ := bnd_eq_some h
      obtain ⟨hf, h⟩ := grd_eq_some h
      injection h with h; injection h with h2 h3; subst h2; subst h3
      exact flat _ hf (RdD.source (A.rows hv (by simp only [S.rows, hq, orElse1, h1])) hw ht)
  · injection h with h; injection h with h1 h2; subst h1; subst h2
    exact flat [] rfl (RdD.source (A.rows hv rfl) hw ht)
  · rename_i rows'
    obtain ⟨hf, h⟩ := grd_eq_some h
    injection h with h; injection h with h2 h3; subst h2; subst h3
    exact flat _ hf (RdD.source (A.rows hv rfl) hw ht)
  · rename_i rows'
    obtain ⟨hf, h⟩ := grd_eq_some h
    injection h with h; injection h with h2 h3; subst h2; subst h3
    exact flat _ hf (RdD.source (A.rows hv rfl) hw ht)
  · cases h
/-- there is room -/
theorem run_append_roomT (t tx ty e : TypeId) (i : TypeInfo) (ht : P.underlying t = some (.slice e)) (hi : P.info? e = some i) (g sLen sCap : Nat) (cur : Array Value) (T : TypeId) (hg : w.heap[g]? = some (.cells cur T (0, 0))) (x : Value) (n : Nat) (news : List Value) (hs : Src P i.size tx x n news w)
    (hroom : sLen + n ≤ sCap) (hfit : sLen * i.size + news.length ≤ cur.size) :
    (Builtin.append_ #[t, tx] ty #[.slice (some ⟨g, 0, none⟩) sLen sCap, x]).run P w = .ok (.slice (some ⟨g, 0, none⟩) (sLen + n) sCap) (w.setRow g (cur.toList.take (sLen * i.size) ++ news ++ cur.toList.drop (sLen * i.size + news.length)).toArray) := by
  have hst := run_storeCells_at P g (sLen * i.size) T news 0 cur w hg (by simpa using hfit) hs.one
  simp only [Nat.add_zero] at hst
  rcases hs.kind with ⟨e', hk⟩ | hk <;> simp [Builtin.append_, run_underlying ht, run_underlying hk, sizeOf, typeInfo, hi, hs.len, hroom, hs.cells, Addr.add_lit, hst]
end
end Go.Proofs.YtacnbajcignacaaGreat
