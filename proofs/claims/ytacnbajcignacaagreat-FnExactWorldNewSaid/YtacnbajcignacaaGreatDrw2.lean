/-
  Regions in any order, second part: what an operation brings.
-/
import Derived.Test.YtacnbajcignacaaGreatDrw1
namespace Go.Proofs.YtacnbajcignacaaGreat
open Go.RowKit
set_option linter.unusedSimpArgs false
set_option linter.unusedVariables false

section
variable {P : Program} {G : List (FuncId × Bool × Mean)} {oB oT : Nat → Prop} {s s' : S}
theorem len_other {dst : Option Nat} {ats : Array TypeId} (x : V) (hx : ∀ b, x ≠ .v (.string b)) : builtinV P s dst .len ats [x] = bnd ats[0]? fun t => grd (lstT P t = true) (bnd (s.rows x) fun rows => some (s.put dst (.v (.int .i64 rows.length)))) := by
  cases x <;> first | rfl | (rename_i y; cases y <;> first | rfl | exact absurd rfl (hx _))
theorem lenB_other {ats : Array TypeId} (x : V) (hx : ∀ b, x ≠ .v (.string b)) : valB P s .len ats [x] = bnd ats[0]? fun t => grd (lstT P t = true) (bnd (s.rows x) fun rows => some (.v (.int .i64 rows.length))) := by
  cases x <;> first | rfl | (rename_i y; cases y <;> first | rfl | exact absurd rfl (hx _))
theorem valB_ev {b : Builtin} {ats : Array TypeId} {args : List V} {d : Nat} {v : V} (h : valB P s b ats args = some v) : builtinV P s (some d) b ats args = some (s.put (some d) v) := by
  have h0 := h
  unfold valB at h
  split at h
  · obtain ⟨t, h1, h⟩ := bnd_eq_some h
    obtain ⟨h2, h⟩ := grd_eq_some h
    injection h with h; subst h
    simp only [builtinV, h1, bnd_some, grd_pos _ h2]
  · rename_i x hx
    obtain ⟨t, h1, h⟩ := bnd_eq_some h
    obtain ⟨h2, h⟩ := grd_eq_some h
    obtain ⟨rows, h3, h⟩ := bnd_eq_some h
    injection h with h; subst h
    rw [len_other x fun b e => hx b e]
    simp only [h1, bnd_some, grd_pos _ h2, h3]
  · injection h with h; subst h; rfl
  · injection h with h; subst h; rfl
  · cases h
theorem valB_agr (A : Agr oB oT s s') {b : Builtin} {ats : Array TypeId} {args : List V} {v : V} (i : inSs oB oT args) (h : valB P s b ats args = some v) : valB P s' b ats args = some v := by
  have h0 := h
  unfold valB at h
  split at h
  · exact h
  · rename_i x hx
    rw [lenB_other x fun b e => hx b e] at h0 ⊢
    exact bnd_mono (fun _ h => h) (fun _ _ h => grd_mono (fun h => bnd_mono (fun _ h => A.rows i.1 h) (fun _ _ h => h) h) h) h0
  · exact h
  · exact h
  · cases h
theorem flatRows_of {x : V} (hx : ∀ v, x ≠ .v v) : flatRows s x = bnd (s.rows x) fun rows => grd (rowsFlat rows = true) (some rows) := by
  cases x <;> first | rfl | exact absurd rfl (hx _)
theorem flatRows_src {x : V} {rows : List (List D)} (h : flatRows s x = some rows) : srcV s x = some (rows, s) := by
  cases x with
  | v y => cases y <;> first | (simp only [flatRows] at h; cases h; done) | (simp only [flatRows] at h; injection h with h; subst h; rfl)
  | own q =>
    rw [flatRows_of (by intro v e; cases e)] at h
    obtain ⟨r, h1, h⟩ := bnd_eq_some h
    obtain ⟨h2, h⟩ := grd_eq_some h
    injection h with h; subst h
    simp only [S.rows] at h1
    simp only [srcV]
    cases e : look q s.tree with
    | some r' => rw [e] at h1; simp only [orElse1] at h1; injection h1 with h1; subst h1; simp only [srcOwn, if_pos h2]
    | none => rw [e] at h1; simp only [orElse1] at h1; simp only [srcOwn, h1, bnd_some, grd_pos _ h2]
  | _ =>
    rw [flatRows_of (by intro v e; cases e)] at h
    obtain ⟨r, h1, h⟩ := bnd_eq_some h
    obtain ⟨h2, h⟩ := grd_eq_some h
    injection h with h; subst h
    simp only [S.rows] at h1
    first | (cases h1; done) | (injection h1 with h1; subst h1; first | rfl | simp only [srcV, grd_pos _ h2])
theorem flatRows_agr (A : Agr oB oT s s') {x : V} {rows : List (List D)} (i : inS oB oT x) (h : flatRows s x = some rows) : flatRows s' x = some rows := by
  cases x with
  | v y => cases y <;> exact h
  | _ =>
    rw [flatRows_of (by intro v e; cases e)] at h ⊢
    exact bnd_mono (fun _ h => A.rows i h) (fun _ _ h => h) h
theorem packRow_flat : ∀ {l : List V} {r : List D}, mapSome packV l = some r → packRow s l = some (r, s)
  | [], r, h => by simp only [mapSome] at h; injection h with h; subst h; rfl
  | v :: l, r, h => by
    simp only [mapSome] at h
    obtain ⟨x, h1, h⟩ := bnd_eq_some h
    obtain ⟨q, h2, h⟩ := bnd_eq_some h
    injection h with h; subst h
    cases v <;> first | (simp only [packV] at h1; cases h1; done) | simp only [packRow, h1, bnd_some, packRow_flat h2]
theorem packRows_flat : ∀ {l : List (Nat × V)} {r : List (List D)}, mapSome (fun v : Nat × V => mapSome packV v.2.cells) l = some r → packRows s (l.map (·.2)) = some (r, s)
  | [], r, h => by simp only [mapSome] at h; injection h with h; subst h; rfl
  | v :: l, r, h => by
    simp only [mapSome] at h
    obtain ⟨x, h1, h⟩ := bnd_eq_some h
    obtain ⟨q, h2, h⟩ := bnd_eq_some h
    injection h with h; subst h
    simp only [List.map_cons, packRows, packRow_flat h1, bnd_some, packRows_flat h2]
/-- the effect, as the evaluator has it -/
theorem effOp_ev {d : Nat} {op : Op} {e : Eff} (h : effOp P G s d op = some e) (hf : freshAll s e.tree = true) (hb : freshBox s e.box = true) : evOp P G s (some d) op = some (s.app (some d) e) := by
  have val : bnd (valOp P s op) (fun v => some (⟨v, [], []⟩ : Eff)) = some e → evOp P G s (some d) op = some (s.app (some d) e) := fun h => by
    obtain ⟨v, h1, h⟩ := bnd_eq_some h
    injection h with h; subst h
    rw [valOp_ev h1]; rfl
  cases op <;> try exact val h
  case alloc t =>
    obtain ⟨cs, h1, h⟩ := bnd_eq_some h
    injection h with h; subst h
    simp only [freshBox, Bool.and_true] at hb
    simp only [evOp, h1, bnd_some, S.newBox]
    rw [grd_pos _ hb]; rfl
  case box t x =>
    obtain ⟨v, h1, h⟩ := bnd_eq_some h
    obtain ⟨h2, h⟩ := grd_eq_some h
    injection h with h; subst h
    simp only [freshBox, Bool.and_true] at hb
    simp only [evOp, h1, bnd_some, S.newBox]
    rw [grd_pos _ h2, grd_pos _ hb]; rfl
  case buildSlice t n ps =>
    obtain ⟨ds, h1, h⟩ := bnd_eq_some h
    obtain ⟨el, h2, h⟩ := bnd_eq_some h
    obtain ⟨vs, h3, h⟩ := bnd_eq_some h
    obtain ⟨h4, h⟩ := grd_eq_some h
    obtain ⟨rows, h5, h⟩ := bnd_eq_some h
    injection h with h; subst h
    simp only [freshAll, Bool.and_true, Bool.and_eq_true] at hf
    simp only [evOp, h1, h2, h3, bnd_some, grd_pos _ h4, packRows_flat h5, S.newTree]
    rw [grd_pos _ hf.1]; rfl
  case call c =>
    simp only [effOp] at h
    obtain ⟨args, h1, h⟩ := bnd_eq_some h
    simp only [evOp, h1, bnd_some]
    unfold evCall
    unfold effCallee at h
    split at h
    · rename_i b hcl
      unfold effB at h
      split at h
      · rename_i x y
        obtain ⟨t, h2, h⟩ := bnd_eq_some h
        obtain ⟨t1, h3, h⟩ := bnd_eq_some h
        obtain ⟨h4, h⟩ := grd_eq_some h
        obtain ⟨ds, h5, h⟩ := bnd_eq_some h
        obtain ⟨el, h6, h⟩ := bnd_eq_some h
        obtain ⟨new, h7, h⟩ := bnd_eq_some h
        cases x <;> simp only [effNew] at h <;> try (cases h; done)
        obtain ⟨h8, h⟩ := grd_eq_some h
        injection h with h; subst h
        simp only [freshAll, Bool.and_true, Bool.and_eq_true] at hf
        simp only [builtinV, h2, h3, bnd_some, grd_pos _ h4, appendV, h5, h6, flatRows_src h7, appendTo, grd_pos _ h8, S.newTree, grd_pos _ hf.1]
        rfl
      · obtain ⟨v, h2, h⟩ := bnd_eq_some h
        injection h with h; subst h
        rw [valB_ev h2]; rfl
    · rename_i g hcl
      obtain ⟨fv, h2, h⟩ := bnd_eq_some h
      obtain ⟨f, h3, h⟩ := bnd_eq_some h
      obtain ⟨M, h4, h⟩ := bnd_eq_some h
      obtain ⟨h5, h⟩ := grd_eq_some h
      simp only [h2, h3, h4, bnd_some, h5]
      exact effCall_ev h hf
    · cases h
/-- the same effect -/
theorem effOp_agr (A : Agr oB oT s s') {d : Nat} {op : Op} {e : Eff} (E : ∀ x ∈ op.operands.toList, SameAt oB oT s s' x) (h : effOp P G s d op = some e) : effOp P G s' d op = some e := by
  have val : bnd (valOp P s op) (fun v => some (⟨v, [], []⟩ : Eff)) = some e → bnd (valOp P s' op) (fun v => some (⟨v, [], []⟩ : Eff)) = some e := fun h => bnd_mono (fun _ h => valOp_agr A E h) (fun _ _ h => h) h
  cases op <;> try exact val h
  case alloc t => exact h
  case box t x => exact bnd_mono (fun v h => (E x (by simp [Op.operands]) v h).1) (fun _ _ h => h) h
  case buildSlice t n ps => exact bnd_mono (fun _ h => h) (fun _ _ h => bnd_mono (fun _ h => h) (fun _ _ h => bnd_mono (fun _ h => pairs_same (fun x hx => E x.2 (by simp only [Op.operands]; exact List.mem_map.2 ⟨x, hx, rfl⟩)) h) (fun _ _ h => h) h) h) h
  case call c =>
    simp only [effOp] at h ⊢
    obtain ⟨args, h1, h⟩ := bnd_eq_some h
    have hmem : ∀ x ∈ c.args.toList, SameAt oB oT s s' x := fun x hx => E x (by simp only [Op.operands, Call.operands, Array.toList_append]; exact List.mem_append_right _ hx)
    obtain ⟨k1, k2⟩ := evs_same hmem h1
    rw [k1, bnd_some]
    unfold effCallee at h ⊢
    split at h
    · rename_i b hcl
      unfold effB at h ⊢
      split at h
      · rename_i x y
        exact bnd_mono (fun _ h => h) (fun _ _ h => bnd_mono (fun _ h => h) (fun _ _ h => grd_mono (fun h => bnd_mono (fun _ h => h) (fun _ _ h => bnd_mono (fun _ h => h) (fun _ _ h => bnd_mono (fun _ h => flatRows_agr A k2.2.1 h) (fun _ _ h => h) h) h) h) h) h) h
      · exact bnd_mono (fun _ h => valB_agr A k2 h) (fun _ _ h => h) h
    · rename_i g hcl
      obtain ⟨fv, h2, h⟩ := bnd_eq_some h
      obtain ⟨f, h3, h⟩ := bnd_eq_some h
      obtain ⟨M, h4, h⟩ := bnd_eq_some h
      obtain ⟨h5, h⟩ := grd_eq_some h
      obtain ⟨k3, k4⟩ := E g (by simp only [Op.operands, Call.operands, hcl]; simp) fv h2
      simp only [k3, h3, h4, bnd_some, grd_pos _ h5]
      refine effCall_agr A (inSs_app k2 ?_) h
      cases fv <;> simp only [fnOf] at h3 <;> try (cases h3; done)
      injection h3 with h3; subst h3
      exact k4
    · cases h
end
end Go.Proofs.YtacnbajcignacaaGreat
