/- Part 6 of a proof in several texts (an abstract evaluator, what the functions compute). -/
import Derived.Test.YtjhdikdopdcfcaaGreatDoorPkFnSearch5
import Derived.Orders
import Derived.Scope
namespace Go.Proofs.YtjhdikdopdcfcaaGreatDoor
open Go.RowKit
set_option linter.unusedSimpArgs false
set_option linter.unusedVariables false
section
variable {P : Program} {G : List (FuncId × Bool × Mean)} {oB oT : Nat → Prop} {s s' : S}
theorem len_other {dst : Option Nat} {ats : Array TypeId} (x : V) (hx : ∀ b, x ≠ .v (.string b)) : builtinV P s dst .len ats [x] = bnd ats[0]? fun t => grd (lstT P t = true) (bnd (s.rows x) fun rows => some (s.put dst (.v (.int .i64 rows.length)))) := by
  cases x <;> first | rfl | (rename_i y; cases y <;> first | rfl | exact absurd rfl (hx _))
theorem lenB_other {ats : Array TypeId} (x : V) (hx : ∀ b, x ≠ .v (.string b)) : valB P s .len ats [x] = bnd ats[0]? fun t => grd (lstT P t = true) (bnd (s.rows x) fun rows => some (.v (.int .i64 rows.length))) := by
  cases x <;> first | rfl | (rename_i y; cases y <;> first | rfl | exact absurd rfl (hx _))
theorem valB_ev {b : Builtin} {ats : Array TypeId} {args : List V} {d : Nat} {v : V} (h : valB P s b ats args = some v) : builtinV P s (some d) b ats args = some (s.put (some d) v) := by
  have h0 := h
  unfold valB at h
  split at h
  · obtain ⟨t, h1, h⟩ := bnd_eq_some h
    obtain ⟨h2, h⟩ := grd_eq_some h
    injection h with h; subst h
    simp only [builtinV, h1, bnd_some, grd_pos _ h2]
  · rename_i x hx
    obtain ⟨t, h1, h⟩ := bnd_eq_some h
    obtain ⟨h2, h⟩ := grd_eq_some h
    obtain ⟨rows, h3, h⟩ := bnd_eq_some h
    injection h with h; subst h
    rw [len_other x fun b e => hx b e]
    simp only [h1, bnd_some, grd_pos _ h2, h3]
  · injection h with h; subst h; rfl
  · injection h with h; subst h; rfl
  · cases h
theorem valB_agr (A : Agr oB oT s s') {b : Builtin} {ats : Array TypeId} {args : List V} {v : V} (i : inSs oB oT args) (h : valB P s b ats args = some v) : valB P s' b ats args = some v := by
  have h0 := h
  unfold valB at h
  split at h
  · exact h
  · rename_i x hx
    rw [lenB_other x fun b e => hx b e] at h0 ⊢
    exact bnd_mono (fun _ h => h) (fun _ _ h => grd_mono (fun h => bnd_mono (fun _ h => A.rows i.1 h) (fun _ _ h => h) h) h) h0
  · exact h
  · exact h
  · cases h
theorem flatRows_of {x : V} (hx : ∀ v, x ≠ .v v) : flatRows s x = bnd (s.rows x) fun rows => grd (rowsFlat rows = true) (some rows) := by
  cases x <;> first | rfl | exact absurd rfl (hx _)
theorem flatRows_src {x : V} {rows : List (List D)} (h : flatRows s x = some rows) : srcV s x = some (rows, s) := by
  cases x with
  | v y => cases y <;> first | (simp only [flatRows] at h; cases h; done) | (simp only [flatRows] at h; injection h with h; subst h; rfl)
  | own q =>
    rw [flatRows_of (by intro v e; cases e)] at h
    obtain ⟨r, h1, h⟩ := bnd_eq_some h
    obtain ⟨h2, h⟩ := grd_eq_some h
    injection h with h; subst h
    simp only [S.rows] at h1
    simp only [srcV]
    cases e : look q s.tree with
    | some r' => rw [e] at h1; simp only [orElse1] at h1; injection h1 with h1; subst h1; simp only [srcOwn, if_pos h2]
    | none => rw [e] at h1; simp only [orElse1] at h1; simp only [srcOwn, h1, bnd_some, grd_pos _ h2]
  | _ =>
    rw [flatRows_of (by intro v e; cases e)] at h
    obtain ⟨r, h1, h⟩ := bnd_eq_some h
    obtain ⟨h2, h⟩ := grd_eq_some h
    injection h with h; subst h
    simp only [S.rows] at h1
    first | (cases h1; done) | (injection h1 with h1; subst h1; first | rfl | simp only [srcV, grd_pos _ h2]) | (simp only [srcV, S.rows, h1, bnd_some, grd_pos _ h2])
theorem flatRows_agr (A : Agr oB oT s s') {x : V} {rows : List (List D)} (i : inS oB oT x) (h : flatRows s x = some rows) : flatRows s' x = some rows := by
  cases x with
  | v y => cases y <;> exact h
  | _ =>
    rw [flatRows_of (by intro v e; cases e)] at h ⊢
    exact bnd_mono (fun _ h => A.rows i h) (fun _ _ h => h) h
theorem packRow_flat : ∀ {l : List V} {r : List D}, mapSome packV l = some r → packRow s l = some (r, s)
  | [], r, h => by simp only [mapSome] at h; injection h with h; subst h; rfl
  | v :: l, r, h => by
    simp only [mapSome] at h
    obtain ⟨x, h1, h⟩ := bnd_eq_some h
    obtain ⟨q, h2, h⟩ := bnd_eq_some h
    injection h with h; subst h
    cases v <;> first | (simp only [packV] at h1; cases h1; done) | simp only [packRow, h1, bnd_some, packRow_flat h2]
theorem packRows_flat : ∀ {l : List (Nat × V)} {r : List (List D)}, mapSome (fun v : Nat × V => mapSome packV v.2.cells) l = some r → packRows s (l.map (·.2)) = some (r, s)
  | [], r, h => by simp only [mapSome] at h; injection h with h; subst h; rfl
  | v :: l, r, h => by
    simp only [mapSome] at h
    obtain ⟨x, h1, h⟩ := bnd_eq_some h
    obtain ⟨q, h2, h⟩ := bnd_eq_some h
    injection h with h; subst h
    simp only [List.map_cons, packRows, packRow_flat h1, bnd_some, packRows_flat h2]
theorem effOp_ev {d : Nat} {op : Op} {e : Eff} (h : effOp P G s d op = some e) (hf : freshAll s e.tree = true) (hb : freshBox s e.box = true) : evOp P G s (some d) op = some (s.app (some d) e) ∨
    ∃ (cl : Call) (p : Nat) (z : V) (t tx el : TypeId) (new : List (List D)), op = .call cl ∧ cl.callee = .builtin .append ∧ mapSome s.ev cl.args.toList = some [.own p, z] ∧ cl.argTypes[0]? = some t ∧ cl.argTypes[1]? = some tx ∧ seqT P tx = true ∧ P.underlying t = some (.slice el) ∧ srcV s z = some (new, s) ∧ look p s.tree = some [] ∧ sizeOk P el new.length = true ∧ wid (P.cellsOf el) new = true ∧ s.newTree (some d) new = some (s.app (some d) e) := by
  have val : bnd (valOp P s op) (fun v => some (⟨v, [], []⟩ : Eff)) = some e → evOp P G s (some d) op = some (s.app (some d) e) := fun h => by
    obtain ⟨v, h1, h⟩ := bnd_eq_some h
    injection h with h; subst h
    rw [valOp_ev h1]; rfl
  cases op <;> try exact .inl (val h)
  case alloc t =>
    left
    obtain ⟨cs, h1, h⟩ := bnd_eq_some h
    injection h with h; subst h
    simp only [freshBox, Bool.and_true] at hb
    simp only [evOp, h1, bnd_some, S.newBox]
    rw [grd_pos _ hb]; rfl
  case box t x =>
    left
    obtain ⟨v, h1, h⟩ := bnd_eq_some h
    obtain ⟨h2, h⟩ := grd_eq_some h
    injection h with h; subst h
    simp only [freshBox, Bool.and_true] at hb
    simp only [evOp, h1, bnd_some, S.newBox]
    rw [grd_pos _ h2, grd_pos _ hb]; rfl
  case buildSlice t n ps =>
    left
    obtain ⟨ds, h1, h⟩ := bnd_eq_some h
    obtain ⟨el, h2, h⟩ := bnd_eq_some h
    obtain ⟨vs, h3, h⟩ := bnd_eq_some h
    obtain ⟨h4, h⟩ := grd_eq_some h
    obtain ⟨rows, h5, h⟩ := bnd_eq_some h
    injection h with h; subst h
    simp only [freshAll, Bool.and_true, Bool.and_eq_true] at hf
    simp only [evOp, h1, h2, h3, bnd_some, grd_pos _ h4, packRows_flat h5, S.newTree]
    rw [grd_pos _ hf.1]; rfl
  case call c =>
    simp only [effOp] at h
    obtain ⟨args, h1, h⟩ := bnd_eq_some h
    simp only [evOp, h1, bnd_some]
    unfold evCall
    unfold effCallee at h
    split at h
    · rename_i b hcl
      unfold effB at h
      split at h
      · rename_i x y
        obtain ⟨t, h2, h⟩ := bnd_eq_some h
        obtain ⟨t1, h3, h⟩ := bnd_eq_some h
        obtain ⟨h4, h⟩ := grd_eq_some h
        obtain ⟨ds, h5, h⟩ := bnd_eq_some h
        obtain ⟨el, h6, h⟩ := bnd_eq_some h
        obtain ⟨new, h7, h⟩ := bnd_eq_some h
        cases x <;> simp only [effNew] at h <;> try (cases h; done)
        case nil =>
          left
          obtain ⟨h8, h⟩ := grd_eq_some h
          injection h with h; subst h
          simp only [freshAll, Bool.and_true, Bool.and_eq_true] at hf
          simp only [hcl, builtinV, h2, h3, bnd_some, grd_pos _ h4, appendV, h5, h6, flatRows_src h7, appendTo, grd_pos _ h8, S.newTree, grd_pos _ hf.1]
          rfl
        case own =>
          right
          obtain ⟨rows, h8, h⟩ := bnd_eq_some h
          obtain ⟨⟨h9, h10, h11⟩, h⟩ := grd_eq_some h
          injection h with h; subst h
          have hr : rows = [] := by simpa using h9
          subst hr
          have hds : ds = .slice el := by unfold sliceElem at h6; split at h6 <;> first | (injection h6 with h6; subst h6; rfl) | cases h6
          subst hds
          simp only [freshAll, Bool.and_true, Bool.and_eq_true] at hf
          refine ⟨c, _, y, t, t1, el, new, rfl, hcl, h1, h2, h3, h4, h5, flatRows_src h7, h8, h10, h11, ?_⟩
          simp only [S.newTree, bnd_some, grd_pos _ hf.1]
          rfl
      · left
        obtain ⟨v, h2, h⟩ := bnd_eq_some h
        injection h with h; subst h
        rw [valB_ev h2]; rfl
    · left
      rename_i g hcl
      obtain ⟨fv, h2, h⟩ := bnd_eq_some h
      obtain ⟨f, h3, h⟩ := bnd_eq_some h
      obtain ⟨M, h4, h⟩ := bnd_eq_some h
      obtain ⟨h5, h⟩ := grd_eq_some h
      simp only [hcl, h2, h3, h4, bnd_some, h5, callX_false]
      exact effCall_ev h hf
    · cases h
theorem effNew_agr (A : Agr oB oT s s') {d : Nat} {el : TypeId} {new : List (List D)} {x : V} {e : Eff} (i : inS oB oT x) (h : effNew P s d el new x = some e) : effNew P s' d el new x = some e := by
  cases x <;> simp only [effNew] at h ⊢ <;> try (cases h; done)
  · exact h
  · exact bnd_mono (fun _ h => A.tree _ _ h i) (fun _ _ h => h) h
theorem effOp_agr (A : Agr oB oT s s') {d : Nat} {op : Op} {e : Eff} (E : ∀ x ∈ op.operands.toList, SameAt oB oT s s' x) (h : effOp P G s d op = some e) : effOp P G s' d op = some e := by
  have val : bnd (valOp P s op) (fun v => some (⟨v, [], []⟩ : Eff)) = some e → bnd (valOp P s' op) (fun v => some (⟨v, [], []⟩ : Eff)) = some e := fun h => bnd_mono (fun _ h => valOp_agr A E h) (fun _ _ h => h) h
  cases op <;> try exact val h
  case alloc t => exact h
  case box t x => exact bnd_mono (fun v h => (E x (by simp [Op.operands]) v h).1) (fun _ _ h => h) h
  case buildSlice t n ps => exact bnd_mono (fun _ h => h) (fun _ _ h => bnd_mono (fun _ h => h) (fun _ _ h => bnd_mono (fun _ h => pairs_same (fun x hx => E x.2 (by simp only [Op.operands]; exact List.mem_map.2 ⟨x, hx, rfl⟩)) h) (fun _ _ h => h) h) h) h
  case call c =>
    simp only [effOp] at h ⊢
    obtain ⟨args, h1, h⟩ := bnd_eq_some h
    have hmem : ∀ x ∈ c.args.toList, SameAt oB oT s s' x := fun x hx => E x (by simp only [Op.operands, Call.operands, Array.toList_append]; exact List.mem_append_right _ hx)
    obtain ⟨k1, k2⟩ := evs_same hmem h1
    rw [k1, bnd_some]
    unfold effCallee at h ⊢
    split at h
    · rename_i b hcl
      unfold effB at h ⊢
      split at h
      · rename_i x y
        exact bnd_mono (fun _ h => h) (fun _ _ h => bnd_mono (fun _ h => h) (fun _ _ h => grd_mono (fun h => bnd_mono (fun _ h => h) (fun _ _ h => bnd_mono (fun _ h => h) (fun _ _ h => bnd_mono (fun _ h => flatRows_agr A k2.2.1 h) (fun _ _ h => effNew_agr A k2.1 h) h) h) h) h) h) h
      · exact bnd_mono (fun _ h => valB_agr A k2 h) (fun _ _ h => h) h
    · rename_i g hcl
      obtain ⟨fv, h2, h⟩ := bnd_eq_some h
      obtain ⟨f, h3, h⟩ := bnd_eq_some h
      obtain ⟨M, h4, h⟩ := bnd_eq_some h
      obtain ⟨h5, h⟩ := grd_eq_some h
      obtain ⟨k3, k4⟩ := E g (by simp only [Op.operands, Call.operands, hcl]; simp) fv h2
      simp only [k3, h3, h4, bnd_some, grd_pos _ h5]
      refine effCall_agr A (inSs_app k2 ?_) h
      cases fv <;> simp only [fnOf] at h3 <;> try (cases h3; done)
      injection h3 with h3; subst h3
      exact k4
    · cases h
end
end Go.Proofs.YtjhdikdopdcfcaaGreatDoor
namespace Go.Proofs.YtjhdikdopdcfcaaGreatDoor
open Go.RowKit
set_option linter.unusedSimpArgs false
set_option linter.unusedVariables false
theorem look_key {α : Type} {k : Nat} {l : List (Nat × α)} : k ∈ l.map (·.1) ↔ ∃ x, look k l = some x := by
  constructor
  · intro h
    cases e : look k l with
    | some x => exact ⟨x, rfl⟩
    | none => exact absurd h (look_none e)
  · rintro ⟨x, e⟩
    exact List.mem_map.2 ⟨_, look_mem e, rfl⟩
theorem keysB_look {s : S} {b : Nat} : b ∈ keysB s ↔ ∃ cs, look b s.box = some cs := look_key
theorem keysT_look {s : S} {p : Nat} : p ∈ keysT s ↔ (∃ r, look p s.tree = some r) ∨ ∃ r, look p s.fro = some r := by
  unfold keysT
  rw [List.map_append, List.mem_append, look_key, look_key]
theorem look_out {α : Type} {k : Nat} : ∀ {l m : List (Nat × α)}, k ∉ l.map (·.1) → look k (l ++ m) = look k m
  | [], _, _ => rfl
  | (j, x) :: l, m, h => by
    simp only [List.map_cons, List.mem_cons, not_or] at h
    simp only [List.cons_append, look, if_neg h.1]
    exact look_out h.2
theorem look_perm {α : Type} {k : Nat} {l l' : List (Nat × α)} (p : l'.Perm l) (n : (l.map (·.1)).Nodup) : look k l' = look k l := by
  have n' : (l'.map (·.1)).Nodup := (p.map _).nodup_iff.2 n
  cases h : look k l with
  | some x => exact look_of_mem n' (p.mem_iff.2 (look_mem h))
  | none =>
    cases h' : look k l' with
    | none => rfl
    | some x =>
      have : look k l = some x := look_of_mem n (p.mem_iff.1 (look_mem h'))
      rw [h] at this; cases this
structure Wide (s s1 : S) : Prop where
  box : ∀ b ∈ keysB s, look b s1.box = look b s.box
  tree : ∀ p ∈ keysT s, look p s1.tree = look p s.tree
  fro : s1.fro = s.fro
theorem Wide.refl (s : S) : Wide s s := ⟨fun _ _ => rfl, fun _ _ => rfl, rfl⟩
theorem Wide.keysB {s s1 : S} (W : Wide s s1) {b : Nat} (h : b ∈ keysB s) : b ∈ keysB s1 := by
  obtain ⟨cs, e⟩ := keysB_look.1 h
  exact keysB_look.2 ⟨cs, by rw [W.box b h]; exact e⟩
theorem Wide.keysT {s s1 : S} (W : Wide s s1) {p : Nat} (h : p ∈ keysT s) : p ∈ keysT s1 := by
  rcases keysT_look.1 h with ⟨r, e⟩ | ⟨r, e⟩
  · exact keysT_look.2 (.inl ⟨r, by rw [W.tree p h]; exact e⟩)
  · exact keysT_look.2 (.inr ⟨r, by rw [W.fro]; exact e⟩)
theorem Wide.trans {s s1 s2 : S} (W : Wide s s1) (X : Wide s1 s2) : Wide s s2 :=
  ⟨fun b h => (X.box b (W.keysB h)).trans (W.box b h), fun p h => (X.tree p (W.keysT h)).trans (W.tree p h), X.fro.trans W.fro⟩
theorem Wide.rows {s s1 : S} (W : Wide s s1) {p : Nat} (h : p ∈ Proofs.YtjhdikdopdcfcaaGreatDoor.keysT s) : s1.rows (.own p) = s.rows (.own p) := by
  simp only [S.rows, W.tree p h, W.fro]
theorem Wide.up {s s1 : S} (W : Wide s s1) : Agr (fun _ => True) (fun _ => True) s s1 :=
  ⟨fun b cs h _ => by rw [W.box b (keysB_look.2 ⟨cs, h⟩)]; exact h, fun p r h _ => by
    have : p ∈ Proofs.YtjhdikdopdcfcaaGreatDoor.keysT s := by
      simp only [S.rows] at h
      cases e : look p s.tree with
      | some r' => exact keysT_look.2 (.inl ⟨r', e⟩)
      | none => rw [e] at h; exact keysT_look.2 (.inr ⟨r, h⟩)
    rw [W.rows this]; exact h, fun p r h _ => by rw [W.tree p (keysT_look.2 (.inl ⟨r, h⟩))]; exact h, W.fro⟩
theorem Wide.down {s s1 : S} (W : Wide s s1) : Agr (· ∈ Proofs.YtjhdikdopdcfcaaGreatDoor.keysB s) (· ∈ Proofs.YtjhdikdopdcfcaaGreatDoor.keysT s) s1 s :=
  ⟨fun b cs h hb => by rw [← W.box b hb]; exact h, fun p r h hp => by rw [← W.rows hp]; exact h, fun p r h hp => by rw [← W.tree p hp]; exact h, W.fro.symm⟩
structure Fresh (e : Eff) (s : S) : Prop where
  nt : (e.tree.map (·.1)).Nodup
  t : ∀ p ∈ e.tree.map (·.1), p ∉ keysT s ∧ p < 1000000000
  nb : (e.box.map (·.1)).Nodup
  b : ∀ b ∈ e.box.map (·.1), b ∉ keysB s
theorem freshT {l : List (Nat × List (List D))} : ∀ {s : S}, freshAll s l = true ↔ (l.map (·.1)).Nodup ∧ ∀ p ∈ l.map (·.1), p ∉ keysT s ∧ p < 1000000000 := by
  induction l with
  | nil => intro s; simp [freshAll]
  | cons x r ih =>
    intro s
    have hk : ∀ p, p ∈ keysT { s with tree := x :: s.tree } ↔ p = x.1 ∨ p ∈ keysT s := fun p => by simp [keysT]
    have hf : fresh s x.1 = true ↔ x.1 ∉ keysT s := by
      unfold fresh
      rw [Bool.and_eq_true, Option.isNone_iff_eq_none, Option.isNone_iff_eq_none, keysT_look]
      constructor
      · rintro ⟨h1, h2⟩ (⟨r, e⟩ | ⟨r, e⟩)
        · rw [h1] at e; cases e
        · rw [h2] at e; cases e
      · intro h
        constructor
        · cases e : look x.1 s.tree with
          | none => rfl
          | some r => exact absurd (.inl ⟨r, e⟩) h
        · cases e : look x.1 s.fro with
          | none => rfl
          | some r => exact absurd (.inr ⟨r, e⟩) h
    simp only [freshAll, Bool.and_eq_true, decide_eq_true_eq, List.map_cons, List.nodup_cons, List.mem_cons, forall_eq_or_imp]
    rw [ih, hf]
    constructor
    · rintro ⟨⟨h1, h2⟩, h3, h4⟩
      exact ⟨⟨fun h => (h4 _ h).1 ((hk _).2 (.inl rfl)), h3⟩, ⟨h1, h2⟩, fun p hp => ⟨fun h => (h4 p hp).1 ((hk p).2 (.inr h)), (h4 p hp).2⟩⟩
    · rintro ⟨⟨h1, h2⟩, h3, h4⟩
      exact ⟨h3, h2, fun p hp => ⟨fun h => ((hk p).1 h).elim (fun e => h1 (e ▸ hp)) (h4 p hp).1, (h4 p hp).2⟩⟩
theorem freshB {l : List (Nat × List V)} : ∀ {s : S}, freshBox s l = true ↔ (l.map (·.1)).Nodup ∧ ∀ p ∈ l.map (·.1), p ∉ keysB s := by
  induction l with
  | nil => intro s; simp [freshBox]
  | cons x r ih =>
    intro s
    have hk : ∀ p, p ∈ keysB { s with box := x :: s.box } ↔ p = x.1 ∨ p ∈ keysB s := fun p => by simp [keysB]
    have hf : (look x.1 s.box).isNone = true ↔ x.1 ∉ keysB s := by
      rw [Option.isNone_iff_eq_none, keysB_look]
      constructor
      · rintro h1 ⟨r, e⟩; rw [h1] at e; cases e
      · intro h
        cases e : look x.1 s.box with
        | none => rfl
        | some r => exact absurd ⟨r, e⟩ h
    simp only [freshBox, Bool.and_eq_true, List.map_cons, List.nodup_cons, List.mem_cons, forall_eq_or_imp]
    rw [ih, hf]
    constructor
    · rintro ⟨h1, h3, h4⟩
      exact ⟨⟨fun h => (h4 _ h) ((hk _).2 (.inl rfl)), h3⟩, h1, fun p hp h => (h4 p hp) ((hk p).2 (.inr h))⟩
    · rintro ⟨⟨h1, h2⟩, h3, h4⟩
      exact ⟨h3, h2, fun p hp h => ((hk p).1 h).elim (fun e => h1 (e ▸ hp)) (h4 p hp)⟩
theorem fresh_iff {e : Eff} {s : S} : (freshAll s e.tree && freshBox s e.box) = true ↔ Fresh e s := by
  rw [Bool.and_eq_true, freshT, freshB]
  exact ⟨fun ⟨⟨a, b⟩, c, d⟩ => ⟨a, b, c, d⟩, fun h => ⟨⟨h.nt, h.t⟩, h.nb, h.b⟩⟩
theorem Fresh.less {e : Eff} {s s1 : S} (h : Fresh e s1) (W : Wide s s1) : Fresh e s :=
  ⟨h.nt, fun p hp => ⟨fun k => (h.t p hp).1 (W.keysT k), (h.t p hp).2⟩, h.nb, fun b hb k => h.b b hb (W.keysB k)⟩
theorem app_keysB {s : S} {d : Option Nat} {e : Eff} {b : Nat} : b ∈ keysB (s.app d e) ↔ b ∈ e.box.map (·.1) ∨ b ∈ keysB s := by simp [keysB, S.app]
theorem app_keysT {s : S} {d : Option Nat} {e : Eff} {p : Nat} : p ∈ keysT (s.app d e) ↔ p ∈ e.tree.map (·.1) ∨ p ∈ keysT s := by
  unfold keysT S.app
  simp only [List.map_append, List.mem_append, List.map_reverse, List.mem_reverse]
  exact or_assoc
theorem Fresh.wide {e : Eff} {s : S} (h : Fresh e s) (d : Option Nat) : Wide s (s.app d e) :=
  ⟨fun b hb => look_out fun k => h.b b k hb, fun p hp => look_out fun k => (h.t p (by simpa using k)).1 hp, rfl⟩
def Nd (s : S) : Prop := (keysB s).Nodup ∧ (keysT s).Nodup
theorem Fresh.nd {e : Eff} {s : S} (h : Fresh e s) (n : Nd s) (d : Option Nat) : Nd (s.app d e) := by
  constructor
  · show ((e.box ++ s.box).map (·.1)).Nodup
    rw [List.map_append]
    exact List.nodup_append.2 ⟨h.nb, n.1, fun a ha b hb e => h.b a ha (e ▸ hb)⟩
  · show ((e.tree.reverse ++ s.tree ++ s.fro).map (·.1)).Nodup
    rw [List.append_assoc, List.map_append]
    refine List.nodup_append.2 ⟨?_, n.2, fun a ha b hb e => (h.t a (by simpa using ha)).1 (e ▸ hb)⟩
    rw [List.map_reverse]; exact (List.reverse_perm _).nodup_iff.2 h.nt
structure Eqv (s s2 : S) : Prop where
  env : ∀ t, look t s2.env = look t s.env
  box : s2.box.Perm s.box
  tree : s2.tree.Perm s.tree
  fro : s2.fro = s.fro
theorem Eqv.refl (s : S) : Eqv s s := ⟨fun _ => rfl, .refl _, .refl _, rfl⟩
theorem Eqv.trans {a b c : S} (h : Eqv a b) (k : Eqv b c) : Eqv a c := ⟨fun t => (k.env t).trans (h.env t), k.box.trans h.box, k.tree.trans h.tree, k.fro.trans h.fro⟩
theorem Eqv.symm {a b : S} (h : Eqv a b) : Eqv b a := ⟨fun t => (h.env t).symm, h.box.symm, h.tree.symm, h.fro.symm⟩
theorem Nd.parts {s : S} (n : Nd s) : (s.box.map (·.1)).Nodup ∧ (s.tree.map (·.1)).Nodup := ⟨n.1, by
  have := n.2; unfold keysT at this; rw [List.map_append] at this; exact (List.nodup_append.1 this).1⟩
theorem Eqv.wide {s s2 : S} (h : Eqv s s2) (n : Nd s) : Wide s s2 :=
  ⟨fun b _ => look_perm h.box n.parts.1, fun p _ => look_perm h.tree n.parts.2, h.fro⟩
theorem Eqv.nd {s s2 : S} (h : Eqv s s2) (n : Nd s) : Nd s2 := by
  refine ⟨(h.box.map _).nodup_iff.2 n.1, ?_⟩
  unfold keysT
  rw [h.fro]
  exact ((h.tree.append_right s.fro).map _).nodup_iff.2 n.2
theorem Eqv.keysB {s s2 : S} (h : Eqv s s2) {b : Nat} : b ∈ Proofs.YtjhdikdopdcfcaaGreatDoor.keysB s2 ↔ b ∈ Proofs.YtjhdikdopdcfcaaGreatDoor.keysB s := (h.box.map _).mem_iff
theorem Eqv.keysT {s s2 : S} (h : Eqv s s2) {p : Nat} : p ∈ Proofs.YtjhdikdopdcfcaaGreatDoor.keysT s2 ↔ p ∈ Proofs.YtjhdikdopdcfcaaGreatDoor.keysT s := by
  unfold Proofs.YtjhdikdopdcfcaaGreatDoor.keysT; rw [h.fro]; exact ((h.tree.append_right s.fro).map _).mem_iff
theorem look_putO {s : S} {d : Option Nat} {v : V} (t : Nat) : look t (s.put d v).env = if some t = d then some v else look t s.env := by
  cases d with
  | none => rw [if_neg (by intro h; cases h)]; rfl
  | some d =>
    show look t (YtjhdikdopdcfcaaGreatDoor.put d v s.env) = _
    rw [look_put]
    by_cases h : t = d
    · subst h; rw [if_pos rfl, if_pos rfl]
    · rw [if_neg h, if_neg (by intro e; injection e with e; exact h e)]
theorem app_env {s : S} {d : Option Nat} {e : Eff} (t : Nat) : look t (s.app d e).env = if some t = d then some e.val else look t s.env := look_putO t
theorem Eqv.app {s s2 : S} (h : Eqv s s2) (d : Option Nat) (e : Eff) : Eqv (s.app d e) (s2.app d e) :=
  ⟨fun t => by rw [app_env, app_env, h.env], h.box.append_left _, h.tree.append_left _, h.fro⟩
theorem app_comm (s : S) {d d' : Option Nat} (e e' : Eff) (h : ∀ t, d = some t → d' ≠ some t) : Eqv ((s.app d e).app d' e') ((s.app d' e').app d e) :=
  ⟨fun t => by
    rw [app_env, app_env, app_env, app_env]
    by_cases h1 : some t = d
    · rw [if_pos h1, if_neg fun h2 => h t h1.symm h2.symm, if_pos h1]
    · by_cases h2 : some t = d'
      · rw [if_neg h1, if_pos h2]
        split <;> first | rfl | (rename_i h3; exact absurd h2 h3)
      · rw [if_neg h1, if_neg h2, if_neg h2, if_neg h1],
   by show (e.box ++ (e'.box ++ s.box)).Perm (e'.box ++ (e.box ++ s.box))
      rw [← List.append_assoc, ← List.append_assoc]; exact List.Perm.append_right _ List.perm_append_comm,
   by show (e.tree.reverse ++ (e'.tree.reverse ++ s.tree)).Perm (e'.tree.reverse ++ (e.tree.reverse ++ s.tree))
      rw [← List.append_assoc, ← List.append_assoc]; exact List.Perm.append_right _ List.perm_append_comm, rfl⟩
structure Pd where
  i : Nat
  o : Oper
  g : Bool
  e : Eff
section
variable {P : Program} {G : List (FuncId × Bool × Mean)} {ops : Array Oper}
structure PdOk (P : Program) (G : List (FuncId × Bool × Mean)) (ops : Array Oper) (s : S) (x : Pd) : Prop where
  wants : s.wants ops x.o.guard = some x.g
  yes : x.g = true → ∃ d, x.o.dst = some d ∧ effOp P G s d x.o.op = some x.e
  no : x.g = false → x.e = ⟨.tup [], [], []⟩
  new : Fresh x.e s
theorem PdOk.move {oB oT : Nat → Prop} {s s' : S} {x : Pd} (h : PdOk P G ops s x) (A : Agr oB oT s s') (hL : ∀ t ∈ x.o.looksAt ops, look t s'.env = look t s.env)
    (hI : ∀ t ∈ x.o.looksAt ops, ∀ v, look t s'.env = some v → inS oB oT v) (hF : Fresh x.e s') : PdOk P G ops s' x := by
  refine ⟨?_, fun hg => ?_, h.no, hF⟩
  · have := h.wants
    cases e : x.o.guard with
    | none => rw [e] at this; exact this
    | some jw =>
      obtain ⟨j, want⟩ := jw
      rw [e] at this
      simp only [S.wants] at this ⊢
      cases hd : (ops[j]?).bind (·.dst) with
      | none => rw [hd] at this; exact this
      | some d =>
        rw [hd] at this
        simp only [wantsAt] at this ⊢
        rw [hL d (by unfold Oper.looksAt; rw [e]; simp [hd])]; exact this
  · obtain ⟨d, h1, h2⟩ := h.yes hg
    refine ⟨d, h1, effOp_agr A (fun z hz v hv => ?_) h2⟩
    cases z with
    | tmp t =>
      have ht : t ∈ x.o.looksAt ops := by
        unfold Oper.looksAt
        exact List.mem_append_left _ (List.mem_filterMap.2 ⟨.tmp t, hz, rfl⟩)
      have hv : look t s.env = some v := hv
      have h3 : look t s'.env = some v := by rw [hL t ht]; exact hv
      exact ⟨h3, hI t ht v h3⟩
    | const c => exact ⟨hv, constV_inS hv⟩
    | func f => exact ⟨hv, by have hv : some (V.fn f []) = some v := hv; injection hv with hv; subst hv; trivial⟩
    | global g => cases hv
inductive Seg (P : Program) (G : List (FuncId × Bool × Mean)) (ops : Array Oper) : S → List Pd → S → Prop
  | nil (s : S) : Seg P G ops s [] s
  | cons {s t : S} {x : Pd} {l : List Pd} : PdOk P G ops s x → Seg P G ops (s.app x.o.dst x.e) l t → Seg P G ops s (x :: l) t
theorem Seg.eqv {l : List Pd} : ∀ {s s2 t : S}, Seg P G ops s l t → Eqv s s2 → Nd s → ∃ t2, Seg P G ops s2 l t2 ∧ Eqv t t2 := by
  induction l with
  | nil => intro s s2 t h k n; cases h; exact ⟨s2, .nil _, k⟩
  | cons x l ih =>
    intro s s2 t h k n
    cases h with
    | cons h1 h2 =>
      have hF : Fresh x.e s2 := ⟨h1.new.nt, fun p hp => ⟨fun q => (h1.new.t p hp).1 (k.keysT.1 q), (h1.new.t p hp).2⟩, h1.new.nb, fun b hb q => h1.new.b b hb (k.keysB.1 q)⟩
      obtain ⟨t2, a, b⟩ := ih h2 (k.app x.o.dst x.e) (h1.new.nd n _)
      exact ⟨t2, .cons (h1.move (k.wide n).up (fun t _ => k.env t) (fun _ _ v _ => inS_true v) hF) a, b⟩
theorem Seg.fresh {x : Pd} {l2 : List Pd} : ∀ {l : List Pd} {s t : S}, Seg P G ops s (l ++ x :: l2) t → Fresh x.e s
  | [], s, t, h => by cases h with | cons h1 _ => exact h1.new
  | y :: l, s, t, h => by
    cases h with
    | cons h1 h2 => exact (Seg.fresh (l := l) h2).less (h1.new.wide _)
theorem Seg.skip {x : Pd} {l2 : List Pd} : ∀ {l : List Pd} {s s2 t : S}, Seg P G ops s (l ++ x :: l2) t → (∀ y ∈ l, x.o.apart ops y.o = true) → Eqv (s.app x.o.dst x.e) s2 → Nd s → ∃ t2, Seg P G ops s2 (l ++ l2) t2 ∧ Eqv t t2
  | [], s, s2, t, h, _, k, n => by
    cases h with | cons h1 h2 => exact Seg.eqv h2 k (h1.new.nd n _)
  | y :: l, s, s2, t, h, ha, k, n => by
    have hx := Seg.fresh (l := y :: l) h
    cases h with
    | cons h1 h2 =>
      have hx1 := Seg.fresh (l := l) h2
      obtain ⟨a1, a2, a3⟩ := Oper.apart_spec (ha y (by simp))
      have n1 : Nd (s.app x.o.dst x.e) := hx.nd n _
      have W : Wide s s2 := (hx.wide _).trans (k.wide n1)
      have hF : Fresh y.e s2 := by
        refine ⟨h1.new.nt, fun p hp => ⟨fun q => ?_, (h1.new.t p hp).2⟩, h1.new.nb, fun b hb q => ?_⟩
        · rcases app_keysT.1 (k.keysT.1 q) with q | q
          · exact (hx1.t p q).1 (app_keysT.2 (.inl hp))
          · exact (h1.new.t p hp).1 q
        · rcases app_keysB.1 (k.keysB.1 q) with q | q
          · exact hx1.b b q (app_keysB.2 (.inl hb))
          · exact h1.new.b b hb q
      have hy : PdOk P G ops s2 y := h1.move W.up (fun t ht => by
        rw [k.env, app_env, if_neg]
        intro e; exact a1 t e.symm ht) (fun _ _ v _ => inS_true v) hF
      obtain ⟨t2, b1, b2⟩ := Seg.skip (l := l) h2 (fun z hz => ha z (by simp [hz])) ((app_comm s y.e x.e fun t e => fun e2 => a2 t e2 e).trans (k.app y.o.dst y.e)) (h1.new.nd n _)
      exact ⟨t2, .cons hy b1, b2⟩
theorem Seg.upto {x : Pd} {l2 : List Pd} : ∀ {l : List Pd} {s t : S}, Seg P G ops s (l ++ x :: l2) t → ∃ s1, PdOk P G ops s1 x ∧ Wide s s1 ∧ ∀ r, (∀ y ∈ l, y.o.dst ≠ some r) → look r s1.env = look r s.env
  | [], s, t, h => by cases h with | cons h1 h2 => exact ⟨s, h1, .refl s, fun _ _ => rfl⟩
  | y :: l, s, t, h => by
    cases h with
    | cons h1 h2 =>
      obtain ⟨s1, a, b, c⟩ := Seg.upto (l := l) h2
      refine ⟨s1, a, (h1.new.wide _).trans b, fun r hr => ?_⟩
      rw [c r fun z hz => hr z (by simp [hz]), app_env, if_neg fun e => hr y (by simp) e.symm]
theorem Seg.front {x : Pd} {l l2 : List Pd} {s t : S} (h : Seg P G ops s (l ++ x :: l2) t) (ha : ∀ y ∈ l, x.o.apart ops y.o = true) (n : Nd s) (hI : ∀ r v, look r s.env = some v → inS (· ∈ keysB s) (· ∈ keysT s) v) :
    PdOk P G ops s x ∧ ∃ t2, Seg P G ops (s.app x.o.dst x.e) (l ++ l2) t2 ∧ Eqv t t2 := by
  obtain ⟨s1, h1, W, he⟩ := h.upto
  refine ⟨h1.move W.down (fun r hr => (he r fun y hy e => (Oper.apart_spec (ha y hy)).2.2 r e hr).symm) (fun r _ v hv => hI r v hv) (h1.new.less W), Seg.skip h ha (.refl _) n⟩
end
end Go.Proofs.YtjhdikdopdcfcaaGreatDoor
namespace Go.Proofs.YtjhdikdopdcfcaaGreatDoor
open Go.RowKit
set_option linter.unusedSimpArgs false
set_option linter.unusedVariables false
def edgesOf (o : Oper) : List Nat := (o.after.toList.filter (Region.binds .any)).map (·.on)
inductive Reach (l : List Oper) : Nat → Nat → Prop
  | one {i e : Nat} {o : Oper} : l[i]? = some o → e ∈ edgesOf o → Reach l i e
  | tail {i e j : Nat} {o : Oper} : l[i]? = some o → e ∈ edgesOf o → Reach l e j → Reach l i j
def maskOf (C : List (Nat × Nat)) (e : Nat) : Nat := (look e C).getD 0
def closeM (C : List (Nat × Nat)) : List Nat → Nat
  | [] => 0
  | e :: r => ((1 <<< e) ||| maskOf C e) ||| closeM C r
theorem closeM_spec {C : List (Nat × Nat)} {j : Nat} : ∀ {l : List Nat}, (closeM C l).testBit j = true → ∃ e ∈ l, j = e ∨ (maskOf C e).testBit j = true
  | [], h => by simp [closeM] at h
  | e :: r, h => by
    unfold closeM at h
    rw [Nat.testBit_or, Nat.testBit_or, Bool.or_eq_true, Bool.or_eq_true] at h
    rcases h with (h | h) | h
    · refine ⟨e, by simp, .inl ?_⟩
      rw [Nat.one_shiftLeft, Nat.testBit_two_pow] at h
      simpa using (of_decide_eq_true h).symm
    · exact ⟨e, by simp, .inr h⟩
    · obtain ⟨e', h1, h2⟩ := closeM_spec h
      exact ⟨e', by simp [h1], h2⟩
def floatOk (bars : List (Nat × List Nat)) (x y : Nat × Oper) : Bool := match look x.1 bars with
  | none => true
  | some fl => fl.contains y.1
def pairOk (ops : Array Oper) (bars : List (Nat × List Nat)) (M : Nat) (x y : Nat × Oper) : Bool :=
  M.testBit y.1 || (x.2.apart ops y.2 && ((look y.1 bars).isNone && floatOk bars x y))
def plainGuard (bars : List (Nat × List Nat)) (x : Nat × Oper) : Bool := match look x.1 bars with
  | some (_ :: _) => x.2.guard.isNone
  | _ => true
def goOk (ops : Array Oper) (bars : List (Nat × List Nat)) : List (Nat × Oper) → List (Nat × Nat) → List (Nat × Oper) → Bool
  | _, _, [] => true
  | done, C, x :: r => (edgesOf x.2).all (fun e => done.any fun y => y.1 == e) && (plainGuard bars x && (done.all (fun y => !(y.1 == x.1) && pairOk ops bars (closeM C (edgesOf x.2)) x y) && goOk ops bars (x :: done) ((x.1, closeM C (edgesOf x.2)) :: C) r))
def away (ops : Array Oper) (x y : Oper) : Bool := match y.dst with
  | some d => !(x.looksAt ops).contains d
  | none => true
def flOk (ops : Array Oper) (ap : Bool) : List (Nat × Oper) → Bool
  | [] => true
  | x :: r => ((ap || isVal x.2.op) && x.2.guard.isNone && x.2.dst.isSome && away ops x.2 x.2 && r.all fun y => away ops x.2 y.2 && !(x.2.dst == y.2.dst)) && flOk ops ap r
def appAt (ops : Array Oper) (i : Nat) : Bool := match ops[i]? with
  | some o => isApp o.op
  | none => false
def drawOk (ops : Array Oper) (b : List Nat × List (Nat × List Nat)) : Bool :=
  goOk ops b.2 [] [] (inOrder ops b.1) && (decide ((inOrder ops b.1).length = ops.size) && ((List.range ops.size).all (fun i => (inOrder ops b.1).any fun x => x.1 == i) && b.2.all fun z => flOk ops (appAt ops z.1) ((inOrder ops b.1).filter fun y => z.2.contains y.1)))
def Pair (ops : Array Oper) (bars : List (Nat × List Nat)) (x y : Nat × Oper) : Prop :=
  Reach ops.toList x.1 y.1 ∨ (x.2.apart ops y.2 = true ∧ look y.1 bars = none ∧ (look x.1 bars = none ∨ ∃ fl, look x.1 bars = some fl ∧ y.1 ∈ fl))
structure DrawOk (ops : Array Oper) (bars : List (Nat × List Nat)) (L : List (Nat × Oper)) : Prop where
  mem : ∀ x ∈ L, ops[x.1]? = some x.2
  all : ∀ i, i < ops.size → i ∈ L.map (·.1)
  len : L.length = ops.size
  at_ : ∀ A x B, L = A ++ x :: B → (∀ e ∈ edgesOf x.2, e ∈ A.map (·.1)) ∧ (∀ fl f, look x.1 bars = some (f :: fl) → x.2.guard = none) ∧ ∀ y ∈ A, y.1 ≠ x.1 ∧ Pair ops bars x y
  fl : ∀ z ∈ bars, flOk ops (appAt ops z.1) (L.filter fun y => z.2.contains y.1) = true
theorem goOk_spec {ops : Array Oper} {bars : List (Nat × List Nat)} : ∀ {r : List (Nat × Oper)} {done : List (Nat × Oper)} {C : List (Nat × Nat)}, goOk ops bars done C r = true → (∀ x ∈ r, ops[x.1]? = some x.2) → (∀ i j, (maskOf C i).testBit j = true → Reach ops.toList i j) →
    ∀ A x B, r = A ++ x :: B → (∀ e ∈ edgesOf x.2, e ∈ A.map (·.1) ∨ e ∈ done.map (·.1)) ∧ (∀ fl f, look x.1 bars = some (f :: fl) → x.2.guard = none) ∧ ∀ y, y ∈ A ∨ y ∈ done → y.1 ≠ x.1 ∧ Pair ops bars x y
  | [], done, C, _, _, _, A, x, B, e => by simp at e
  | z :: r, done, C, h, hm, hC, A, x, B, e => by
    unfold goOk at h
    simp only [Bool.and_eq_true] at h
    obtain ⟨h1, h2, h3, h4⟩ := h
    have hz : ops.toList[z.1]? = some z.2 := by rw [Array.getElem?_toList]; exact hm z (by simp)
    have hR : ∀ j, (closeM C (edgesOf z.2)).testBit j = true → Reach ops.toList z.1 j := fun j hj => by
      obtain ⟨e', k1, k2 | k2⟩ := closeM_spec hj
      · subst k2; exact .one hz k1
      · exact .tail hz k1 (hC _ _ k2)
    cases A with
    | nil =>
      simp only [List.nil_append, List.cons.injEq] at e
      obtain ⟨rfl, rfl⟩ := e
      refine ⟨fun e he => .inr ?_, fun fl f hf => ?_, fun y hy => ?_⟩
      · have := List.all_eq_true.1 h1 e he
        obtain ⟨y, k1, k2⟩ := List.any_eq_true.1 this
        exact List.mem_map.2 ⟨y, k1, by simpa using k2⟩
      · unfold plainGuard at h2
        rw [hf] at h2
        simpa using h2
      · rcases hy with hy | hy
        · cases hy
        · have := List.all_eq_true.1 h3 y hy
          rw [Bool.and_eq_true] at this
          refine ⟨by simpa using this.1, ?_⟩
          have h5 := this.2
          unfold pairOk at h5
          rw [Bool.or_eq_true, Bool.and_eq_true, Bool.and_eq_true] at h5
          rcases h5 with h5 | ⟨h5, h6, h7⟩
          · exact .inl (hR _ h5)
          · refine .inr ⟨h5, by simpa using h6, ?_⟩
            unfold floatOk at h7
            cases e : look z.1 bars with
            | none => exact .inl rfl
            | some fl => rw [e] at h7; exact .inr ⟨fl, rfl, by simpa using h7⟩
    | cons a A =>
      simp only [List.cons_append, List.cons.injEq] at e
      obtain ⟨rfl, e⟩ := e
      obtain ⟨k1, k2, k3⟩ := goOk_spec h4 (fun x hx => hm x (by simp [hx])) (fun i j hj => by
        unfold maskOf at hj
        simp only [look] at hj
        split at hj
        · rename_i e; subst e; exact hR j hj
        · exact hC i j hj) A x B e
      refine ⟨fun e he => ?_, k2, fun y hy => k3 y ?_⟩
      · rcases k1 e he with h | h
        · exact .inl (by simp [h])
        · rw [List.map_cons, List.mem_cons] at h
          rcases h with h | h
          · exact .inl (by simp [h])
          · exact .inr h
      · rcases hy with hy | hy
        · rcases List.mem_cons.1 hy with hy | hy
          · subst hy; exact .inr (by simp)
          · exact .inl hy
        · exact .inr (by simp [hy])
theorem mem_inText {x : Nat × Oper} : ∀ {l : List Oper} {k : Nat}, x ∈ inText k l → ∃ j, l[j]? = some x.2 ∧ x.1 = k + j
  | [], k, h => by cases h
  | o :: l, k, h => by
    rcases List.mem_cons.1 h with h | h
    · subst h; exact ⟨0, rfl, rfl⟩
    · obtain ⟨j, h1, h2⟩ := mem_inText h
      exact ⟨j + 1, by simpa using h1, by omega⟩
theorem mem_picked {ops : Array Oper} {x : Nat × Oper} : ∀ {l : List Nat}, x ∈ picked ops l → ops[x.1]? = some x.2
  | [], h => by cases h
  | i :: l, h => by
    unfold picked at h
    cases e : ops[i]? with
    | none => rw [e] at h; exact mem_picked h
    | some o =>
      rw [e] at h
      rcases List.mem_cons.1 h with h | h
      · subst h; exact e
      · exact mem_picked h
theorem drawOk_spec {ops : Array Oper} {b : List Nat × List (Nat × List Nat)} (h : drawOk ops b = true) : DrawOk ops b.2 (inOrder ops b.1) := by
  unfold drawOk at h
  simp only [Bool.and_eq_true, decide_eq_true_eq] at h
  obtain ⟨h1, h2, h3, h4⟩ := h
  have hm : ∀ x ∈ inOrder ops b.1, ops[x.1]? = some x.2 := fun x hx => by
    unfold inOrder at hx
    split at hx
    · obtain ⟨j, k1, k2⟩ := mem_inText hx
      rw [k2, Nat.zero_add, ← Array.getElem?_toList]; exact k1
    · exact mem_picked hx
  refine ⟨hm, fun i hi => ?_, h2, fun A x B e => ?_, fun z hz => List.all_eq_true.1 h4 z hz⟩
  · obtain ⟨x, k1, k2⟩ := List.any_eq_true.1 (List.all_eq_true.1 h3 i (List.mem_range.2 hi))
    exact List.mem_map.2 ⟨x, k1, by simpa using k2⟩
  · obtain ⟨k1, k2, k3⟩ := goOk_spec h1 hm (fun i j hj => by simp [maskOf, look] at hj) A x B e
    exact ⟨fun e he => (k1 e he).elim id (fun h => by cases h), k2, fun y hy => k3 y (.inl hy)⟩
theorem flOk_sub {ops : Array Oper} {ap : Bool} {l m : List (Nat × Oper)} (h : l.Sublist m) : flOk ops ap m = true → flOk ops ap l = true := by
  induction h with
  | slnil => exact id
  | cons x _ ih => intro k; unfold flOk at k; rw [Bool.and_eq_true] at k; exact ih k.2
  | cons_cons x s ih =>
    intro k
    unfold flOk at k ⊢
    simp only [Bool.and_eq_true] at k ⊢
    obtain ⟨⟨⟨⟨⟨k1, k2⟩, k3⟩, k4⟩, k5⟩, k6⟩ := k
    exact ⟨⟨⟨⟨⟨k1, k2⟩, k3⟩, k4⟩, List.all_eq_true.2 fun y hy => List.all_eq_true.1 k5 y (s.subset hy)⟩, ih k6⟩
section
variable {P : Program} {G : List (FuncId × Bool × Mean)} {ops : Array Oper} {bars : List (Nat × List Nat)} {c : Ctx}
def both (x : Pd) : Nat × Oper := (x.i, x.o)
theorem app_tup (s : S) (d : Option Nat) : s.put d (.tup []) = s.app d ⟨.tup [], [], []⟩ := by cases d <;> rfl
theorem Fresh.none (v : V) (s : S) : Fresh ⟨v, [], []⟩ s := ⟨List.nodup_nil, (fun p h => by cases h), List.nodup_nil, (fun p h => by cases h)⟩
theorem collect : ∀ {l : List (Nat × Oper)} {s q : S}, evDrw P G ops bars l (.on s) = some (.on q) →
    ∃ (pend : List Pd) (t : S) (l2 : List (Nat × Oper)), l = pend.map both ++ l2 ∧ Seg P G ops s pend t ∧ evDrw P G ops bars l2 (.on t) = some (.on q) ∧ (∀ x r, l2 = x :: r → look x.1 bars ≠ none) ∧ ∀ x ∈ pend, look x.i bars = none
  | [], s, q, h => ⟨[], s, [], rfl, .nil s, h, (fun x r e => by cases e), fun x hx => by cases hx⟩
  | o :: l, s, q, h => by
    cases hb : look o.1 bars with
    | some fl => exact ⟨[], s, o :: l, rfl, .nil s, h, (fun x r e => by injection e with e _; subst e; rw [hb]; simp), fun x hx => by cases hx⟩
    | none =>
      rw [evDrw_cons] at h
      obtain ⟨g, h1, h⟩ := bnd_eq_some h
      have key : ∀ (e : Eff), PdOk P G ops s ⟨o.1, o.2, g, e⟩ → evDrw P G ops bars l (.on (s.app o.2.dst e)) = some (.on q) → ∃ (pend : List Pd) (t : S) (l2 : List (Nat × Oper)), o :: l = pend.map both ++ l2 ∧ Seg P G ops s pend t ∧ evDrw P G ops bars l2 (.on t) = some (.on q) ∧ (∀ x r, l2 = x :: r → look x.1 bars ≠ none) ∧ ∀ x ∈ pend, look x.i bars = none := fun e he h => by
        obtain ⟨pend, t, l2, k1, k2, k3, k4, k5⟩ := collect h
        refine ⟨⟨o.1, o.2, g, e⟩ :: pend, t, l2, by rw [k1]; rfl, .cons he k2, k3, k4, fun x hx => ?_⟩
        rcases List.mem_cons.1 hx with hx | hx
        · subst hx; exact hb
        · exact k5 x hx
      cases g with
      | true =>
        rw [if_pos rfl] at h
        obtain ⟨q1, h2, h⟩ := bnd_eq_some h
        rw [hb, drwOp_eff] at h2
        unfold effAt at h2
        cases hd : o.2.dst with
        | none => rw [hd] at h2; cases h2
        | some d =>
          rw [hd, bnd_some] at h2
          cases he : effOp P G s d o.2.op with
          | none => rw [he] at h2; cases h2
          | some e =>
            rw [he, bnd_some] at h2
            by_cases hf : (freshAll s e.tree && freshBox s e.box) = true
            · rw [grd_pos _ hf, onQ_some] at h2; injection h2 with h2; subst h2
              exact key e ⟨h1, fun _ => ⟨d, hd, he⟩, (fun h => by cases h), fresh_iff.1 hf⟩ (by rw [hd]; exact h)
            · unfold grd at h2; rw [if_neg hf] at h2; cases h2
      | false =>
        rw [if_neg (by simp)] at h
        obtain ⟨q1, h2, h⟩ := bnd_eq_some h
        rw [onQ_some] at h2; injection h2 with h2; subst h2
        exact key ⟨.tup [], [], []⟩ ⟨h1, (fun h => by cases h), fun _ => rfl, .none _ _⟩ (by rw [← app_tup]; exact h)
theorem pd_step (hC : CallOk P G) {s : S} {x : Pd} (h : PdOk P G ops s x) (hi : ops[x.i]? = some x.o) (hd : dstOk c.n x.o.dst = true) {a : Act} {w : World} (g : Good c s a w) {Q1 : Exit → Act → World → Prop} {K : Act → World → Prop} (k : ∀ a w, Good c (s.app x.o.dst x.e) a w → K a w) : wpOp P ops Q1 x.i K a w := by
  unfold wpOp
  rw [hi]
  simp only
  obtain ⟨y, A⟩ := g
  rw [wants_sound A h.wants]
  cases hg : x.g with
  | true =>
    rw [if_pos rfl]
    obtain ⟨d, h1, h2⟩ := h.yes hg
    have hf := fresh_iff.2 h.new
    rw [Bool.and_eq_true] at hf
    rcases effOp_ev h2 hf.1 hf.2 with h3 | ⟨cl, p, z, t, tx, el, new, r1, r2, r3, r4, r5, r6, r7, r8, r9, r10, r11, r12⟩
    · exact .inl (step_op hC hd (s' := s.app x.o.dst x.e) (by rw [h1]; exact h3) a w ⟨y, A⟩ _ _ k)
    · exact .inl (step_append0 (s' := s.app x.o.dst x.e) r1 r2 hd r3 r4 r5 r6 r7 r8 r9 r10 r11 (by rw [h1]; exact r12) a w ⟨y, A⟩ _ _ k)
  | false =>
    rw [if_neg (by simp)]
    refine k _ _ ?_
    rw [h.no hg, ← app_tup]
    exact ⟨y, A.value (v := .tup []) ⟨[], rfl, rfl⟩ hd⟩
theorem reach_listed {l : List Oper} {L : Nat → Prop} (hL : ∀ i o, L i → l[i]? = some o → ∀ e ∈ edgesOf o, L e) {i j : Nat} (h : Reach l i j) : (∀ o, l[i]? = some o → ∀ e ∈ edgesOf o, L e) → L j := by
  induction h with
  | one h1 h2 => intro h; exact h _ h1 _ h2
  | tail h1 h2 _ ih => intro h; exact ih fun o ho => hL _ o (h _ h1 _ h2) ho
end
end Go.Proofs.YtjhdikdopdcfcaaGreatDoor
namespace Go.Proofs.YtjhdikdopdcfcaaGreatDoor
open Go.RowKit
set_option linter.unusedSimpArgs false
set_option linter.unusedVariables false
section
variable {P : Program} {G : List (FuncId × Bool × Mean)} {s s' : S} {e : List (Nat × V)}
theorem agr_env (s : S) (e : List (Nat × V)) : Agr (fun _ => True) (fun _ => True) s { s with env := e } := ⟨fun _ _ h _ => h, fun _ _ h _ => h, fun _ _ h _ => h, rfl⟩
theorem lendCells_env : ∀ {cs : List V} {c : Lend} {r : List V × Lend}, lendCells s c cs = some r → lendCells { s with env := e } c cs = some r
  | [], c, r, h => h
  | v :: cs, c, r, h => by
    have key : bnd (lendV s c v) (fun x => bnd (lendCells s x.2 cs) fun y => some (x.1 :: y.1, y.2)) = some r → bnd (lendV { s with env := e } c v) (fun x => bnd (lendCells { s with env := e } x.2 cs) fun y => some (x.1 :: y.1, y.2)) = some r := fun h =>
      bnd_mono (fun _ h => lendV_agr (agr_env s e) (inS_true v) h) (fun _ _ h => bnd_mono (fun _ h => lendCells_env h) (fun _ _ h => h) h) h
    cases v <;> try exact key h
    case own p =>
      simp only [lendCells] at h ⊢
      unfold lendOwn at h ⊢
      split at h
      · cases h
      · exact bnd_mono (fun _ h => lendCells_env h) (fun _ _ h => h) h
      · exact bnd_mono (fun _ h => lendCells_env h) (fun _ _ h => h) h
    case dead => exact bnd_mono (fun _ h => lendCells_env h) (fun _ _ h => h) h
theorem lendBoxes_env : ∀ {bs : List Nat} {c : Lend} {r : List (List V) × Lend}, lendBoxes s c bs = some r → lendBoxes { s with env := e } c bs = some r
  | [], c, r, h => h
  | b :: bs, c, r, h => bnd_mono (fun _ h => h) (fun _ _ h => bnd_mono (fun _ h => lendCells_env h) (fun _ _ h => bnd_mono (fun _ h => lendBoxes_env h) (fun _ _ h => h) h) h) h
theorem backBoxes_env {c : Lend} {t : Nat} : ∀ {bs : List Nat} {css : List (List V)} {s s' : S}, backBoxes c t bs css s = some s' → s'.env = s.env ∧ s'.fro = s.fro ∧ ∀ e, backBoxes c t bs css { s with env := e } = some { s' with env := e }
  | [], [], s, s', h => by simp only [backBoxes] at h; injection h with h; subst h; exact ⟨rfl, rfl, fun _ => rfl⟩
  | [], _ :: _, s, s', h => by simp only [backBoxes] at h; cases h
  | _ :: _, [], s, s', h => by simp only [backBoxes] at h; cases h
  | b :: bs, cs :: css, s, s', h => by
    simp only [backBoxes] at h
    obtain ⟨l, h1, h⟩ := bnd_eq_some h
    obtain ⟨k1, k2, k3⟩ := backBoxes_env h
    refine ⟨k1, k2, fun e => ?_⟩
    simp only [backBoxes, h1, bnd_some]
    exact k3 e
theorem addTrees_env {c : Lend} {t : Nat} : ∀ {rt : List (Nat × List (List D))} {s s' : S}, addTrees c t rt s = some s' → s'.env = s.env ∧ s'.fro = s.fro ∧ ∀ e, addTrees c t rt { s with env := e } = some { s' with env := e }
  | [], s, s', h => by simp only [addTrees] at h; injection h with h; subst h; exact ⟨rfl, rfl, fun _ => rfl⟩
  | (q, rows) :: r, s, s', h => by
    simp only [addTrees] at h
    split at h
    · rename_i hq
      obtain ⟨k1, k2, k3⟩ := addTrees_env h
      refine ⟨k1, k2, fun e => ?_⟩
      simp only [addTrees]
      rw [if_pos hq]; exact k3 e
    · rename_i hq
      obtain ⟨h1, h⟩ := grd_eq_some h
      obtain ⟨k1, k2, k3⟩ := addTrees_env h
      refine ⟨k1, k2, fun e => ?_⟩
      simp only [addTrees]
      have h1' : fresh { s with env := e } (nameOf c t q) = true ∧ nameOf c t q < 1000000000 := h1
      rw [if_neg hq, grd_pos _ h1']; exact k3 e
theorem callB_env {M : Mean} {t : Nat} {args : List V} {x : Bar} (h : callB M s t args = some x) : callB M { s with env := e } t args = some x := by
  unfold callB at h ⊢
  refine bnd_mono (fun _ h => lendL_agr (agr_env s e) (inSs_true args) h) (fun _ _ h => bnd_mono (fun _ h => lendBoxes_env h) (fun _ _ h => grd_mono (fun h => bnd_mono (fun _ h => h) (fun r _ h => ?_) h) h) h) h
  obtain ⟨s1, h1, h⟩ := bnd_eq_some h
  obtain ⟨s2, h2, h⟩ := bnd_eq_some h
  rw [(backBoxes_env h1).2.2 e, bnd_some, (addTrees_env h2).2.2 e, bnd_some]
  exact h
theorem callB_ev {M : Mean} {d : Option Nat} {args : List V} {x : Bar} (h : callB M s (d.getD 0) args = some x) : callV false M s d args = some (s.barred d x) := by
  unfold callB at h
  obtain ⟨y, h1, h⟩ := bnd_eq_some h
  obtain ⟨z, h2, h⟩ := bnd_eq_some h
  obtain ⟨h3, h⟩ := grd_eq_some h
  obtain ⟨r, h4, h⟩ := bnd_eq_some h
  obtain ⟨s1, h5, h⟩ := bnd_eq_some h
  obtain ⟨s2, h6, h⟩ := bnd_eq_some h
  obtain ⟨v, h7, h⟩ := bnd_eq_some h
  injection h with h; subst h
  rw [Bool.and_eq_true] at h3
  obtain ⟨zl, src, box, tree⟩ := z
  have ht : tree = [] := by simpa using h3.1
  subst ht
  obtain ⟨a1, a2, _⟩ := backBoxes_env h5
  obtain ⟨b1, b2, _⟩ := addTrees_env h6
  unfold callV lendA
  rw [if_neg (by simp), h1, bnd_some, h2, bnd_some]
  simp only [lentTrees, bnd_some]
  rw [grd_pos _ h3.2, h4, bnd_some]
  refine backX_of ?_
  unfold S.back
  simp only [backTrees]
  rw [h5, bnd_some, h6, bnd_some, h7, bnd_some]
  obtain ⟨e2, bx2, t2, f2⟩ := s2
  have e1 : e2 = s.env := b1.trans a1
  have f1 : f2 = s.fro := b2.trans a2
  subst e1 f1
  cases d <;> rfl
theorem killEs_app : ∀ (l m : List Nat) (e : List (Nat × V)), killEs (l ++ m) e = killEs m (killEs l e)
  | [], _, _ => rfl
  | p :: l, m, e => killEs_app l m (killE p e)
theorem packRow_env : ∀ {vs : List V} {s : S} {ds : List D} {s1 : S}, packRow s vs = some (ds, s1) → s1.env = killEs (owns vs) s.env ∧ s1.fro = s.fro ∧ ∀ e, packRow { s with env := e } vs = some (ds, { s1 with env := killEs (owns vs) e })
  | [], s, ds, s1, h => by
    simp only [packRow] at h; injection h with h; injection h with h1 h2; subst h1; subst h2
    exact ⟨rfl, rfl, fun _ => rfl⟩
  | v :: r, s, ds, s1, h => by
    have triv : owns (v :: r) = owns r → (∀ s : S, packRow s (v :: r) = bnd (packV v) fun d => bnd (packRow s r) fun x => some (d :: x.1, x.2)) → s1.env = killEs (owns (v :: r)) s.env ∧ s1.fro = s.fro ∧ ∀ e, packRow { s with env := e } (v :: r) = some (ds, { s1 with env := killEs (owns (v :: r)) e }) := by
      intro ho hp
      rw [hp] at h
      obtain ⟨d, h1, h⟩ := bnd_eq_some h
      obtain ⟨x, h2, h⟩ := bnd_eq_some h
      injection h with h; injection h with h3 h4; subst h3; subst h4
      obtain ⟨k1, k2, k3⟩ := packRow_env (s1 := x.2) (ds := x.1) h2
      rw [ho]
      exact ⟨k1, k2, fun e => by rw [hp, h1, bnd_some, k3 e]; rfl⟩
    cases v with
    | own p =>
      simp only [packRow] at h
      obtain ⟨rows, h1, h⟩ := bnd_eq_some h
      obtain ⟨x, h2, h⟩ := bnd_eq_some h
      injection h with h; injection h with h3 h4; subst h3; subst h4
      obtain ⟨k1, k2, k3⟩ := packRow_env (s1 := x.2) (ds := x.1) h2
      refine ⟨k1, k2, fun e => ?_⟩
      simp only [packRow, h1, bnd_some]
      have := k3 (killE p e)
      rw [show (S.kill { s with env := e } p) = { s.kill p with env := killE p e } from rfl, this]
      rfl
    | _ => exact triv rfl fun _ => rfl
theorem packRows_env : ∀ {vs : List V} {s : S} {rows : List (List D)} {s1 : S}, packRows s vs = some (rows, s1) → s1.env = killEs (ownss vs) s.env ∧ s1.fro = s.fro ∧ ∀ e, packRows { s with env := e } vs = some (rows, { s1 with env := killEs (ownss vs) e })
  | [], s, ds, s1, h => by
    simp only [packRows] at h; injection h with h; injection h with h1 h2; subst h1; subst h2
    exact ⟨rfl, rfl, fun _ => rfl⟩
  | v :: r, s, ds, s1, h => by
    simp only [packRows] at h
    obtain ⟨x, h1, h⟩ := bnd_eq_some h
    obtain ⟨z, h2, h⟩ := bnd_eq_some h
    injection h with h; injection h with h3 h4; subst h3; subst h4
    obtain ⟨k1, k2, k3⟩ := packRow_env (s1 := x.2) (ds := x.1) h1
    obtain ⟨m1, m2, m3⟩ := packRows_env (s1 := z.2) (rows := z.1) h2
    simp only [ownss, killEs_app]
    refine ⟨by rw [m1, k1], m2.trans k2, fun e => ?_⟩
    simp only [packRows, k3 e, bnd_some, m3]
def killVs : List Nat → V → V
  | [], v => v
  | p :: r, v => killVs r (if mentions p v = true then .dead else v)
theorem look_killEs : ∀ (l : List Nat) (t : Nat) (e : List (Nat × V)), look t (killEs l e) = (look t e).map (killVs l)
  | [], t, e => by
    show look t e = (look t e).map fun v => v
    cases look t e <;> rfl
  | p :: l, t, e => by
    show look t (killEs l (killE p e)) = _
    rw [look_killEs l t, look_killE, Option.map_map]; rfl
def innVs : List Nat → V → V
  | [], v => v
  | p :: r, v => innVs r (if innOf p v = true then .dead else v)
theorem look_innEs : ∀ (l : List Nat) (t : Nat) (e : List (Nat × V)), look t (innEs l e) = (look t e).map (innVs l)
  | [], t, e => by
    show look t e = (look t e).map fun v => v
    cases look t e <;> rfl
  | p :: l, t, e => by
    show look t (innEs l (innE p e)) = _
    rw [look_innEs l t, look_innE, Option.map_map]; rfl
def barVs (x : Bar) (v : V) : V := innVs x.inn (killVs x.kills v)
theorem fresh_kill {s : S} {p t : Nat} (h : fresh s t = true) : fresh (s.kill p) t = true := by
  unfold fresh at h ⊢
  simp only [S.kill, look_drop1, Bool.and_eq_true, Option.isNone_iff_eq_none] at h ⊢
  exact ⟨by split <;> first | rfl | exact h.1, h.2⟩
theorem barB_ev {d : Option Nat} {b : Builtin} {ats : Array TypeId} {args : List V} {x : Bar} (h : barB P s d b ats args = some x) : builtinV P s d b ats args = some (s.barred d x) := by
  unfold barB at h
  split at h
  · rename_i x0 y0
    obtain ⟨t, h2, h⟩ := bnd_eq_some h
    obtain ⟨t1, h3, h⟩ := bnd_eq_some h
    obtain ⟨h4, h⟩ := grd_eq_some h
    obtain ⟨ds, h5, h⟩ := bnd_eq_some h
    obtain ⟨e, h6, h⟩ := bnd_eq_some h
    obtain ⟨new, h7, h⟩ := bnd_eq_some h
    simp only [builtinV, h2, h3, bnd_some, grd_pos _ h4, appendV, h5, h6, flatRows_src h7]
    by_cases hx : ∃ p i j k, x0 = .inn p i j k
    · obtain ⟨p, i, j, k, rfl⟩ := hx
      simp only [barApp] at h
      obtain ⟨rows, k0, h⟩ := bnd_eq_some h
      obtain ⟨k1, h⟩ := grd_eq_some h
      obtain ⟨rs, k4, h⟩ := bnd_eq_some h
      obtain ⟨r, k5, h⟩ := bnd_eq_some h
      obtain ⟨k6, h⟩ := grd_eq_some h
      obtain ⟨t0, k2, h⟩ := bnd_eq_some h
      obtain ⟨k3, h⟩ := grd_eq_some h
      injection h with h; subst h; subst k2
      have k7 : ∀ rr, fresh (s.turned p rr) t0 = true := fun rr => by
        unfold fresh at k3 ⊢
        simp only [S.turned, Bool.and_eq_true, Option.isNone_iff_eq_none] at k3 ⊢
        refine ⟨?_, k3.2⟩
        cases e : look t0 (upd p rr s.tree) with
        | none => rfl
        | some z =>
          have h1 : t0 ∈ (upd p rr s.tree).map (·.1) := List.mem_map.2 ⟨_, look_mem e, rfl⟩
          rw [upd_keys] at h1
          exact absurd h1 (look_none k3.1)
      simp only [appendTo, k0, bnd_some, grd_pos _ k1, S.takeInn, k4, k5, grd_pos _ k6, S.newTree, grd_pos _ (k7 _)]
      rfl
    cases x0 <;> (try exact absurd ⟨_, _, _, _, rfl⟩ hx) <;> simp only [barApp] at h <;> try (cases h; done)
    case nil =>
      obtain ⟨k1, h⟩ := grd_eq_some h
      obtain ⟨t0, k2, h⟩ := bnd_eq_some h
      obtain ⟨k3, h⟩ := grd_eq_some h
      injection h with h; subst h; subst k2
      simp only [appendTo, grd_pos _ k1, S.newTree, bnd_some, grd_pos _ k3]
      rfl
    case own p =>
      obtain ⟨rows, k0, h⟩ := bnd_eq_some h
      obtain ⟨k1, h⟩ := grd_eq_some h
      obtain ⟨t0, k2, h⟩ := bnd_eq_some h
      obtain ⟨k3, h⟩ := grd_eq_some h
      injection h with h; subst h; subst k2
      simp only [appendTo, k0, bnd_some, grd_pos _ k1, S.newTree, grd_pos _ (fresh_kill k3)]
      rfl
  · cases h
theorem barB_env {d : Option Nat} {b : Builtin} {ats : Array TypeId} {args : List V} {e : List (Nat × V)} {x : Bar} (h : barB P s d b ats args = some x) : barB P { s with env := e } d b ats args = some x := by
  unfold barB at h ⊢
  split at h
  · rename_i x0 y0
    cases x0 <;> cases y0 <;> exact h
  · cases h
theorem barEff_ev {d : Option Nat} {op : Op} {x : Bar} (h : barEff P G s d op = some x) : evOp P G s d op = some (s.barred d x) := by
  cases op <;> simp only [barEff] at h <;> try (cases h; done)
  case store t p v =>
    obtain ⟨vp, h1, h⟩ := bnd_eq_some h
    obtain ⟨vv, h2, h⟩ := bnd_eq_some h
    obtain ⟨⟨h3, h4, h5⟩, h8⟩ := grd_eq_some h
    have hd : d = none := by simpa using h5
    subst hd
    clear h h5
    by_cases hx : ∃ q k i off, vp = .pe (.own q) k i off
    · obtain ⟨q, k, i, off, rfl⟩ := hx
      simp only [storeRef] at h8
      cases ha : vv.atom with
      | none => rw [ha] at h8; simp only [storeAtom] at h8; cases h8
      | some dd =>
        rw [ha] at h8
        simp only [storeAtom] at h8
        obtain ⟨rows, k1, h8⟩ := bnd_eq_some h8
        obtain ⟨r, k2, h8⟩ := bnd_eq_some h8
        obtain ⟨d0, k3, h8⟩ := bnd_eq_some h8
        obtain ⟨k4, h8⟩ := grd_eq_some h8
        injection h8 with h8; subst h8
        simp only [evOp, h1, h2, bnd_some, S.store, grd_pos _ (And.intro h3 h4), ha, storeOwn, k1, k2, k3, grd_pos _ k4]
        rfl
    have h8' : ∃ b off cs, vp = .ref b off ∧ look b s.box = some cs ∧ (off + vv.cells.length ≤ cs.length ∧ vv.cells.all V.one = true) ∧ x = ⟨.tup [], upd b (setAt cs off vv.cells) s.box, s.tree, [], []⟩ := by
      unfold storeRef at h8
      split at h8
      · exact absurd ⟨_, _, _, _, rfl⟩ hx
      · obtain ⟨cs, h6, h8⟩ := bnd_eq_some h8
        obtain ⟨h7, h8⟩ := grd_eq_some h8
        injection h8 with h8
        exact ⟨_, _, cs, rfl, h6, h7, h8.symm⟩
      · cases h8
    obtain ⟨b0, off0, cs, rfl, h6, h7, rfl⟩ := h8'
    simp only [evOp, h1, h2, bnd_some, S.store, grd_pos _ (And.intro h3 h4), h6, grd_pos _ h7]
    rfl
  case call c =>
    obtain ⟨args, h1, h⟩ := bnd_eq_some h
    simp only [evOp, h1, bnd_some]
    unfold evCall
    unfold barCallee at h
    split at h
    · rename_i b hcl
      first | exact barB_ev h | (rw [hcl]; exact barB_ev h) | (trace_state; fail)
    · rename_i f hcl
      obtain ⟨fv, h2, h⟩ := bnd_eq_some h
      obtain ⟨g, h3, h⟩ := bnd_eq_some h
      obtain ⟨M, h4, h⟩ := bnd_eq_some h
      obtain ⟨h5, h⟩ := grd_eq_some h
      simp only [hcl, h2, h3, h4, bnd_some, h5, callX_false]
      exact callB_ev h
    · cases h
  case buildSlice t n ps =>
    obtain ⟨dd, h1, h⟩ := bnd_eq_some h
    obtain ⟨e, h2, h⟩ := bnd_eq_some h
    obtain ⟨vs, h3, h⟩ := bnd_eq_some h
    obtain ⟨h4, h⟩ := grd_eq_some h
    obtain ⟨z, h5, h⟩ := bnd_eq_some h
    unfold barTree at h
    obtain ⟨t0, h6, h⟩ := bnd_eq_some h
    obtain ⟨h7, h⟩ := grd_eq_some h
    injection h with h; subst h; subst h6
    obtain ⟨k1, k2, _⟩ := packRows_env (s1 := z.2) (rows := z.1) h5
    simp only [evOp, h1, h2, h3, bnd_some]
    rw [grd_pos _ h4, h5, bnd_some]
    unfold S.newTree
    rw [bnd_some, grd_pos _ h7]
    simp only [S.barred, S.put, innEs, k1, k2]
theorem barEff_env {d : Option Nat} {op : Op} {x : Bar} (E : ∀ z ∈ op.operands.toList, ∀ v, s.ev z = some v → S.ev { s with env := e } z = some v) (h : barEff P G s d op = some x) : barEff P G { s with env := e } d op = some x := by
  have E' : ∀ z ∈ op.operands.toList, SameAt (fun _ => True) (fun _ => True) s { s with env := e } z := fun z hz v hv => ⟨E z hz v hv, inS_true v⟩
  cases op <;> simp only [barEff] at h ⊢ <;> try (cases h; done)
  case store t p v =>
    refine bnd_mono (fun v h => E _ (by simp [Op.operands]) v h) (fun vp _ h => bnd_mono (fun v h => E _ (by simp [Op.operands]) v h) (fun vv _ h => grd_mono (fun h => ?_) h) h) h
    cases vp <;> first | exact h | (rename_i b0 _ _ _; cases b0 <;> exact h)
  case call c =>
    obtain ⟨args, h1, h⟩ := bnd_eq_some h
    have hmem : ∀ x ∈ c.args.toList, SameAt (fun _ => True) (fun _ => True) s { s with env := e } x := fun x hx => E' x (by simp only [Op.operands, Call.operands, Array.toList_append]; exact List.mem_append_right _ hx)
    obtain ⟨k1, k2⟩ := evs_same hmem h1
    rw [k1, bnd_some]
    unfold barCallee at h ⊢
    split at h
    · rename_i b hcl
      exact barB_env h
    · rename_i f hcl
      exact bnd_mono (fun v h => E f (by simp only [Op.operands, Call.operands, hcl]; simp) v h) (fun _ _ h => bnd_mono (fun _ h => h) (fun _ _ h => bnd_mono (fun _ h => h) (fun _ _ h => grd_mono (fun h => callB_env h) h) h) h) h
    · cases h
  case buildSlice t n ps =>
    refine bnd_mono (fun _ h => h) (fun _ _ h => bnd_mono (fun _ h => h) (fun _ _ h => bnd_mono (fun _ h => pairs_same (fun x hx => E' x.2 (by simp only [Op.operands]; exact List.mem_map.2 ⟨x, hx, rfl⟩)) h) (fun vs _ h => grd_mono (fun h => ?_) h) h) h) h
    obtain ⟨z, h5, h⟩ := bnd_eq_some h
    obtain ⟨_, _, k3⟩ := packRows_env (s1 := z.2) (rows := z.1) h5
    rw [k3 e, bnd_some]
    exact h
theorem barred_env {d : Option Nat} {x : Bar} (r : Nat) : look r (s.barred d x).env = if some r = d then some x.val else (look r s.env).map (barVs x) := by
  have e : (look r s.env).map (barVs x) = look r (innEs x.inn (killEs x.kills s.env)) := by
    rw [look_innEs, look_killEs, Option.map_map]; rfl
  rw [e]; exact look_putO (s := { s with env := innEs x.inn (killEs x.kills s.env) }) r
end
section
variable {P : Program} {G : List (FuncId × Bool × Mean)} {ops : Array Oper}
theorem Seg.nd {l : List Pd} : ∀ {s t : S}, Seg P G ops s l t → Nd s → Nd t := by
  induction l with
  | nil => intro s t h n; cases h; exact n
  | cons x l ih => intro s t h n; cases h with | cons h1 h2 => exact ih h2 (h1.new.nd n _)
theorem Seg.append {l m : List Pd} {u : S} : ∀ {s t : S}, Seg P G ops s l t → Seg P G ops t m u → Seg P G ops s (l ++ m) u := by
  induction l with
  | nil => intro s t h k; cases h; exact k
  | cons x l ih => intro s t h k; cases h with | cons h1 h2 => exact .cons h1 (ih h2 k)
theorem valB_mm {s : S} {b : Builtin} {ats : Array TypeId} {args : List V} (h : b = .max ∨ b = .min) : valB P s b ats args = valMM b args := by
  rcases h with rfl | rfl <;> (unfold valB valMM; split <;> first | rfl | simp_all)
theorem effOp_val {s : S} {d : Nat} {op : Op} (h : isVal op = true) : effOp P G s d op = bnd (valOp P s op) fun v => some ⟨v, [], []⟩ := by
  cases op
  case call c =>
    simp only [isVal] at h
    have hb : c.callee = .builtin .max ∨ c.callee = .builtin .min := by
      unfold isMM at h; split at h
      · exact .inl ‹_›
      · exact .inr ‹_›
      · cases h
    have e1 : effOp P G s d (.call c) = bnd (mapSome s.ev c.args.toList) fun args => effCallee P G s d c.argTypes args c.callee := rfl
    have e2 : valOp P s (.call c) = bnd (mapSome s.ev c.args.toList) fun args => valCall args c.callee := rfl
    rw [e1, e2, bnd_assoc]
    congr 1; funext args
    rcases hb with hb | hb <;> rw [hb]
    · show bnd (valB P s .max c.argTypes args) _ = bnd (valMM .max args) _
      rw [valB_mm (.inl rfl)]
    · show bnd (valB P s .min c.argTypes args) _ = bnd (valMM .min args) _
      rw [valB_mm (.inr rfl)]
  all_goals first | rfl | cases h
theorem flOk_cons {ap : Bool} {x : Nat × Oper} {r : List (Nat × Oper)} (h : flOk ops ap (x :: r) = true) : (ap = true ∨ isVal x.2.op = true) ∧ x.2.guard = none ∧ (∃ d, x.2.dst = some d) ∧ (∀ d, x.2.dst = some d → d ∉ x.2.looksAt ops) ∧ (∀ y ∈ r, (∀ d, y.2.dst = some d → d ∉ x.2.looksAt ops) ∧ x.2.dst ≠ y.2.dst) ∧ flOk ops ap r = true := by
  unfold flOk at h
  simp only [Bool.and_eq_true] at h
  obtain ⟨⟨⟨⟨⟨k1, k2⟩, k3⟩, k4⟩, k5⟩, k6⟩ := h
  have aw : ∀ {a b : Oper}, away ops a b = true → ∀ d, b.dst = some d → d ∉ a.looksAt ops := fun h d hd => by
    unfold away at h; rw [hd] at h; simpa using h
  refine ⟨by simpa using k1, by simpa using k2, Option.isSome_iff_exists.1 k3, aw k4, fun y hy => ?_, k6⟩
  have := List.all_eq_true.1 k5 y hy
  rw [Bool.and_eq_true] at this
  exact ⟨aw this.1, by simpa using this.2⟩
theorem PdOk.val {s : S} {x : Pd} (h : PdOk P G ops s x) (hv : isVal x.o.op = true) (hg : x.o.guard = none) : x.g = true ∧ (∃ v, x.e = ⟨v, [], []⟩) := by
  have h1 := h.wants
  rw [hg] at h1
  simp only [S.wants] at h1
  injection h1 with h1
  refine ⟨h1.symm, ?_⟩
  obtain ⟨d, _, h2⟩ := h.yes h1.symm
  rw [effOp_val hv] at h2
  obtain ⟨v, _, h2⟩ := bnd_eq_some h2
  injection h2 with h2
  exact ⟨v, h2.symm⟩
theorem Seg.vals {l : List Pd} : ∀ {s t : S}, Seg P G ops s l t → flOk ops false (l.map both) = true → t.box = s.box ∧ t.tree = s.tree ∧ t.fro = s.fro ∧ ∀ r, (∀ y ∈ l, y.o.dst ≠ some r) → look r t.env = look r s.env := by
  induction l with
  | nil => intro s t h _; cases h; exact ⟨rfl, rfl, rfl, fun _ _ => rfl⟩
  | cons x l ih =>
    intro s t h hf
    cases h with
    | cons h1 h2 =>
      obtain ⟨f1, f2, _, _, _, f6⟩ := flOk_cons (x := both x) (r := l.map both) hf
      have f1 : isVal (both x).2.op = true := f1.elim (fun h => by cases h) _root_.id
      obtain ⟨_, v, hv⟩ := h1.val f1 f2
      obtain ⟨k1, k2, k3, k4⟩ := ih h2 f6
      refine ⟨by rw [k1]; simp [S.app, hv], by rw [k2]; simp [S.app, hv], by rw [k3]; rfl, fun r hr => ?_⟩
      rw [k4 r fun y hy => hr y (by simp [hy]), app_env, if_neg fun e => hr x (by simp) e.symm]
theorem Seg.bar {dst : Option Nat} {x0 : Bar} {T1 : S} {l : List Pd} : ∀ {s t : S}, Seg P G ops s l t → flOk ops false (l.map both) = true →
    (∀ y ∈ l, ∀ d, dst = some d → d ∉ y.o.looksAt ops ∧ y.o.dst ≠ some d) → T1.box = x0.box → T1.tree = x0.tree → T1.fro = s.fro → (∀ r, look r T1.env = look r (t.barred dst x0).env) →
    (∀ y ∈ l, ∃ d v, y.o.dst = some d ∧ look d T1.env = some v ∧ valOp P T1 y.o.op = some v ∧ look d t.env = some v) → Nd (s.barred dst x0) → ∃ t2, Seg P G ops (s.barred dst x0) l t2 ∧ Eqv t2 T1 := by
  induction l with
  | nil =>
    intro s t h _ _ k1 k2 k3 k4 _ _
    cases h
    exact ⟨_, .nil _, ⟨k4, by rw [k1]; exact .refl _, by rw [k2]; exact .refl _, k3⟩⟩
  | cons x l ih =>
    intro s t h hf ha k1 k2 k3 k4 hv n
    cases h with
    | cons h1 h2 =>
      obtain ⟨f1, f2, ⟨d, f3⟩, f4, f5, f6⟩ := flOk_cons (x := both x) (r := l.map both) hf
      have f1 : isVal (both x).2.op = true := f1.elim (fun h => by cases h) _root_.id
      have f3 : x.o.dst = some d := f3
      obtain ⟨g1, v, g2⟩ := h1.val f1 f2
      obtain ⟨b1, b2, b3, b4⟩ := h2.vals f6
      have nx : Nd ((s.app x.o.dst x.e).barred dst x0) := n
      obtain ⟨t2, c1, c2⟩ := ih h2 f6 (fun y hy => ha y (by simp [hy])) k1 k2 k3 k4 (fun y hy => hv y (by simp [hy])) nx
      have hx := ha x (by simp)
      obtain ⟨d', v', w1, w2, w3, w4⟩ := hv x (by simp)
      rw [f3] at w1; injection w1 with w1; subst w1
      have hvv : v' = v := by
        rw [b4 d (fun y hy e => (f5 (both y) (List.mem_map.2 ⟨y, hy, rfl⟩)).2 (f3.trans e.symm)), app_env, if_pos f3.symm, g2] at w4
        injection w4 with w4; exact w4.symm
      have hkv : barVs x0 v = v := by
        rw [k4, barred_env, if_neg (fun e => (hx d e.symm).2 f3), b4 d (fun y hy e => (f5 (both y) (List.mem_map.2 ⟨y, hy, rfl⟩)).2 (f3.trans e.symm)), app_env, if_pos f3.symm, g2, Option.map_some] at w2
        injection w2 with w2; rw [w2, hvv]
      have E : Eqv ((s.app x.o.dst x.e).barred dst x0) ((s.barred dst x0).app x.o.dst x.e) := by
        refine ⟨fun r => ?_, ?_, ?_, rfl⟩
        · rw [app_env, barred_env, barred_env, app_env]
          by_cases e1 : some r = x.o.dst
          · rw [if_pos e1]
            by_cases e2 : some r = dst
            · exact absurd e1.symm (hx r e2.symm).2
            · rw [if_neg e2, if_pos e1, Option.map_some, g2]
              exact congrArg some hkv.symm
          · rw [if_neg e1, if_neg e1]
        · rw [g2]; exact .refl _
        · rw [g2]; exact .refl _
      obtain ⟨t3, c3, c4⟩ := c1.eqv E nx
      refine ⟨t3, .cons ⟨by rw [show x.o.guard = none from f2, g1]; rfl, fun _ => ⟨d, f3, ?_⟩, (fun h => by rw [g1] at h; cases h), by rw [g2]; exact .none _ _⟩ c3, c4.symm.trans c2⟩
      have hl : ∀ r ∈ x.o.looksAt ops, look r (s.barred dst x0).env = look r T1.env := fun r hr => by
        rw [k4, barred_env, barred_env]
        by_cases e2 : some r = dst
        · rw [if_pos e2, if_pos e2]
        · rw [if_neg e2, if_neg e2, b4 r fun y hy e => (f5 (both y) (List.mem_map.2 ⟨y, hy, rfl⟩)).1 r e hr, app_env, if_neg fun e => f4 r e.symm hr]
      have A : Agr (fun _ => True) (fun _ => True) T1 (s.barred dst x0) := ⟨fun b cs h _ => by rw [k1] at h; exact h, fun p r h _ => by
        simp only [S.rows] at h ⊢; rw [k2, k3] at h; exact h, fun p r h _ => by rw [k2] at h; exact h, k3.symm⟩
      have hval : valOp P (s.barred dst x0) x.o.op = some v' := valOp_agr A (fun z hz u hu => by
        refine ⟨?_, inS_true u⟩
        cases z with
        | tmp t =>
          have ht : t ∈ x.o.looksAt ops := List.mem_append_left _ (List.mem_filterMap.2 ⟨.tmp t, hz, rfl⟩)
          show look t (s.barred dst x0).env = some u
          rw [hl t ht]; exact hu
        | const c => exact hu
        | func f => exact hu
        | global g => cases hu) w3
      rw [effOp_val (op := x.o.op) f1, hval, bnd_some, g2, hvv]
mutual
theorem inS_free {ks : List Nat} : ∀ {v : V}, (∀ p ∈ ks, mentions p v = false) → inS (fun _ => True) (· ∉ ks) v
  | .own q, h => fun hq => by have := h q hq; simp [mentions] at this
  | .inn q _ _ _, h => fun hq => by have := h q hq; simp [mentions] at this
  | .ref _ _, _ => trivial
  | .pe base _ _ _, h => inS_free (v := base) fun p hp => by simpa [mentions] using h p hp
  | .agg cs, h => inSs_free (vs := cs) fun p hp => by simpa [mentions] using h p hp
  | .tup cs, h => inSs_free (vs := cs) fun p hp => by simpa [mentions] using h p hp
  | .fn _ cs, h => inSs_free (vs := cs) fun p hp => by simpa [mentions] using h p hp
  | .v _, _ => trivial
  | .nil, _ => trivial
  | .lst _ _, _ => trivial
  | .fz _, _ => trivial
  | .mp _, _ => trivial
  | .dead, _ => trivial
theorem inSs_free {ks : List Nat} : ∀ {vs : List V}, (∀ p ∈ ks, mentions.any p vs = false) → inSs (fun _ => True) (· ∉ ks) vs
  | [], _ => trivial
  | v :: r, h => ⟨inS_free fun p hp => by have := h p hp; simp only [mentions.any, Bool.or_eq_false_iff] at this; exact this.1, inSs_free fun p hp => by have := h p hp; simp only [mentions.any, Bool.or_eq_false_iff] at this; exact this.2⟩
end
theorem freeV_iff {ks : List Nat} {v : V} : freeV ks v = true ↔ ∀ p ∈ ks, mentions p v = false := by
  unfold freeV
  simp [List.all_eq_true]
theorem killVs_free : ∀ {ks : List Nat} {v : V}, freeV ks v = true → killVs ks v = v
  | [], _, _ => rfl
  | p :: r, v, h => by
    have h1 := freeV_iff.1 h
    show killVs r (if mentions p v = true then .dead else v) = v
    rw [if_neg (by rw [h1 p (by simp)]; simp)]
    exact killVs_free (freeV_iff.2 fun q hq => h1 q (by simp [hq]))
def dropKs {α : Type} : List Nat → List (Nat × α) → List (Nat × α)
  | [], l => l
  | p :: r, l => dropKs r (drop1 p l)
theorem look_dropKs {α : Type} : ∀ {ks : List Nat} {l : List (Nat × α)} {p : Nat}, p ∉ ks → look p (dropKs ks l) = look p l
  | [], _, _, _ => rfl
  | q :: r, l, p, h => by
    rw [List.mem_cons, not_or] at h
    show look p (dropKs r (drop1 q l)) = _
    rw [look_dropKs h.2, look_drop1, if_neg h.1]
theorem dropOne_mem {α : Type} {k : Nat} : ∀ {l : List (Nat × α)} {q : Nat}, q ∈ (drop1 k l).map (·.1) → q ∈ l.map (·.1)
  | [], _, h => h
  | (j, y) :: l, q, h => by
    simp only [drop1] at h
    split at h
    · exact List.mem_cons_of_mem _ (dropOne_mem h)
    · rw [List.map_cons, List.mem_cons] at h ⊢
      exact h.imp _root_.id dropOne_mem
theorem dropOne_nodup {α : Type} {k : Nat} : ∀ {l : List (Nat × α)}, (l.map (·.1)).Nodup → ((drop1 k l).map (·.1)).Nodup
  | [], h => h
  | (j, y) :: l, h => by
    rw [List.map_cons] at h
    obtain ⟨h1, h2⟩ := List.nodup_cons.1 h
    simp only [drop1]
    split
    · exact dropOne_nodup h2
    · rw [List.map_cons]
      exact List.nodup_cons.2 ⟨fun hm => h1 (dropOne_mem hm), dropOne_nodup h2⟩
theorem dropKs_sub {α : Type} : ∀ {ks : List Nat} {l : List (Nat × α)} {p : Nat}, p ∈ (dropKs ks l).map (·.1) → p ∈ l.map (·.1)
  | [], _, _, h => h
  | q :: r, l, p, h => dropOne_mem (dropKs_sub (ks := r) h)
theorem drop1_out {α : Type} {k : Nat} : ∀ {l : List (Nat × α)}, k ∉ l.map (·.1) → drop1 k l = l
  | [], _ => rfl
  | y :: l, h => by
    obtain ⟨j, y⟩ := y
    simp only [List.map_cons, List.mem_cons, not_or] at h
    unfold drop1; rw [if_neg h.1, drop1_out h.2]
theorem drop1_append {α : Type} {k : Nat} : ∀ (l m : List (Nat × α)), drop1 k (l ++ m) = drop1 k l ++ drop1 k m
  | [], _ => rfl
  | y :: l, m => by
    obtain ⟨j, y⟩ := y
    simp only [List.cons_append, drop1]
    split
    · exact drop1_append l m
    · rw [drop1_append l m]; rfl
theorem dropKs_append {α : Type} : ∀ (ks : List Nat) (l m : List (Nat × α)), dropKs ks (l ++ m) = dropKs ks l ++ dropKs ks m
  | [], _, _ => rfl
  | p :: r, l, m => by show dropKs r (drop1 p (l ++ m)) = _; rw [drop1_append, dropKs_append r]; rfl
theorem dropKs_out {α : Type} : ∀ {ks : List Nat} {l : List (Nat × α)}, (∀ p ∈ ks, p ∉ l.map (·.1)) → dropKs ks l = l
  | [], _, _ => rfl
  | p :: r, l, h => by
    show dropKs r (drop1 p l) = l
    rw [drop1_out (h p (by simp))]
    exact dropKs_out fun q hq => h q (by simp [hq])
theorem dropKs_nodup {α : Type} : ∀ {ks : List Nat} {l : List (Nat × α)}, (l.map (·.1)).Nodup → ((dropKs ks l).map (·.1)).Nodup
  | [], _, h => h
  | p :: r, l, h => dropKs_nodup (ks := r) (dropOne_nodup h)
def S.grown (s : S) (t0 : Nat) (R : List (List D)) (ks : List Nat) : S := s.barred (some t0) ⟨.own t0, s.box, (t0, R) :: dropKs ks s.tree, ks, []⟩
theorem grown_env {s : S} {t0 : Nat} {R : List (List D)} {ks : List Nat} (r : Nat) : look r (s.grown t0 R ks).env = if r = t0 then some (.own t0) else (look r s.env).map (killVs ks) := by
  unfold S.grown; rw [barred_env]
  have hb : barVs ⟨.own t0, s.box, (t0, R) :: dropKs ks s.tree, ks, []⟩ = killVs ks := rfl
  rw [hb]
  by_cases h : r = t0
  · rw [if_pos h, if_pos (by rw [h])]
  · rw [if_neg h, if_neg (by intro e; injection e with e; exact h e)]
theorem grown_keysT {s : S} {t0 : Nat} {R : List (List D)} {ks : List Nat} {p : Nat} (h : p ∈ keysT (s.grown t0 R ks)) : p = t0 ∨ p ∈ keysT s := by
  unfold keysT S.grown S.barred at h
  simp only [List.map_append, List.map_cons, List.mem_append, List.mem_cons, List.cons_append] at h
  unfold keysT
  rw [List.map_append, List.mem_append]
  rcases h with h | h | h
  · exact .inl h
  · exact .inr (.inl (dropKs_sub h))
  · exact .inr (.inr h)
theorem grown_nd {s : S} {t0 : Nat} {R : List (List D)} {ks : List Nat} (n : Nd s) (h : t0 ∉ keysT s) : Nd (s.grown t0 R ks) := by
  refine ⟨n.1, ?_⟩
  have h2 := n.2
  unfold keysT at h h2 ⊢
  unfold S.grown S.barred
  rw [List.map_append, List.nodup_append] at h2
  rw [List.map_append, List.mem_append, not_or] at h
  simp only [List.cons_append, List.map_cons, List.map_append]
  refine List.nodup_cons.2 ⟨fun hm => ?_, List.nodup_append.2 ⟨dropKs_nodup h2.1, h2.2.1, fun a ha b hb => h2.2.2 a (dropKs_sub ha) b hb⟩⟩
  rcases List.mem_append.1 hm with hm | hm
  · exact h.1 (dropKs_sub hm)
  · exact h.2 hm
theorem Seg.env {l : List Pd} {r : Nat} : ∀ {s t : S}, Seg P G ops s l t → (∀ y ∈ l, y.o.dst ≠ some r) → look r t.env = look r s.env := by
  induction l with
  | nil => intro s t h _; cases h; rfl
  | cons x l ih =>
    intro s t h hr
    cases h with
    | cons h1 h2 => rw [ih h2 fun y hy => hr y (by simp [hy]), app_env, if_neg fun e => hr x (by simp) e.symm]
theorem Seg.wide {l : List Pd} : ∀ {s t : S}, Seg P G ops s l t → Wide s t := by
  induction l with
  | nil => intro s t h; cases h; exact .refl _
  | cons x l ih =>
    intro s t h
    cases h with
    | cons h1 h2 => exact (h1.new.wide _).trans (ih h2)
theorem Seg.past {t0 : Nat} {R : List (List D)} {ks : List Nat} {l : List Pd} : ∀ {s t : S}, Seg P G ops s l t → flOk ops true (l.map both) = true → (∀ y ∈ l, t0 ∉ y.o.looksAt ops ∧ y.o.dst ≠ some t0) →
    (∀ y ∈ l, (∃ d v, y.o.dst = some d ∧ look d t.env = some v ∧ freeV ks v = true) ∧ ∀ r ∈ y.o.looksAt ops, ∀ v, look r t.env = some v → freeV ks v = true) → (∀ p ∈ ks, p ∈ keysT s) → t0 ∉ keysT t → Nd s →
    ∃ t2, Seg P G ops (s.grown t0 R ks) l t2 ∧ Eqv (t.grown t0 R ks) t2 := by
  induction l with
  | nil => intro s t h _ _ _ _ _ _; cases h; exact ⟨_, .nil _, .refl _⟩
  | cons x l ih =>
    intro s t h hf ha hv hk h0 n
    have hW := h.wide
    cases h with
    | cons h1 h2 =>
      obtain ⟨f1, f2, ⟨d, f3⟩, f4, f5, f6⟩ := flOk_cons (x := both x) (r := l.map both) hf
      have f3 : x.o.dst = some d := f3
      have n1 : Nd (s.app x.o.dst x.e) := h1.new.nd n _
      have hW2 := h2.wide
      obtain ⟨t2, c1, c2⟩ := ih h2 f6 (fun y hy => ha y (by simp [hy])) (fun y hy => hv y (by simp [hy])) (fun p hp => app_keysT.2 (.inr (hk p hp))) h0 n1
      obtain ⟨⟨d', v, w1, w2, w3⟩, w4⟩ := hv x (by simp)
      rw [f3] at w1; injection w1 with w1; subst w1
      have hval : v = x.e.val := by
        rw [h2.env (fun y hy e => (f5 (both y) (List.mem_map.2 ⟨y, hy, rfl⟩)).2 (f3.trans e.symm)), app_env, if_pos f3.symm] at w2
        injection w2 with w2; exact w2.symm
      have h0s : t0 ∉ keysT s := fun h => h0 (hW.keysT h)
      have h0e : t0 ∉ x.e.tree.map (·.1) := fun h => h0 (hW2.keysT (app_keysT.2 (.inl h)))
      have hke : ∀ p ∈ ks, p ∉ x.e.tree.map (·.1) := fun p hp h => (h1.new.t p h).1 (hk p hp)
      have E : Eqv ((s.app x.o.dst x.e).grown t0 R ks) ((s.grown t0 R ks).app x.o.dst x.e) := by
        refine ⟨fun r => ?_, .refl _, ?_, rfl⟩
        · rw [app_env, grown_env, grown_env, app_env]
          by_cases e1 : some r = x.o.dst
          · have : r ≠ t0 := fun e2 => (ha x (by simp)).2 (by rw [← e1, e2])
            rw [if_pos e1, if_neg this, if_pos e1, Option.map_some, ← hval, killVs_free w3]
          · rw [if_neg e1, if_neg e1]
        · show (x.e.tree.reverse ++ ((t0, R) :: dropKs ks s.tree)).Perm ((t0, R) :: dropKs ks (x.e.tree.reverse ++ s.tree))
          rw [dropKs_append, dropKs_out (l := x.e.tree.reverse) (fun p hp h => hke p hp (by simpa using h))]
          exact List.perm_middle
      obtain ⟨t3, c3, c4⟩ := c1.eqv E (grown_nd n1 fun h => (app_keysT.1 h).elim h0e h0s)
      refine ⟨t3, .cons (h1.move (oB := fun _ => True) (oT := (· ∉ ks)) ⟨fun b cs h _ => h, fun p rows h hp => ?_, fun p rows h hp => ?_, rfl⟩ (fun r hr => ?_) (fun r hr u hu => ?_) ⟨h1.new.nt, fun p hp => ⟨fun h => ?_, (h1.new.t p hp).2⟩, h1.new.nb, h1.new.b⟩) c3, c2.trans c4⟩
      · have hp0 : p ≠ t0 := fun e => by
          subst e
          simp only [S.rows] at h
          have : ∀ z : Option (List (List D)), look p s.tree = none → look p s.fro = none → orElse1 (look p s.tree) (look p s.fro) = some rows → False := fun _ a b c => by rw [a, b] at c; cases c
          refine this none ?_ ?_ h
          · cases e : look p s.tree with
            | none => rfl
            | some z => exact absurd (by unfold keysT; rw [List.map_append, List.mem_append]; exact .inl (List.mem_map.2 ⟨_, look_mem e, rfl⟩)) h0s
          · cases e : look p s.fro with
            | none => rfl
            | some z => exact absurd (by unfold keysT; rw [List.map_append, List.mem_append]; exact .inr (List.mem_map.2 ⟨_, look_mem e, rfl⟩)) h0s
        simp only [S.rows] at h ⊢
        show orElse1 (look p ((t0, R) :: dropKs ks s.tree)) (look p s.fro) = some rows
        simp only [look, if_neg hp0]
        rw [look_dropKs hp]; exact h
      · have hp0 : p ≠ t0 := fun e => h0s (by subst e; unfold keysT; rw [List.map_append, List.mem_append]; exact .inl (List.mem_map.2 ⟨_, look_mem h, rfl⟩))
        show look p ((t0, R) :: dropKs ks s.tree) = some rows
        simp only [look, if_neg hp0]
        rw [look_dropKs hp]; exact h
      · have hr0 : r ≠ t0 := fun e => (ha x (by simp)).1 (e ▸ hr)
        rw [grown_env, if_neg hr0]
        have hl : look r t.env = look r s.env := by
          rw [h2.env (fun y hy e => (f5 (both y) (List.mem_map.2 ⟨y, hy, rfl⟩)).1 r e hr), app_env, if_neg fun e => f4 r e.symm hr]
        cases e : look r s.env with
        | none => rfl
        | some u => rw [Option.map_some, killVs_free (w4 r hr u (hl.trans e))]
      · have hr0 : r ≠ t0 := fun e => (ha x (by simp)).1 (e ▸ hr)
        rw [grown_env, if_neg hr0] at hu
        have hl : look r t.env = look r s.env := by
          rw [h2.env (fun y hy e => (f5 (both y) (List.mem_map.2 ⟨y, hy, rfl⟩)).1 r e hr), app_env, if_neg fun e => f4 r e.symm hr]
        cases e : look r s.env with
        | none => rw [e] at hu; cases hu
        | some u' =>
          have hfr := w4 r hr u' (hl.trans e)
          rw [e, Option.map_some, killVs_free hfr] at hu
          injection hu with hu; subst hu
          exact inS_free (freeV_iff.1 hfr)
      · rcases grown_keysT h with h | h
        · subst h; exact h0e hp
        · exact (h1.new.t p hp).1 h
theorem keepFl_mem {s : S} {ks : List Nat} : ∀ {fl : List Nat} {i : Nat}, keepFl ops s ks fl = some () → i ∈ fl → ∃ o d v, ops[i]? = some o ∧ o.dst = some d ∧ look d s.env = some v ∧ freeV ks v = true ∧ opsFree ks s o.op = true
  | j :: fl, i, h, hi => by
    simp only [keepFl] at h
    obtain ⟨o, h1, h⟩ := bnd_eq_some h
    obtain ⟨d, h2, h⟩ := bnd_eq_some h
    obtain ⟨v, h3, h⟩ := bnd_eq_some h
    obtain ⟨h4, h⟩ := grd_eq_some h
    rw [Bool.and_eq_true] at h4
    rcases List.mem_cons.1 hi with rfl | hi
    · exact ⟨o, d, v, h1, h2, h3, h4.1, h4.2⟩
    · exact keepFl_mem h hi
theorem barB_down {oB oT : Nat → Prop} {s s' : S} (A : Agr oB oT s s') {d : Option Nat} {b : Builtin} {ats : Array TypeId} {args : List V} {x : Bar} (i : inSs oB oT args) (hfr : ∀ t, fresh s t = true → fresh s' t = true) (hin : x.inn = []) (h : barB P s d b ats args = some x) :
    ∃ t0 R, d = some t0 ∧ fresh s t0 = true ∧ x.val = .own t0 ∧ x.tree = (t0, R) :: dropKs x.kills s.tree ∧ (∀ p ∈ x.kills, ∃ rows, look p s'.tree = some rows) ∧ (∀ p ∈ x.kills, x.box = killB p s.box) ∧ (x.kills = [] → x.box = s.box) ∧ (x.kills = [] ∨ ∃ p, x.kills = [p]) ∧
      barB P s' d b ats args = some ⟨.own t0, (match x.kills with | [] => s'.box | p :: _ => killB p s'.box), (t0, R) :: dropKs x.kills s'.tree, x.kills, []⟩ := by
  unfold barB at h ⊢
  split at h
  · rename_i x0 y0
    obtain ⟨t, h2, h⟩ := bnd_eq_some h
    obtain ⟨t1, h3, h⟩ := bnd_eq_some h
    obtain ⟨h4, h⟩ := grd_eq_some h
    obtain ⟨ds, h5, h⟩ := bnd_eq_some h
    obtain ⟨e, h6, h⟩ := bnd_eq_some h
    obtain ⟨new, h7, h⟩ := bnd_eq_some h
    simp only [h2, h3, bnd_some, grd_pos _ h4, h5, h6, flatRows_agr A i.2.1 h7]
    cases x0 with
    | nil =>
      simp only [barApp] at h
      obtain ⟨k1, h⟩ := grd_eq_some h
      obtain ⟨t0, k2, h⟩ := bnd_eq_some h
      obtain ⟨k3, h⟩ := grd_eq_some h
      injection h with h; subst h
      refine ⟨t0, new, k2, k3, rfl, rfl, (fun p hp => by cases hp), (fun p hp => by cases hp), (fun _ => rfl), .inl rfl, ?_⟩
      simp only [barApp, grd_pos _ k1, k2, bnd_some, grd_pos _ (hfr _ k3)]
      rfl
    | own p =>
      simp only [barApp] at h
      obtain ⟨rows, k0, h⟩ := bnd_eq_some h
      obtain ⟨k1, h⟩ := grd_eq_some h
      obtain ⟨t0, k2, h⟩ := bnd_eq_some h
      obtain ⟨k3, h⟩ := grd_eq_some h
      injection h with h; subst h
      have k4 := A.tree p rows k0 i.1
      refine ⟨t0, rows ++ new, k2, k3, rfl, rfl, (fun q hq => by simp at hq; subst hq; exact ⟨rows, k4⟩), (fun q hq => by simp at hq; subst hq; rfl), (fun h => by cases h), .inr ⟨p, rfl⟩, ?_⟩
      simp only [barApp, k4, grd_pos _ k1, k2, bnd_some, grd_pos _ (hfr _ k3)]
      rfl
    | inn p i j k =>
      simp only [barApp] at h
      obtain ⟨_, _, h⟩ := bnd_eq_some h
      obtain ⟨_, h⟩ := grd_eq_some h
      obtain ⟨_, _, h⟩ := bnd_eq_some h
      obtain ⟨_, _, h⟩ := bnd_eq_some h
      obtain ⟨_, h⟩ := grd_eq_some h
      obtain ⟨_, _, h⟩ := bnd_eq_some h
      obtain ⟨_, h⟩ := grd_eq_some h
      injection h with h; subst h; cases hin
    | _ => simp only [barApp] at h; cases h
  · cases h
theorem flOk_vals {ap : Bool} : ∀ {l : List (Nat × Oper)}, flOk ops ap l = true → (∀ y ∈ l, isVal y.2.op = true) → flOk ops false l = true
  | [], _, _ => rfl
  | x :: r, h, hv => by
    unfold flOk at h ⊢
    simp only [Bool.and_eq_true] at h ⊢
    obtain ⟨⟨⟨⟨⟨k1, k2⟩, k3⟩, k4⟩, k5⟩, k6⟩ := h
    exact ⟨⟨⟨⟨⟨by rw [hv x (by simp)]; rfl, k2⟩, k3⟩, k4⟩, k5⟩, flOk_vals k6 fun y hy => hv y (by simp [hy])⟩
theorem sameVals_mem {s0 s : S} : ∀ {fl : List Nat} {i : Nat}, sameVals P ops s0 s fl = some () → i ∈ fl → ∃ o d v, ops[i]? = some o ∧ o.dst = some d ∧ look d s.env = some v ∧ valOp P s o.op = some v ∧ look d s0.env = some v
  | j :: fl, i, h, hi => by
    simp only [sameVals] at h
    obtain ⟨o, h1, h⟩ := bnd_eq_some h
    obtain ⟨d, h2, h⟩ := bnd_eq_some h
    obtain ⟨v, h3, h⟩ := bnd_eq_some h
    obtain ⟨u, h4, h⟩ := bnd_eq_some h
    obtain ⟨h5, h6⟩ := grdEq_some h
    clear h
    subst h5
    obtain ⟨v0, h7, h8⟩ := bnd_eq_some h6
    obtain ⟨h9, h10⟩ := grdEq_some h8
    clear h6 h8
    subst h9
    rcases List.mem_cons.1 hi with hi | hi
    · subst hi; exact ⟨o, d, v0, h1, h2, h3, h4, h7⟩
    · exact sameVals_mem h10 hi
end
end Go.Proofs.YtjhdikdopdcfcaaGreatDoor
namespace Go.Proofs.YtjhdikdopdcfcaaGreatDoor
open Go.RowKit
set_option linter.unusedSimpArgs false
set_option linter.unusedVariables false
section
variable {P : Program} {G : List (FuncId × Bool × Mean)} {ops : Array Oper} {bars : List (Nat × List Nat)} {c : Ctx}
theorem ready_iff {listed : Array Bool} {j : Nat} : j ∈ Region.ready .any ops listed ↔ listed.getD j true = false ∧ ∃ o, ops[j]? = some o ∧ ∀ e ∈ edgesOf o, listed.getD e false = true := by
  rw [mem_ready]
  refine and_congr_right fun _ => exists_congr fun o => and_congr_right fun _ => ?_
  unfold edgesOf
  simp only [List.mem_map, List.mem_filter, Array.mem_toList_iff]
  constructor
  · rintro h e ⟨x, ⟨h1, h2⟩, rfl⟩; exact h x h1 h2
  · intro h x h1 h2; exact h x.on ⟨x, ⟨h1, h2⟩, rfl⟩
theorem Good.same {c : Ctx} {s s' : S} {a : Act} {w : World} (g : Good c s a w) (hE : ∀ t v, look t s'.env = some v → look t s.env = some v) (hB : s'.box.Perm s.box) (hT : s'.tree.Perm s.tree) (hF : s'.fro = s.fro) : Good c s' a w := by
  obtain ⟨y, A⟩ := g
  have kB : ∀ b, b ∈ s'.box.map (·.1) ↔ b ∈ s.box.map (·.1) := fun b => (hB.map _).mem_iff
  have kT : ∀ b, b ∈ (s'.tree ++ s'.fro).map (·.1) ↔ b ∈ (s.tree ++ s.fro).map (·.1) := fun b => by
    rw [hF]; exact ((hT.append_right _).map _).mem_iff
  have le : (relOf c s y).le (relOf c s' y) := ⟨fun _ _ h => h, fun b o ⟨p, h1, h2⟩ => ⟨p, by rw [hF]; exact h1, h2⟩, rfl, fun b h => ⟨(kB b).2 h, rfl⟩, fun p h => ⟨(kT p).2 h, rfl⟩⟩
  refine ⟨y, A.defers, A.size, ?_, fun t v e => (A.env t v (hE t v e)).le le, fun b cs h => (A.box b cs (hB.mem_iff.1 h)).le le, fun p rows h => A.fro p rows (by rw [← hF]; exact h), (hB.map _).nodup_iff.2 A.nb, ?_, A.fix⟩
  · rw [hF]
    refine A.st.perm (List.Perm.append ?_ (List.Perm.append ?_ (List.Perm.refl _)))
    · exact (hB.map _).symm
    · exact (hT.map _).symm
  · rw [hF]
    exact ((hT.append_right s.fro).map _).nodup_iff.2 A.nt
theorem Eqv.good {s s2 : S} (h : Eqv s s2) {a : Act} {w : World} (g : Good c s a w) : Good c s2 a w :=
  g.same (fun t v e => by rw [← h.env t]; exact e) h.box h.tree h.fro
theorem Good.nd {s : S} {a : Act} {w : World} (g : Good c s a w) : Nd s := by
  obtain ⟨y, A⟩ := g
  exact ⟨A.nb, A.nt⟩
theorem Good.inS {s : S} {a : Act} {w : World} (g : Good c s a w) : ∀ r v, look r s.env = some v → inS (· ∈ keysB s) (· ∈ keysT s) v := by
  obtain ⟨y, A⟩ := g
  exact fun r v e => RV.inS (A.env r v e)
theorem split_at {l : List Pd} {i : Nat} (h : i ∈ l.map (·.i)) : ∃ l1 x l2, l = l1 ++ x :: l2 ∧ x.i = i := by
  obtain ⟨x, hx, rfl⟩ := List.mem_map.1 h
  obtain ⟨l1, l2, e⟩ := List.append_of_mem hx
  exact ⟨l1, x, l2, e, rfl⟩
theorem sub_split {α : Type} {l1 l2 : List α} {x : α} {d : List α} (h : (l1 ++ x :: l2).Sublist d) : ∃ A B, d = A ++ x :: B ∧ l1.Sublist A ∧ l2.Sublist B := by
  obtain ⟨A, R, rfl, hA, hR⟩ := List.append_sublist_iff.1 h
  obtain ⟨r1, r2, rfl, hx, h2⟩ := List.cons_sublist_iff.1 hR
  obtain ⟨u, v, rfl⟩ := List.append_of_mem hx
  refine ⟨A ++ u, v ++ r2, by simp, hA.trans (List.sublist_append_left _ _), h2.trans (List.sublist_append_right _ _)⟩
theorem nodup_at {L : List (Nat × Oper)} (hO : DrawOk ops bars L) : (L.map (·.1)).Nodup := by
  have : ∀ B A, L = A ++ B → (A.map (·.1)).Nodup → (L.map (·.1)).Nodup := by
    intro B
    induction B with
    | nil => intro A e n; rw [List.append_nil] at e; rw [e]; exact n
    | cons x B ih =>
      intro A e n
      refine ih (A ++ [x]) (by rw [e]; simp) ?_
      rw [List.map_append]
      refine List.nodup_append.2 ⟨n, by simp, fun a ha b hb e2 => ?_⟩
      rw [List.map_cons, List.map_nil, List.mem_singleton] at hb
      obtain ⟨y, hy, rfl⟩ := List.mem_map.1 ha
      exact ((hO.at_ A x B e).2.2 y hy).1 (e2.trans hb)
  exact this L [] rfl List.nodup_nil
theorem getD_of {listed : Array Bool} (hsz : listed.size = ops.size) {j : Nat} (hj : j < ops.size) : listed.getD j true = listed.getD j false := by
  rw [Array.getD_eq_getD_getElem?, Array.getD_eq_getD_getElem?, Array.getElem?_eq_getElem (by omega)]; rfl
theorem drw_main (hC : CallOk P G) {L : List (Nat × Oper)} (hO : DrawOk ops bars L) (hd : ∀ o ∈ ops.toList, dstOk c.n o.dst = true) {q : S} {Q1 : Exit → Act → World → Prop} (k : ∀ a w, Good c q a w → Q1 .normal a w) :
    ∀ (fuel : Nat) (listed : Array Bool) (a : Act) (w : World) (done rest : List (Nat × Oper)) (pend : List Pd) (s t tt : S),
      listed.size = ops.size → L = done ++ rest → (∀ i, i < ops.size → (listed.getD i false = true ↔ i ∈ done.map (·.1) ∧ i ∉ pend.map (·.i))) →
      (pend.map both).Sublist done → (∀ x r, rest = x :: r → look x.1 bars ≠ none) → (∀ x ∈ pend, look x.i bars = none) →
      Seg P G ops s pend t → Eqv t tt → evDrw P G ops bars rest (.on tt) = some (.on q) →
      (∀ i o, listed.getD i false = true → ops.toList[i]? = some o → ∀ e ∈ edgesOf o, listed.getD e false = true) →
      pend.length + rest.length ≤ fuel → Good c s a w → wpAny P .any ops Q1 fuel listed a w := by
  have hnd := nodup_at hO
  have hlt : ∀ x ∈ L, x.1 < ops.size := fun x hx => (Array.getElem?_eq_some_iff.1 (hO.mem x hx)).1
  have hback : ∀ i o, ops[i]? = some o → ∀ e ∈ edgesOf o, e < ops.size := fun i o hi e he => by
    obtain ⟨x, hx, e1⟩ := List.mem_map.1 (hO.all i (Array.getElem?_eq_some_iff.1 hi).1)
    obtain ⟨A, B, e2⟩ := List.append_of_mem hx
    have h3 := hO.mem x hx
    rw [e1, hi] at h3; injection h3 with h3
    obtain ⟨y, hy, e4⟩ := List.mem_map.1 ((hO.at_ A x B e2).1 e (h3 ▸ he))
    rw [← e4]; exact hlt y (by rw [e2]; simp [hy])
  intro fuel
  induction fuel with
  | zero =>
    intro listed a w done rest pend s t tt hsz hL hl hsub hbar hpb hS hE hev hcl hf g
    have hp0 : pend = [] := List.eq_nil_of_length_eq_zero (by omega)
    have hr0 : rest = [] := List.eq_nil_of_length_eq_zero (by omega)
    subst hp0 hr0
    cases hS
    simp only [evDrw] at hev
    injection hev with hev; injection hev with hev
    refine ⟨List.eq_nil_iff_forall_not_mem.2 fun j hj => ?_, k a w (hev ▸ hE.good g)⟩
    obtain ⟨h1, o, h2, _⟩ := ready_iff.1 hj
    have hj' : j < ops.size := (Array.getElem?_eq_some_iff.1 h2).1
    have h3 : listed.getD j false = true := (hl j hj').2 ⟨by have := hO.all j hj'; rw [hL, List.append_nil] at this; exact this, by simp⟩
    rw [getD_of hsz hj', h3] at h1
    cases h1
  | succ fuel ih =>
    intro listed a w done rest pend s t tt hsz hL hl hsub hbar hpb hS hE hev hcl hf g
    have un : ∀ j, j < ops.size → listed.getD j true = listed.getD j false := fun j hj => getD_of hsz hj
    have nl : ∀ j, j < ops.size → (j ∉ done.map (·.1) ∨ j ∈ pend.map (·.i)) → listed.getD j false = false := fun j hj h => by
      cases e : listed.getD j false with
      | false => rfl
      | true => exact h.elim (fun h => absurd ((hl j hj).1 e).1 h) (fun h => absurd h ((hl j hj).1 e).2)
    have hpd : ∀ x ∈ pend, both x ∈ done := fun x hx => hsub.subset (List.mem_map.2 ⟨x, hx, rfl⟩)
    have hnr : ∀ x ∈ rest, x.1 ∉ done.map (·.1) := fun x hx h => by
      rw [hL, List.map_append] at hnd
      exact (List.nodup_append.1 hnd).2.2 x.1 h x.1 (List.mem_map.2 ⟨x, hx, rfl⟩) rfl
    refine ⟨fun hr => ?_, fun i hi => ?_⟩
    · have hno : ∀ A x B, L = A ++ x :: B → listed.getD x.1 false = false → (∀ y ∈ A, listed.getD y.1 false = true) → False := fun A x B e h1 h2 => by
        have hx : x ∈ L := by rw [e]; simp
        have : x.1 ∈ Region.ready .any ops listed := ready_iff.2 ⟨by rw [un _ (hlt x hx)]; exact h1, x.2, hO.mem x hx, fun e' he => by
          obtain ⟨y, hy, e3⟩ := List.mem_map.1 ((hO.at_ A x B e).1 e' he)
          rw [← e3]; exact h2 y hy⟩
        rw [hr] at this; cases this
      cases pend with
      | cons x l =>
        exfalso
        obtain ⟨A, B, e1, _, e3⟩ := sub_split (l1 := []) (l2 := l.map both) (x := both x) (by simpa using hsub)
        refine hno A (both x) (B ++ rest) (by rw [hL, e1]; simp) (nl _ (hlt _ (by rw [hL]; exact List.mem_append_left _ (hpd x (by simp)))) (.inr (by simp [both]))) fun y hy => ?_
        have hyL : y ∈ L := by rw [hL, e1]; simp [hy]
        refine (hl _ (hlt y hyL)).2 ⟨List.mem_map.2 ⟨y, by rw [e1]; simp [hy], rfl⟩, fun hm => ?_⟩
        rw [hL, e1, List.map_append, List.map_append] at hnd
        have h4 := (List.nodup_append.1 (List.nodup_append.1 hnd).1).2.2 y.1 (List.mem_map.2 ⟨y, hy, rfl⟩)
        rw [List.map_cons, List.mem_cons] at hm
        rcases hm with hm | hm
        · exact h4 _ (by simp [both]) hm
        · obtain ⟨z, hz, e5⟩ := List.mem_map.1 hm
          refine h4 z.i ?_ e5.symm
          rw [List.map_cons]
          exact List.mem_cons_of_mem _ (List.mem_map.2 ⟨both z, e3.subset (List.mem_map.2 ⟨z, hz, rfl⟩), rfl⟩)
      | nil =>
        cases rest with
        | cons x r =>
          exfalso
          refine hno done x r hL (nl _ (hlt x (by rw [hL]; simp)) (.inl (hnr x (by simp)))) fun y hy => ?_
          exact (hl _ (hlt y (by rw [hL]; simp [hy]))).2 ⟨List.mem_map.2 ⟨y, hy, rfl⟩, by simp⟩
        | nil =>
          cases hS
          simp only [evDrw] at hev
          injection hev with hev; injection hev with hev
          exact k a w (hev ▸ hE.good g)
    · obtain ⟨h1, o, h2, h3⟩ := ready_iff.1 hi
      have hi' : i < ops.size := (Array.getElem?_eq_some_iff.1 h2).1
      rw [un i hi'] at h1
      have h3' : ∀ o, ops.toList[i]? = some o → ∀ e ∈ edgesOf o, listed.getD e false = true := fun o' ho' e he => by
        rw [Array.getElem?_toList, h2] at ho'; injection ho' with ho'; subst ho'; exact h3 e he
      have hreach : ∀ j, Reach ops.toList i j → listed.getD j false = true := fun j hr => reach_listed (L := fun j => listed.getD j false = true) hcl hr h3'
      have hsz2 : (listed.setIfInBounds i true).size = ops.size := by rw [Array.size_setIfInBounds]; exact hsz
      have hget : ∀ j, j < ops.size → (listed.setIfInBounds i true).getD j false = if j = i then true else listed.getD j false := fun j hj => by
        by_cases e : j = i
        · subst e; rw [if_pos rfl, Array.getD_eq_getD_getElem?, Array.getElem?_setIfInBounds_self_of_lt (by omega)]; rfl
        · rw [if_neg e]; exact getD_set_ne false (fun e2 => e e2.symm)
      have hcl2 : ∀ j o, (listed.setIfInBounds i true).getD j false = true → ops.toList[j]? = some o → ∀ e ∈ edgesOf o, (listed.setIfInBounds i true).getD e false = true := fun j o' hj ho' e he => by
        have ho2 : ops[j]? = some o' := by rw [← Array.getElem?_toList]; exact ho'
        have hjlt : j < ops.size := (Array.getElem?_eq_some_iff.1 ho2).1
        have helt : e < ops.size := hback j o' ho2 e he
        rw [hget e helt]
        rw [hget j hjlt] at hj
        by_cases e2 : e = i
        · rw [if_pos e2]
        · rw [if_neg e2]
          by_cases e3 : j = i
          · subst e3; exact h3' o' ho' e he
          · rw [if_neg e3] at hj; exact hcl j o' hj ho' e he
      have hiL : i ∈ done.map (·.1) ∨ i ∈ rest.map (·.1) := by
        have := hO.all i hi'
        rw [hL, List.map_append, List.mem_append] at this; exact this
      by_cases hm : i ∈ pend.map (·.i)
      · obtain ⟨l1, x, l2, rfl, hxi⟩ := split_at hm
        subst hxi
        rw [List.map_append, List.map_cons] at hsub
        obtain ⟨A, B, e1, e2, e3⟩ := sub_split hsub
        have hxL : both x ∈ L := by rw [hL, e1]; simp
        have hxo : ops[x.i]? = some x.o := hO.mem _ hxL
        have ho : o = x.o := by rw [hxo] at h2; injection h2 with h2; exact h2.symm
        have hap : ∀ y ∈ l1, x.o.apart ops y.o = true := fun y hy => by
          have hyA : both y ∈ A := e2.subset (List.mem_map.2 ⟨y, hy, rfl⟩)
          rcases ((hO.at_ A (both x) (B ++ rest) (by rw [hL, e1]; simp)).2.2 (both y) hyA).2 with h | h
          · exfalso
            have h4 := hreach y.i h
            rw [nl y.i (hlt (both y) (by rw [hL, e1]; simp [hyA])) (.inr (by simp [List.mem_map.2 ⟨y, hy, rfl⟩]))] at h4
            cases h4
          · exact h.1
        obtain ⟨hok, t2, hS2, hE2⟩ := hS.front hap g.nd g.inS
        refine pd_step hC hok hxo (hd x.o (by rw [Array.mem_toList_iff]; exact Array.mem_of_getElem? hxo)) g fun a' w' g' => ?_
        have hni : x.i ∉ (l1 ++ l2).map (·.i) := fun h => by
          have hn : ((l1 ++ x :: l2).map (·.i)).Nodup := by
            have h5 : ((l1 ++ x :: l2).map (·.i)).Sublist (done.map (·.1)) := by
              have := hsub.map (·.1)
              simpa [both, Function.comp_def] using this
            rw [hL, List.map_append] at hnd
            exact h5.nodup (List.nodup_append.1 hnd).1
          rw [List.map_append, List.map_cons] at hn
          obtain ⟨n1, n2, n3⟩ := List.nodup_append.1 hn
          rw [List.map_append, List.mem_append] at h
          rcases h with h | h
          · exact n3 _ h _ (by simp) rfl
          · exact (List.nodup_cons.1 n2).1 h
        refine ih _ a' w' done rest (l1 ++ l2) _ t2 tt hsz2 hL (fun j hj => ?_) ?_ hbar (fun y hy => hpb y ?_) hS2 (hE2.symm.trans hE) hev hcl2 ?_ g'
        · rw [hget j hj]
          by_cases e : j = x.i
          · rw [if_pos e]; subst e
            exact ⟨fun _ => ⟨List.mem_map.2 ⟨both x, by rw [e1]; simp, rfl⟩, hni⟩, fun _ => rfl⟩
          · rw [if_neg e, hl j hj]
            simp only [List.map_append, List.map_cons, List.mem_append, List.mem_cons, e, false_or]
        · rw [List.map_append]
          exact ((List.Sublist.refl _).append (List.sublist_cons_self _ _)).trans hsub
        · rcases List.mem_append.1 hy with hy | hy <;> simp [hy]
        · simp only [List.length_append, List.length_cons] at hf ⊢; omega
      · have hir : i ∈ rest.map (·.1) := by
          rcases hiL with h | h
          · rw [(hl i hi').2 ⟨h, hm⟩] at h1; cases h1
          · exact h
        obtain ⟨x, hx, hxi⟩ := List.mem_map.1 hir
        subst hxi
        obtain ⟨R1, R2, rfl⟩ := List.append_of_mem hx
        have hxL : x ∈ L := by rw [hL]; simp
        have hxo : ops[x.1]? = some x.2 := hO.mem x hxL
        have ho : o = x.2 := by rw [hxo] at h2; injection h2 with h2; exact h2.symm
        have hR1 : R1 = [] := by
          cases R1 with
          | nil => rfl
          | cons b R1 =>
            exfalso
            have hb := hbar b _ rfl
            have hbr : b ∈ b :: R1 ++ x :: R2 := by simp
            rcases ((hO.at_ (done ++ b :: R1) x R2 (by rw [hL]; simp)).2.2 b (by simp)).2 with h | h
            · have h4 := hreach b.1 h
              rw [nl b.1 (hlt b (by rw [hL]; simp)) (.inl (hnr b hbr))] at h4
              cases h4
            · exact hb h.2.1
        subst hR1
        rw [List.nil_append] at *
        have hat := hO.at_ done x R2 hL
        have hpair : ∀ y ∈ pend, x.2.apart ops y.o = true ∧ ∃ fl, look x.1 bars = some fl ∧ y.i ∈ fl := fun y hy => by
          rcases (hat.2.2 (both y) (hpd y hy)).2 with h | h
          · exfalso
            have h4 := hreach y.i h
            rw [nl y.i (hlt (both y) (by rw [hL]; simp [hpd y hy])) (.inr (List.mem_map.2 ⟨y, hy, rfl⟩))] at h4
            cases h4
          · refine ⟨h.1, ?_⟩
            rcases h.2.2 with h5 | h5
            · exact absurd h5 (hbar x _ rfl)
            · exact h5
        have hdo := hd x.2 (by rw [Array.mem_toList_iff]; exact Array.mem_of_getElem? hxo)
        rw [evDrw_cons] at hev
        obtain ⟨gd, h4, hev⟩ := bnd_eq_some hev
        have next : ∀ (pend : List Pd) (s1 t1 q1 : S) (a' : Act) (w' : World), (pend.map both).Sublist done → (∀ x ∈ pend, look x.i bars = none) → (∀ j, j < ops.size → ((listed.setIfInBounds x.1 true).getD j false = true ↔ j ∈ (done ++ [x]).map (·.1) ∧ j ∉ pend.map (·.i))) → pend.length + R2.length ≤ fuel →
            Seg P G ops s1 pend t1 → Eqv t1 q1 → evDrw P G ops bars R2 (.on q1) = some (.on q) → Good c s1 a' w' → wpAny P .any ops Q1 fuel (listed.setIfInBounds x.1 true) a' w' := fun pend s1 t1 q1 a' w' hsub hpb hl hf hS hE hev g' => by
          obtain ⟨pend2, t2, l2, k1, k2, k3, k4, k5⟩ := collect hev
          have n1 : Nd q1 := hE.nd (hS.nd g'.nd)
          obtain ⟨t3, k6, k7⟩ := k2.eqv hE.symm n1
          refine ih _ a' w' (done ++ [x] ++ pend2.map both) l2 (pend ++ pend2) s1 t3 t2 hsz2 (by rw [hL, k1]; simp) (fun j hj => ?_) ?_ k4 (fun y hy => ?_) (hS.append k6) k7.symm k3 hcl2 ?_ g'
          · rw [hl j hj, List.map_append (l₁ := done ++ [x]), List.map_append (l₁ := pend), List.mem_append, List.mem_append]
            have hm2 : ∀ j, j ∈ (pend2.map both).map (·.1) ↔ j ∈ pend2.map (·.i) := fun j => by simp [both, Function.comp_def]
            rw [hm2]
            constructor
            · rintro ⟨m1, m2⟩
              refine ⟨.inl m1, fun m3 => m3.elim m2 fun m3 => ?_⟩
              rw [hL, k1] at hnd
              rw [show done ++ x :: (pend2.map both ++ l2) = (done ++ [x]) ++ (pend2.map both ++ l2) by simp, List.map_append] at hnd
              exact (List.nodup_append.1 hnd).2.2 j m1 j (by rw [List.map_append]; exact List.mem_append_left _ ((hm2 j).2 m3)) rfl
            · rintro ⟨m1 | m1, m2⟩
              · exact ⟨m1, fun m3 => m2 (.inl m3)⟩
              · exact absurd (.inr m1) m2
          · rw [List.map_append]
            exact (hsub.trans (List.sublist_append_left _ _)).append (List.Sublist.refl _)
          · rcases List.mem_append.1 hy with hy | hy
            · exact hpb y hy
            · exact k5 y hy
          · have := congrArg List.length k1
            simp only [List.length_append, List.length_map] at this ⊢
            omega
        have htab : ∀ j, j < ops.size → ((listed.setIfInBounds x.1 true).getD j false = true ↔ j ∈ (done ++ [x]).map (·.1) ∧ j ∉ pend.map (·.i)) := fun j hj => by
          rw [hget j hj]
          by_cases e : j = x.1
          · rw [if_pos e]; subst e; exact ⟨fun _ => ⟨by simp, hm⟩, fun _ => rfl⟩
          · rw [if_neg e, hl j hj]; simp [e]
        have hf2 : pend.length + R2.length ≤ fuel := by simp only [List.length_cons] at hf; omega
        have nopend : pend = [] → ∀ (q1 : S) (a' : Act) (w' : World), evDrw P G ops bars R2 (.on q1) = some (.on q) → Good c q1 a' w' → wpAny P .any ops Q1 fuel (listed.setIfInBounds x.1 true) a' w' := fun hp q1 a' w' hev g' => by
          subst hp
          exact next [] q1 q1 q1 a' w' (List.nil_sublist _) hpb htab hf2 (.nil _) (.refl _) hev g'
        unfold wpOp
        rw [hxo]
        simp only
        cases hb : look x.1 bars with
        | none => exact absurd hb (hbar x _ rfl)
        | some fl =>
          cases fl with
          | nil =>
            have hp0 : pend = [] := by
              cases pend with
              | nil => rfl
              | cons y l =>
                obtain ⟨_, fl, e1, e2⟩ := hpair y (by simp)
                rw [hb] at e1; injection e1 with e1; subst e1; cases e2
            have hS0 := hS
            subst hp0
            cases hS0
            have g2 := hE.good g
            obtain ⟨y, A⟩ := g2
            rw [wants_sound A h4]
            cases gd with
            | true =>
              rw [if_pos rfl] at hev ⊢
              obtain ⟨q1, h5, hev⟩ := bnd_eq_some hev
              rw [hb, drwOp_bar] at h5
              cases e : evOp P G tt x.2.dst x.2.op with
              | none => rw [e] at h5; cases h5
              | some s1 =>
                rw [e, onQ_some] at h5; injection h5 with h5; subst h5
                exact .inl (step_op hC hdo e a w ⟨y, A⟩ _ _ fun a' w' g' => nopend rfl s1 a' w' hev g')
            | false =>
              rw [if_neg (by simp)] at hev ⊢
              obtain ⟨q1, h5, hev⟩ := bnd_eq_some hev
              rw [onQ_some] at h5; injection h5 with h5; subst h5
              exact nopend rfl _ _ _ hev ⟨y, A.value (v := .tup []) ⟨[], rfl, rfl⟩ hdo⟩
          | cons f fr =>
            have hgd := hat.2.1 fr f hb
            rw [hgd] at h4
            simp only [S.wants] at h4
            injection h4 with h4; subst h4
            rw [if_pos rfl] at hev
            obtain ⟨q1, h5, hev⟩ := bnd_eq_some hev
            rw [hb, drwOp_float] at h5
            have hz : (x.1, f :: fr) ∈ bars := by
              have : ∀ l : List (Nat × List Nat), look x.1 l = some (f :: fr) → (x.1, f :: fr) ∈ l := by
                intro l; induction l with
                | nil => intro h; cases h
                | cons z l ih =>
                  intro h
                  simp only [look] at h
                  split at h
                  · rename_i e; injection h with h; obtain ⟨z1, z2⟩ := z; simp only at e h; subst e h; simp
                  · exact List.mem_cons_of_mem _ (ih h)
              exact this bars hb
            have hfl0 : flOk ops (appAt ops x.1) (pend.map both) = true := by
              refine flOk_sub ?_ (hO.fl _ hz)
              have : (pend.map both).filter (fun y => (f :: fr).contains y.1) = pend.map both := List.filter_eq_self.2 fun y hy => by
                obtain ⟨z, hz, rfl⟩ := List.mem_map.1 hy
                obtain ⟨_, fl, e1, e2⟩ := hpair z hz
                rw [hb] at e1; injection e1 with e1; subst e1
                simpa [both] using e2
              rw [← this]
              exact (hsub.trans (by rw [hL]; exact List.sublist_append_left _ _)).filter _
            have happ : appAt ops x.1 = isApp x.2.op := by unfold appAt; rw [hxo]
            rw [happ] at hfl0
            by_cases hgen : ∃ (x0 : Bar) (u0 : Unit), flOk ops false (pend.map both) = true ∧ barEff P G tt x.2.dst x.2.op = some x0 ∧ sameVals P ops tt (tt.barred x.2.dst x0) (f :: fr) = some u0 ∧ q1 = .on (tt.barred x.2.dst x0)
            · obtain ⟨x0, u0, hfl, eb, ev, hq⟩ := hgen
              subst hq
              obtain ⟨v1, v2, v3, v4⟩ := hS.vals hfl
              have hE1 : Eqv s { s with box := tt.box, tree := tt.tree } := ⟨fun _ => rfl, by rw [← v1]; exact hE.box, by rw [← v2]; exact hE.tree, rfl⟩
              obtain ⟨t', hS', hE'⟩ := hS.eqv hE1 g.nd
              obtain ⟨v1', v2', v3', v4'⟩ := hS'.vals hfl
              have g2 := hE1.good g
              have henv : ∀ r, look r t'.env = look r tt.env := fun r => by rw [hE'.env, hE.env]
              have hap : ∀ y ∈ pend, ∀ d, y.o.dst = some d → d ∉ x.2.looksAt ops := fun y hy d hyd => (Oper.apart_spec (hpair y hy).1).2.2 d hyd
              have hbe : barEff P G { s with box := tt.box, tree := tt.tree } x.2.dst x.2.op = some x0 := by
                have hfro : tt.fro = s.fro := by rw [hE.fro, v3]
                have : ({ s with box := tt.box, tree := tt.tree } : S) = { tt with env := s.env } := by rw [← hfro]
                rw [this]
                refine barEff_env (fun z hz v hv => ?_) eb
                cases z with
                | tmp r =>
                  have hr : r ∈ x.2.looksAt ops := List.mem_append_left _ (List.mem_filterMap.2 ⟨.tmp r, hz, rfl⟩)
                  have hv : look r tt.env = some v := hv
                  show look r s.env = some v
                  rw [← henv, v4' r fun y hy e => hap y hy r e hr] at hv
                  exact hv
                | const c => exact hv
                | func f => exact hv
                | global g => cases hv
              obtain ⟨y, A⟩ := g2
              rw [wants_sound A (g := true) (by rw [hgd]; rfl), if_pos rfl]
              refine .inl (step_op hC hdo (barEff_ev hbe) a w ⟨y, A⟩ _ _ fun a' w' g' => ?_)
              have hfro : tt.fro = s.fro := by rw [hE.fro, v3]
              obtain ⟨t2, w1, w2⟩ := hS'.bar (dst := x.2.dst) (x0 := x0) (T1 := tt.barred x.2.dst x0) hfl
                (fun y hy d hd => ⟨(Oper.apart_spec (hpair y hy).1).1 d hd, (Oper.apart_spec (hpair y hy).1).2.1 d hd⟩)
                rfl rfl hfro (fun r => by rw [barred_env, barred_env, henv])
                (fun y hy => by
                  obtain ⟨_, fl, e1, e2⟩ := hpair y hy
                  rw [hb] at e1; injection e1 with e1; subst e1
                  obtain ⟨o', d, v, u1, u2, u3, u4, u5⟩ := sameVals_mem ev e2
                  have : ops[y.i]? = some y.o := hO.mem (both y) (by rw [hL]; simp [hpd y hy])
                  rw [this] at u1; injection u1 with u1; subst u1
                  exact ⟨d, v, u2, u3, u4, by rw [henv]; exact u5⟩) g'.nd
              exact next pend _ t2 _ a' w' hsub hpb htab hf2 w1 w2 hev g'
            by_cases hia : isApp x.2.op = true
            · rw [if_pos hia] at h5
              rw [hia] at hfl0
              cases eb : barEff P G tt x.2.dst x.2.op with
              | none => rw [eb] at h5; cases h5
              | some x0 =>
                rw [eb, bnd_some] at h5
                cases hin : x0.inn with
                | cons p0 r0 =>
                  unfold drwApp at h5
                  rw [hin] at h5
                  simp only at h5
                  obtain ⟨sq, h6, h5⟩ : ∃ sq, grd (valsFl ops (f :: fr) = true) (bnd (sameVals P ops tt (tt.barred x.2.dst x0) (f :: fr)) fun _ => some (tt.barred x.2.dst x0)) = some sq ∧ q1 = .on sq := by
                    cases e : grd (valsFl ops (f :: fr) = true) (bnd (sameVals P ops tt (tt.barred x.2.dst x0) (f :: fr)) fun _ => some (tt.barred x.2.dst x0)) with
                    | none => rw [e] at h5; cases h5
                    | some sq => rw [e, onQ_some] at h5; injection h5 with h5; exact ⟨sq, rfl, h5.symm⟩
                  obtain ⟨hvf, h6⟩ := grd_eq_some h6
                  obtain ⟨u0, ev, h6⟩ := bnd_eq_some h6
                  injection h6 with h6; subst h6
                  refine absurd ⟨x0, u0, flOk_vals hfl0 fun z hz => ?_, eb, ev, h5⟩ hgen
                  obtain ⟨y, hy, rfl⟩ := List.mem_map.1 hz
                  obtain ⟨_, fl, e1, e2⟩ := hpair y hy
                  rw [hb] at e1; injection e1 with e1; subst e1
                  have hyo : ops[y.i]? = some y.o := hO.mem (both y) (by rw [hL]; simp [hpd y hy])
                  have := List.all_eq_true.1 hvf y.i e2
                  rw [hyo] at this
                  exact this
                | nil =>
                unfold drwApp at h5
                rw [hin] at h5
                simp only at h5
                obtain ⟨sq, h6, h5⟩ : ∃ sq, grdEq x0.box tt.box (bnd (keepFl ops tt x0.kills (f :: fr)) fun _ => some (tt.barred x.2.dst x0)) = some sq ∧ q1 = .on sq := by
                  cases e : grdEq x0.box tt.box (bnd (keepFl ops tt x0.kills (f :: fr)) fun _ => some (tt.barred x.2.dst x0)) with
                  | none => rw [e] at h5; cases h5
                  | some sq => rw [e, onQ_some] at h5; injection h5 with h5; exact ⟨sq, rfl, h5.symm⟩
                subst h5
                obtain ⟨hbx, h6⟩ := grdEq_some h6
                obtain ⟨u0, ek, h6⟩ := bnd_eq_some h6
                injection h6 with h6; subst h6
                have n1 : Nd t := by
                  have : ∀ {l : List Pd} {s t : S}, Seg P G ops s l t → Nd s → Nd t := fun h n => h.nd n
                  exact this hS g.nd
                have W2 : Wide s tt := hS.wide.trans (hE.wide n1)
                have hap : ∀ y ∈ pend, ∀ d, y.o.dst = some d → d ∉ x.2.looksAt ops := fun y hy d hyd => (Oper.apart_spec (hpair y hy).1).2.2 d hyd
                have hsame : ∀ z ∈ x.2.op.operands.toList, SameAt (· ∈ keysB s) (· ∈ keysT s) tt s z := fun z hz v hv => by
                  cases z with
                  | tmp r =>
                    have hr : r ∈ x.2.looksAt ops := List.mem_append_left _ (List.mem_filterMap.2 ⟨.tmp r, hz, rfl⟩)
                    have hv : look r tt.env = some v := hv
                    have hv2 : look r s.env = some v := by rw [hE.env, hS.env fun y hy e => hap y hy r e hr] at hv; exact hv
                    exact ⟨hv2, g.inS r v hv2⟩
                  | const c => exact ⟨hv, constV_inS hv⟩
                  | func f => exact ⟨hv, by have hv : some (V.fn f []) = some v := hv; injection hv with hv; subst hv; trivial⟩
                  | global g => cases hv
                have hfr : ∀ t, fresh tt t = true → fresh s t = true := fun t h => by
                  unfold fresh at h ⊢
                  simp only [Bool.and_eq_true, Option.isNone_iff_eq_none] at h ⊢
                  refine ⟨?_, by rw [← W2.fro]; exact h.2⟩
                  cases e : look t s.tree with
                  | none => rfl
                  | some z =>
                    have hm : t ∈ keysT s := by unfold keysT; rw [List.map_append, List.mem_append]; exact .inl (List.mem_map.2 ⟨_, look_mem e, rfl⟩)
                    rw [← W2.tree t hm, h.1] at e; cases e
                obtain ⟨t0, R, hd0, hf0, hv0, ht0, hk0, hb1, hb2, hk1, hdown⟩ : ∃ t0 R, x.2.dst = some t0 ∧ fresh tt t0 = true ∧ x0.val = .own t0 ∧ x0.tree = (t0, R) :: dropKs x0.kills tt.tree ∧ (∀ p ∈ x0.kills, ∃ rows, look p s.tree = some rows) ∧ (∀ p ∈ x0.kills, x0.box = killB p tt.box) ∧ (x0.kills = [] → x0.box = tt.box) ∧ (x0.kills = [] ∨ ∃ p, x0.kills = [p]) ∧
                    barEff P G s x.2.dst x.2.op = some ⟨.own t0, (match x0.kills with | [] => s.box | p :: _ => killB p s.box), (t0, R) :: dropKs x0.kills s.tree, x0.kills, []⟩ := by
                  generalize x.2.op = op at hia eb hsame
                  cases op <;> simp only [isApp] at hia <;> try (cases hia; done)
                  rename_i cl
                  split at hia
                  · rename_i b hcl
                    simp only [barEff, barCallee, hcl] at eb ⊢
                    obtain ⟨args, e1, e2⟩ := bnd_eq_some eb
                    obtain ⟨e3, e4⟩ := evs_same (fun z hz => hsame z (by simp only [Op.operands, Call.operands, Array.toList_append]; exact List.mem_append_right _ hz)) e1
                    obtain ⟨t0, R, a1, a2, a3, a4, a5, a6, a7, a8, a9⟩ := barB_down W2.down e4 hfr hin e2
                    exact ⟨t0, R, a1, a2, a3, a4, a5, a6, a7, a8, by rw [e3, bnd_some]; exact a9⟩
                  · cases hia
                have hsb : (match x0.kills with | [] => s.box | p :: _ => killB p s.box) = s.box := by
                  rcases hk1 with hk1 | ⟨p, hk1⟩
                  · rw [hk1]
                  · rw [hk1]
                    have hkb : killB p tt.box = tt.box := by rw [← hb1 p (by rw [hk1]; simp)]; exact hbx
                    have m1 : ∀ l : List (Nat × List V), killB p l = l → ∀ z ∈ l, killC p z.2 = z.2 := by
                      intro l; induction l with
                      | nil => intro _ z hz; cases hz
                      | cons y l ih =>
                        intro h z hz
                        simp only [killB] at h
                        injection h with h1 h2
                        rcases List.mem_cons.1 hz with rfl | hz
                        · exact congrArg Prod.snd h1
                        · exact ih h2 z hz
                    have m2 : ∀ l : List (Nat × List V), (∀ z ∈ l, killC p z.2 = z.2) → killB p l = l := by
                      intro l; induction l with
                      | nil => intro _; rfl
                      | cons y l ih =>
                        intro h
                        simp only [killB]
                        rw [ih fun z hz => h z (List.mem_cons_of_mem _ hz), h y (by simp)]
                    refine m2 _ fun z hz => m1 _ hkb z ?_
                    have hm : z.1 ∈ keysB s := List.mem_map.2 ⟨z, hz, rfl⟩
                    have := W2.box z.1 hm
                    rw [look_of_mem g.nd.1 (show (z.1, z.2) ∈ s.box from hz)] at this
                    exact look_mem this
                rw [hsb] at hdown
                have hks : ∀ p ∈ x0.kills, p ∈ keysT s := fun p hp => by
                  obtain ⟨rows, e⟩ := hk0 p hp
                  unfold keysT; rw [List.map_append, List.mem_append]; exact .inl (List.mem_map.2 ⟨_, look_mem e, rfl⟩)
                have ht0k : t0 ∉ keysT t := fun h => by
                  have h := hE.keysT.2 h
                  unfold keysT at h
                  unfold fresh at hf0
                  simp only [Bool.and_eq_true, Option.isNone_iff_eq_none] at hf0
                  rw [List.map_append, List.mem_append] at h
                  rcases h with h | h
                  · exact look_none hf0.1 h
                  · exact look_none hf0.2 h
                obtain ⟨t2, w1, w2⟩ := hS.past (t0 := t0) (R := R) (ks := x0.kills) hfl0 (fun y hy => ⟨(Oper.apart_spec (hpair y hy).1).1 t0 hd0, fun e => (Oper.apart_spec (hpair y hy).1).2.1 t0 hd0 e⟩) (fun y hy => by
                  obtain ⟨_, fl, e1, e2⟩ := hpair y hy
                  rw [hb] at e1; injection e1 with e1; subst e1
                  obtain ⟨o', d, v, u1, u2, u3, u4, u5⟩ := keepFl_mem ek e2
                  have hyo : ops[y.i]? = some y.o := hO.mem (both y) (by rw [hL]; simp [hpd y hy])
                  rw [hyo] at u1; injection u1 with u1; subst u1
                  refine ⟨⟨d, v, u2, by rw [← hE.env]; exact u3, u4⟩, fun r hr v hv => ?_⟩
                  have hgy : y.o.guard = none := by
                    have hf := List.all_eq_true.2 (fun (z : Nat × Oper) (hz : z ∈ pend.map both) => (show z.2.guard.isNone = true from by
                      have : ∀ l : List (Nat × Oper), flOk ops true l = true → ∀ z ∈ l, z.2.guard.isNone = true := by
                        intro l; induction l with
                        | nil => intro _ z hz; cases hz
                        | cons q l ih =>
                          intro h z hz
                          obtain ⟨_, k2, _, _, _, k6⟩ := flOk_cons h
                          rcases List.mem_cons.1 hz with rfl | hz
                          · rw [k2]; rfl
                          · exact ih k6 z hz
                      exact this _ hfl0 z hz))
                    have := List.all_eq_true.1 hf (both y) (List.mem_map.2 ⟨y, hy, rfl⟩)
                    simpa [both] using this
                  unfold Oper.looksAt at hr
                  rw [hgy] at hr
                  simp only [List.append_nil] at hr
                  obtain ⟨z, hz1, hz2⟩ := List.mem_filterMap.1 hr
                  cases z <;> simp at hz2
                  subst hz2
                  have := List.all_eq_true.1 u5 _ hz1
                  simp only [freeO] at this
                  rw [hE.env, hv] at this
                  exact this) hks ht0k g.nd
                have hfin : tt.barred x.2.dst x0 = tt.grown t0 R x0.kills := by
                  unfold S.grown S.barred
                  rw [hd0, hv0, ht0, hbx, hin]
                have hst : s.barred x.2.dst ⟨.own t0, s.box, (t0, R) :: dropKs x0.kills s.tree, x0.kills, []⟩ = s.grown t0 R x0.kills := by rw [hd0]; rfl
                have dp : ∀ (k : Nat) {l m : List (Nat × List (List D))}, l.Perm m → (drop1 k l).Perm (drop1 k m) := by
                  intro k l m h
                  induction h with
                  | nil => exact .refl _
                  | cons y _ ih =>
                    obtain ⟨j, y⟩ := y
                    simp only [drop1]
                    split
                    · exact ih
                    · exact .cons _ ih
                  | swap y z l =>
                    obtain ⟨j, y⟩ := y; obtain ⟨i, z⟩ := z
                    simp only [drop1]
                    split <;> split <;> first | exact .refl _ | exact .swap _ _ _
                  | trans _ _ a b => exact a.trans b
                have dps : ∀ (ks : List Nat) {l m : List (Nat × List (List D))}, l.Perm m → (dropKs ks l).Perm (dropKs ks m) := by
                  intro ks; induction ks with
                  | nil => intro l m h; exact h
                  | cons k ks ih => intro l m h; exact ih (dp k h)
                have hEg : Eqv (t.grown t0 R x0.kills) (tt.grown t0 R x0.kills) := ⟨fun r => by rw [grown_env, grown_env, hE.env], hE.box, .cons _ (dps _ hE.tree), hE.fro⟩
                have g2 := g
                obtain ⟨y, A⟩ := g2
                rw [wants_sound A (g := true) (by rw [hgd]; rfl), if_pos rfl]
                refine .inl (step_op hC hdo ((barEff_ev hdown).trans (by rw [hst])) a w ⟨y, A⟩ _ _ fun a' w' g' => ?_)
                rw [hfin] at hev
                exact next pend _ t2 _ a' w' hsub hpb htab hf2 w1 (w2.symm.trans hEg) hev g'
            rw [if_neg hia] at h5
            have hia : isApp x.2.op = false := by simpa using hia
            rw [hia] at hfl0
            cases eb : barEff P G tt x.2.dst x.2.op with
            | none => rw [eb] at h5; cases h5
            | some x0 =>
              rw [eb, bnd_some] at h5
              cases ev : sameVals P ops tt (tt.barred x.2.dst x0) (f :: fr) with
              | none => rw [ev] at h5; cases h5
              | some u0 =>
                rw [ev, bnd_some, onQ_some] at h5; injection h5 with h5
                exact absurd ⟨x0, u0, hfl0, eb, ev, h5.symm⟩ hgen
theorem drw_sound (hC : CallOk P G) (hm : P.follows .mixedOrders = true) {b : List Nat × List (Nat × List Nat)} (hO : drawOk ops b = true) (hd : ∀ o ∈ ops.toList, dstOk c.n o.dst = true) {s q : S} {Q1 : Exit → Act → World → Prop} {id : Nat} {a : Act} {w : World}
    (h : evDrw P G ops b.2 (inOrder ops b.1) (.on s) = some (.on q)) (g : Good c s a w) (k : ∀ a w, Good c q a w → Q1 .normal a w) : (Code.region id ops true).wp P Q1 a w := by
  refine wp_region_any hm ?_
  have hD := drawOk_spec hO
  obtain ⟨pend, t, l2, k1, k2, k3, k4, k5⟩ := collect h
  have g' : Good c s a { w with drawn := w.drawn + 1 } := by
    obtain ⟨y, A⟩ := g
    exact ⟨y, A.defers, A.size, A.st.drew, A.env, A.box, A.fro, A.nb, A.nt, A.fix⟩
  have hnone : ∀ i, (Array.replicate ops.size false).getD i false = false := fun i => by
    rw [Array.getD_eq_getD_getElem?, Array.getElem?_replicate]; split <;> rfl
  have hlen := hD.len
  rw [k1, List.length_append, List.length_map] at hlen
  refine drw_main hC hD hd k _ _ a _ (pend.map both) l2 pend s t t (by simp) k1 (fun i hi => ?_) (List.Sublist.refl _) k4 k5 k2 (.refl _) k3 (fun i o hi => by rw [hnone] at hi; cases hi) (by omega) g'
  rw [hnone]
  refine ⟨(fun h => by cases h), fun h => absurd ?_ h.2⟩
  have := h.1
  simpa [both, Function.comp_def] using this
end
end Go.Proofs.YtjhdikdopdcfcaaGreatDoor
namespace Go.Proofs.YtjhdikdopdcfcaaGreatDoor
open Go.RowKit
set_option linter.unusedSimpArgs false
set_option linter.unusedVariables false
def codeOk (gh : Ghost) (n : Nat) : Code → Bool
  | .region id ops d => ops.toList.all (fun o => dstOk n o.dst) && (!d || drawOk ops (gh.bars id))
  | .seq x y => codeOk gh n x && codeOk gh n y
  | .cond _ x y => codeOk gh n x && codeOk gh n y
  | .block _ x => codeOk gh n x
  | .loop x => codeOk gh n x
  | .scope x => codeOk gh n x
  | .skip => true
  | .label _ => true
  | .exit _ => true
  | .ret => true
  | _ => false
def GoodQ (c : Ctx) : Q → Act → World → Prop
  | .on s => Good c s
  | .off => fun _ _ => False
def exOf : Ex → Exit
  | .normal => .normal
  | .exit i => .exit i
  | .ret => .ret
structure MarksOk (gh : Ghost) : Prop where
  head : ∀ (c : Ctx) (id : Nat) (s s' : S), gh.head id s = some s' → ∀ a w, Good c s a w → Good c s' a w
  reg : ∀ (c : Ctx) (id : Nat) (s s' : S), gh.reg id s = some s' → ∀ a w, Good c s a w → Good c s' a w
section
variable {P : Program} {c : Ctx} {G : List (FuncId × Bool × Mean)} {gh : Ghost}
theorem evOps_on {ops : Array Oper} : ∀ (l : List Oper) (s : S), evOps P G ops l (.on s) ≠ some .off := by
  intro l; induction l with
  | nil => intro s h; simp only [evOps] at h; injection h with h; cases h
  | cons o l ih =>
    intro s h
    rw [evOps_cons] at h
    obtain ⟨gd, _, h⟩ := bnd_eq_some h
    split at h
    · obtain ⟨q, h4, h⟩ := bnd_eq_some h
      cases e : evOp P G s o.dst o.op with
      | none => rw [e] at h4; cases h4
      | some s1 => rw [e, onQ_some] at h4; injection h4 with h4; subst h4; exact ih _ h
    · obtain ⟨q, h4, h⟩ := bnd_eq_some h
      rw [onQ_some] at h4; injection h4 with h4; subst h4; exact ih _ h
theorem evDrw_on {ops : Array Oper} {bars : List (Nat × List Nat)} : ∀ (l : List (Nat × Oper)) (s : S), evDrw P G ops bars l (.on s) ≠ some .off := by
  intro l; induction l with
  | nil => intro s h; simp only [evDrw] at h; injection h with h; cases h
  | cons o l ih =>
    intro s h
    rw [evDrw_cons] at h
    obtain ⟨gd, _, h⟩ := bnd_eq_some h
    split at h
    · obtain ⟨q, h4, h⟩ := bnd_eq_some h
      cases e : drwOp P G ops (look o.1 bars) s o.2.dst o.2.op with
      | none => rw [e] at h4; cases h4
      | some s1 => rw [e, onQ_some] at h4; injection h4 with h4; subst h4; exact ih _ h
    · obtain ⟨q, h4, h⟩ := bnd_eq_some h
      rw [onQ_some] at h4; injection h4 with h4; subst h4; exact ih _ h
theorem headV_sound (hM : MarksOk gh) {id : Nat} {q q' : Q} (h : headV gh id q = some q') {a : Act} {w : World} (g : GoodQ c q a w) : GoodQ c q' a w := by
  cases q with
  | off => cases g
  | on s =>
    simp only [headV] at h
    cases e : gh.head id s with
    | none => rw [e] at h; cases h
    | some s1 => rw [e, onQ_some] at h; injection h with h; subst h; exact hM.head c id s s1 e a w g
theorem loop_sound {x : Code} {f : Q → Option (Ex × Q)} {id : Nat} {Q1 : Exit → Act → World → Prop} {r : Ex × Q} (hM : MarksOk gh) (hf : ∀ q, f q = seqV (evC P G gh x q) fun q => bnd (headV gh id q) fun q => some (.normal, q))
    (hx : ∀ (q : Q) (r : Ex × Q) (a : Act) (w : World) (Q2 : Exit → Act → World → Prop), evC P G gh x q = some r → GoodQ c q a w → (∀ a w, GoodQ c r.2 a w → Q2 (exOf r.1) a w) → x.wp P Q2 a w)
    (hk : ∀ a w, GoodQ c r.2 a w → Q1 (exOf r.1) a w) : ∀ (n : Nat) (q : Q) (a : Act) (w : World), rounds f n q = some r → GoodQ c q a w → Code.rounds P x Q1 n a w
  | 0, q, a, w, h, _ => by cases h
  | n + 1, q, a, w, h, g => by
    rw [rounds, hf] at h
    cases e : evC P G gh x q with
    | none => rw [e, seqV_none] at h; cases h
    | some r1 =>
      rw [e] at h
      obtain ⟨ex, q1⟩ := r1
      rw [rounds_succ]
      refine hx q (ex, q1) a w _ e g fun a' w' g' => ?_
      cases ex with
      | normal =>
        rw [seqV_normal] at h
        cases e2 : headV gh id q1 with
        | none => rw [e2, bnd_none] at h; cases h
        | some q2 =>
          rw [e2, bnd_some] at h
          exact loop_sound hM hf hx hk n q2 a' w' h (headV_sound hM e2 g')
      | exit i => rw [seqV_exit] at h; injection h with h; subst h; exact hk a' w' g'
      | ret => rw [seqV_ret] at h; injection h with h; subst h; exact hk a' w' g'
theorem code_sound (hC : CallOk P G) (hM : MarksOk gh) (hm : P.follows .mixedOrders = true) : ∀ (x : Code) (q : Q) (r : Ex × Q) (a : Act) (w : World) (Q1 : Exit → Act → World → Prop), codeOk gh c.n x = true → evC P G gh x q = some r → GoodQ c q a w → (∀ a w, GoodQ c r.2 a w → Q1 (exOf r.1) a w) → x.wp P Q1 a w
  | x, .off, r, a, w, Q1, _, h, g, k => g.elim
  | .skip, .on s, r, a, w, Q1, _, h, g, k => by
    rw [evC_skip] at h; injection h with h; subst h
    exact wp_skip (k a w g)
  | .label l, .on s, r, a, w, Q1, _, h, g, k => by
    rw [evC_label] at h; injection h with h; subst h
    exact wp_label (k a w g)
  | .exit i, .on s, r, a, w, Q1, _, h, g, k => by
    rw [evC_exit] at h; injection h with h; subst h
    exact wp_exit (k a w g)
  | .ret, .on s, r, a, w, Q1, _, h, g, k => by
    rw [evC_ret] at h; injection h with h; subst h
    exact wp_ret (k a w g)
  | .region id ops d, .on s, r, a, w, Q1, ho, h, g, k => by
    unfold codeOk at ho
    rw [Bool.and_eq_true] at ho
    obtain ⟨h1, ho⟩ := ho
    rw [evC_region] at h
    obtain ⟨q1, h2, h⟩ := bnd_eq_some h
    obtain ⟨q2, h3, h⟩ := bnd_eq_some h
    injection h with h; subst h
    cases e : gh.reg id s with
    | none => rw [e] at h2; cases h2
    | some s1 =>
      rw [e, onQ_some] at h2; injection h2 with h2; subst h2
      have h1 := List.all_eq_true.1 h1
      have g1 := hM.reg c id s s1 e a w g
      cases d with
      | false =>
        rw [regV_flat] at h3
        cases hb : (gh.bars id).1 with
        | nil =>
          rw [hb] at h3
          simp only [evText] at h3
          cases q2 with
          | off => exact absurd h3 (evOps_on _ _)
          | on s2 => exact wp_region_list (ops_sound hC h1 h3 g1 k)
        | cons i l =>
          rw [hb] at h3
          simp only [evText] at h3
          cases q2 with
          | off =>
            unfold evLit at h3
            obtain ⟨x, _, h3⟩ := bnd_eq_some h3
            obtain ⟨_, _, h3⟩ := bnd_eq_some h3
            exact absurd (grd_eq_some h3).2 (evOps_on _ _)
          | on s2 => exact wp_region_list (lit_sound hC h1 h3 g1 k)
      | true =>
        unfold regV at h3
        rw [if_pos rfl] at h3
        rw [Bool.not_true, Bool.false_or] at ho
        cases q2 with
        | off => exact absurd h3 (evDrw_on _ _)
        | on s2 => exact drw_sound hC hm ho h1 h3 g1 k
  | .seq x y, .on s, r, a, w, Q1, ho, h, g, k => by
    unfold codeOk at ho
    simp only [Bool.and_eq_true] at ho
    rw [evC_seq] at h
    cases e : evC P G gh x (.on s) with
    | none => rw [e, seqV_none] at h; cases h
    | some r1 =>
      rw [e] at h
      obtain ⟨ex, q1⟩ := r1
      refine wp_seq (code_sound hC hM hm x (.on s) (ex, q1) a w _ ho.1 e g fun a' w' g' => ?_)
      cases ex with
      | normal => rw [seqV_normal] at h; exact code_sound hC hM hm y q1 r a' w' Q1 ho.2 h g' k
      | exit i => rw [seqV_exit] at h; injection h with h; subst h; exact k a' w' g'
      | ret => rw [seqV_ret] at h; injection h with h; subst h; exact k a' w' g'
  | .cond cd x y, .on s, r, a, w, Q1, ho, h, g, k => by
    unfold codeOk at ho
    simp only [Bool.and_eq_true] at ho
    rw [evC_cond] at h
    obtain ⟨v, h1, h⟩ := bnd_eq_some h
    obtain ⟨b, h2, h⟩ := bnd_eq_some h
    rw [boolOf_some h2] at h1
    obtain ⟨y', A⟩ := g
    have hc : a.eval cd = .bool b := A.ev h1
    refine wp_cond hc ?_
    cases b with
    | true => exact code_sound hC hM hm x (.on s) r a w Q1 ho.1 h ⟨y', A⟩ k
    | false => exact code_sound hC hM hm y (.on s) r a w Q1 ho.2 h ⟨y', A⟩ k
  | .block id x, .on s, r, a, w, Q1, ho, h, g, k => by
    unfold codeOk at ho
    rw [evC_block] at h
    obtain ⟨r1, h1, h⟩ := bnd_eq_some h
    obtain ⟨ex, q1⟩ := r1
    refine wp_block (code_sound hC hM hm x (.on s) (ex, q1) a w _ ho h1 g fun a' w' g' => ?_)
    cases ex with
    | normal => simp only [blockV] at h; injection h with h; subst h; exact k a' w' g'
    | ret => simp only [blockV] at h; injection h with h; subst h; exact k a' w' g'
    | exit j =>
      simp only [blockV] at h
      by_cases hj : j = id
      · rw [if_pos hj] at h; injection h with h; subst h
        show Exit.inBlock id Q1 (.exit j) a' w'
        simp only [Exit.inBlock, if_pos hj]
        exact k a' w' g'
      · rw [if_neg hj] at h; injection h with h; subst h
        show Exit.inBlock id Q1 (.exit j) a' w'
        simp only [Exit.inBlock, if_neg hj]
        exact k a' w' g'
  | .scope x, .on s, r, a, w, Q1, ho, h, g, k => by
    unfold codeOk at ho
    rw [evC_scope] at h
    refine wp_scope_straight (code_sound hC hM hm x (.on s) r a w _ ho h g fun a' w' g' => ?_)
    have := k a' w' g'
    cases e : r.1 <;> rw [e] at this <;> exact this
  | .loop x, .on s, r, a, w, Q1, ho, h, g, k => by
    unfold codeOk at ho
    rw [evC_loop] at h
    obtain ⟨q1, h1, h⟩ := bnd_eq_some h
    obtain ⟨n, hn⟩ := loopV_some h
    have g1 : GoodQ c q1 a w := headV_sound hM (id := Code.first x) (q := .on s) (by rw [headV_on]; exact h1) g
    refine wp_loop_rounds n (loop_sound (G := G) (id := Code.first x) hM (fun q => rfl) (fun q r1 a w Q2 e g' k' => code_sound hC hM hm x q r1 a w Q2 ho e g' k') k n q1 a w hn g1)
  | .goto _, .on _, _, _, _, _, ho, _, _, _ => by cases ho
  | .rangeFunc .., .on _, _, _, _, _, ho, _, _, _ => by cases ho
  | .refuse .., .on _, _, _, _, _, ho, _, _, _ => by cases ho
end
end Go.Proofs.YtjhdikdopdcfcaaGreatDoor
