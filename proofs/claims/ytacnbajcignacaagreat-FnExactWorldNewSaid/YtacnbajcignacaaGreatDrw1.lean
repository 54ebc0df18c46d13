/-
  Regions in any order, first part: what is there says the same in states that agree.
-/
import Derived.Test.YtacnbajcignacaaGreatSnd12
namespace Go.Proofs.YtacnbajcignacaaGreat
open Go.RowKit
set_option linter.unusedSimpArgs false
set_option linter.unusedVariables false

def keysB (s : S) : List Nat := s.box.map (·.1)
def keysT (s : S) : List Nat := (s.tree ++ s.fro).map (·.1)
/-- of the names that count, s' says what s says -/
structure Agr (oB oT : Nat → Prop) (s s' : S) : Prop where
  box : ∀ b cs, look b s.box = some cs → oB b → look b s'.box = some cs
  own : ∀ p rows, s.rows (.own p) = some rows → oT p → s'.rows (.own p) = some rows
  fro : s'.fro = s.fro
-- all names in a value count
mutual
def inS (oB oT : Nat → Prop) : V → Prop
  | .own p => oT p
  | .ref b _ => oB b
  | .pe base _ _ _ => inS oB oT base
  | .agg cs => inSs oB oT cs
  | .tup cs => inSs oB oT cs
  | .fn _ cs => inSs oB oT cs
  | _ => True
def inSs (oB oT : Nat → Prop) : List V → Prop
  | [] => True
  | v :: r => inS oB oT v ∧ inSs oB oT r
end
theorem inSs_app {oB oT : Nat → Prop} : ∀ {l m : List V}, inSs oB oT l → inSs oB oT m → inSs oB oT (l ++ m)
  | [], _, _, h => h
  | _ :: _, _, h, k => ⟨h.1, inSs_app h.2 k⟩
mutual
theorem inS_true : ∀ (v : V), inS (fun _ => True) (fun _ => True) v
  | .v _ => trivial
  | .nil => trivial
  | .lst _ _ => trivial
  | .own _ => trivial
  | .fz _ => trivial
  | .ref _ _ => trivial
  | .pe b _ _ _ => inS_true b
  | .agg cs => inSs_true cs
  | .tup cs => inSs_true cs
  | .fn _ cs => inSs_true cs
  | .dead => trivial
theorem inSs_true : ∀ (l : List V), inSs (fun _ => True) (fun _ => True) l
  | [] => trivial
  | v :: l => ⟨inS_true v, inSs_true l⟩
end
theorem constC_inS {oB oT : Nat → Prop} (x : Value) : inS oB oT (constC x) := by
  unfold constC; split <;> trivial
theorem constV_inS {oB oT : Nat → Prop} {x : Value} {v : V} (h : constV x = some v) : inS oB oT v := by
  unfold constV at h
  split at h <;> first | (injection h with h; subst h; trivial) | (cases h; done) | skip
  injection h with h; subst h
  rename_i cs
  have : ∀ l : List Value, inSs oB oT (l.map constC) := by
    intro l; induction l with
    | nil => trivial
    | cons x l ih => exact ⟨constC_inS x, ih⟩
  exact this cs.toList
section
variable {c : Ctx} {s : S} {y : Lay}
mutual
theorem RV.inS : ∀ {v : V} {u : Value}, RV (relOf c s y) v u → inS (· ∈ keysB s) (· ∈ keysT s) v
  | .v _, _, _ => trivial
  | .nil, _, _ => trivial
  | .lst _ _, _, _ => trivial
  | .own p, _, h => h.1
  | .fz _, _, _ => trivial
  | .ref b _, _, h => h.1
  | .pe b _ _ _, _, h => by obtain ⟨ub, h1, _⟩ := h; exact RV.inS (v := b) h1
  | .agg _, _, h => by obtain ⟨us, _, h2⟩ := h; exact RVs.inSs h2
  | .tup _, _, h => by obtain ⟨us, _, h2⟩ := h; exact RVs.inSs h2
  | .fn _ _, _, h => by obtain ⟨us, _, h2⟩ := h; exact RVs.inSs h2
  | .dead, _, _ => trivial
theorem RVs.inSs : ∀ {vs : List V} {us : List Value}, RVs (relOf c s y) vs us → inSs (· ∈ keysB s) (· ∈ keysT s) vs
  | [], _, _ => trivial
  | _ :: _, _, h => by obtain ⟨u, q, _, h2, h3⟩ := h; exact ⟨RV.inS h2, RVs.inSs h3⟩
end
end
theorem bnd_mono {α β : Type} {x x' : Option α} {f f' : α → Option β} {b : β} (hx : ∀ a, x = some a → x' = some a) (hf : ∀ a, x = some a → f a = some b → f' a = some b) (h : bnd x f = some b) : bnd x' f' = some b := by
  obtain ⟨a, h1, h2⟩ := bnd_eq_some h
  rw [hx a h1]; exact hf a h1 h2
theorem grd_mono {α : Type} {c : Prop} [Decidable c] {x x' : Option α} {b : α} (hx : x = some b → x' = some b) (h : grd c x = some b) : grd c x' = some b := by
  obtain ⟨h1, h2⟩ := grd_eq_some h
  rw [grd_pos _ h1]; exact hx h2
section
variable {P : Program} {oB oT : Nat → Prop} {s s' : S}
theorem Agr.rows (A : Agr oB oT s s') {x : V} {r : List (List D)} (i : inS oB oT x) (h : s.rows x = some r) : s'.rows x = some r := by
  cases x <;> first | exact h | exact A.own _ _ h i
theorem Agr.under (A : Agr oB oT s s') {base : V} {d : D} : s'.under base d = s.under base d := by
  cases d with
  | a x => rfl
  | l rows => cases base <;> first | rfl | simp only [S.under, A.fro]
theorem Agr.load (A : Agr oB oT s s') {t : TypeId} {p v : V} (i : inS oB oT p) (h : s.load P t p = some v) : s'.load P t p = some v := by
  cases p <;> simp only [S.load] at h ⊢ <;> try (cases h; done)
  case ref b off => exact bnd_mono (fun _ h => h) (fun g _ h => bnd_mono (fun cs h => A.box b cs h i) (fun _ _ h => h) h) h
  case pe base k j off =>
    refine bnd_mono (fun _ h => h) (fun g _ h => bnd_mono (fun r h => A.rows (x := base) i h) (fun r _ h => bnd_mono (fun _ h => h) (fun r _ h => grd_mono (fun h => ?_) h) h) h) h
    have e : s'.under base = s.under base := funext fun d => A.under
    unfold S.loadRow at h ⊢
    rw [e]; exact h
theorem Agr.slice (A : Agr oB oT s s') {x : V} {lo hi : Option V} {d : TypeDesc} : sliceV P s' x lo hi d = sliceV P s x lo hi d := by
  unfold sliceV
  split
  · rfl
  · congr 1
    unfold sliceL
    cases x <;> first | rfl | simp only [A.fro]
  · rfl
theorem Agr.conv (A : Agr oB oT s s') {x v : V} {d0 d : TypeDesc} (i : inS oB oT x) (h : convD P s x d0 d = some v) : convD P s' x d0 d = some v := by
  have bytes : ∀ x, inS oB oT x → bytesV P s x d0 = some v → bytesV P s' x d0 = some v := fun x i h => by
    unfold bytesV at h ⊢
    exact bnd_mono (fun _ h => h) (fun _ _ h => bnd_mono (fun _ h => h) (fun _ _ h => grd_mono (fun h => bnd_mono (fun r h => A.rows i h) (fun _ _ h => h) h) h) h) h
  unfold convD at h ⊢
  split at h
  · exact h
  · cases x with
    | v y => cases y <;> first | exact h | cases h
    | _ => exact bytes _ i h
  · cases h
theorem Agr.indexAddr (A : Agr oB oT s s') {x : V} {i : Int} {e : TypeId} {n : Option Nat} {v : V} (hi : inS oB oT x) (h : indexAddrV P s x i e n = some v) : indexAddrV P s' x i e n = some v := by
  cases n with
  | some n => exact h
  | none => exact bnd_mono (fun _ h => A.rows hi h) (fun _ _ h => h) h
/-- the operands have the same values, and all names in these are there -/
def SameAt (oB oT : Nat → Prop) (s s' : S) (x : Operand) : Prop := ∀ v, s.ev x = some v → s'.ev x = some v ∧ inS oB oT v
theorem evs_same : ∀ {l : List Operand} {vs : List V}, (∀ x ∈ l, SameAt oB oT s s' x) → mapSome s.ev l = some vs → mapSome s'.ev l = some vs ∧ inSs oB oT vs
  | [], vs, _, h => by simp only [mapSome] at h ⊢; injection h with h; subst h; exact ⟨rfl, trivial⟩
  | x :: l, vs, E, h => by
    simp only [mapSome] at h ⊢
    obtain ⟨v, h1, h⟩ := bnd_eq_some h
    obtain ⟨r, h2, h⟩ := bnd_eq_some h
    injection h with h; subst h
    obtain ⟨k1, k2⟩ := E x List.mem_cons_self v h1
    obtain ⟨k3, k4⟩ := evs_same (fun z hz => E z (List.mem_cons_of_mem _ hz)) h2
    rw [k1, k3]; exact ⟨rfl, k2, k4⟩
theorem pairs_same : ∀ {l : List (Nat × Operand)} {vs : List (Nat × V)}, (∀ x ∈ l, SameAt oB oT s s' x.2) → mapSome (evPair s) l = some vs → mapSome (evPair s') l = some vs
  | [], vs, _, h => h
  | x :: l, vs, E, h => by
    simp only [mapSome] at h ⊢
    refine bnd_mono (fun a h => bnd_mono (fun v h => (E x List.mem_cons_self v h).1) (fun _ _ h => h) h) (fun a _ h => bnd_mono (fun b h => pairs_same (fun z hz => E z (List.mem_cons_of_mem _ hz)) h) (fun _ _ h => h) h) h
theorem opt_same {x : Option Operand} {v : Option V} (E : ∀ y, x = some y → SameAt oB oT s s' y) (h : evOptOp s x = some v) : evOptOp s' x = some v := by
  cases x with
  | none => exact h
  | some x => exact bnd_mono (fun v h => (E x rfl v h).1) (fun _ _ h => h) h
theorem valOp_ev {G : List (FuncId × Bool × Mean)} {d : Option Nat} {op : Op} {v : V} (h : valOp P s op = some v) : evOp P G s d op = some (s.put d v) := by
  have key : ∀ (x : Option V), x = some v → bnd x (fun v => some (s.put d v)) = some (s.put d v) := fun x e => by rw [e]; rfl
  cases op <;> simp only [valOp] at h <;> try (cases h; done)
  case slice t x lo hi mx =>
    cases mx with
    | some m => cases h
    | none => simp only [evOp]; rw [← key _ h]; simp only [valOp, bnd_assoc]
  case build t ps =>
    simp only [evOp]; rw [← key _ h]; simp only [bnd_assoc]
    congr 1; funext d'; congr 1; funext fs
    unfold grd
    split
    · simp only [bnd_assoc]; rfl
    · rfl
  all_goals (simp only [evOp]; rw [← key _ h]; try simp only [bnd_assoc])
/-- the same value -/
theorem valOp_agr (A : Agr oB oT s s') {op : Op} {v : V} (E : ∀ x ∈ op.operands.toList, SameAt oB oT s s' x) (h : valOp P s op = some v) : valOp P s' op = some v := by
  cases op <;> try (simp only [valOp] at h; done)
  case move x => exact (E x (by simp [Op.operands]) v h).1
  case assign x => exact (E x (by simp [Op.operands]) v h).1
  case pick c x y =>
    refine bnd_mono (fun v h => (E c (by simp [Op.operands]) v h).1) (fun _ _ h => bnd_mono (fun _ h => h) (fun b _ h => ?_) h) h
    cases b
    · exact (E y (by simp [Op.operands]) v h).1
    · exact (E x (by simp [Op.operands]) v h).1
  case build t ps => exact bnd_mono (fun _ h => h) (fun _ _ h => bnd_mono (fun _ h => h) (fun _ _ h => grd_mono (fun h => bnd_mono (fun _ h => h) (fun _ _ h => bnd_mono (fun _ h => pairs_same (fun x hx => E x.2 (by simp only [Op.operands]; exact List.mem_map.2 ⟨x, hx, rfl⟩)) h) (fun _ _ h => h) h) h) h) h) h
  case load t p => exact bnd_mono (fun v h => (E p (by simp [Op.operands]) v h).1) (fun v h1 h => A.load (E p (by simp [Op.operands]) v h1).2 h) h
  case nilCheck x => exact bnd_mono (fun v h => (E x (by simp [Op.operands]) v h).1) (fun _ _ h => h) h
  case binOp op t x y t' => exact bnd_mono (fun v h => (E x (by simp [Op.operands]) v h).1) (fun _ _ h => bnd_mono (fun v h => (E y (by simp [Op.operands]) v h).1) (fun _ _ h => h) h) h
  case unOp op t x => exact bnd_mono (fun v h => (E x (by simp [Op.operands]) v h).1) (fun _ _ h => h) h
  case convert t0 t x => exact bnd_mono (fun v h => (E x (by simp [Op.operands]) v h).1) (fun v h1 h => bnd_mono (fun _ h => h) (fun _ _ h => bnd_mono (fun _ h => h) (fun _ _ h => A.conv (E x (by simp [Op.operands]) v h1).2 h) h) h) h
  case slice t x lo hi mx =>
    cases mx with
    | some m => cases h
    | none => exact bnd_mono (fun v h => (E x (by simp [Op.operands]) v h).1) (fun _ _ h => bnd_mono (fun _ h => opt_same (fun y hy => E y (by subst hy; simp [Op.operands])) h) (fun _ _ h => bnd_mono (fun _ h => opt_same (fun y hy => E y (by subst hy; simp [Op.operands])) h) (fun _ _ h => bnd_mono (fun _ h => h) (fun _ _ h => by rw [A.slice]; exact h) h) h) h) h
  case fieldAddr t x f => exact bnd_mono (fun v h => (E x (by simp [Op.operands]) v h).1) (fun _ _ h => h) h
  case field t x f => exact bnd_mono (fun v h => (E x (by simp [Op.operands]) v h).1) (fun _ _ h => h) h
  case indexAddr t x i => exact bnd_mono (fun v h => (E x (by simp [Op.operands]) v h).1) (fun v h1 h => bnd_mono (fun v h => (E i (by simp [Op.operands]) v h).1) (fun _ _ h => bnd_mono (fun _ h => h) (fun _ _ h => bnd_mono (fun _ h => h) (fun _ _ h => A.indexAddr (E x (by simp [Op.operands]) v h1).2 h) h) h) h) h
  case index t x i => exact bnd_mono (fun v h => (E x (by simp [Op.operands]) v h).1) (fun _ _ h => bnd_mono (fun v h => (E i (by simp [Op.operands]) v h).1) (fun _ _ h => h) h) h
  case extract x i => exact bnd_mono (fun v h => (E x (by simp [Op.operands]) v h).1) (fun _ _ h => h) h
  all_goals (first | (simp only [valOp] at h; cases h; done) | skip)
end
section
variable {P : Program} {oB oT : Nat → Prop} {s s' : S}
mutual
theorem lendV_agr (A : Agr oB oT s s') : ∀ {c : Lend} {v : V} {r : V × Lend}, inS oB oT v → lendV s c v = some r → lendV s' c v = some r
  | c, .v _, r, _, h => h
  | c, .ref _ _, r, _, h => h
  | c, .agg cs, r, i, h => by simp only [lendV] at h ⊢; exact bnd_mono (fun _ h => lendL_agr A i h) (fun _ _ h => h) h
  | c, .fn f cs, r, i, h => by simp only [lendV] at h ⊢; exact bnd_mono (fun _ h => lendL_agr A i h) (fun _ _ h => h) h
  | c, .nil, r, _, h => h
  | c, .lst _ _, r, _, h => h
  | c, .fz _, r, _, h => h
  | c, .own p, r, i, h => by simp only [lendV] at h ⊢; exact bnd_mono (fun _ h => A.rows (x := .own p) i h) (fun _ _ h => h) h
  | c, .pe _ _ _ _, r, _, h => h
  | c, .tup _, r, _, h => h
  | c, .dead, r, _, h => h
theorem lendL_agr (A : Agr oB oT s s') : ∀ {c : Lend} {vs : List V} {r : List V × Lend}, inSs oB oT vs → lendL s c vs = some r → lendL s' c vs = some r
  | c, [], r, _, h => h
  | c, v :: vs, r, i, h => by
    simp only [lendL] at h ⊢
    exact bnd_mono (fun _ h => lendV_agr A i.1 h) (fun _ _ h => bnd_mono (fun _ h => lendL_agr A i.2 h) (fun _ _ h => h) h) h
end
theorem effCall_agr (A : Agr oB oT s s') {M : Mean} {d : Nat} {args : List V} {e : Eff} (i : inSs oB oT args) (h : effCall M s d args = some e) : effCall M s' d args = some e :=
  bnd_mono (fun _ h => lendL_agr A i h) (fun _ _ h => h) h
theorem addTrees_eff {src : List V} {box : List Nat} {t : Nat} : ∀ {rt : List (Nat × List (List D))} {s : S}, freshAll s (effTrees t rt) = true → addTrees ⟨src, box, []⟩ t rt s = some { s with tree := (effTrees t rt).reverse ++ s.tree }
  | [], s, _ => rfl
  | (q, rows) :: r, s, h => by
    simp only [effTrees, freshAll, Bool.and_eq_true, decide_eq_true_eq] at h
    simp only [addTrees]
    have hn : nameOf ⟨src, box, []⟩ t q = 1000 * (t + 1) + q := rfl
    rw [if_neg (by simp), hn, grd_pos _ h.1, addTrees_eff h.2]
    simp only [effTrees, List.reverse_cons, List.append_assoc]
    rfl
theorem effCall_ev {M : Mean} {s : S} {d : Nat} {args : List V} {e : Eff} (h : effCall M s d args = some e) (hf : freshAll s e.tree = true) : callV false M s (some d) args = some (s.app (some d) e) := by
  unfold effCall at h
  obtain ⟨x, h1, h⟩ := bnd_eq_some h
  obtain ⟨h2, h⟩ := grd_eq_some h
  obtain ⟨r, h3, h⟩ := bnd_eq_some h
  obtain ⟨h4, h⟩ := grd_eq_some h
  obtain ⟨v, h5, h⟩ := bnd_eq_some h
  injection h with h; subst h
  obtain ⟨vs, src, box, tree⟩ := x
  obtain ⟨rv, rb, rt⟩ := r
  simp only [Bool.and_eq_true, List.isEmpty_iff] at h2 h4
  obtain ⟨rfl, rfl⟩ := h2
  subst h4
  unfold callV lendA
  rw [if_neg (by simp), h1, bnd_some]
  simp only [lendBoxes, bnd_some, lentTrees]
  rw [grd_pos _ (by rfl), h3, bnd_some]
  unfold S.back
  simp only [backTrees, backBoxes, bnd_some, Option.getD_some]
  rw [addTrees_eff hf, bnd_some, h5, bnd_some]
  rfl
end
end Go.Proofs.YtacnbajcignacaaGreat
