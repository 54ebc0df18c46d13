/- Part 6 of a proof in several texts (an abstract evaluator, what the functions compute). -/
import Derived.Test.YtnmneoekpikpkaaGreatDoorPkFnViChange5
import Derived.Orders
import Derived.Scope
namespace Go.Proofs.YtnmneoekpikpkaaGreatDoor
open Go.RowKit
set_option linter.unusedSimpArgs false
set_option linter.unusedVariables false
def edgesOf (o : Oper) : List Nat := (o.after.toList.filter (Region.binds .any)).map (·.on)
inductive Reach (l : List Oper) : Nat → Nat → Prop
  | one {i e : Nat} {o : Oper} : l[i]? = some o → e ∈ edgesOf o → Reach l i e
  | tail {i e j : Nat} {o : Oper} : l[i]? = some o → e ∈ edgesOf o → Reach l e j → Reach l i j
def maskOf (C : List (Nat × Nat)) (e : Nat) : Nat := (look e C).getD 0
def closeM (C : List (Nat × Nat)) : List Nat → Nat
  | [] => 0
  | e :: r => ((1 <<< e) ||| maskOf C e) ||| closeM C r
theorem closeM_spec {C : List (Nat × Nat)} {j : Nat} : ∀ {l : List Nat}, (closeM C l).testBit j = true → ∃ e ∈ l, j = e ∨ (maskOf C e).testBit j = true
  | [], h => by simp [closeM] at h
  | e :: r, h => by
    unfold closeM at h
    rw [Nat.testBit_or, Nat.testBit_or, Bool.or_eq_true, Bool.or_eq_true] at h
    rcases h with (h | h) | h
    · refine ⟨e, by simp, .inl ?_⟩
      rw [Nat.one_shiftLeft, Nat.testBit_two_pow] at h
      simpa using (of_decide_eq_true h).symm
    · exact ⟨e, by simp, .inr h⟩
    · obtain ⟨e', h1, h2⟩ := closeM_spec h
      exact ⟨e', by simp [h1], h2⟩
def isVal : Op → Bool
  | .alloc _ => false
  | .box _ _ => false
  | .buildSlice _ _ _ => false
  | .call _ => false
  | _ => true
def floatOk (bars : List (Nat × List Nat)) (x y : Nat × Oper) : Bool := match look x.1 bars with
  | none => true
  | some fl => fl.contains y.1
def pairOk (ops : Array Oper) (bars : List (Nat × List Nat)) (M : Nat) (x y : Nat × Oper) : Bool :=
  M.testBit y.1 || (x.2.apart ops y.2 && ((look y.1 bars).isNone && floatOk bars x y))
def plainGuard (bars : List (Nat × List Nat)) (x : Nat × Oper) : Bool := match look x.1 bars with
  | some (_ :: _) => x.2.guard.isNone
  | _ => true
def goOk (ops : Array Oper) (bars : List (Nat × List Nat)) : List (Nat × Oper) → List (Nat × Nat) → List (Nat × Oper) → Bool
  | _, _, [] => true
  | done, C, x :: r => (edgesOf x.2).all (fun e => done.any fun y => y.1 == e) && (plainGuard bars x && (done.all (fun y => !(y.1 == x.1) && pairOk ops bars (closeM C (edgesOf x.2)) x y) && goOk ops bars (x :: done) ((x.1, closeM C (edgesOf x.2)) :: C) r))
def away (ops : Array Oper) (x y : Oper) : Bool := match y.dst with
  | some d => !(x.looksAt ops).contains d
  | none => true
def flOk (ops : Array Oper) (ap : Bool) : List (Nat × Oper) → Bool
  | [] => true
  | x :: r => ((ap || isVal x.2.op) && x.2.guard.isNone && x.2.dst.isSome && away ops x.2 x.2 && r.all fun y => away ops x.2 y.2 && !(x.2.dst == y.2.dst)) && flOk ops ap r
def appAt (ops : Array Oper) (i : Nat) : Bool := match ops[i]? with
  | some o => isApp o.op
  | none => false
def drawOk (ops : Array Oper) (b : List Nat × List (Nat × List Nat)) : Bool :=
  goOk ops b.2 [] [] (inOrder ops b.1) && (decide ((inOrder ops b.1).length = ops.size) && ((List.range ops.size).all (fun i => (inOrder ops b.1).any fun x => x.1 == i) && b.2.all fun z => flOk ops (appAt ops z.1) ((inOrder ops b.1).filter fun y => z.2.contains y.1)))
def Pair (ops : Array Oper) (bars : List (Nat × List Nat)) (x y : Nat × Oper) : Prop :=
  Reach ops.toList x.1 y.1 ∨ (x.2.apart ops y.2 = true ∧ look y.1 bars = none ∧ (look x.1 bars = none ∨ ∃ fl, look x.1 bars = some fl ∧ y.1 ∈ fl))
structure DrawOk (ops : Array Oper) (bars : List (Nat × List Nat)) (L : List (Nat × Oper)) : Prop where
  mem : ∀ x ∈ L, ops[x.1]? = some x.2
  all : ∀ i, i < ops.size → i ∈ L.map (·.1)
  len : L.length = ops.size
  at_ : ∀ A x B, L = A ++ x :: B → (∀ e ∈ edgesOf x.2, e ∈ A.map (·.1)) ∧ (∀ fl f, look x.1 bars = some (f :: fl) → x.2.guard = none) ∧ ∀ y ∈ A, y.1 ≠ x.1 ∧ Pair ops bars x y
  fl : ∀ z ∈ bars, flOk ops (appAt ops z.1) (L.filter fun y => z.2.contains y.1) = true
theorem goOk_spec {ops : Array Oper} {bars : List (Nat × List Nat)} : ∀ {r : List (Nat × Oper)} {done : List (Nat × Oper)} {C : List (Nat × Nat)}, goOk ops bars done C r = true → (∀ x ∈ r, ops[x.1]? = some x.2) → (∀ i j, (maskOf C i).testBit j = true → Reach ops.toList i j) →
    ∀ A x B, r = A ++ x :: B → (∀ e ∈ edgesOf x.2, e ∈ A.map (·.1) ∨ e ∈ done.map (·.1)) ∧ (∀ fl f, look x.1 bars = some (f :: fl) → x.2.guard = none) ∧ ∀ y, y ∈ A ∨ y ∈ done → y.1 ≠ x.1 ∧ Pair ops bars x y
  | [], done, C, _, _, _, A, x, B, e => by simp at e
  | z :: r, done, C, h, hm, hC, A, x, B, e => by
    unfold goOk at h
    simp only [Bool.and_eq_true] at h
    obtain ⟨h1, h2, h3, h4⟩ := h
    have hz : ops.toList[z.1]? = some z.2 := by rw [Array.getElem?_toList]; exact hm z (by simp)
    have hR : ∀ j, (closeM C (edgesOf z.2)).testBit j = true → Reach ops.toList z.1 j := fun j hj => by
      obtain ⟨e', k1, k2 | k2⟩ := closeM_spec hj
      · subst k2; exact .one hz k1
      · exact .tail hz k1 (hC _ _ k2)
    cases A with
    | nil =>
      simp only [List.nil_append, List.cons.injEq] at e
      obtain ⟨rfl, rfl⟩ := e
      refine ⟨fun e he => .inr ?_, fun fl f hf => ?_, fun y hy => ?_⟩
      · have := List.all_eq_true.1 h1 e he
        obtain ⟨y, k1, k2⟩ := List.any_eq_true.1 this
        exact List.mem_map.2 ⟨y, k1, by simpa using k2⟩
      · unfold plainGuard at h2
        rw [hf] at h2
        simpa using h2
      · rcases hy with hy | hy
        · cases hy
        · have := List.all_eq_true.1 h3 y hy
          rw [Bool.and_eq_true] at this
          refine ⟨by simpa using this.1, ?_⟩
          have h5 := this.2
          unfold pairOk at h5
          rw [Bool.or_eq_true, Bool.and_eq_true, Bool.and_eq_true] at h5
          rcases h5 with h5 | ⟨h5, h6, h7⟩
          · exact .inl (hR _ h5)
          · refine .inr ⟨h5, by simpa using h6, ?_⟩
            unfold floatOk at h7
            cases e : look z.1 bars with
            | none => exact .inl rfl
            | some fl => rw [e] at h7; exact .inr ⟨fl, rfl, by simpa using h7⟩
    | cons a A =>
      simp only [List.cons_append, List.cons.injEq] at e
      obtain ⟨rfl, e⟩ := e
      obtain ⟨k1, k2, k3⟩ := goOk_spec h4 (fun x hx => hm x (by simp [hx])) (fun i j hj => by
        unfold maskOf at hj
        simp only [look] at hj
        split at hj
        · rename_i e; subst e; exact hR j hj
        · exact hC i j hj) A x B e
      refine ⟨fun e he => ?_, k2, fun y hy => k3 y ?_⟩
      · rcases k1 e he with h | h
        · exact .inl (by simp [h])
        · rw [List.map_cons, List.mem_cons] at h
          rcases h with h | h
          · exact .inl (by simp [h])
          · exact .inr h
      · rcases hy with hy | hy
        · rcases List.mem_cons.1 hy with hy | hy
          · subst hy; exact .inr (by simp)
          · exact .inl hy
        · exact .inr (by simp [hy])
theorem mem_inText {x : Nat × Oper} : ∀ {l : List Oper} {k : Nat}, x ∈ inText k l → ∃ j, l[j]? = some x.2 ∧ x.1 = k + j
  | [], k, h => by cases h
  | o :: l, k, h => by
    rcases List.mem_cons.1 h with h | h
    · subst h; exact ⟨0, rfl, rfl⟩
    · obtain ⟨j, h1, h2⟩ := mem_inText h
      exact ⟨j + 1, by simpa using h1, by omega⟩
theorem mem_picked {ops : Array Oper} {x : Nat × Oper} : ∀ {l : List Nat}, x ∈ picked ops l → ops[x.1]? = some x.2
  | [], h => by cases h
  | i :: l, h => by
    unfold picked at h
    cases e : ops[i]? with
    | none => rw [e] at h; exact mem_picked h
    | some o =>
      rw [e] at h
      rcases List.mem_cons.1 h with h | h
      · subst h; exact e
      · exact mem_picked h
theorem drawOk_spec {ops : Array Oper} {b : List Nat × List (Nat × List Nat)} (h : drawOk ops b = true) : DrawOk ops b.2 (inOrder ops b.1) := by
  unfold drawOk at h
  simp only [Bool.and_eq_true, decide_eq_true_eq] at h
  obtain ⟨h1, h2, h3, h4⟩ := h
  have hm : ∀ x ∈ inOrder ops b.1, ops[x.1]? = some x.2 := fun x hx => by
    unfold inOrder at hx
    split at hx
    · obtain ⟨j, k1, k2⟩ := mem_inText hx
      rw [k2, Nat.zero_add, ← Array.getElem?_toList]; exact k1
    · exact mem_picked hx
  refine ⟨hm, fun i hi => ?_, h2, fun A x B e => ?_, fun z hz => List.all_eq_true.1 h4 z hz⟩
  · obtain ⟨x, k1, k2⟩ := List.any_eq_true.1 (List.all_eq_true.1 h3 i (List.mem_range.2 hi))
    exact List.mem_map.2 ⟨x, k1, by simpa using k2⟩
  · obtain ⟨k1, k2, k3⟩ := goOk_spec h1 hm (fun i j hj => by simp [maskOf, look] at hj) A x B e
    exact ⟨fun e he => (k1 e he).elim id (fun h => by cases h), k2, fun y hy => k3 y (.inl hy)⟩
theorem flOk_sub {ops : Array Oper} {ap : Bool} {l m : List (Nat × Oper)} (h : l.Sublist m) : flOk ops ap m = true → flOk ops ap l = true := by
  induction h with
  | slnil => exact id
  | cons x _ ih => intro k; unfold flOk at k; rw [Bool.and_eq_true] at k; exact ih k.2
  | cons_cons x s ih =>
    intro k
    unfold flOk at k ⊢
    simp only [Bool.and_eq_true] at k ⊢
    obtain ⟨⟨⟨⟨⟨k1, k2⟩, k3⟩, k4⟩, k5⟩, k6⟩ := k
    exact ⟨⟨⟨⟨⟨k1, k2⟩, k3⟩, k4⟩, List.all_eq_true.2 fun y hy => List.all_eq_true.1 k5 y (s.subset hy)⟩, ih k6⟩
section
variable {P : Program} {G : List (FuncId × Bool × Mean)} {ops : Array Oper} {bars : List (Nat × List Nat)} {c : Ctx}
def both (x : Pd) : Nat × Oper := (x.i, x.o)
theorem app_tup (s : S) (d : Option Nat) : s.put d (.tup []) = s.app d ⟨.tup [], [], []⟩ := by cases d <;> rfl
theorem Fresh.none (v : V) (s : S) : Fresh ⟨v, [], []⟩ s := ⟨List.nodup_nil, (fun p h => by cases h), List.nodup_nil, (fun p h => by cases h)⟩
theorem collect : ∀ {l : List (Nat × Oper)} {s q : S}, evDrw P G ops bars l (.on s) = some (.on q) →
    ∃ (pend : List Pd) (t : S) (l2 : List (Nat × Oper)), l = pend.map both ++ l2 ∧ Seg P G ops s pend t ∧ evDrw P G ops bars l2 (.on t) = some (.on q) ∧ (∀ x r, l2 = x :: r → look x.1 bars ≠ none) ∧ ∀ x ∈ pend, look x.i bars = none
  | [], s, q, h => ⟨[], s, [], rfl, .nil s, h, (fun x r e => by cases e), fun x hx => by cases hx⟩
  | o :: l, s, q, h => by
    cases hb : look o.1 bars with
    | some fl => exact ⟨[], s, o :: l, rfl, .nil s, h, (fun x r e => by injection e with e _; subst e; rw [hb]; simp), fun x hx => by cases hx⟩
    | none =>
      rw [evDrw_cons] at h
      obtain ⟨g, h1, h⟩ := bnd_eq_some h
      have key : ∀ (e : Eff), PdOk P G ops s ⟨o.1, o.2, g, e⟩ → evDrw P G ops bars l (.on (s.app o.2.dst e)) = some (.on q) → ∃ (pend : List Pd) (t : S) (l2 : List (Nat × Oper)), o :: l = pend.map both ++ l2 ∧ Seg P G ops s pend t ∧ evDrw P G ops bars l2 (.on t) = some (.on q) ∧ (∀ x r, l2 = x :: r → look x.1 bars ≠ none) ∧ ∀ x ∈ pend, look x.i bars = none := fun e he h => by
        obtain ⟨pend, t, l2, k1, k2, k3, k4, k5⟩ := collect h
        refine ⟨⟨o.1, o.2, g, e⟩ :: pend, t, l2, by rw [k1]; rfl, .cons he k2, k3, k4, fun x hx => ?_⟩
        rcases List.mem_cons.1 hx with hx | hx
        · subst hx; exact hb
        · exact k5 x hx
      cases g with
      | true =>
        rw [if_pos rfl] at h
        obtain ⟨q1, h2, h⟩ := bnd_eq_some h
        rw [hb, drwOp_eff] at h2
        unfold effAt at h2
        cases hd : o.2.dst with
        | none => rw [hd] at h2; cases h2
        | some d =>
          rw [hd, bnd_some] at h2
          cases he : effOp P G s d o.2.op with
          | none => rw [he] at h2; cases h2
          | some e =>
            rw [he, bnd_some] at h2
            by_cases hf : (freshAll s e.tree && freshBox s e.box) = true
            · rw [grd_pos _ hf, onQ_some] at h2; injection h2 with h2; subst h2
              exact key e ⟨h1, fun _ => ⟨d, hd, he⟩, (fun h => by cases h), fresh_iff.1 hf⟩ (by rw [hd]; exact h)
            · unfold grd at h2; rw [if_neg hf] at h2; cases h2
      | false =>
        rw [if_neg (by simp)] at h
        obtain ⟨q1, h2, h⟩ := bnd_eq_some h
        rw [onQ_some] at h2; injection h2 with h2; subst h2
        exact key ⟨.tup [], [], []⟩ ⟨h1, (fun h => by cases h), fun _ => rfl, .none _ _⟩ (by rw [← app_tup]; exact h)
theorem pd_step (hC : CallOk P G) {s : S} {x : Pd} (h : PdOk P G ops s x) (hi : ops[x.i]? = some x.o) (hd : dstOk c.n x.o.dst = true) {a : Act} {w : World} (g : Good c s a w) {Q1 : Exit → Act → World → Prop} {K : Act → World → Prop} (k : ∀ a w, Good c (s.app x.o.dst x.e) a w → K a w) : wpOp P ops Q1 x.i K a w := by
  unfold wpOp
  rw [hi]
  simp only
  obtain ⟨y, A⟩ := g
  rw [wants_sound A h.wants]
  cases hg : x.g with
  | true =>
    rw [if_pos rfl]
    obtain ⟨d, h1, h2⟩ := h.yes hg
    have hf := fresh_iff.2 h.new
    rw [Bool.and_eq_true] at hf
    rcases effOp_ev h2 hf.1 hf.2 with h3 | ⟨cl, p, z, t, tx, el, new, r1, r2, r3, r4, r5, r6, r7, r8, r9, r10, r11, r12⟩
    · exact .inl (step_op hC hd (s' := s.app x.o.dst x.e) (by rw [h1]; exact h3) a w ⟨y, A⟩ _ _ k)
    · exact .inl (step_append0 (s' := s.app x.o.dst x.e) r1 r2 hd r3 r4 r5 r6 r7 r8 r9 r10 r11 (by rw [h1]; exact r12) a w ⟨y, A⟩ _ _ k)
  | false =>
    rw [if_neg (by simp)]
    refine k _ _ ?_
    rw [h.no hg, ← app_tup]
    exact ⟨y, A.value (v := .tup []) ⟨[], rfl, rfl⟩ hd⟩
theorem reach_listed {l : List Oper} {L : Nat → Prop} (hL : ∀ i o, L i → l[i]? = some o → ∀ e ∈ edgesOf o, L e) {i j : Nat} (h : Reach l i j) : (∀ o, l[i]? = some o → ∀ e ∈ edgesOf o, L e) → L j := by
  induction h with
  | one h1 h2 => intro h; exact h _ h1 _ h2
  | tail h1 h2 _ ih => intro h; exact ih fun o ho => hL _ o (h _ h1 _ h2) ho
end
end Go.Proofs.YtnmneoekpikpkaaGreatDoor
namespace Go.Proofs.YtnmneoekpikpkaaGreatDoor
open Go.RowKit
set_option linter.unusedSimpArgs false
set_option linter.unusedVariables false
section
variable {P : Program} {G : List (FuncId × Bool × Mean)} {s s' : S} {e : List (Nat × V)}
theorem agr_env (s : S) (e : List (Nat × V)) : Agr (fun _ => True) (fun _ => True) s { s with env := e } := ⟨fun _ _ h _ => h, fun _ _ h _ => h, fun _ _ h _ => h, rfl⟩
theorem lendCells_env : ∀ {cs : List V} {c : Lend} {r : List V × Lend}, lendCells s c cs = some r → lendCells { s with env := e } c cs = some r
  | [], c, r, h => h
  | v :: cs, c, r, h => by
    have key : bnd (lendV s c v) (fun x => bnd (lendCells s x.2 cs) fun y => some (x.1 :: y.1, y.2)) = some r → bnd (lendV { s with env := e } c v) (fun x => bnd (lendCells { s with env := e } x.2 cs) fun y => some (x.1 :: y.1, y.2)) = some r := fun h =>
      bnd_mono (fun _ h => lendV_agr (agr_env s e) (inS_true v) h) (fun _ _ h => bnd_mono (fun _ h => lendCells_env h) (fun _ _ h => h) h) h
    cases v <;> try exact key h
    case own p =>
      simp only [lendCells] at h ⊢
      unfold lendOwn at h ⊢
      split at h
      · cases h
      · exact bnd_mono (fun _ h => lendCells_env h) (fun _ _ h => h) h
      · exact bnd_mono (fun _ h => lendCells_env h) (fun _ _ h => h) h
    case dead => exact bnd_mono (fun _ h => lendCells_env h) (fun _ _ h => h) h
theorem lendBoxes_env : ∀ {bs : List Nat} {c : Lend} {r : List (List V) × Lend}, lendBoxes s c bs = some r → lendBoxes { s with env := e } c bs = some r
  | [], c, r, h => h
  | b :: bs, c, r, h => bnd_mono (fun _ h => h) (fun _ _ h => bnd_mono (fun _ h => lendCells_env h) (fun _ _ h => bnd_mono (fun _ h => lendBoxes_env h) (fun _ _ h => h) h) h) h
theorem backBoxes_env {c : Lend} {t : Nat} : ∀ {bs : List Nat} {css : List (List V)} {s s' : S}, backBoxes c t bs css s = some s' → s'.env = s.env ∧ s'.fro = s.fro ∧ ∀ e, backBoxes c t bs css { s with env := e } = some { s' with env := e }
  | [], [], s, s', h => by simp only [backBoxes] at h; injection h with h; subst h; exact ⟨rfl, rfl, fun _ => rfl⟩
  | [], _ :: _, s, s', h => by simp only [backBoxes] at h; cases h
  | _ :: _, [], s, s', h => by simp only [backBoxes] at h; cases h
  | b :: bs, cs :: css, s, s', h => by
    simp only [backBoxes] at h
    obtain ⟨l, h1, h⟩ := bnd_eq_some h
    obtain ⟨k1, k2, k3⟩ := backBoxes_env h
    refine ⟨k1, k2, fun e => ?_⟩
    simp only [backBoxes, h1, bnd_some]
    exact k3 e
theorem addTrees_env {c : Lend} {t : Nat} : ∀ {rt : List (Nat × List (List D))} {s s' : S}, addTrees c t rt s = some s' → s'.env = s.env ∧ s'.fro = s.fro ∧ ∀ e, addTrees c t rt { s with env := e } = some { s' with env := e }
  | [], s, s', h => by simp only [addTrees] at h; injection h with h; subst h; exact ⟨rfl, rfl, fun _ => rfl⟩
  | (q, rows) :: r, s, s', h => by
    simp only [addTrees] at h
    split at h
    · rename_i hq
      obtain ⟨k1, k2, k3⟩ := addTrees_env h
      refine ⟨k1, k2, fun e => ?_⟩
      simp only [addTrees]
      rw [if_pos hq]; exact k3 e
    · rename_i hq
      obtain ⟨h1, h⟩ := grd_eq_some h
      obtain ⟨k1, k2, k3⟩ := addTrees_env h
      refine ⟨k1, k2, fun e => ?_⟩
      simp only [addTrees]
      have h1' : fresh { s with env := e } (nameOf c t q) = true ∧ nameOf c t q < 1000000000 := h1
      rw [if_neg hq, grd_pos _ h1']; exact k3 e
theorem callB_env {M : Mean} {t : Nat} {args : List V} {x : Bar} (h : callB M s t args = some x) : callB M { s with env := e } t args = some x := by
  unfold callB at h ⊢
  refine bnd_mono (fun _ h => lendL_agr (agr_env s e) (inSs_true args) h) (fun _ _ h => bnd_mono (fun _ h => lendBoxes_env h) (fun _ _ h => grd_mono (fun h => bnd_mono (fun _ h => h) (fun r _ h => ?_) h) h) h) h
  obtain ⟨s1, h1, h⟩ := bnd_eq_some h
  obtain ⟨s2, h2, h⟩ := bnd_eq_some h
  rw [(backBoxes_env h1).2.2 e, bnd_some, (addTrees_env h2).2.2 e, bnd_some]
  exact h
theorem callB_ev {M : Mean} {d : Option Nat} {args : List V} {x : Bar} (h : callB M s (d.getD 0) args = some x) : callV false M s d args = some (s.barred d x) := by
  unfold callB at h
  obtain ⟨y, h1, h⟩ := bnd_eq_some h
  obtain ⟨z, h2, h⟩ := bnd_eq_some h
  obtain ⟨h3, h⟩ := grd_eq_some h
  obtain ⟨r, h4, h⟩ := bnd_eq_some h
  obtain ⟨s1, h5, h⟩ := bnd_eq_some h
  obtain ⟨s2, h6, h⟩ := bnd_eq_some h
  obtain ⟨v, h7, h⟩ := bnd_eq_some h
  injection h with h; subst h
  rw [Bool.and_eq_true] at h3
  obtain ⟨zl, src, box, tree⟩ := z
  have ht : tree = [] := by simpa using h3.1
  subst ht
  obtain ⟨a1, a2, _⟩ := backBoxes_env h5
  obtain ⟨b1, b2, _⟩ := addTrees_env h6
  unfold callV lendA
  rw [if_neg (by simp), h1, bnd_some, h2, bnd_some]
  simp only [lentTrees, bnd_some]
  rw [grd_pos _ h3.2, h4, bnd_some]
  refine backX_of ?_
  unfold S.back
  simp only [backTrees]
  rw [h5, bnd_some, h6, bnd_some, h7, bnd_some]
  obtain ⟨e2, bx2, t2, f2⟩ := s2
  have e1 : e2 = s.env := b1.trans a1
  have f1 : f2 = s.fro := b2.trans a2
  subst e1 f1
  cases d <;> rfl
theorem killEs_app : ∀ (l m : List Nat) (e : List (Nat × V)), killEs (l ++ m) e = killEs m (killEs l e)
  | [], _, _ => rfl
  | p :: l, m, e => killEs_app l m (killE p e)
theorem packRow_env : ∀ {vs : List V} {s : S} {ds : List D} {s1 : S}, packRow s vs = some (ds, s1) → s1.env = killEs (owns vs) s.env ∧ s1.fro = s.fro ∧ ∀ e, packRow { s with env := e } vs = some (ds, { s1 with env := killEs (owns vs) e })
  | [], s, ds, s1, h => by
    simp only [packRow] at h; injection h with h; injection h with h1 h2; subst h1; subst h2
    exact ⟨rfl, rfl, fun _ => rfl⟩
  | v :: r, s, ds, s1, h => by
    have triv : owns (v :: r) = owns r → (∀ s : S, packRow s (v :: r) = bnd (packV v) fun d => bnd (packRow s r) fun x => some (d :: x.1, x.2)) → s1.env = killEs (owns (v :: r)) s.env ∧ s1.fro = s.fro ∧ ∀ e, packRow { s with env := e } (v :: r) = some (ds, { s1 with env := killEs (owns (v :: r)) e }) := by
      intro ho hp
      rw [hp] at h
      obtain ⟨d, h1, h⟩ := bnd_eq_some h
      obtain ⟨x, h2, h⟩ := bnd_eq_some h
      injection h with h; injection h with h3 h4; subst h3; subst h4
      obtain ⟨k1, k2, k3⟩ := packRow_env (s1 := x.2) (ds := x.1) h2
      rw [ho]
      exact ⟨k1, k2, fun e => by rw [hp, h1, bnd_some, k3 e]; rfl⟩
    cases v with
    | own p =>
      simp only [packRow] at h
      obtain ⟨rows, h1, h⟩ := bnd_eq_some h
      obtain ⟨x, h2, h⟩ := bnd_eq_some h
      injection h with h; injection h with h3 h4; subst h3; subst h4
      obtain ⟨k1, k2, k3⟩ := packRow_env (s1 := x.2) (ds := x.1) h2
      refine ⟨k1, k2, fun e => ?_⟩
      simp only [packRow, h1, bnd_some]
      have := k3 (killE p e)
      rw [show (S.kill { s with env := e } p) = { s.kill p with env := killE p e } from rfl, this]
      rfl
    | _ => exact triv rfl fun _ => rfl
theorem packRows_env : ∀ {vs : List V} {s : S} {rows : List (List D)} {s1 : S}, packRows s vs = some (rows, s1) → s1.env = killEs (ownss vs) s.env ∧ s1.fro = s.fro ∧ ∀ e, packRows { s with env := e } vs = some (rows, { s1 with env := killEs (ownss vs) e })
  | [], s, ds, s1, h => by
    simp only [packRows] at h; injection h with h; injection h with h1 h2; subst h1; subst h2
    exact ⟨rfl, rfl, fun _ => rfl⟩
  | v :: r, s, ds, s1, h => by
    simp only [packRows] at h
    obtain ⟨x, h1, h⟩ := bnd_eq_some h
    obtain ⟨z, h2, h⟩ := bnd_eq_some h
    injection h with h; injection h with h3 h4; subst h3; subst h4
    obtain ⟨k1, k2, k3⟩ := packRow_env (s1 := x.2) (ds := x.1) h1
    obtain ⟨m1, m2, m3⟩ := packRows_env (s1 := z.2) (rows := z.1) h2
    simp only [ownss, killEs_app]
    refine ⟨by rw [m1, k1], m2.trans k2, fun e => ?_⟩
    simp only [packRows, k3 e, bnd_some, m3]
def killVs : List Nat → V → V
  | [], v => v
  | p :: r, v => killVs r (if mentions p v = true then .dead else v)
theorem look_killEs : ∀ (l : List Nat) (t : Nat) (e : List (Nat × V)), look t (killEs l e) = (look t e).map (killVs l)
  | [], t, e => by
    show look t e = (look t e).map fun v => v
    cases look t e <;> rfl
  | p :: l, t, e => by
    show look t (killEs l (killE p e)) = _
    rw [look_killEs l t, look_killE, Option.map_map]; rfl
theorem fresh_kill {s : S} {p t : Nat} (h : fresh s t = true) : fresh (s.kill p) t = true := by
  unfold fresh at h ⊢
  simp only [S.kill, look_drop1, Bool.and_eq_true, Option.isNone_iff_eq_none] at h ⊢
  exact ⟨by split <;> first | rfl | exact h.1, h.2⟩
theorem barB_ev {d : Option Nat} {b : Builtin} {ats : Array TypeId} {args : List V} {x : Bar} (h : barB P s d b ats args = some x) : builtinV P s d b ats args = some (s.barred d x) := by
  unfold barB at h
  split at h
  · rename_i x0 y0
    obtain ⟨t, h2, h⟩ := bnd_eq_some h
    obtain ⟨t1, h3, h⟩ := bnd_eq_some h
    obtain ⟨h4, h⟩ := grd_eq_some h
    obtain ⟨ds, h5, h⟩ := bnd_eq_some h
    obtain ⟨e, h6, h⟩ := bnd_eq_some h
    obtain ⟨new, h7, h⟩ := bnd_eq_some h
    simp only [builtinV, h2, h3, bnd_some, grd_pos _ h4, appendV, h5, h6, flatRows_src h7]
    cases x0 <;> simp only [barApp] at h <;> try (cases h; done)
    case nil =>
      obtain ⟨k1, h⟩ := grd_eq_some h
      obtain ⟨t0, k2, h⟩ := bnd_eq_some h
      obtain ⟨k3, h⟩ := grd_eq_some h
      injection h with h; subst h; subst k2
      simp only [appendTo, grd_pos _ k1, S.newTree, bnd_some, grd_pos _ k3]
      rfl
    case own p =>
      obtain ⟨rows, k0, h⟩ := bnd_eq_some h
      obtain ⟨k1, h⟩ := grd_eq_some h
      obtain ⟨t0, k2, h⟩ := bnd_eq_some h
      obtain ⟨k3, h⟩ := grd_eq_some h
      injection h with h; subst h; subst k2
      simp only [appendTo, k0, bnd_some, grd_pos _ k1, S.newTree, grd_pos _ (fresh_kill k3)]
      rfl
  · cases h
theorem flatRows_env (s : S) (e : List (Nat × V)) (v : V) : flatRows { s with env := e } v = flatRows s v := by
  cases v <;> rfl
theorem barB_env {d : Option Nat} {b : Builtin} {ats : Array TypeId} {args : List V} {e : List (Nat × V)} {x : Bar} (h : barB P s d b ats args = some x) : barB P { s with env := e } d b ats args = some x := by
  unfold barB at h ⊢
  split at h
  · rename_i x0 y0
    cases x0 <;> cases y0 <;> exact h
  · cases h
theorem barEff_ev {d : Option Nat} {op : Op} {x : Bar} (h : barEff P G s d op = some x) : evOp P G s d op = some (s.barred d x) := by
  cases op <;> simp only [barEff] at h <;> try (cases h; done)
  case store t p v =>
    obtain ⟨vp, h1, h⟩ := bnd_eq_some h
    obtain ⟨vv, h2, h⟩ := bnd_eq_some h
    obtain ⟨⟨h3, h4, h5⟩, h8⟩ := grd_eq_some h
    have hd : d = none := by simpa using h5
    subst hd
    clear h h5
    cases vp <;> simp only [storeRef] at h8 <;> try (cases h8; done)
    obtain ⟨cs, h6, h8⟩ := bnd_eq_some h8
    obtain ⟨h7, h8⟩ := grd_eq_some h8
    injection h8 with h8; subst h8
    simp only [evOp, h1, h2, bnd_some, S.store, grd_pos _ (And.intro h3 h4), h6, grd_pos _ h7]
    rfl
  case call c =>
    obtain ⟨args, h1, h⟩ := bnd_eq_some h
    simp only [evOp, h1, bnd_some]
    unfold evCall
    unfold barCallee at h
    split at h
    · rename_i b hcl
      first | exact barB_ev h | (rw [hcl]; exact barB_ev h) | (trace_state; fail)
    · rename_i f hcl
      obtain ⟨fv, h2, h⟩ := bnd_eq_some h
      obtain ⟨g, h3, h⟩ := bnd_eq_some h
      obtain ⟨M, h4, h⟩ := bnd_eq_some h
      obtain ⟨h5, h⟩ := grd_eq_some h
      simp only [hcl, h2, h3, h4, bnd_some, h5, callX_false]
      exact callB_ev h
    · cases h
  case buildSlice t n ps =>
    obtain ⟨dd, h1, h⟩ := bnd_eq_some h
    obtain ⟨e, h2, h⟩ := bnd_eq_some h
    obtain ⟨vs, h3, h⟩ := bnd_eq_some h
    obtain ⟨h4, h⟩ := grd_eq_some h
    obtain ⟨z, h5, h⟩ := bnd_eq_some h
    unfold barTree at h
    obtain ⟨t0, h6, h⟩ := bnd_eq_some h
    obtain ⟨h7, h⟩ := grd_eq_some h
    injection h with h; subst h; subst h6
    obtain ⟨k1, k2, _⟩ := packRows_env (s1 := z.2) (rows := z.1) h5
    simp only [evOp, h1, h2, h3, bnd_some]
    rw [grd_pos _ h4, h5, bnd_some]
    unfold S.newTree
    rw [bnd_some, grd_pos _ h7]
    simp only [S.barred, S.put, k1, k2]
theorem barEff_env {d : Option Nat} {op : Op} {x : Bar} (E : ∀ z ∈ op.operands.toList, ∀ v, s.ev z = some v → S.ev { s with env := e } z = some v) (h : barEff P G s d op = some x) : barEff P G { s with env := e } d op = some x := by
  have E' : ∀ z ∈ op.operands.toList, SameAt (fun _ => True) (fun _ => True) s { s with env := e } z := fun z hz v hv => ⟨E z hz v hv, inS_true v⟩
  cases op <;> simp only [barEff] at h ⊢ <;> try (cases h; done)
  case store t p v =>
    refine bnd_mono (fun v h => E _ (by simp [Op.operands]) v h) (fun vp _ h => bnd_mono (fun v h => E _ (by simp [Op.operands]) v h) (fun vv _ h => grd_mono (fun h => ?_) h) h) h
    cases vp <;> exact h
  case call c =>
    obtain ⟨args, h1, h⟩ := bnd_eq_some h
    have hmem : ∀ x ∈ c.args.toList, SameAt (fun _ => True) (fun _ => True) s { s with env := e } x := fun x hx => E' x (by simp only [Op.operands, Call.operands, Array.toList_append]; exact List.mem_append_right _ hx)
    obtain ⟨k1, k2⟩ := evs_same hmem h1
    rw [k1, bnd_some]
    unfold barCallee at h ⊢
    split at h
    · rename_i b hcl
      exact barB_env h
    · rename_i f hcl
      exact bnd_mono (fun v h => E f (by simp only [Op.operands, Call.operands, hcl]; simp) v h) (fun _ _ h => bnd_mono (fun _ h => h) (fun _ _ h => bnd_mono (fun _ h => h) (fun _ _ h => grd_mono (fun h => callB_env h) h) h) h) h
    · cases h
  case buildSlice t n ps =>
    refine bnd_mono (fun _ h => h) (fun _ _ h => bnd_mono (fun _ h => h) (fun _ _ h => bnd_mono (fun _ h => pairs_same (fun x hx => E' x.2 (by simp only [Op.operands]; exact List.mem_map.2 ⟨x, hx, rfl⟩)) h) (fun vs _ h => grd_mono (fun h => ?_) h) h) h) h
    obtain ⟨z, h5, h⟩ := bnd_eq_some h
    obtain ⟨_, _, k3⟩ := packRows_env (s1 := z.2) (rows := z.1) h5
    rw [k3 e, bnd_some]
    exact h
theorem barred_env {d : Option Nat} {x : Bar} (r : Nat) : look r (s.barred d x).env = if some r = d then some x.val else (look r s.env).map (killVs x.kills) := by
  rw [← look_killEs]; exact look_putO (s := { s with env := killEs x.kills s.env }) r
end
section
variable {P : Program} {G : List (FuncId × Bool × Mean)} {ops : Array Oper}
theorem Seg.nd {l : List Pd} : ∀ {s t : S}, Seg P G ops s l t → Nd s → Nd t := by
  induction l with
  | nil => intro s t h n; cases h; exact n
  | cons x l ih => intro s t h n; cases h with | cons h1 h2 => exact ih h2 (h1.new.nd n _)
theorem Seg.append {l m : List Pd} {u : S} : ∀ {s t : S}, Seg P G ops s l t → Seg P G ops t m u → Seg P G ops s (l ++ m) u := by
  induction l with
  | nil => intro s t h k; cases h; exact k
  | cons x l ih => intro s t h k; cases h with | cons h1 h2 => exact .cons h1 (ih h2 k)
theorem effOp_val {s : S} {d : Nat} {op : Op} (h : isVal op = true) : effOp P G s d op = bnd (valOp P s op) fun v => some ⟨v, [], []⟩ := by
  cases op <;> first | rfl | cases h
theorem flOk_cons {ap : Bool} {x : Nat × Oper} {r : List (Nat × Oper)} (h : flOk ops ap (x :: r) = true) : (ap = true ∨ isVal x.2.op = true) ∧ x.2.guard = none ∧ (∃ d, x.2.dst = some d) ∧ (∀ d, x.2.dst = some d → d ∉ x.2.looksAt ops) ∧ (∀ y ∈ r, (∀ d, y.2.dst = some d → d ∉ x.2.looksAt ops) ∧ x.2.dst ≠ y.2.dst) ∧ flOk ops ap r = true := by
  unfold flOk at h
  simp only [Bool.and_eq_true] at h
  obtain ⟨⟨⟨⟨⟨k1, k2⟩, k3⟩, k4⟩, k5⟩, k6⟩ := h
  have aw : ∀ {a b : Oper}, away ops a b = true → ∀ d, b.dst = some d → d ∉ a.looksAt ops := fun h d hd => by
    unfold away at h; rw [hd] at h; simpa using h
  refine ⟨by simpa using k1, by simpa using k2, Option.isSome_iff_exists.1 k3, aw k4, fun y hy => ?_, k6⟩
  have := List.all_eq_true.1 k5 y hy
  rw [Bool.and_eq_true] at this
  exact ⟨aw this.1, by simpa using this.2⟩
theorem PdOk.val {s : S} {x : Pd} (h : PdOk P G ops s x) (hv : isVal x.o.op = true) (hg : x.o.guard = none) : x.g = true ∧ (∃ v, x.e = ⟨v, [], []⟩) := by
  have h1 := h.wants
  rw [hg] at h1
  simp only [S.wants] at h1
  injection h1 with h1
  refine ⟨h1.symm, ?_⟩
  obtain ⟨d, _, h2⟩ := h.yes h1.symm
  rw [effOp_val hv] at h2
  obtain ⟨v, _, h2⟩ := bnd_eq_some h2
  injection h2 with h2
  exact ⟨v, h2.symm⟩
theorem Seg.vals {l : List Pd} : ∀ {s t : S}, Seg P G ops s l t → flOk ops false (l.map both) = true → t.box = s.box ∧ t.tree = s.tree ∧ t.fro = s.fro ∧ ∀ r, (∀ y ∈ l, y.o.dst ≠ some r) → look r t.env = look r s.env := by
  induction l with
  | nil => intro s t h _; cases h; exact ⟨rfl, rfl, rfl, fun _ _ => rfl⟩
  | cons x l ih =>
    intro s t h hf
    cases h with
    | cons h1 h2 =>
      obtain ⟨f1, f2, _, _, _, f6⟩ := flOk_cons (x := both x) (r := l.map both) hf
      have f1 : isVal (both x).2.op = true := f1.elim (fun h => by cases h) _root_.id
      obtain ⟨_, v, hv⟩ := h1.val f1 f2
      obtain ⟨k1, k2, k3, k4⟩ := ih h2 f6
      refine ⟨by rw [k1]; simp [S.app, hv], by rw [k2]; simp [S.app, hv], by rw [k3]; rfl, fun r hr => ?_⟩
      rw [k4 r fun y hy => hr y (by simp [hy]), app_env, if_neg fun e => hr x (by simp) e.symm]
theorem Seg.bar {dst : Option Nat} {x0 : Bar} {T1 : S} {l : List Pd} : ∀ {s t : S}, Seg P G ops s l t → flOk ops false (l.map both) = true →
    (∀ y ∈ l, ∀ d, dst = some d → d ∉ y.o.looksAt ops ∧ y.o.dst ≠ some d) → T1.box = x0.box → T1.tree = x0.tree → T1.fro = s.fro → (∀ r, look r T1.env = look r (t.barred dst x0).env) →
    (∀ y ∈ l, ∃ d v, y.o.dst = some d ∧ look d T1.env = some v ∧ valOp P T1 y.o.op = some v ∧ look d t.env = some v) → Nd (s.barred dst x0) → ∃ t2, Seg P G ops (s.barred dst x0) l t2 ∧ Eqv t2 T1 := by
  induction l with
  | nil =>
    intro s t h _ _ k1 k2 k3 k4 _ _
    cases h
    exact ⟨_, .nil _, ⟨k4, by rw [k1]; exact .refl _, by rw [k2]; exact .refl _, k3⟩⟩
  | cons x l ih =>
    intro s t h hf ha k1 k2 k3 k4 hv n
    cases h with
    | cons h1 h2 =>
      obtain ⟨f1, f2, ⟨d, f3⟩, f4, f5, f6⟩ := flOk_cons (x := both x) (r := l.map both) hf
      have f1 : isVal (both x).2.op = true := f1.elim (fun h => by cases h) _root_.id
      have f3 : x.o.dst = some d := f3
      obtain ⟨g1, v, g2⟩ := h1.val f1 f2
      obtain ⟨b1, b2, b3, b4⟩ := h2.vals f6
      have nx : Nd ((s.app x.o.dst x.e).barred dst x0) := n
      obtain ⟨t2, c1, c2⟩ := ih h2 f6 (fun y hy => ha y (by simp [hy])) k1 k2 k3 k4 (fun y hy => hv y (by simp [hy])) nx
      have hx := ha x (by simp)
      obtain ⟨d', v', w1, w2, w3, w4⟩ := hv x (by simp)
      rw [f3] at w1; injection w1 with w1; subst w1
      have hvv : v' = v := by
        rw [b4 d (fun y hy e => (f5 (both y) (List.mem_map.2 ⟨y, hy, rfl⟩)).2 (f3.trans e.symm)), app_env, if_pos f3.symm, g2] at w4
        injection w4 with w4; exact w4.symm
      have hkv : killVs x0.kills v = v := by
        rw [k4, barred_env, if_neg (fun e => (hx d e.symm).2 f3), b4 d (fun y hy e => (f5 (both y) (List.mem_map.2 ⟨y, hy, rfl⟩)).2 (f3.trans e.symm)), app_env, if_pos f3.symm, g2, Option.map_some] at w2
        injection w2 with w2; rw [w2, hvv]
      have E : Eqv ((s.app x.o.dst x.e).barred dst x0) ((s.barred dst x0).app x.o.dst x.e) := by
        refine ⟨fun r => ?_, ?_, ?_, rfl⟩
        · rw [app_env, barred_env, barred_env, app_env]
          by_cases e1 : some r = x.o.dst
          · rw [if_pos e1]
            by_cases e2 : some r = dst
            · exact absurd e1.symm (hx r e2.symm).2
            · rw [if_neg e2, if_pos e1, Option.map_some, g2]
              exact congrArg some hkv.symm
          · rw [if_neg e1, if_neg e1]
        · rw [g2]; exact .refl _
        · rw [g2]; exact .refl _
      obtain ⟨t3, c3, c4⟩ := c1.eqv E nx
      refine ⟨t3, .cons ⟨by rw [show x.o.guard = none from f2, g1]; rfl, fun _ => ⟨d, f3, ?_⟩, (fun h => by rw [g1] at h; cases h), by rw [g2]; exact .none _ _⟩ c3, c4.symm.trans c2⟩
      have hl : ∀ r ∈ x.o.looksAt ops, look r (s.barred dst x0).env = look r T1.env := fun r hr => by
        rw [k4, barred_env, barred_env]
        by_cases e2 : some r = dst
        · rw [if_pos e2, if_pos e2]
        · rw [if_neg e2, if_neg e2, b4 r fun y hy e => (f5 (both y) (List.mem_map.2 ⟨y, hy, rfl⟩)).1 r e hr, app_env, if_neg fun e => f4 r e.symm hr]
      have A : Agr (fun _ => True) (fun _ => True) T1 (s.barred dst x0) := ⟨fun b cs h _ => by rw [k1] at h; exact h, fun p r h _ => by
        simp only [S.rows] at h ⊢; rw [k2, k3] at h; exact h, fun p r h _ => by rw [k2] at h; exact h, k3.symm⟩
      have hval : valOp P (s.barred dst x0) x.o.op = some v' := valOp_agr A (fun z hz u hu => by
        refine ⟨?_, inS_true u⟩
        cases z with
        | tmp t =>
          have ht : t ∈ x.o.looksAt ops := List.mem_append_left _ (List.mem_filterMap.2 ⟨.tmp t, hz, rfl⟩)
          show look t (s.barred dst x0).env = some u
          rw [hl t ht]; exact hu
        | const c => exact hu
        | func f => exact hu
        | global g => cases hu) w3
      rw [effOp_val (op := x.o.op) f1, hval, bnd_some, g2, hvv]
mutual
theorem inS_free {ks : List Nat} : ∀ {v : V}, (∀ p ∈ ks, mentions p v = false) → inS (fun _ => True) (· ∉ ks) v
  | .own q, h => fun hq => by have := h q hq; simp [mentions] at this
  | .inn q _ _ _, h => fun hq => by have := h q hq; simp [mentions] at this
  | .ref _ _, _ => trivial
  | .pe base _ _ _, h => inS_free (v := base) fun p hp => by simpa [mentions] using h p hp
  | .agg cs, h => inSs_free (vs := cs) fun p hp => by simpa [mentions] using h p hp
  | .tup cs, h => inSs_free (vs := cs) fun p hp => by simpa [mentions] using h p hp
  | .fn _ cs, h => inSs_free (vs := cs) fun p hp => by simpa [mentions] using h p hp
  | .v _, _ => trivial
  | .nil, _ => trivial
  | .lst _ _, _ => trivial
  | .fz _, _ => trivial
  | .dead, _ => trivial
theorem inSs_free {ks : List Nat} : ∀ {vs : List V}, (∀ p ∈ ks, mentions.any p vs = false) → inSs (fun _ => True) (· ∉ ks) vs
  | [], _ => trivial
  | v :: r, h => ⟨inS_free fun p hp => by have := h p hp; simp only [mentions.any, Bool.or_eq_false_iff] at this; exact this.1, inSs_free fun p hp => by have := h p hp; simp only [mentions.any, Bool.or_eq_false_iff] at this; exact this.2⟩
end
theorem freeV_iff {ks : List Nat} {v : V} : freeV ks v = true ↔ ∀ p ∈ ks, mentions p v = false := by
  unfold freeV
  simp [List.all_eq_true]
theorem killVs_free : ∀ {ks : List Nat} {v : V}, freeV ks v = true → killVs ks v = v
  | [], _, _ => rfl
  | p :: r, v, h => by
    have h1 := freeV_iff.1 h
    show killVs r (if mentions p v = true then .dead else v) = v
    rw [if_neg (by rw [h1 p (by simp)]; simp)]
    exact killVs_free (freeV_iff.2 fun q hq => h1 q (by simp [hq]))
def dropKs {α : Type} : List Nat → List (Nat × α) → List (Nat × α)
  | [], l => l
  | p :: r, l => dropKs r (drop1 p l)
theorem look_dropKs {α : Type} : ∀ {ks : List Nat} {l : List (Nat × α)} {p : Nat}, p ∉ ks → look p (dropKs ks l) = look p l
  | [], _, _, _ => rfl
  | q :: r, l, p, h => by
    rw [List.mem_cons, not_or] at h
    show look p (dropKs r (drop1 q l)) = _
    rw [look_dropKs h.2, look_drop1, if_neg h.1]
theorem dropOne_mem {α : Type} {k : Nat} : ∀ {l : List (Nat × α)} {q : Nat}, q ∈ (drop1 k l).map (·.1) → q ∈ l.map (·.1)
  | [], _, h => h
  | (j, y) :: l, q, h => by
    simp only [drop1] at h
    split at h
    · exact List.mem_cons_of_mem _ (dropOne_mem h)
    · rw [List.map_cons, List.mem_cons] at h ⊢
      exact h.imp _root_.id dropOne_mem
theorem dropOne_nodup {α : Type} {k : Nat} : ∀ {l : List (Nat × α)}, (l.map (·.1)).Nodup → ((drop1 k l).map (·.1)).Nodup
  | [], h => h
  | (j, y) :: l, h => by
    rw [List.map_cons] at h
    obtain ⟨h1, h2⟩ := List.nodup_cons.1 h
    simp only [drop1]
    split
    · exact dropOne_nodup h2
    · rw [List.map_cons]
      exact List.nodup_cons.2 ⟨fun hm => h1 (dropOne_mem hm), dropOne_nodup h2⟩
theorem dropKs_sub {α : Type} : ∀ {ks : List Nat} {l : List (Nat × α)} {p : Nat}, p ∈ (dropKs ks l).map (·.1) → p ∈ l.map (·.1)
  | [], _, _, h => h
  | q :: r, l, p, h => dropOne_mem (dropKs_sub (ks := r) h)
theorem drop1_out {α : Type} {k : Nat} : ∀ {l : List (Nat × α)}, k ∉ l.map (·.1) → drop1 k l = l
  | [], _ => rfl
  | y :: l, h => by
    obtain ⟨j, y⟩ := y
    simp only [List.map_cons, List.mem_cons, not_or] at h
    unfold drop1; rw [if_neg h.1, drop1_out h.2]
theorem drop1_append {α : Type} {k : Nat} : ∀ (l m : List (Nat × α)), drop1 k (l ++ m) = drop1 k l ++ drop1 k m
  | [], _ => rfl
  | y :: l, m => by
    obtain ⟨j, y⟩ := y
    simp only [List.cons_append, drop1]
    split
    · exact drop1_append l m
    · rw [drop1_append l m]; rfl
theorem dropKs_append {α : Type} : ∀ (ks : List Nat) (l m : List (Nat × α)), dropKs ks (l ++ m) = dropKs ks l ++ dropKs ks m
  | [], _, _ => rfl
  | p :: r, l, m => by show dropKs r (drop1 p (l ++ m)) = _; rw [drop1_append, dropKs_append r]; rfl
theorem dropKs_out {α : Type} : ∀ {ks : List Nat} {l : List (Nat × α)}, (∀ p ∈ ks, p ∉ l.map (·.1)) → dropKs ks l = l
  | [], _, _ => rfl
  | p :: r, l, h => by
    show dropKs r (drop1 p l) = l
    rw [drop1_out (h p (by simp))]
    exact dropKs_out fun q hq => h q (by simp [hq])
theorem dropKs_nodup {α : Type} : ∀ {ks : List Nat} {l : List (Nat × α)}, (l.map (·.1)).Nodup → ((dropKs ks l).map (·.1)).Nodup
  | [], _, h => h
  | p :: r, l, h => dropKs_nodup (ks := r) (dropOne_nodup h)
def S.grown (s : S) (t0 : Nat) (R : List (List D)) (ks : List Nat) : S := s.barred (some t0) ⟨.own t0, s.box, (t0, R) :: dropKs ks s.tree, ks⟩
theorem grown_env {s : S} {t0 : Nat} {R : List (List D)} {ks : List Nat} (r : Nat) : look r (s.grown t0 R ks).env = if r = t0 then some (.own t0) else (look r s.env).map (killVs ks) := by
  unfold S.grown; rw [barred_env]
  by_cases h : r = t0
  · rw [if_pos h, if_pos (by rw [h])]
  · rw [if_neg h, if_neg (by intro e; injection e with e; exact h e)]
theorem grown_keysT {s : S} {t0 : Nat} {R : List (List D)} {ks : List Nat} {p : Nat} (h : p ∈ keysT (s.grown t0 R ks)) : p = t0 ∨ p ∈ keysT s := by
  unfold keysT S.grown S.barred at h
  simp only [List.map_append, List.map_cons, List.mem_append, List.mem_cons, List.cons_append] at h
  unfold keysT
  rw [List.map_append, List.mem_append]
  rcases h with h | h | h
  · exact .inl h
  · exact .inr (.inl (dropKs_sub h))
  · exact .inr (.inr h)
theorem grown_nd {s : S} {t0 : Nat} {R : List (List D)} {ks : List Nat} (n : Nd s) (h : t0 ∉ keysT s) : Nd (s.grown t0 R ks) := by
  refine ⟨n.1, ?_⟩
  have h2 := n.2
  unfold keysT at h h2 ⊢
  unfold S.grown S.barred
  rw [List.map_append, List.nodup_append] at h2
  rw [List.map_append, List.mem_append, not_or] at h
  simp only [List.cons_append, List.map_cons, List.map_append]
  refine List.nodup_cons.2 ⟨fun hm => ?_, List.nodup_append.2 ⟨dropKs_nodup h2.1, h2.2.1, fun a ha b hb => h2.2.2 a (dropKs_sub ha) b hb⟩⟩
  rcases List.mem_append.1 hm with hm | hm
  · exact h.1 (dropKs_sub hm)
  · exact h.2 hm
theorem Seg.env {l : List Pd} {r : Nat} : ∀ {s t : S}, Seg P G ops s l t → (∀ y ∈ l, y.o.dst ≠ some r) → look r t.env = look r s.env := by
  induction l with
  | nil => intro s t h _; cases h; rfl
  | cons x l ih =>
    intro s t h hr
    cases h with
    | cons h1 h2 => rw [ih h2 fun y hy => hr y (by simp [hy]), app_env, if_neg fun e => hr x (by simp) e.symm]
theorem Seg.wide {l : List Pd} : ∀ {s t : S}, Seg P G ops s l t → Wide s t := by
  induction l with
  | nil => intro s t h; cases h; exact .refl _
  | cons x l ih =>
    intro s t h
    cases h with
    | cons h1 h2 => exact (h1.new.wide _).trans (ih h2)
theorem Seg.past {t0 : Nat} {R : List (List D)} {ks : List Nat} {l : List Pd} : ∀ {s t : S}, Seg P G ops s l t → flOk ops true (l.map both) = true → (∀ y ∈ l, t0 ∉ y.o.looksAt ops ∧ y.o.dst ≠ some t0) →
    (∀ y ∈ l, (∃ d v, y.o.dst = some d ∧ look d t.env = some v ∧ freeV ks v = true) ∧ ∀ r ∈ y.o.looksAt ops, ∀ v, look r t.env = some v → freeV ks v = true) → (∀ p ∈ ks, p ∈ keysT s) → t0 ∉ keysT t → Nd s →
    ∃ t2, Seg P G ops (s.grown t0 R ks) l t2 ∧ Eqv (t.grown t0 R ks) t2 := by
  induction l with
  | nil => intro s t h _ _ _ _ _ _; cases h; exact ⟨_, .nil _, .refl _⟩
  | cons x l ih =>
    intro s t h hf ha hv hk h0 n
    have hW := h.wide
    cases h with
    | cons h1 h2 =>
      obtain ⟨f1, f2, ⟨d, f3⟩, f4, f5, f6⟩ := flOk_cons (x := both x) (r := l.map both) hf
      have f3 : x.o.dst = some d := f3
      have n1 : Nd (s.app x.o.dst x.e) := h1.new.nd n _
      have hW2 := h2.wide
      obtain ⟨t2, c1, c2⟩ := ih h2 f6 (fun y hy => ha y (by simp [hy])) (fun y hy => hv y (by simp [hy])) (fun p hp => app_keysT.2 (.inr (hk p hp))) h0 n1
      obtain ⟨⟨d', v, w1, w2, w3⟩, w4⟩ := hv x (by simp)
      rw [f3] at w1; injection w1 with w1; subst w1
      have hval : v = x.e.val := by
        rw [h2.env (fun y hy e => (f5 (both y) (List.mem_map.2 ⟨y, hy, rfl⟩)).2 (f3.trans e.symm)), app_env, if_pos f3.symm] at w2
        injection w2 with w2; exact w2.symm
      have h0s : t0 ∉ keysT s := fun h => h0 (hW.keysT h)
      have h0e : t0 ∉ x.e.tree.map (·.1) := fun h => h0 (hW2.keysT (app_keysT.2 (.inl h)))
      have hke : ∀ p ∈ ks, p ∉ x.e.tree.map (·.1) := fun p hp h => (h1.new.t p h).1 (hk p hp)
      have E : Eqv ((s.app x.o.dst x.e).grown t0 R ks) ((s.grown t0 R ks).app x.o.dst x.e) := by
        refine ⟨fun r => ?_, .refl _, ?_, rfl⟩
        · rw [app_env, grown_env, grown_env, app_env]
          by_cases e1 : some r = x.o.dst
          · have : r ≠ t0 := fun e2 => (ha x (by simp)).2 (by rw [← e1, e2])
            rw [if_pos e1, if_neg this, if_pos e1, Option.map_some, ← hval, killVs_free w3]
          · rw [if_neg e1, if_neg e1]
        · show (x.e.tree.reverse ++ ((t0, R) :: dropKs ks s.tree)).Perm ((t0, R) :: dropKs ks (x.e.tree.reverse ++ s.tree))
          rw [dropKs_append, dropKs_out (l := x.e.tree.reverse) (fun p hp h => hke p hp (by simpa using h))]
          exact List.perm_middle
      obtain ⟨t3, c3, c4⟩ := c1.eqv E (grown_nd n1 fun h => (app_keysT.1 h).elim h0e h0s)
      refine ⟨t3, .cons (h1.move (oB := fun _ => True) (oT := (· ∉ ks)) ⟨fun b cs h _ => h, fun p rows h hp => ?_, fun p rows h hp => ?_, rfl⟩ (fun r hr => ?_) (fun r hr u hu => ?_) ⟨h1.new.nt, fun p hp => ⟨fun h => ?_, (h1.new.t p hp).2⟩, h1.new.nb, h1.new.b⟩) c3, c2.trans c4⟩
      · have hp0 : p ≠ t0 := fun e => by
          subst e
          simp only [S.rows] at h
          have : ∀ z : Option (List (List D)), look p s.tree = none → look p s.fro = none → orElse1 (look p s.tree) (look p s.fro) = some rows → False := fun _ a b c => by rw [a, b] at c; cases c
          refine this none ?_ ?_ h
          · cases e : look p s.tree with
            | none => rfl
            | some z => exact absurd (by unfold keysT; rw [List.map_append, List.mem_append]; exact .inl (List.mem_map.2 ⟨_, look_mem e, rfl⟩)) h0s
          · cases e : look p s.fro with
            | none => rfl
            | some z => exact absurd (by unfold keysT; rw [List.map_append, List.mem_append]; exact .inr (List.mem_map.2 ⟨_, look_mem e, rfl⟩)) h0s
        simp only [S.rows] at h ⊢
        show orElse1 (look p ((t0, R) :: dropKs ks s.tree)) (look p s.fro) = some rows
        simp only [look, if_neg hp0]
        rw [look_dropKs hp]; exact h
      · have hp0 : p ≠ t0 := fun e => h0s (by subst e; unfold keysT; rw [List.map_append, List.mem_append]; exact .inl (List.mem_map.2 ⟨_, look_mem h, rfl⟩))
        show look p ((t0, R) :: dropKs ks s.tree) = some rows
        simp only [look, if_neg hp0]
        rw [look_dropKs hp]; exact h
      · have hr0 : r ≠ t0 := fun e => (ha x (by simp)).1 (e ▸ hr)
        rw [grown_env, if_neg hr0]
        have hl : look r t.env = look r s.env := by
          rw [h2.env (fun y hy e => (f5 (both y) (List.mem_map.2 ⟨y, hy, rfl⟩)).1 r e hr), app_env, if_neg fun e => f4 r e.symm hr]
        cases e : look r s.env with
        | none => rfl
        | some u => rw [Option.map_some, killVs_free (w4 r hr u (hl.trans e))]
      · have hr0 : r ≠ t0 := fun e => (ha x (by simp)).1 (e ▸ hr)
        rw [grown_env, if_neg hr0] at hu
        have hl : look r t.env = look r s.env := by
          rw [h2.env (fun y hy e => (f5 (both y) (List.mem_map.2 ⟨y, hy, rfl⟩)).1 r e hr), app_env, if_neg fun e => f4 r e.symm hr]
        cases e : look r s.env with
        | none => rw [e] at hu; cases hu
        | some u' =>
          have hfr := w4 r hr u' (hl.trans e)
          rw [e, Option.map_some, killVs_free hfr] at hu
          injection hu with hu; subst hu
          exact inS_free (freeV_iff.1 hfr)
      · rcases grown_keysT h with h | h
        · subst h; exact h0e hp
        · exact (h1.new.t p hp).1 h
theorem keepFl_mem {s : S} {ks : List Nat} : ∀ {fl : List Nat} {i : Nat}, keepFl ops s ks fl = some () → i ∈ fl → ∃ o d v, ops[i]? = some o ∧ o.dst = some d ∧ look d s.env = some v ∧ freeV ks v = true ∧ opsFree ks s o.op = true
  | j :: fl, i, h, hi => by
    simp only [keepFl] at h
    obtain ⟨o, h1, h⟩ := bnd_eq_some h
    obtain ⟨d, h2, h⟩ := bnd_eq_some h
    obtain ⟨v, h3, h⟩ := bnd_eq_some h
    obtain ⟨h4, h⟩ := grd_eq_some h
    rw [Bool.and_eq_true] at h4
    rcases List.mem_cons.1 hi with rfl | hi
    · exact ⟨o, d, v, h1, h2, h3, h4.1, h4.2⟩
    · exact keepFl_mem h hi
theorem barB_down {oB oT : Nat → Prop} {s s' : S} (A : Agr oB oT s s') {d : Option Nat} {b : Builtin} {ats : Array TypeId} {args : List V} {x : Bar} (i : inSs oB oT args) (hfr : ∀ t, fresh s t = true → fresh s' t = true) (h : barB P s d b ats args = some x) :
    ∃ t0 R, d = some t0 ∧ fresh s t0 = true ∧ x.val = .own t0 ∧ x.tree = (t0, R) :: dropKs x.kills s.tree ∧ (∀ p ∈ x.kills, ∃ rows, look p s'.tree = some rows) ∧ (∀ p ∈ x.kills, x.box = killB p s.box) ∧ (x.kills = [] → x.box = s.box) ∧ (x.kills = [] ∨ ∃ p, x.kills = [p]) ∧
      barB P s' d b ats args = some ⟨.own t0, (match x.kills with | [] => s'.box | p :: _ => killB p s'.box), (t0, R) :: dropKs x.kills s'.tree, x.kills⟩ := by
  unfold barB at h ⊢
  split at h
  · rename_i x0 y0
    obtain ⟨t, h2, h⟩ := bnd_eq_some h
    obtain ⟨t1, h3, h⟩ := bnd_eq_some h
    obtain ⟨h4, h⟩ := grd_eq_some h
    obtain ⟨ds, h5, h⟩ := bnd_eq_some h
    obtain ⟨e, h6, h⟩ := bnd_eq_some h
    obtain ⟨new, h7, h⟩ := bnd_eq_some h
    simp only [h2, h3, bnd_some, grd_pos _ h4, h5, h6, flatRows_agr A i.2.1 h7]
    cases x0 with
    | nil =>
      simp only [barApp] at h
      obtain ⟨k1, h⟩ := grd_eq_some h
      obtain ⟨t0, k2, h⟩ := bnd_eq_some h
      obtain ⟨k3, h⟩ := grd_eq_some h
      injection h with h; subst h
      refine ⟨t0, new, k2, k3, rfl, rfl, (fun p hp => by cases hp), (fun p hp => by cases hp), (fun _ => rfl), .inl rfl, ?_⟩
      simp only [barApp, grd_pos _ k1, k2, bnd_some, grd_pos _ (hfr _ k3)]
      rfl
    | own p =>
      simp only [barApp] at h
      obtain ⟨rows, k0, h⟩ := bnd_eq_some h
      obtain ⟨k1, h⟩ := grd_eq_some h
      obtain ⟨t0, k2, h⟩ := bnd_eq_some h
      obtain ⟨k3, h⟩ := grd_eq_some h
      injection h with h; subst h
      have k4 := A.tree p rows k0 i.1
      refine ⟨t0, rows ++ new, k2, k3, rfl, rfl, (fun q hq => by simp at hq; subst hq; exact ⟨rows, k4⟩), (fun q hq => by simp at hq; subst hq; rfl), (fun h => by cases h), .inr ⟨p, rfl⟩, ?_⟩
      simp only [barApp, k4, grd_pos _ k1, k2, bnd_some, grd_pos _ (hfr _ k3)]
      rfl
    | _ => simp only [barApp] at h; cases h
  · cases h
theorem sameVals_mem {s0 s : S} : ∀ {fl : List Nat} {i : Nat}, sameVals P ops s0 s fl = some () → i ∈ fl → ∃ o d v, ops[i]? = some o ∧ o.dst = some d ∧ look d s.env = some v ∧ valOp P s o.op = some v ∧ look d s0.env = some v
  | j :: fl, i, h, hi => by
    simp only [sameVals] at h
    obtain ⟨o, h1, h⟩ := bnd_eq_some h
    obtain ⟨d, h2, h⟩ := bnd_eq_some h
    obtain ⟨v, h3, h⟩ := bnd_eq_some h
    obtain ⟨u, h4, h⟩ := bnd_eq_some h
    obtain ⟨h5, h6⟩ := grdEq_some h
    clear h
    subst h5
    obtain ⟨v0, h7, h8⟩ := bnd_eq_some h6
    obtain ⟨h9, h10⟩ := grdEq_some h8
    clear h6 h8
    subst h9
    rcases List.mem_cons.1 hi with hi | hi
    · subst hi; exact ⟨o, d, v0, h1, h2, h3, h4, h7⟩
    · exact sameVals_mem h10 hi
end
end Go.Proofs.YtnmneoekpikpkaaGreatDoor
namespace Go.Proofs.YtnmneoekpikpkaaGreatDoor
open Go.RowKit
set_option linter.unusedSimpArgs false
set_option linter.unusedVariables false
section
variable {P : Program} {G : List (FuncId × Bool × Mean)} {ops : Array Oper} {bars : List (Nat × List Nat)} {c : Ctx}
theorem ready_iff {listed : Array Bool} {j : Nat} : j ∈ Region.ready .any ops listed ↔ listed.getD j true = false ∧ ∃ o, ops[j]? = some o ∧ ∀ e ∈ edgesOf o, listed.getD e false = true := by
  rw [mem_ready]
  refine and_congr_right fun _ => exists_congr fun o => and_congr_right fun _ => ?_
  unfold edgesOf
  simp only [List.mem_map, List.mem_filter, Array.mem_toList_iff]
  constructor
  · rintro h e ⟨x, ⟨h1, h2⟩, rfl⟩; exact h x h1 h2
  · intro h x h1 h2; exact h x.on ⟨x, ⟨h1, h2⟩, rfl⟩
theorem Good.same {c : Ctx} {s s' : S} {a : Act} {w : World} (g : Good c s a w) (hE : ∀ t v, look t s'.env = some v → look t s.env = some v) (hB : s'.box.Perm s.box) (hT : s'.tree.Perm s.tree) (hF : s'.fro = s.fro) : Good c s' a w := by
  obtain ⟨y, A⟩ := g
  have kB : ∀ b, b ∈ s'.box.map (·.1) ↔ b ∈ s.box.map (·.1) := fun b => (hB.map _).mem_iff
  have kT : ∀ b, b ∈ (s'.tree ++ s'.fro).map (·.1) ↔ b ∈ (s.tree ++ s.fro).map (·.1) := fun b => by
    rw [hF]; exact ((hT.append_right _).map _).mem_iff
  have le : (relOf c s y).le (relOf c s' y) := ⟨fun _ _ h => h, fun b o ⟨p, h1, h2⟩ => ⟨p, by rw [hF]; exact h1, h2⟩, rfl, fun b h => ⟨(kB b).2 h, rfl⟩, fun p h => ⟨(kT p).2 h, rfl⟩⟩
  refine ⟨y, A.defers, A.size, ?_, fun t v e => (A.env t v (hE t v e)).le le, fun b cs h => (A.box b cs (hB.mem_iff.1 h)).le le, fun p rows h => A.fro p rows (by rw [← hF]; exact h), (hB.map _).nodup_iff.2 A.nb, ?_, A.fix⟩
  · rw [hF]
    refine A.st.perm (List.Perm.append ?_ (List.Perm.append ?_ (List.Perm.refl _)))
    · exact (hB.map _).symm
    · exact (hT.map _).symm
  · rw [hF]
    exact ((hT.append_right s.fro).map _).nodup_iff.2 A.nt
theorem Eqv.good {s s2 : S} (h : Eqv s s2) {a : Act} {w : World} (g : Good c s a w) : Good c s2 a w :=
  g.same (fun t v e => by rw [← h.env t]; exact e) h.box h.tree h.fro
theorem Good.nd {s : S} {a : Act} {w : World} (g : Good c s a w) : Nd s := by
  obtain ⟨y, A⟩ := g
  exact ⟨A.nb, A.nt⟩
theorem Good.inS {s : S} {a : Act} {w : World} (g : Good c s a w) : ∀ r v, look r s.env = some v → inS (· ∈ keysB s) (· ∈ keysT s) v := by
  obtain ⟨y, A⟩ := g
  exact fun r v e => RV.inS (A.env r v e)
theorem split_at {l : List Pd} {i : Nat} (h : i ∈ l.map (·.i)) : ∃ l1 x l2, l = l1 ++ x :: l2 ∧ x.i = i := by
  obtain ⟨x, hx, rfl⟩ := List.mem_map.1 h
  obtain ⟨l1, l2, e⟩ := List.append_of_mem hx
  exact ⟨l1, x, l2, e, rfl⟩
theorem sub_split {α : Type} {l1 l2 : List α} {x : α} {d : List α} (h : (l1 ++ x :: l2).Sublist d) : ∃ A B, d = A ++ x :: B ∧ l1.Sublist A ∧ l2.Sublist B := by
  obtain ⟨A, R, rfl, hA, hR⟩ := List.append_sublist_iff.1 h
  obtain ⟨r1, r2, rfl, hx, h2⟩ := List.cons_sublist_iff.1 hR
  obtain ⟨u, v, rfl⟩ := List.append_of_mem hx
  refine ⟨A ++ u, v ++ r2, by simp, hA.trans (List.sublist_append_left _ _), h2.trans (List.sublist_append_right _ _)⟩
theorem nodup_at {L : List (Nat × Oper)} (hO : DrawOk ops bars L) : (L.map (·.1)).Nodup := by
  have : ∀ B A, L = A ++ B → (A.map (·.1)).Nodup → (L.map (·.1)).Nodup := by
    intro B
    induction B with
    | nil => intro A e n; rw [List.append_nil] at e; rw [e]; exact n
    | cons x B ih =>
      intro A e n
      refine ih (A ++ [x]) (by rw [e]; simp) ?_
      rw [List.map_append]
      refine List.nodup_append.2 ⟨n, by simp, fun a ha b hb e2 => ?_⟩
      rw [List.map_cons, List.map_nil, List.mem_singleton] at hb
      obtain ⟨y, hy, rfl⟩ := List.mem_map.1 ha
      exact ((hO.at_ A x B e).2.2 y hy).1 (e2.trans hb)
  exact this L [] rfl List.nodup_nil
theorem getD_of {listed : Array Bool} (hsz : listed.size = ops.size) {j : Nat} (hj : j < ops.size) : listed.getD j true = listed.getD j false := by
  rw [Array.getD_eq_getD_getElem?, Array.getD_eq_getD_getElem?, Array.getElem?_eq_getElem (by omega)]; rfl
theorem drw_main (hC : CallOk P G) {L : List (Nat × Oper)} (hO : DrawOk ops bars L) (hd : ∀ o ∈ ops.toList, dstOk c.n o.dst = true) {q : S} {Q1 : Exit → Act → World → Prop} (k : ∀ a w, Good c q a w → Q1 .normal a w) :
    ∀ (fuel : Nat) (listed : Array Bool) (a : Act) (w : World) (done rest : List (Nat × Oper)) (pend : List Pd) (s t tt : S),
      listed.size = ops.size → L = done ++ rest → (∀ i, i < ops.size → (listed.getD i false = true ↔ i ∈ done.map (·.1) ∧ i ∉ pend.map (·.i))) →
      (pend.map both).Sublist done → (∀ x r, rest = x :: r → look x.1 bars ≠ none) → (∀ x ∈ pend, look x.i bars = none) →
      Seg P G ops s pend t → Eqv t tt → evDrw P G ops bars rest (.on tt) = some (.on q) →
      (∀ i o, listed.getD i false = true → ops.toList[i]? = some o → ∀ e ∈ edgesOf o, listed.getD e false = true) →
      pend.length + rest.length ≤ fuel → Good c s a w → wpAny P .any ops Q1 fuel listed a w := by
  have hnd := nodup_at hO
  have hlt : ∀ x ∈ L, x.1 < ops.size := fun x hx => (Array.getElem?_eq_some_iff.1 (hO.mem x hx)).1
  have hback : ∀ i o, ops[i]? = some o → ∀ e ∈ edgesOf o, e < ops.size := fun i o hi e he => by
    obtain ⟨x, hx, e1⟩ := List.mem_map.1 (hO.all i (Array.getElem?_eq_some_iff.1 hi).1)
    obtain ⟨A, B, e2⟩ := List.append_of_mem hx
    have h3 := hO.mem x hx
    rw [e1, hi] at h3; injection h3 with h3
    obtain ⟨y, hy, e4⟩ := List.mem_map.1 ((hO.at_ A x B e2).1 e (h3 ▸ he))
    rw [← e4]; exact hlt y (by rw [e2]; simp [hy])
  intro fuel
  induction fuel with
  | zero =>
    intro listed a w done rest pend s t tt hsz hL hl hsub hbar hpb hS hE hev hcl hf g
    have hp0 : pend = [] := List.eq_nil_of_length_eq_zero (by omega)
    have hr0 : rest = [] := List.eq_nil_of_length_eq_zero (by omega)
    subst hp0 hr0
    cases hS
    simp only [evDrw] at hev
    injection hev with hev; injection hev with hev
    refine ⟨List.eq_nil_iff_forall_not_mem.2 fun j hj => ?_, k a w (hev ▸ hE.good g)⟩
    obtain ⟨h1, o, h2, _⟩ := ready_iff.1 hj
    have hj' : j < ops.size := (Array.getElem?_eq_some_iff.1 h2).1
    have h3 : listed.getD j false = true := (hl j hj').2 ⟨by have := hO.all j hj'; rw [hL, List.append_nil] at this; exact this, by simp⟩
    rw [getD_of hsz hj', h3] at h1
    cases h1
  | succ fuel ih =>
    intro listed a w done rest pend s t tt hsz hL hl hsub hbar hpb hS hE hev hcl hf g
    have un : ∀ j, j < ops.size → listed.getD j true = listed.getD j false := fun j hj => getD_of hsz hj
    have nl : ∀ j, j < ops.size → (j ∉ done.map (·.1) ∨ j ∈ pend.map (·.i)) → listed.getD j false = false := fun j hj h => by
      cases e : listed.getD j false with
      | false => rfl
      | true => exact h.elim (fun h => absurd ((hl j hj).1 e).1 h) (fun h => absurd h ((hl j hj).1 e).2)
    have hpd : ∀ x ∈ pend, both x ∈ done := fun x hx => hsub.subset (List.mem_map.2 ⟨x, hx, rfl⟩)
    have hnr : ∀ x ∈ rest, x.1 ∉ done.map (·.1) := fun x hx h => by
      rw [hL, List.map_append] at hnd
      exact (List.nodup_append.1 hnd).2.2 x.1 h x.1 (List.mem_map.2 ⟨x, hx, rfl⟩) rfl
    refine ⟨fun hr => ?_, fun i hi => ?_⟩
    · have hno : ∀ A x B, L = A ++ x :: B → listed.getD x.1 false = false → (∀ y ∈ A, listed.getD y.1 false = true) → False := fun A x B e h1 h2 => by
        have hx : x ∈ L := by rw [e]; simp
        have : x.1 ∈ Region.ready .any ops listed := ready_iff.2 ⟨by rw [un _ (hlt x hx)]; exact h1, x.2, hO.mem x hx, fun e' he => by
          obtain ⟨y, hy, e3⟩ := List.mem_map.1 ((hO.at_ A x B e).1 e' he)
          rw [← e3]; exact h2 y hy⟩
        rw [hr] at this; cases this
      cases pend with
      | cons x l =>
        exfalso
        obtain ⟨A, B, e1, _, e3⟩ := sub_split (l1 := []) (l2 := l.map both) (x := both x) (by simpa using hsub)
        refine hno A (both x) (B ++ rest) (by rw [hL, e1]; simp) (nl _ (hlt _ (by rw [hL]; exact List.mem_append_left _ (hpd x (by simp)))) (.inr (by simp [both]))) fun y hy => ?_
        have hyL : y ∈ L := by rw [hL, e1]; simp [hy]
        refine (hl _ (hlt y hyL)).2 ⟨List.mem_map.2 ⟨y, by rw [e1]; simp [hy], rfl⟩, fun hm => ?_⟩
        rw [hL, e1, List.map_append, List.map_append] at hnd
        have h4 := (List.nodup_append.1 (List.nodup_append.1 hnd).1).2.2 y.1 (List.mem_map.2 ⟨y, hy, rfl⟩)
        rw [List.map_cons, List.mem_cons] at hm
        rcases hm with hm | hm
        · exact h4 _ (by simp [both]) hm
        · obtain ⟨z, hz, e5⟩ := List.mem_map.1 hm
          refine h4 z.i ?_ e5.symm
          rw [List.map_cons]
          exact List.mem_cons_of_mem _ (List.mem_map.2 ⟨both z, e3.subset (List.mem_map.2 ⟨z, hz, rfl⟩), rfl⟩)
      | nil =>
        cases rest with
        | cons x r =>
          exfalso
          refine hno done x r hL (nl _ (hlt x (by rw [hL]; simp)) (.inl (hnr x (by simp)))) fun y hy => ?_
          exact (hl _ (hlt y (by rw [hL]; simp [hy]))).2 ⟨List.mem_map.2 ⟨y, hy, rfl⟩, by simp⟩
        | nil =>
          cases hS
          simp only [evDrw] at hev
          injection hev with hev; injection hev with hev
          exact k a w (hev ▸ hE.good g)
    · obtain ⟨h1, o, h2, h3⟩ := ready_iff.1 hi
      have hi' : i < ops.size := (Array.getElem?_eq_some_iff.1 h2).1
      rw [un i hi'] at h1
      have h3' : ∀ o, ops.toList[i]? = some o → ∀ e ∈ edgesOf o, listed.getD e false = true := fun o' ho' e he => by
        rw [Array.getElem?_toList, h2] at ho'; injection ho' with ho'; subst ho'; exact h3 e he
      have hreach : ∀ j, Reach ops.toList i j → listed.getD j false = true := fun j hr => reach_listed (L := fun j => listed.getD j false = true) hcl hr h3'
      have hsz2 : (listed.setIfInBounds i true).size = ops.size := by rw [Array.size_setIfInBounds]; exact hsz
      have hget : ∀ j, j < ops.size → (listed.setIfInBounds i true).getD j false = if j = i then true else listed.getD j false := fun j hj => by
        by_cases e : j = i
        · subst e; rw [if_pos rfl, Array.getD_eq_getD_getElem?, Array.getElem?_setIfInBounds_self_of_lt (by omega)]; rfl
        · rw [if_neg e]; exact getD_set_ne false (fun e2 => e e2.symm)
      have hcl2 : ∀ j o, (listed.setIfInBounds i true).getD j false = true → ops.toList[j]? = some o → ∀ e ∈ edgesOf o, (listed.setIfInBounds i true).getD e false = true := fun j o' hj ho' e he => by
        have ho2 : ops[j]? = some o' := by rw [← Array.getElem?_toList]; exact ho'
        have hjlt : j < ops.size := (Array.getElem?_eq_some_iff.1 ho2).1
        have helt : e < ops.size := hback j o' ho2 e he
        rw [hget e helt]
        rw [hget j hjlt] at hj
        by_cases e2 : e = i
        · rw [if_pos e2]
        · rw [if_neg e2]
          by_cases e3 : j = i
          · subst e3; exact h3' o' ho' e he
          · rw [if_neg e3] at hj; exact hcl j o' hj ho' e he
      have hiL : i ∈ done.map (·.1) ∨ i ∈ rest.map (·.1) := by
        have := hO.all i hi'
        rw [hL, List.map_append, List.mem_append] at this; exact this
      by_cases hm : i ∈ pend.map (·.i)
      · obtain ⟨l1, x, l2, rfl, hxi⟩ := split_at hm
        subst hxi
        rw [List.map_append, List.map_cons] at hsub
        obtain ⟨A, B, e1, e2, e3⟩ := sub_split hsub
        have hxL : both x ∈ L := by rw [hL, e1]; simp
        have hxo : ops[x.i]? = some x.o := hO.mem _ hxL
        have ho : o = x.o := by rw [hxo] at h2; injection h2 with h2; exact h2.symm
        have hap : ∀ y ∈ l1, x.o.apart ops y.o = true := fun y hy => by
          have hyA : both y ∈ A := e2.subset (List.mem_map.2 ⟨y, hy, rfl⟩)
          rcases ((hO.at_ A (both x) (B ++ rest) (by rw [hL, e1]; simp)).2.2 (both y) hyA).2 with h | h
          · exfalso
            have h4 := hreach y.i h
            rw [nl y.i (hlt (both y) (by rw [hL, e1]; simp [hyA])) (.inr (by simp [List.mem_map.2 ⟨y, hy, rfl⟩]))] at h4
            cases h4
          · exact h.1
        obtain ⟨hok, t2, hS2, hE2⟩ := hS.front hap g.nd g.inS
        refine pd_step hC hok hxo (hd x.o (by rw [Array.mem_toList_iff]; exact Array.mem_of_getElem? hxo)) g fun a' w' g' => ?_
        have hni : x.i ∉ (l1 ++ l2).map (·.i) := fun h => by
          have hn : ((l1 ++ x :: l2).map (·.i)).Nodup := by
            have h5 : ((l1 ++ x :: l2).map (·.i)).Sublist (done.map (·.1)) := by
              have := hsub.map (·.1)
              simpa [both, Function.comp_def] using this
            rw [hL, List.map_append] at hnd
            exact h5.nodup (List.nodup_append.1 hnd).1
          rw [List.map_append, List.map_cons] at hn
          obtain ⟨n1, n2, n3⟩ := List.nodup_append.1 hn
          rw [List.map_append, List.mem_append] at h
          rcases h with h | h
          · exact n3 _ h _ (by simp) rfl
          · exact (List.nodup_cons.1 n2).1 h
        refine ih _ a' w' done rest (l1 ++ l2) _ t2 tt hsz2 hL (fun j hj => ?_) ?_ hbar (fun y hy => hpb y ?_) hS2 (hE2.symm.trans hE) hev hcl2 ?_ g'
        · rw [hget j hj]
          by_cases e : j = x.i
          · rw [if_pos e]; subst e
            exact ⟨fun _ => ⟨List.mem_map.2 ⟨both x, by rw [e1]; simp, rfl⟩, hni⟩, fun _ => rfl⟩
          · rw [if_neg e, hl j hj]
            simp only [List.map_append, List.map_cons, List.mem_append, List.mem_cons, e, false_or]
        · rw [List.map_append]
          exact ((List.Sublist.refl _).append (List.sublist_cons_self _ _)).trans hsub
        · rcases List.mem_append.1 hy with hy | hy <;> simp [hy]
        · simp only [List.length_append, List.length_cons] at hf ⊢; omega
      · have hir : i ∈ rest.map (·.1) := by
          rcases hiL with h | h
          · rw [(hl i hi').2 ⟨h, hm⟩] at h1; cases h1
          · exact h
        obtain ⟨x, hx, hxi⟩ := List.mem_map.1 hir
        subst hxi
        obtain ⟨R1, R2, rfl⟩ := List.append_of_mem hx
        have hxL : x ∈ L := by rw [hL]; simp
        have hxo : ops[x.1]? = some x.2 := hO.mem x hxL
        have ho : o = x.2 := by rw [hxo] at h2; injection h2 with h2; exact h2.symm
        have hR1 : R1 = [] := by
          cases R1 with
          | nil => rfl
          | cons b R1 =>
            exfalso
            have hb := hbar b _ rfl
            have hbr : b ∈ b :: R1 ++ x :: R2 := by simp
            rcases ((hO.at_ (done ++ b :: R1) x R2 (by rw [hL]; simp)).2.2 b (by simp)).2 with h | h
            · have h4 := hreach b.1 h
              rw [nl b.1 (hlt b (by rw [hL]; simp)) (.inl (hnr b hbr))] at h4
              cases h4
            · exact hb h.2.1
        subst hR1
        rw [List.nil_append] at *
        have hat := hO.at_ done x R2 hL
        have hpair : ∀ y ∈ pend, x.2.apart ops y.o = true ∧ ∃ fl, look x.1 bars = some fl ∧ y.i ∈ fl := fun y hy => by
          rcases (hat.2.2 (both y) (hpd y hy)).2 with h | h
          · exfalso
            have h4 := hreach y.i h
            rw [nl y.i (hlt (both y) (by rw [hL]; simp [hpd y hy])) (.inr (List.mem_map.2 ⟨y, hy, rfl⟩))] at h4
            cases h4
          · refine ⟨h.1, ?_⟩
            rcases h.2.2 with h5 | h5
            · exact absurd h5 (hbar x _ rfl)
            · exact h5
        have hdo := hd x.2 (by rw [Array.mem_toList_iff]; exact Array.mem_of_getElem? hxo)
        rw [evDrw_cons] at hev
        obtain ⟨gd, h4, hev⟩ := bnd_eq_some hev
        have next : ∀ (pend : List Pd) (s1 t1 q1 : S) (a' : Act) (w' : World), (pend.map both).Sublist done → (∀ x ∈ pend, look x.i bars = none) → (∀ j, j < ops.size → ((listed.setIfInBounds x.1 true).getD j false = true ↔ j ∈ (done ++ [x]).map (·.1) ∧ j ∉ pend.map (·.i))) → pend.length + R2.length ≤ fuel →
            Seg P G ops s1 pend t1 → Eqv t1 q1 → evDrw P G ops bars R2 (.on q1) = some (.on q) → Good c s1 a' w' → wpAny P .any ops Q1 fuel (listed.setIfInBounds x.1 true) a' w' := fun pend s1 t1 q1 a' w' hsub hpb hl hf hS hE hev g' => by
          obtain ⟨pend2, t2, l2, k1, k2, k3, k4, k5⟩ := collect hev
          have n1 : Nd q1 := hE.nd (hS.nd g'.nd)
          obtain ⟨t3, k6, k7⟩ := k2.eqv hE.symm n1
          refine ih _ a' w' (done ++ [x] ++ pend2.map both) l2 (pend ++ pend2) s1 t3 t2 hsz2 (by rw [hL, k1]; simp) (fun j hj => ?_) ?_ k4 (fun y hy => ?_) (hS.append k6) k7.symm k3 hcl2 ?_ g'
          · rw [hl j hj, List.map_append (l₁ := done ++ [x]), List.map_append (l₁ := pend), List.mem_append, List.mem_append]
            have hm2 : ∀ j, j ∈ (pend2.map both).map (·.1) ↔ j ∈ pend2.map (·.i) := fun j => by simp [both, Function.comp_def]
            rw [hm2]
            constructor
            · rintro ⟨m1, m2⟩
              refine ⟨.inl m1, fun m3 => m3.elim m2 fun m3 => ?_⟩
              rw [hL, k1] at hnd
              rw [show done ++ x :: (pend2.map both ++ l2) = (done ++ [x]) ++ (pend2.map both ++ l2) by simp, List.map_append] at hnd
              exact (List.nodup_append.1 hnd).2.2 j m1 j (by rw [List.map_append]; exact List.mem_append_left _ ((hm2 j).2 m3)) rfl
            · rintro ⟨m1 | m1, m2⟩
              · exact ⟨m1, fun m3 => m2 (.inl m3)⟩
              · exact absurd (.inr m1) m2
          · rw [List.map_append]
            exact (hsub.trans (List.sublist_append_left _ _)).append (List.Sublist.refl _)
          · rcases List.mem_append.1 hy with hy | hy
            · exact hpb y hy
            · exact k5 y hy
          · have := congrArg List.length k1
            simp only [List.length_append, List.length_map] at this ⊢
            omega
        have htab : ∀ j, j < ops.size → ((listed.setIfInBounds x.1 true).getD j false = true ↔ j ∈ (done ++ [x]).map (·.1) ∧ j ∉ pend.map (·.i)) := fun j hj => by
          rw [hget j hj]
          by_cases e : j = x.1
          · rw [if_pos e]; subst e; exact ⟨fun _ => ⟨by simp, hm⟩, fun _ => rfl⟩
          · rw [if_neg e, hl j hj]; simp [e]
        have hf2 : pend.length + R2.length ≤ fuel := by simp only [List.length_cons] at hf; omega
        have nopend : pend = [] → ∀ (q1 : S) (a' : Act) (w' : World), evDrw P G ops bars R2 (.on q1) = some (.on q) → Good c q1 a' w' → wpAny P .any ops Q1 fuel (listed.setIfInBounds x.1 true) a' w' := fun hp q1 a' w' hev g' => by
          subst hp
          exact next [] q1 q1 q1 a' w' (List.nil_sublist _) hpb htab hf2 (.nil _) (.refl _) hev g'
        unfold wpOp
        rw [hxo]
        simp only
        cases hb : look x.1 bars with
        | none => exact absurd hb (hbar x _ rfl)
        | some fl =>
          cases fl with
          | nil =>
            have hp0 : pend = [] := by
              cases pend with
              | nil => rfl
              | cons y l =>
                obtain ⟨_, fl, e1, e2⟩ := hpair y (by simp)
                rw [hb] at e1; injection e1 with e1; subst e1; cases e2
            have hS0 := hS
            subst hp0
            cases hS0
            have g2 := hE.good g
            obtain ⟨y, A⟩ := g2
            rw [wants_sound A h4]
            cases gd with
            | true =>
              rw [if_pos rfl] at hev ⊢
              obtain ⟨q1, h5, hev⟩ := bnd_eq_some hev
              rw [hb, drwOp_bar] at h5
              cases e : evOp P G tt x.2.dst x.2.op with
              | none => rw [e] at h5; cases h5
              | some s1 =>
                rw [e, onQ_some] at h5; injection h5 with h5; subst h5
                exact .inl (step_op hC hdo e a w ⟨y, A⟩ _ _ fun a' w' g' => nopend rfl s1 a' w' hev g')
            | false =>
              rw [if_neg (by simp)] at hev ⊢
              obtain ⟨q1, h5, hev⟩ := bnd_eq_some hev
              rw [onQ_some] at h5; injection h5 with h5; subst h5
              exact nopend rfl _ _ _ hev ⟨y, A.value (v := .tup []) ⟨[], rfl, rfl⟩ hdo⟩
          | cons f fr =>
            have hgd := hat.2.1 fr f hb
            rw [hgd] at h4
            simp only [S.wants] at h4
            injection h4 with h4; subst h4
            rw [if_pos rfl] at hev
            obtain ⟨q1, h5, hev⟩ := bnd_eq_some hev
            rw [hb, drwOp_float] at h5
            have hz : (x.1, f :: fr) ∈ bars := by
              have : ∀ l : List (Nat × List Nat), look x.1 l = some (f :: fr) → (x.1, f :: fr) ∈ l := by
                intro l; induction l with
                | nil => intro h; cases h
                | cons z l ih =>
                  intro h
                  simp only [look] at h
                  split at h
                  · rename_i e; injection h with h; obtain ⟨z1, z2⟩ := z; simp only at e h; subst e h; simp
                  · exact List.mem_cons_of_mem _ (ih h)
              exact this bars hb
            have hfl0 : flOk ops (appAt ops x.1) (pend.map both) = true := by
              refine flOk_sub ?_ (hO.fl _ hz)
              have : (pend.map both).filter (fun y => (f :: fr).contains y.1) = pend.map both := List.filter_eq_self.2 fun y hy => by
                obtain ⟨z, hz, rfl⟩ := List.mem_map.1 hy
                obtain ⟨_, fl, e1, e2⟩ := hpair z hz
                rw [hb] at e1; injection e1 with e1; subst e1
                simpa [both] using e2
              rw [← this]
              exact (hsub.trans (by rw [hL]; exact List.sublist_append_left _ _)).filter _
            have happ : appAt ops x.1 = isApp x.2.op := by unfold appAt; rw [hxo]
            rw [happ] at hfl0
            by_cases hia : isApp x.2.op = true
            · rw [if_pos hia] at h5
              rw [hia] at hfl0
              cases eb : barEff P G tt x.2.dst x.2.op with
              | none => rw [eb] at h5; cases h5
              | some x0 =>
                rw [eb, bnd_some] at h5
                obtain ⟨sq, h6, h5⟩ : ∃ sq, grdEq x0.box tt.box (bnd (keepFl ops tt x0.kills (f :: fr)) fun _ => some (tt.barred x.2.dst x0)) = some sq ∧ q1 = .on sq := by
                  cases e : grdEq x0.box tt.box (bnd (keepFl ops tt x0.kills (f :: fr)) fun _ => some (tt.barred x.2.dst x0)) with
                  | none => rw [e] at h5; cases h5
                  | some sq => rw [e, onQ_some] at h5; injection h5 with h5; exact ⟨sq, rfl, h5.symm⟩
                subst h5
                obtain ⟨hbx, h6⟩ := grdEq_some h6
                obtain ⟨u0, ek, h6⟩ := bnd_eq_some h6
                injection h6 with h6; subst h6
                have n1 : Nd t := by
                  have : ∀ {l : List Pd} {s t : S}, Seg P G ops s l t → Nd s → Nd t := fun h n => h.nd n
                  exact this hS g.nd
                have W2 : Wide s tt := hS.wide.trans (hE.wide n1)
                have hap : ∀ y ∈ pend, ∀ d, y.o.dst = some d → d ∉ x.2.looksAt ops := fun y hy d hyd => (Oper.apart_spec (hpair y hy).1).2.2 d hyd
                have hsame : ∀ z ∈ x.2.op.operands.toList, SameAt (· ∈ keysB s) (· ∈ keysT s) tt s z := fun z hz v hv => by
                  cases z with
                  | tmp r =>
                    have hr : r ∈ x.2.looksAt ops := List.mem_append_left _ (List.mem_filterMap.2 ⟨.tmp r, hz, rfl⟩)
                    have hv : look r tt.env = some v := hv
                    have hv2 : look r s.env = some v := by rw [hE.env, hS.env fun y hy e => hap y hy r e hr] at hv; exact hv
                    exact ⟨hv2, g.inS r v hv2⟩
                  | const c => exact ⟨hv, constV_inS hv⟩
                  | func f => exact ⟨hv, by have hv : some (V.fn f []) = some v := hv; injection hv with hv; subst hv; trivial⟩
                  | global g => cases hv
                have hfr : ∀ t, fresh tt t = true → fresh s t = true := fun t h => by
                  unfold fresh at h ⊢
                  simp only [Bool.and_eq_true, Option.isNone_iff_eq_none] at h ⊢
                  refine ⟨?_, by rw [← W2.fro]; exact h.2⟩
                  cases e : look t s.tree with
                  | none => rfl
                  | some z =>
                    have hm : t ∈ keysT s := by unfold keysT; rw [List.map_append, List.mem_append]; exact .inl (List.mem_map.2 ⟨_, look_mem e, rfl⟩)
                    rw [← W2.tree t hm, h.1] at e; cases e
                obtain ⟨t0, R, hd0, hf0, hv0, ht0, hk0, hb1, hb2, hk1, hdown⟩ : ∃ t0 R, x.2.dst = some t0 ∧ fresh tt t0 = true ∧ x0.val = .own t0 ∧ x0.tree = (t0, R) :: dropKs x0.kills tt.tree ∧ (∀ p ∈ x0.kills, ∃ rows, look p s.tree = some rows) ∧ (∀ p ∈ x0.kills, x0.box = killB p tt.box) ∧ (x0.kills = [] → x0.box = tt.box) ∧ (x0.kills = [] ∨ ∃ p, x0.kills = [p]) ∧
                    barEff P G s x.2.dst x.2.op = some ⟨.own t0, (match x0.kills with | [] => s.box | p :: _ => killB p s.box), (t0, R) :: dropKs x0.kills s.tree, x0.kills⟩ := by
                  generalize x.2.op = op at hia eb hsame
                  cases op <;> simp only [isApp] at hia <;> try (cases hia; done)
                  rename_i cl
                  split at hia
                  · rename_i b hcl
                    simp only [barEff, barCallee, hcl] at eb ⊢
                    obtain ⟨args, e1, e2⟩ := bnd_eq_some eb
                    obtain ⟨e3, e4⟩ := evs_same (fun z hz => hsame z (by simp only [Op.operands, Call.operands, Array.toList_append]; exact List.mem_append_right _ hz)) e1
                    obtain ⟨t0, R, a1, a2, a3, a4, a5, a6, a7, a8, a9⟩ := barB_down W2.down e4 hfr e2
                    exact ⟨t0, R, a1, a2, a3, a4, a5, a6, a7, a8, by rw [e3, bnd_some]; exact a9⟩
                  · cases hia
                have hsb : (match x0.kills with | [] => s.box | p :: _ => killB p s.box) = s.box := by
                  rcases hk1 with hk1 | ⟨p, hk1⟩
                  · rw [hk1]
                  · rw [hk1]
                    have hkb : killB p tt.box = tt.box := by rw [← hb1 p (by rw [hk1]; simp)]; exact hbx
                    have m1 : ∀ l : List (Nat × List V), killB p l = l → ∀ z ∈ l, killC p z.2 = z.2 := by
                      intro l; induction l with
                      | nil => intro _ z hz; cases hz
                      | cons y l ih =>
                        intro h z hz
                        simp only [killB] at h
                        injection h with h1 h2
                        rcases List.mem_cons.1 hz with rfl | hz
                        · exact congrArg Prod.snd h1
                        · exact ih h2 z hz
                    have m2 : ∀ l : List (Nat × List V), (∀ z ∈ l, killC p z.2 = z.2) → killB p l = l := by
                      intro l; induction l with
                      | nil => intro _; rfl
                      | cons y l ih =>
                        intro h
                        simp only [killB]
                        rw [ih fun z hz => h z (List.mem_cons_of_mem _ hz), h y (by simp)]
                    refine m2 _ fun z hz => m1 _ hkb z ?_
                    have hm : z.1 ∈ keysB s := List.mem_map.2 ⟨z, hz, rfl⟩
                    have := W2.box z.1 hm
                    rw [look_of_mem g.nd.1 (show (z.1, z.2) ∈ s.box from hz)] at this
                    exact look_mem this
                rw [hsb] at hdown
                have hks : ∀ p ∈ x0.kills, p ∈ keysT s := fun p hp => by
                  obtain ⟨rows, e⟩ := hk0 p hp
                  unfold keysT; rw [List.map_append, List.mem_append]; exact .inl (List.mem_map.2 ⟨_, look_mem e, rfl⟩)
                have ht0k : t0 ∉ keysT t := fun h => by
                  have h := hE.keysT.2 h
                  unfold keysT at h
                  unfold fresh at hf0
                  simp only [Bool.and_eq_true, Option.isNone_iff_eq_none] at hf0
                  rw [List.map_append, List.mem_append] at h
                  rcases h with h | h
                  · exact look_none hf0.1 h
                  · exact look_none hf0.2 h
                obtain ⟨t2, w1, w2⟩ := hS.past (t0 := t0) (R := R) (ks := x0.kills) hfl0 (fun y hy => ⟨(Oper.apart_spec (hpair y hy).1).1 t0 hd0, fun e => (Oper.apart_spec (hpair y hy).1).2.1 t0 hd0 e⟩) (fun y hy => by
                  obtain ⟨_, fl, e1, e2⟩ := hpair y hy
                  rw [hb] at e1; injection e1 with e1; subst e1
                  obtain ⟨o', d, v, u1, u2, u3, u4, u5⟩ := keepFl_mem ek e2
                  have hyo : ops[y.i]? = some y.o := hO.mem (both y) (by rw [hL]; simp [hpd y hy])
                  rw [hyo] at u1; injection u1 with u1; subst u1
                  refine ⟨⟨d, v, u2, by rw [← hE.env]; exact u3, u4⟩, fun r hr v hv => ?_⟩
                  have hgy : y.o.guard = none := by
                    have hf := List.all_eq_true.2 (fun (z : Nat × Oper) (hz : z ∈ pend.map both) => (show z.2.guard.isNone = true from by
                      have : ∀ l : List (Nat × Oper), flOk ops true l = true → ∀ z ∈ l, z.2.guard.isNone = true := by
                        intro l; induction l with
                        | nil => intro _ z hz; cases hz
                        | cons q l ih =>
                          intro h z hz
                          obtain ⟨_, k2, _, _, _, k6⟩ := flOk_cons h
                          rcases List.mem_cons.1 hz with rfl | hz
                          · rw [k2]; rfl
                          · exact ih k6 z hz
                      exact this _ hfl0 z hz))
                    have := List.all_eq_true.1 hf (both y) (List.mem_map.2 ⟨y, hy, rfl⟩)
                    simpa [both] using this
                  unfold Oper.looksAt at hr
                  rw [hgy] at hr
                  simp only [List.append_nil] at hr
                  obtain ⟨z, hz1, hz2⟩ := List.mem_filterMap.1 hr
                  cases z <;> simp at hz2
                  subst hz2
                  have := List.all_eq_true.1 u5 _ hz1
                  simp only [freeO] at this
                  rw [hE.env, hv] at this
                  exact this) hks ht0k g.nd
                have hfin : tt.barred x.2.dst x0 = tt.grown t0 R x0.kills := by
                  unfold S.grown S.barred
                  rw [hd0, hv0, ht0, hbx]
                have hst : s.barred x.2.dst ⟨.own t0, s.box, (t0, R) :: dropKs x0.kills s.tree, x0.kills⟩ = s.grown t0 R x0.kills := by rw [hd0]; rfl
                have dp : ∀ (k : Nat) {l m : List (Nat × List (List D))}, l.Perm m → (drop1 k l).Perm (drop1 k m) := by
                  intro k l m h
                  induction h with
                  | nil => exact .refl _
                  | cons y _ ih =>
                    obtain ⟨j, y⟩ := y
                    simp only [drop1]
                    split
                    · exact ih
                    · exact .cons _ ih
                  | swap y z l =>
                    obtain ⟨j, y⟩ := y; obtain ⟨i, z⟩ := z
                    simp only [drop1]
                    split <;> split <;> first | exact .refl _ | exact .swap _ _ _
                  | trans _ _ a b => exact a.trans b
                have dps : ∀ (ks : List Nat) {l m : List (Nat × List (List D))}, l.Perm m → (dropKs ks l).Perm (dropKs ks m) := by
                  intro ks; induction ks with
                  | nil => intro l m h; exact h
                  | cons k ks ih => intro l m h; exact ih (dp k h)
                have hEg : Eqv (t.grown t0 R x0.kills) (tt.grown t0 R x0.kills) := ⟨fun r => by rw [grown_env, grown_env, hE.env], hE.box, .cons _ (dps _ hE.tree), hE.fro⟩
                have g2 := g
                obtain ⟨y, A⟩ := g2
                rw [wants_sound A (g := true) (by rw [hgd]; rfl), if_pos rfl]
                refine .inl (step_op hC hdo ((barEff_ev hdown).trans (by rw [hst])) a w ⟨y, A⟩ _ _ fun a' w' g' => ?_)
                rw [hfin] at hev
                exact next pend _ t2 _ a' w' hsub hpb htab hf2 w1 (w2.symm.trans hEg) hev g'
            rw [if_neg hia] at h5
            have hia : isApp x.2.op = false := by simpa using hia
            rw [hia] at hfl0
            cases eb : barEff P G tt x.2.dst x.2.op with
            | none => rw [eb] at h5; cases h5
            | some x0 =>
              rw [eb, bnd_some] at h5
              cases ev : sameVals P ops tt (tt.barred x.2.dst x0) (f :: fr) with
              | none => rw [ev] at h5; cases h5
              | some u0 =>
                rw [ev, bnd_some, onQ_some] at h5; injection h5 with h5; subst h5
                have hfl : flOk ops false (pend.map both) = true := hfl0
                obtain ⟨v1, v2, v3, v4⟩ := hS.vals hfl
                have hE1 : Eqv s { s with box := tt.box, tree := tt.tree } := ⟨fun _ => rfl, by rw [← v1]; exact hE.box, by rw [← v2]; exact hE.tree, rfl⟩
                obtain ⟨t', hS', hE'⟩ := hS.eqv hE1 g.nd
                obtain ⟨v1', v2', v3', v4'⟩ := hS'.vals hfl
                have g2 := hE1.good g
                have henv : ∀ r, look r t'.env = look r tt.env := fun r => by rw [hE'.env, hE.env]
                have hap : ∀ y ∈ pend, ∀ d, y.o.dst = some d → d ∉ x.2.looksAt ops := fun y hy d hyd => (Oper.apart_spec (hpair y hy).1).2.2 d hyd
                have hbe : barEff P G { s with box := tt.box, tree := tt.tree } x.2.dst x.2.op = some x0 := by
                  have hfro : tt.fro = s.fro := by rw [hE.fro, v3]
                  have : ({ s with box := tt.box, tree := tt.tree } : S) = { tt with env := s.env } := by rw [← hfro]
                  rw [this]
                  refine barEff_env (fun z hz v hv => ?_) eb
                  cases z with
                  | tmp r =>
                    have hr : r ∈ x.2.looksAt ops := List.mem_append_left _ (List.mem_filterMap.2 ⟨.tmp r, hz, rfl⟩)
                    have hv : look r tt.env = some v := hv
                    show look r s.env = some v
                    rw [← henv, v4' r fun y hy e => hap y hy r e hr] at hv
                    exact hv
                  | const c => exact hv
                  | func f => exact hv
                  | global g => cases hv
                obtain ⟨y, A⟩ := g2
                rw [wants_sound A (g := true) (by rw [hgd]; rfl), if_pos rfl]
                refine .inl (step_op hC hdo (barEff_ev hbe) a w ⟨y, A⟩ _ _ fun a' w' g' => ?_)
                have hfro : tt.fro = s.fro := by rw [hE.fro, v3]
                obtain ⟨t2, w1, w2⟩ := hS'.bar (dst := x.2.dst) (x0 := x0) (T1 := tt.barred x.2.dst x0) hfl
                  (fun y hy d hd => ⟨(Oper.apart_spec (hpair y hy).1).1 d hd, (Oper.apart_spec (hpair y hy).1).2.1 d hd⟩)
                  rfl rfl hfro (fun r => by rw [barred_env, barred_env, henv])
                  (fun y hy => by
                    obtain ⟨_, fl, e1, e2⟩ := hpair y hy
                    rw [hb] at e1; injection e1 with e1; subst e1
                    obtain ⟨o', d, v, u1, u2, u3, u4, u5⟩ := sameVals_mem ev e2
                    have : ops[y.i]? = some y.o := hO.mem (both y) (by rw [hL]; simp [hpd y hy])
                    rw [this] at u1; injection u1 with u1; subst u1
                    exact ⟨d, v, u2, u3, u4, by rw [henv]; exact u5⟩) g'.nd
                exact next pend _ t2 _ a' w' hsub hpb htab hf2 w1 w2 hev g'
theorem drw_sound (hC : CallOk P G) (hm : P.follows .mixedOrders = true) {b : List Nat × List (Nat × List Nat)} (hO : drawOk ops b = true) (hd : ∀ o ∈ ops.toList, dstOk c.n o.dst = true) {s q : S} {Q1 : Exit → Act → World → Prop} {id : Nat} {a : Act} {w : World}
    (h : evDrw P G ops b.2 (inOrder ops b.1) (.on s) = some (.on q)) (g : Good c s a w) (k : ∀ a w, Good c q a w → Q1 .normal a w) : (Code.region id ops true).wp P Q1 a w := by
  refine wp_region_any hm ?_
  have hD := drawOk_spec hO
  obtain ⟨pend, t, l2, k1, k2, k3, k4, k5⟩ := collect h
  have g' : Good c s a { w with drawn := w.drawn + 1 } := by
    obtain ⟨y, A⟩ := g
    exact ⟨y, A.defers, A.size, A.st.drew, A.env, A.box, A.fro, A.nb, A.nt, A.fix⟩
  have hnone : ∀ i, (Array.replicate ops.size false).getD i false = false := fun i => by
    rw [Array.getD_eq_getD_getElem?, Array.getElem?_replicate]; split <;> rfl
  have hlen := hD.len
  rw [k1, List.length_append, List.length_map] at hlen
  refine drw_main hC hD hd k _ _ a _ (pend.map both) l2 pend s t t (by simp) k1 (fun i hi => ?_) (List.Sublist.refl _) k4 k5 k2 (.refl _) k3 (fun i o hi => by rw [hnone] at hi; cases hi) (by omega) g'
  rw [hnone]
  refine ⟨(fun h => by cases h), fun h => absurd ?_ h.2⟩
  have := h.1
  simpa [both, Function.comp_def] using this
end
end Go.Proofs.YtnmneoekpikpkaaGreatDoor
namespace Go.Proofs.YtnmneoekpikpkaaGreatDoor
open Go.RowKit
set_option linter.unusedSimpArgs false
set_option linter.unusedVariables false
def codeOk (gh : Ghost) (n : Nat) : Code → Bool
  | .region id ops d => ops.toList.all (fun o => dstOk n o.dst) && (!d || drawOk ops (gh.bars id))
  | .seq x y => codeOk gh n x && codeOk gh n y
  | .cond _ x y => codeOk gh n x && codeOk gh n y
  | .block _ x => codeOk gh n x
  | .loop x => codeOk gh n x
  | .scope x => codeOk gh n x
  | .skip => true
  | .label _ => true
  | .exit _ => true
  | .ret => true
  | _ => false
def GoodQ (c : Ctx) : Q → Act → World → Prop
  | .on s => Good c s
  | .off => fun _ _ => False
def exOf : Ex → Exit
  | .normal => .normal
  | .exit i => .exit i
  | .ret => .ret
structure MarksOk (gh : Ghost) : Prop where
  head : ∀ (c : Ctx) (id : Nat) (s s' : S), gh.head id s = some s' → ∀ a w, Good c s a w → Good c s' a w
  reg : ∀ (c : Ctx) (id : Nat) (s s' : S), gh.reg id s = some s' → ∀ a w, Good c s a w → Good c s' a w
section
variable {P : Program} {c : Ctx} {G : List (FuncId × Bool × Mean)} {gh : Ghost}
theorem evOps_on {ops : Array Oper} : ∀ (l : List Oper) (s : S), evOps P G ops l (.on s) ≠ some .off := by
  intro l; induction l with
  | nil => intro s h; simp only [evOps] at h; injection h with h; cases h
  | cons o l ih =>
    intro s h
    rw [evOps_cons] at h
    obtain ⟨gd, _, h⟩ := bnd_eq_some h
    split at h
    · obtain ⟨q, h4, h⟩ := bnd_eq_some h
      cases e : evOp P G s o.dst o.op with
      | none => rw [e] at h4; cases h4
      | some s1 => rw [e, onQ_some] at h4; injection h4 with h4; subst h4; exact ih _ h
    · obtain ⟨q, h4, h⟩ := bnd_eq_some h
      rw [onQ_some] at h4; injection h4 with h4; subst h4; exact ih _ h
theorem evDrw_on {ops : Array Oper} {bars : List (Nat × List Nat)} : ∀ (l : List (Nat × Oper)) (s : S), evDrw P G ops bars l (.on s) ≠ some .off := by
  intro l; induction l with
  | nil => intro s h; simp only [evDrw] at h; injection h with h; cases h
  | cons o l ih =>
    intro s h
    rw [evDrw_cons] at h
    obtain ⟨gd, _, h⟩ := bnd_eq_some h
    split at h
    · obtain ⟨q, h4, h⟩ := bnd_eq_some h
      cases e : drwOp P G ops (look o.1 bars) s o.2.dst o.2.op with
      | none => rw [e] at h4; cases h4
      | some s1 => rw [e, onQ_some] at h4; injection h4 with h4; subst h4; exact ih _ h
    · obtain ⟨q, h4, h⟩ := bnd_eq_some h
      rw [onQ_some] at h4; injection h4 with h4; subst h4; exact ih _ h
theorem headV_sound (hM : MarksOk gh) {id : Nat} {q q' : Q} (h : headV gh id q = some q') {a : Act} {w : World} (g : GoodQ c q a w) : GoodQ c q' a w := by
  cases q with
  | off => cases g
  | on s =>
    simp only [headV] at h
    cases e : gh.head id s with
    | none => rw [e] at h; cases h
    | some s1 => rw [e, onQ_some] at h; injection h with h; subst h; exact hM.head c id s s1 e a w g
theorem loop_sound {x : Code} {f : Q → Option (Ex × Q)} {id : Nat} {Q1 : Exit → Act → World → Prop} {r : Ex × Q} (hM : MarksOk gh) (hf : ∀ q, f q = seqV (evC P G gh x q) fun q => bnd (headV gh id q) fun q => some (.normal, q))
    (hx : ∀ (q : Q) (r : Ex × Q) (a : Act) (w : World) (Q2 : Exit → Act → World → Prop), evC P G gh x q = some r → GoodQ c q a w → (∀ a w, GoodQ c r.2 a w → Q2 (exOf r.1) a w) → x.wp P Q2 a w)
    (hk : ∀ a w, GoodQ c r.2 a w → Q1 (exOf r.1) a w) : ∀ (n : Nat) (q : Q) (a : Act) (w : World), rounds f n q = some r → GoodQ c q a w → Code.rounds P x Q1 n a w
  | 0, q, a, w, h, _ => by cases h
  | n + 1, q, a, w, h, g => by
    rw [rounds, hf] at h
    cases e : evC P G gh x q with
    | none => rw [e, seqV_none] at h; cases h
    | some r1 =>
      rw [e] at h
      obtain ⟨ex, q1⟩ := r1
      rw [rounds_succ]
      refine hx q (ex, q1) a w _ e g fun a' w' g' => ?_
      cases ex with
      | normal =>
        rw [seqV_normal] at h
        cases e2 : headV gh id q1 with
        | none => rw [e2, bnd_none] at h; cases h
        | some q2 =>
          rw [e2, bnd_some] at h
          exact loop_sound hM hf hx hk n q2 a' w' h (headV_sound hM e2 g')
      | exit i => rw [seqV_exit] at h; injection h with h; subst h; exact hk a' w' g'
      | ret => rw [seqV_ret] at h; injection h with h; subst h; exact hk a' w' g'
theorem code_sound (hC : CallOk P G) (hM : MarksOk gh) (hm : P.follows .mixedOrders = true) : ∀ (x : Code) (q : Q) (r : Ex × Q) (a : Act) (w : World) (Q1 : Exit → Act → World → Prop), codeOk gh c.n x = true → evC P G gh x q = some r → GoodQ c q a w → (∀ a w, GoodQ c r.2 a w → Q1 (exOf r.1) a w) → x.wp P Q1 a w
  | x, .off, r, a, w, Q1, _, h, g, k => g.elim
  | .skip, .on s, r, a, w, Q1, _, h, g, k => by
    rw [evC_skip] at h; injection h with h; subst h
    exact wp_skip (k a w g)
  | .label l, .on s, r, a, w, Q1, _, h, g, k => by
    rw [evC_label] at h; injection h with h; subst h
    exact wp_label (k a w g)
  | .exit i, .on s, r, a, w, Q1, _, h, g, k => by
    rw [evC_exit] at h; injection h with h; subst h
    exact wp_exit (k a w g)
  | .ret, .on s, r, a, w, Q1, _, h, g, k => by
    rw [evC_ret] at h; injection h with h; subst h
    exact wp_ret (k a w g)
  | .region id ops d, .on s, r, a, w, Q1, ho, h, g, k => by
    unfold codeOk at ho
    rw [Bool.and_eq_true] at ho
    obtain ⟨h1, ho⟩ := ho
    rw [evC_region] at h
    obtain ⟨q1, h2, h⟩ := bnd_eq_some h
    obtain ⟨q2, h3, h⟩ := bnd_eq_some h
    injection h with h; subst h
    cases e : gh.reg id s with
    | none => rw [e] at h2; cases h2
    | some s1 =>
      rw [e, onQ_some] at h2; injection h2 with h2; subst h2
      have h1 := List.all_eq_true.1 h1
      have g1 := hM.reg c id s s1 e a w g
      cases d with
      | false =>
        rw [regV_text] at h3
        cases q2 with
        | off => exact absurd h3 (evOps_on _ _)
        | on s2 => exact wp_region_list (ops_sound hC h1 h3 g1 k)
      | true =>
        unfold regV at h3
        rw [if_pos rfl] at h3
        rw [Bool.not_true, Bool.false_or] at ho
        cases q2 with
        | off => exact absurd h3 (evDrw_on _ _)
        | on s2 => exact drw_sound hC hm ho h1 h3 g1 k
  | .seq x y, .on s, r, a, w, Q1, ho, h, g, k => by
    unfold codeOk at ho
    simp only [Bool.and_eq_true] at ho
    rw [evC_seq] at h
    cases e : evC P G gh x (.on s) with
    | none => rw [e, seqV_none] at h; cases h
    | some r1 =>
      rw [e] at h
      obtain ⟨ex, q1⟩ := r1
      refine wp_seq (code_sound hC hM hm x (.on s) (ex, q1) a w _ ho.1 e g fun a' w' g' => ?_)
      cases ex with
      | normal => rw [seqV_normal] at h; exact code_sound hC hM hm y q1 r a' w' Q1 ho.2 h g' k
      | exit i => rw [seqV_exit] at h; injection h with h; subst h; exact k a' w' g'
      | ret => rw [seqV_ret] at h; injection h with h; subst h; exact k a' w' g'
  | .cond cd x y, .on s, r, a, w, Q1, ho, h, g, k => by
    unfold codeOk at ho
    simp only [Bool.and_eq_true] at ho
    rw [evC_cond] at h
    obtain ⟨v, h1, h⟩ := bnd_eq_some h
    obtain ⟨b, h2, h⟩ := bnd_eq_some h
    rw [boolOf_some h2] at h1
    obtain ⟨y', A⟩ := g
    have hc : a.eval cd = .bool b := A.ev h1
    refine wp_cond hc ?_
    cases b with
    | true => exact code_sound hC hM hm x (.on s) r a w Q1 ho.1 h ⟨y', A⟩ k
    | false => exact code_sound hC hM hm y (.on s) r a w Q1 ho.2 h ⟨y', A⟩ k
  | .block id x, .on s, r, a, w, Q1, ho, h, g, k => by
    unfold codeOk at ho
    rw [evC_block] at h
    obtain ⟨r1, h1, h⟩ := bnd_eq_some h
    obtain ⟨ex, q1⟩ := r1
    refine wp_block (code_sound hC hM hm x (.on s) (ex, q1) a w _ ho h1 g fun a' w' g' => ?_)
    cases ex with
    | normal => simp only [blockV] at h; injection h with h; subst h; exact k a' w' g'
    | ret => simp only [blockV] at h; injection h with h; subst h; exact k a' w' g'
    | exit j =>
      simp only [blockV] at h
      by_cases hj : j = id
      · rw [if_pos hj] at h; injection h with h; subst h
        show Exit.inBlock id Q1 (.exit j) a' w'
        simp only [Exit.inBlock, if_pos hj]
        exact k a' w' g'
      · rw [if_neg hj] at h; injection h with h; subst h
        show Exit.inBlock id Q1 (.exit j) a' w'
        simp only [Exit.inBlock, if_neg hj]
        exact k a' w' g'
  | .scope x, .on s, r, a, w, Q1, ho, h, g, k => by
    unfold codeOk at ho
    rw [evC_scope] at h
    refine wp_scope_straight (code_sound hC hM hm x (.on s) r a w _ ho h g fun a' w' g' => ?_)
    have := k a' w' g'
    cases e : r.1 <;> rw [e] at this <;> exact this
  | .loop x, .on s, r, a, w, Q1, ho, h, g, k => by
    unfold codeOk at ho
    rw [evC_loop] at h
    obtain ⟨q1, h1, h⟩ := bnd_eq_some h
    obtain ⟨n, hn⟩ := loopV_some h
    have g1 : GoodQ c q1 a w := headV_sound hM (id := Code.first x) (q := .on s) (by rw [headV_on]; exact h1) g
    refine wp_loop_rounds n (loop_sound (G := G) (id := Code.first x) hM (fun q => rfl) (fun q r1 a w Q2 e g' k' => code_sound hC hM hm x q r1 a w Q2 ho e g' k') k n q1 a w hn g1)
  | .goto _, .on _, _, _, _, _, ho, _, _, _ => by cases ho
  | .rangeFunc .., .on _, _, _, _, _, ho, _, _, _ => by cases ho
  | .refuse .., .on _, _, _, _, _, ho, _, _, _ => by cases ho
end
end Go.Proofs.YtnmneoekpikpkaaGreatDoor
namespace Go.Proofs.YtnmneoekpikpkaaGreatDoor
open Go.RowKit
set_option linter.unusedSimpArgs false
set_option linter.unusedVariables false
mutual
theorem RV.sub {ρ ρ' : Rel} (hK : ρ'.K = ρ.K) (hZ : ∀ b o, ρ.Z b o → ρ'.Z b o) (hs : ρ'.src = ρ.src) (hb : ∀ b, ρ.Lb b → ρ'.Lb b ∧ ρ'.bl b = ρ.bl b) :
    ∀ {v : V} {u : Value}, (∀ q, mentions q v = true → ρ.Lt q → ρ'.Lt q ∧ ρ'.hd q = ρ.hd q) → RV ρ v u → RV ρ' v u
  | .v _, _, _, h => h
  | .nil, _, _, h => h
  | .lst _ _, _, _, h => ⟨by rw [hK]; exact h.1, fun j i => by rw [hs]; exact h.2 j i⟩
  | .own q, _, m, h => by
    have := m q (by simp [mentions]) h.1
    exact ⟨this.1, by rw [this.2]; exact h.2⟩
  | .inn q _ _ _, _, m, h => by
    have := m q (by simp [mentions]) h.1
    exact ⟨this.1, by rw [this.2]; exact h.2⟩
  | .fz _, _, _, h => RdD.mono h hZ
  | .ref b _, _, _, h => ⟨(hb b h.1).1, by rw [(hb b h.1).2]; exact h.2⟩
  | .pe _ _ _ _, _, m, h => by obtain ⟨ub, h1, h2⟩ := h; exact ⟨ub, RV.sub hK hZ hs hb (fun q hq => m q (by simpa [mentions] using hq)) h1, h2⟩
  | .agg _, _, m, h => by obtain ⟨us, h1, h2⟩ := h; exact ⟨us, h1, RVs.sub hK hZ hs hb (fun q hq => m q (by simpa [mentions] using hq)) h2⟩
  | .tup _, _, m, h => by obtain ⟨us, h1, h2⟩ := h; exact ⟨us, h1, RVs.sub hK hZ hs hb (fun q hq => m q (by simpa [mentions] using hq)) h2⟩
  | .fn _ _, _, m, h => by obtain ⟨us, h1, h2⟩ := h; exact ⟨us, h1, RVs.sub hK hZ hs hb (fun q hq => m q (by simpa [mentions] using hq)) h2⟩
  | .dead, _, _, _ => trivial
theorem RVs.sub {ρ ρ' : Rel} (hK : ρ'.K = ρ.K) (hZ : ∀ b o, ρ.Z b o → ρ'.Z b o) (hs : ρ'.src = ρ.src) (hb : ∀ b, ρ.Lb b → ρ'.Lb b ∧ ρ'.bl b = ρ.bl b) :
    ∀ {vs : List V} {us : List Value}, (∀ q, mentions.any q vs = true → ρ.Lt q → ρ'.Lt q ∧ ρ'.hd q = ρ.hd q) → RVs ρ vs us → RVs ρ' vs us
  | [], _, _, h => h
  | _ :: _, _, m, h => by
    obtain ⟨u, q, h1, h2, h3⟩ := h
    exact ⟨u, q, h1, RV.sub hK hZ hs hb (fun q hq => m q (by simp [mentions.any, hq])) h2, RVs.sub hK hZ hs hb (fun q hq => m q (by simp [mentions.any, hq])) h3⟩
end
theorem pos_none {k : Nat} : ∀ {l : List Nat} {i : Nat}, pos k l i = none → k ∉ l
  | [], _, _ => by simp
  | j :: r, i, h => by
    simp only [pos] at h
    split at h
    · cases h
    · rename_i e; simp only [List.mem_cons, not_or]; exact ⟨e, pos_none h⟩
theorem pos_some {k : Nat} : ∀ {l : List Nat} {i m : Nat}, pos k l i = some m → ∃ d, m = i + d ∧ l[d]? = some k
  | [], _, _, h => by cases h
  | j :: r, i, m, h => by
    simp only [pos] at h
    split at h
    · rename_i e; subst e; injection h with h; subst h; exact ⟨0, rfl, rfl⟩
    · obtain ⟨d, e1, e2⟩ := pos_some h
      exact ⟨d + 1, by omega, by simpa using e2⟩
structure Lent (ρ ρ' : Rel) (s : S) (ld : Lend) (SU : List Value) : Prop where
  src : ∀ j u, SU[j]? = some u → ρ'.src j = u
  b : ∀ i b, ld.box[i]? = some b → ρ'.Lb i ∧ ρ'.bl i = ρ.bl b
  t : ∀ i p, ld.tree[i]? = some p → ρ'.Lt i ∧ ρ'.hd i = ρ.hd p
  rd : ∀ v ∈ ld.src, ∀ u rows, RV ρ v u → s.rows v = some rows → RdD ρ'.K (.l rows) u
structure Lend.le (l l' : Lend) (U U' : List Value) : Prop where
  src : l.src <+: l'.src
  box : l.box <+: l'.box
  tree : l.tree <+: l'.tree
  val : U <+: U'
theorem Lend.le.refl (l : Lend) (U : List Value) : l.le l U U := ⟨List.prefix_refl _, List.prefix_refl _, List.prefix_refl _, List.prefix_refl _⟩
theorem Lend.le.trans {a b d : Lend} {U V W : List Value} (h : a.le b U V) (k : b.le d V W) : a.le d U W := ⟨h.src.trans k.src, h.box.trans k.box, h.tree.trans k.tree, h.val.trans k.val⟩
structure Lend.ok (l : Lend) (ρ : Rel) (s : S) (U : List Value) : Prop where
  src : RVs ρ l.src U
  nb : l.box.Nodup
  nt : l.tree.Nodup
  kt : ∀ p ∈ l.tree, look p s.fro = none
theorem prefix_get {α : Type} {l l' : List α} (h : l <+: l') {i : Nat} {x : α} (e : l[i]? = some x) : l'[i]? = some x := by
  obtain ⟨t, rfl⟩ := h
  rw [List.getElem?_append_left (List.getElem?_eq_some_iff.1 e).1]; exact e
theorem prefix_mem {α : Type} {l l' : List α} (h : l <+: l') {x : α} (e : x ∈ l) : x ∈ l' := by
  obtain ⟨t, rfl⟩ := h
  exact List.mem_append_left _ e
section
variable {ρ : Rel} {s : S}
def Seen (ρ : Rel) (s : S) (l : Lend) (U : List Value) (v' : V) (u : Value) : Prop := ∀ (ρ' : Rel) (ld : Lend) (SU : List Value), l.le ld U SU → Lent ρ ρ' s ld SU → RV ρ' v' u
def Seens (ρ : Rel) (s : S) (l : Lend) (U : List Value) (vs : List V) (us : List Value) : Prop := ∀ (ρ' : Rel) (ld : Lend) (SU : List Value), l.le ld U SU → Lent ρ ρ' s ld SU → RVs ρ' vs us
theorem lend_list {l : Lend} {U : List Value} (o : l.ok ρ s U) {v : V} {u : Value} {rows : List (List D)} (hv : RV ρ v u) (hr : s.rows v = some rows) :
    ∃ U', l.le { l with src := l.src ++ [v] } U U' ∧ Lend.ok { l with src := l.src ++ [v] } ρ s U' ∧ Seen ρ s { l with src := l.src ++ [v] } U' (.lst (some l.src.length) rows) u := by
  have hl := o.src.len
  refine ⟨U ++ [u], ⟨List.prefix_append _ _, List.prefix_refl _, List.prefix_refl _, List.prefix_append _ _⟩, ⟨o.src.app ⟨u, [], rfl, hv, rfl⟩, o.nb, o.nt, o.kt⟩, fun ρ' ld SU le L => ?_⟩
  refine ⟨L.rd v (prefix_mem le.src (by simp)) u rows hv hr, fun j e => ?_⟩
  injection e with e; subst e
  exact L.src _ _ (prefix_get le.val (by rw [← hl]; simp))
mutual
theorem lendV_sound : ∀ {l l' : Lend} {U : List Value} {v v' : V} {u : Value}, l.ok ρ s U → lendV s l v = some (v', l') → RV ρ v u → ∃ U', l.le l' U U' ∧ l'.ok ρ s U' ∧ Seen ρ s l' U' v' u
  | l, l', U, .v x, v', u, o, h, hv => by
    simp only [lendV] at h; injection h with h; injection h with h1 h2; subst h1; subst h2
    exact ⟨U, Lend.le.refl _ _, o, fun _ _ _ _ _ => hv⟩
  | l, l', U, .ref b off, v', u, o, h, hv => by
    simp only [lendV] at h
    cases e : pos b l.box 0 with
    | some i =>
      rw [e] at h; simp only [lendRef] at h; injection h with h; injection h with h1 h2; subst h1; subst h2
      obtain ⟨d, e1, e2⟩ := pos_some e
      have : i = d := by omega
      subst this
      refine ⟨U, Lend.le.refl _ _, ⟨o.src, o.nb, o.nt, o.kt⟩, fun ρ' ld SU le L => ?_⟩
      obtain ⟨k1, k2⟩ := L.b i b (prefix_get le.box e2)
      exact ⟨k1, by rw [k2]; exact hv.2⟩
    | none =>
      rw [e] at h; simp only [lendRef] at h; injection h with h; injection h with h1 h2; subst h1; subst h2
      have hn := pos_none e
      refine ⟨U, ⟨List.prefix_refl _, List.prefix_append _ _, List.prefix_refl _, List.prefix_refl _⟩, ⟨o.src, ?_, o.nt, o.kt⟩, fun ρ' ld SU le L => ?_⟩
      · exact List.nodup_append.2 ⟨o.nb, by simp, fun x hx z hz e9 => by simp at hz; rw [e9, hz] at hx; exact hn hx⟩
      · obtain ⟨k1, k2⟩ := L.b l.box.length b (prefix_get le.box (by simp))
        exact ⟨k1, by rw [k2]; exact hv.2⟩
  | l, l', U, .agg cs, v', u, o, h, hv => by
    simp only [lendV] at h
    obtain ⟨x, h1, h⟩ := bnd_eq_some h
    injection h with h; injection h with h2 h3; subst h2; subst h3
    obtain ⟨us, e1, e2⟩ := hv
    obtain ⟨U', k1, k2, k3⟩ := lendL_sound (l' := x.2) (vs' := x.1) o h1 e2
    exact ⟨U', k1, k2, fun ρ' ld SU le L => ⟨us, e1, k3 ρ' ld SU le L⟩⟩
  | l, l', U, .fn f cs, v', u, o, h, hv => by
    simp only [lendV] at h
    obtain ⟨x, h1, h⟩ := bnd_eq_some h
    injection h with h; injection h with h2 h3; subst h2; subst h3
    obtain ⟨us, e1, e2⟩ := hv
    obtain ⟨U', k1, k2, k3⟩ := lendL_sound (l' := x.2) (vs' := x.1) o h1 e2
    exact ⟨U', k1, k2, fun ρ' ld SU le L => ⟨us, e1, k3 ρ' ld SU le L⟩⟩
  | l, l', U, .nil, v', u, o, h, hv => by
    simp only [lendV] at h; injection h with h; injection h with h1 h2; subst h1; subst h2
    exact lend_list o hv rfl
  | l, l', U, .lst q rows, v', u, o, h, hv => by
    simp only [lendV] at h; injection h with h; injection h with h1 h2; subst h1; subst h2
    exact lend_list o hv rfl
  | l, l', U, .fz rows, v', u, o, h, hv => by
    simp only [lendV] at h; injection h with h; injection h with h1 h2; subst h1; subst h2
    exact lend_list o hv rfl
  | l, l', U, .own p, v', u, o, h, hv => by
    simp only [lendV] at h
    obtain ⟨rows, h1, h⟩ := bnd_eq_some h
    injection h with h; injection h with h2 h3; subst h2; subst h3
    exact lend_list o hv h1
  | l, l', U, .inn p i1 j1 k1, v', u, o, h, hv => by
    simp only [lendV] at h
    obtain ⟨rows, h1, h⟩ := bnd_eq_some h
    injection h with h; injection h with h2 h3; subst h2; subst h3
    exact lend_list o hv h1
  | l, l', U, .pe _ _ _ _, v', u, o, h, hv => by simp only [lendV] at h; cases h
  | l, l', U, .tup _, v', u, o, h, hv => by simp only [lendV] at h; cases h
  | l, l', U, .dead, v', u, o, h, hv => by simp only [lendV] at h; cases h
theorem lendL_sound : ∀ {l l' : Lend} {U : List Value} {vs vs' : List V} {us : List Value}, l.ok ρ s U → lendL s l vs = some (vs', l') → RVs ρ vs us → ∃ U', l.le l' U U' ∧ l'.ok ρ s U' ∧ Seens ρ s l' U' vs' us
  | l, l', U, [], vs', us, o, h, hv => by
    simp only [lendL] at h; injection h with h; injection h with h1 h2; subst h1; subst h2
    exact ⟨U, Lend.le.refl _ _, o, fun _ _ _ _ _ => hv⟩
  | l, l', U, v :: vs, vs', us, o, h, hv => by
    simp only [lendL] at h
    obtain ⟨x, h1, h⟩ := bnd_eq_some h
    obtain ⟨z, h2, h⟩ := bnd_eq_some h
    injection h with h; injection h with h3 h4; subst h3; subst h4
    obtain ⟨u, q, rfl, e1, e2⟩ := hv
    obtain ⟨U1, a1, a2, a3⟩ := lendV_sound (l' := x.2) (v' := x.1) o h1 e1
    obtain ⟨U2, b1, b2, b3⟩ := lendL_sound (l' := z.2) (vs' := z.1) a2 h2 e2
    exact ⟨U2, a1.trans b1, b2, fun ρ' ld SU le L => ⟨u, q, rfl, a3 ρ' ld SU (b1.trans le) L, b3 ρ' ld SU le L⟩⟩
end
theorem lendCells_sound (hap : ∀ (p : Nat) (r1 r2 : List (List D)), look p s.tree = some r1 → look p s.fro = some r2 → False) : ∀ {l l' : Lend} {U : List Value} {vs vs' : List V} {us : List Value}, l.ok ρ s U → lendCells s l vs = some (vs', l') → RVs ρ vs us → ∃ U', l.le l' U U' ∧ l'.ok ρ s U' ∧ Seens ρ s l' U' vs' us
  | l, l', U, [], vs', us, o, h, hv => by
    simp only [lendCells] at h; injection h with h; injection h with h1 h2; subst h1; subst h2
    exact ⟨U, Lend.le.refl _ _, o, fun _ _ _ _ _ => hv⟩
  | l, l', U, v :: vs, vs', us, o, h, hv => by
    obtain ⟨u, q, rfl, e1, e2⟩ := hv
    have gen : (bnd (lendV s l v) fun x => bnd (lendCells s x.2 vs) fun y => some (x.1 :: y.1, y.2)) = some (vs', l') → ∃ U', l.le l' U U' ∧ l'.ok ρ s U' ∧ Seens ρ s l' U' vs' (u :: q) := by
      intro h
      obtain ⟨x, h1, h⟩ := bnd_eq_some h
      obtain ⟨z, h2, h⟩ := bnd_eq_some h
      injection h with h; injection h with h3 h4; subst h3; subst h4
      obtain ⟨U1, a1, a2, a3⟩ := lendV_sound (l' := x.2) (v' := x.1) o h1 e1
      obtain ⟨U2, b1, b2, b3⟩ := lendCells_sound hap (l' := z.2) (vs' := z.1) a2 h2 e2
      exact ⟨U2, a1.trans b1, b2, fun ρ' ld SU le L => ⟨u, q, rfl, a3 ρ' ld SU (b1.trans le) L, b3 ρ' ld SU le L⟩⟩
    cases v with
    | own p =>
      simp only [lendCells] at h
      cases e : pos p l.tree 0 with
      | some i => rw [e] at h; simp only [lendOwn] at h; cases h
      | none =>
        have hn := pos_none e
        rw [e] at h
        cases e3 : look p s.fro with
        | some rows =>
          rw [e3] at h; simp only [lendOwn] at h
          obtain ⟨x, h1, h⟩ := bnd_eq_some h
          injection h with h; injection h with h3 h4; subst h3; subst h4
          have hr : s.rows (.own p) = some rows := by
            simp only [S.rows]
            cases e4 : look p s.tree with
            | none => rw [e3]; rfl
            | some r0 => exact (hap p r0 rows e4 e3).elim
          obtain ⟨U1, a1, a2, a3⟩ := lend_list o e1 hr
          obtain ⟨U2, b1, b2, b3⟩ := lendCells_sound hap (l' := x.2) (vs' := x.1) a2 h1 e2
          exact ⟨U2, a1.trans b1, b2, fun ρ' ld SU le L => ⟨u, q, rfl, a3 ρ' ld SU (b1.trans le) L, b3 ρ' ld SU le L⟩⟩
        | none =>
          rw [e3] at h; simp only [lendOwn] at h
          obtain ⟨x, h1, h⟩ := bnd_eq_some h
          injection h with h; injection h with h3 h4; subst h3; subst h4
          have o' : Lend.ok ⟨l.src, l.box, l.tree ++ [p]⟩ ρ s U := ⟨o.src, o.nb, List.nodup_append.2 ⟨o.nt, by simp, fun x hx z hz e9 => by simp at hz; rw [e9, hz] at hx; exact hn hx⟩, fun p' hp' => by
            rcases List.mem_append.1 hp' with hp' | hp'
            · exact o.kt p' hp'
            · simp at hp'; subst hp'; exact e3⟩
          obtain ⟨U2, b1, b2, b3⟩ := lendCells_sound hap (l' := x.2) (vs' := x.1) o' h1 e2
          have le0 : l.le ⟨l.src, l.box, l.tree ++ [p]⟩ U U := ⟨List.prefix_refl _, List.prefix_refl _, List.prefix_append _ _, List.prefix_refl _⟩
          refine ⟨U2, le0.trans b1, b2, fun ρ' ld SU le L => ⟨u, q, rfl, ?_, b3 ρ' ld SU le L⟩⟩
          obtain ⟨k1, k2⟩ := L.t l.tree.length p (prefix_get (b1.trans le).tree (by simp))
          exact ⟨k1, by rw [k2]; exact e1.2⟩
    | dead =>
      simp only [lendCells] at h
      obtain ⟨x, h1, h⟩ := bnd_eq_some h
      injection h with h; injection h with h3 h4; subst h3; subst h4
      obtain ⟨U2, b1, b2, b3⟩ := lendCells_sound hap (l' := x.2) (vs' := x.1) o h1 e2
      exact ⟨U2, b1, b2, fun ρ' ld SU le L => ⟨u, q, rfl, trivial, b3 ρ' ld SU le L⟩⟩
    | _ => simp only [lendCells] at h; exact gen h
theorem lendM_sound (hap : ∀ (p : Nat) (r1 r2 : List (List D)), look p s.tree = some r1 → look p s.fro = some r2 → False) : ∀ {l l' : Lend} {U : List Value} {vs vs' : List V} {us : List Value}, l.ok ρ s U → lendM s l vs = some (vs', l') → RVs ρ vs us → ∃ U', l.le l' U U' ∧ l'.ok ρ s U' ∧ Seens ρ s l' U' vs' us
  | l, l', U, [], vs', us, o, h, hv => by
    simp only [lendM] at h; injection h with h; injection h with h1 h2; subst h1; subst h2
    exact ⟨U, Lend.le.refl _ _, o, fun _ _ _ _ _ => hv⟩
  | l, l', U, v :: vs, vs', us, o, h, hv => by
    obtain ⟨u, q, rfl, e1, e2⟩ := hv
    have gen : (bnd (lendCells s l [v]) fun x => bnd (lendM s x.2 vs) fun y => some (x.1 ++ y.1, y.2)) = some (vs', l') → ∃ U', l.le l' U U' ∧ l'.ok ρ s U' ∧ Seens ρ s l' U' vs' (u :: q) := by
      intro h
      obtain ⟨x, h1, h⟩ := bnd_eq_some h
      obtain ⟨z, h2, h⟩ := bnd_eq_some h
      injection h with h; injection h with h3 h4; subst h3; subst h4
      obtain ⟨U1, a1, a2, a3⟩ := lendCells_sound hap (l' := x.2) (vs' := x.1) (vs := [v]) (us := [u]) o h1 ⟨u, [], rfl, e1, rfl⟩
      obtain ⟨U2, b1, b2, b3⟩ := lendM_sound hap (l' := z.2) (vs' := z.1) a2 h2 e2
      exact ⟨U2, a1.trans b1, b2, fun ρ' ld SU le L => (a3 ρ' ld SU (b1.trans le) L).app (b3 ρ' ld SU le L)⟩
    cases v with
    | agg cs =>
      simp only [lendM] at h
      obtain ⟨us, k1, k2⟩ := e1
      obtain ⟨x, h1, h⟩ := bnd_eq_some h
      obtain ⟨z, h2, h⟩ := bnd_eq_some h
      injection h with h; injection h with h3 h4; subst h3; subst h4
      obtain ⟨U1, a1, a2, a3⟩ := lendCells_sound hap (l' := x.2) (vs' := x.1) o h1 k2
      obtain ⟨U2, b1, b2, b3⟩ := lendM_sound hap (l' := z.2) (vs' := z.1) a2 h2 e2
      exact ⟨U2, a1.trans b1, b2, fun ρ' ld SU le L => ⟨u, q, rfl, ⟨us, k1, a3 ρ' ld SU (b1.trans le) L⟩, b3 ρ' ld SU le L⟩⟩
    | _ => simp only [lendM] at h; exact gen h
theorem lendA_sound (hap : ∀ (p : Nat) (r1 r2 : List (List D)), look p s.tree = some r1 → look p s.fro = some r2 → False) {m : Bool} {l l' : Lend} {U : List Value} {vs vs' : List V} {us : List Value} (o : l.ok ρ s U) (h : lendA m s l vs = some (vs', l')) (hv : RVs ρ vs us) : ∃ U', l.le l' U U' ∧ l'.ok ρ s U' ∧ Seens ρ s l' U' vs' us := by
  unfold lendA at h
  split at h
  · exact lendM_sound hap o h hv
  · exact lendL_sound o h hv
end
end Go.Proofs.YtnmneoekpikpkaaGreatDoor
namespace Go.Proofs.YtnmneoekpikpkaaGreatDoor
open Go.RowKit
set_option linter.unusedSimpArgs false
set_option linter.unusedVariables false
theorem perm_of_mem {l1 : List Nat} : ∀ {l2 : List Nat}, l1.Nodup → l2.Nodup → (∀ x, x ∈ l1 ↔ x ∈ l2) → l1.Perm l2 := by
  induction l1 with
  | nil =>
    intro l2 _ _ h
    cases l2 with
    | nil => exact List.Perm.refl _
    | cons x l => exact absurd ((h x).2 (by simp)) (by simp)
  | cons a t ih =>
    intro l2 n1 n2 h
    have ha : a ∈ l2 := (h a).1 (by simp)
    obtain ⟨p, q, rfl⟩ := List.append_of_mem ha
    have n3 := List.perm_middle.nodup_iff.1 n2
    have n4 := List.nodup_cons.1 n3
    have n5 := List.nodup_cons.1 n1
    refine (List.Perm.cons a (ih n5.2 n4.2 fun x => ?_)).trans List.perm_middle.symm
    constructor
    · intro hx
      have := (h x).1 (by simp [hx])
      rcases List.mem_append.1 this with h1 | h1
      · exact List.mem_append_left _ h1
      · rcases List.mem_cons.1 h1 with h1 | h1
        · subst h1; exact absurd hx n5.1
        · exact List.mem_append_right _ h1
    · intro hx
      have : x ∈ a :: t := (h x).2 (by
        rcases List.mem_append.1 hx with h1 | h1
        · exact List.mem_append_left _ h1
        · exact List.mem_append_right _ (List.mem_cons_of_mem _ h1))
      rcases List.mem_cons.1 this with h1 | h1
      · subst h1; exact absurd hx n4.1
      · exact h1
section
variable {α : Type}
theorem key_look {k : Nat} {l : List (Nat × α)} : k ∈ l.map (·.1) ↔ ∃ x, look k l = some x := by
  constructor
  · intro h
    cases e : look k l with
    | none => exact absurd h (look_none e)
    | some x => exact ⟨x, rfl⟩
  · intro ⟨x, h⟩
    exact List.mem_map.2 ⟨_, look_mem h, rfl⟩
theorem look_upd {k : Nat} {x : α} : ∀ {l : List (Nat × α)} (j : Nat), look j (upd k x l) = if j = k then (look j l).map (fun _ => x) else look j l
  | [], j => by simp only [upd, look]; split <;> rfl
  | (i, y) :: r, j => by
    unfold upd
    by_cases h : k = i
    · subst h; rw [if_pos rfl]; simp only [look]
      by_cases h3 : j = k
      · subst h3; rw [if_pos rfl, if_pos rfl, if_pos rfl]; rfl
      · rw [if_neg h3, if_neg h3, if_neg h3]
    · rw [if_neg h]; simp only [look]
      by_cases h3 : j = i
      · subst h3; rw [if_pos rfl, if_pos rfl, if_neg fun e => h e.symm]
      · rw [if_neg h3, if_neg h3, look_upd j]
theorem drop1_mem {k : Nat} : ∀ {l : List (Nat × α)} {q : Nat}, q ∈ (drop1 k l).map (·.1) ↔ q ∈ l.map (·.1) ∧ q ≠ k := by
  intro l q
  rw [key_look, key_look]
  rw [look_drop1]
  by_cases h : q = k
  · rw [if_pos h]; simp [h]
  · rw [if_neg h]; simp [h]
theorem drop1_nodup {k : Nat} : ∀ {l : List (Nat × α)}, (l.map (·.1)).Nodup → ((drop1 k l).map (·.1)).Nodup
  | [], h => h
  | (i, z) :: r, h => by
    simp only [List.map_cons, List.nodup_cons] at h
    unfold drop1
    split
    · exact drop1_nodup h.2
    · rw [List.map_cons, List.nodup_cons]
      exact ⟨fun hx => h.1 (drop1_mem.1 hx).1, drop1_nodup h.2⟩
theorem map_look {β : Type} {f : Nat × α → β} (d : α) {l : List (Nat × α)} (n : (l.map (·.1)).Nodup) : l.map f = (l.map (·.1)).map fun k => f (k, (look k l).getD d) := by
  rw [List.map_map]
  apply List.map_congr_left
  intro x hx
  have := look_of_mem n (k := x.1) (x := x.2) hx
  simp only [Function.comp, this, Option.getD_some]
theorem withIdx_look : ∀ {l : List α} {n : Nat} (i : Nat), look (n + i) (withIdx n l) = l[i]?
  | [], n, i => by simp only [withIdx, look]; simp
  | x :: r, n, 0 => by simp only [withIdx, look]; simp
  | x :: r, n, i + 1 => by
    simp only [withIdx, look]
    rw [if_neg (by omega), show n + (i + 1) = n + 1 + i by omega, withIdx_look i]
    simp
theorem withIdx_keys : ∀ {l : List α} {n : Nat}, (withIdx n l).map (·.1) = List.range' n l.length
  | [], n => rfl
  | x :: r, n => by
    simp only [withIdx, List.map_cons, List.length_cons, List.range'_succ]
    rw [withIdx_keys]
theorem withIdx_nodup {l : List α} {n : Nat} : ((withIdx n l).map (·.1)).Nodup := by
  rw [withIdx_keys]; exact List.nodup_range'
end
theorem pos_get : ∀ {l : List Nat} {i : Nat} {b n : Nat}, l.Nodup → l[i]? = some b → pos b l n = some (n + i)
  | [], i, b, n, _, h => by simp at h
  | a :: r, 0, b, n, _, h => by simp at h; subst h; simp only [pos]; simp
  | a :: r, i + 1, b, n, nd, h => by
    simp only [pos]
    have h : r[i]? = some b := by simpa using h
    have nd := List.nodup_cons.1 nd
    rw [if_neg (fun e => nd.1 (by rw [← e]; exact List.mem_of_getElem? h)), pos_get nd.2 h]
    congr 1; omega
def Left (rt : List (Nat × List (List D))) (ps : List Nat) (i : Nat) (v : V) : Prop := ∀ j p, ps[j]? = some p → look (i + j) rt = none → mentions p v = false
theorem backTrees_fro (rt : List (Nat × List (List D))) : ∀ (ps : List Nat) (i : Nat) (s : S), (backTrees rt ps i s).fro = s.fro
  | [], _, _ => rfl
  | p :: ps, i, s => by
    simp only [backTrees]
    rw [backTrees_fro rt ps]
    cases look i rt <;> rfl
theorem backTrees_keys (rt : List (Nat × List (List D))) : ∀ (ps : List Nat) (i : Nat) (s : S), (backTrees rt ps i s).box.map (·.1) = s.box.map (·.1)
  | [], _, _ => rfl
  | p :: ps, i, s => by
    simp only [backTrees]
    rw [backTrees_keys rt ps]
    cases look i rt with
    | none => exact killB_keys p s.box
    | some r => rfl
theorem backTrees_env {rt : List (Nat × List (List D))} : ∀ {ps : List Nat} {i : Nat} {s : S} {t : Nat} {v : V}, look t (backTrees rt ps i s).env = some v → v = .dead ∨ (look t s.env = some v ∧ Left rt ps i v)
  | [], _, _, _, _, h => .inr ⟨h, fun j p e => by simp at e⟩
  | p :: ps, i, s, t, v, h => by
    simp only [backTrees] at h
    rcases backTrees_env h with h1 | ⟨h1, h2⟩
    · exact .inl h1
    · cases e : look i rt with
      | some r =>
        rw [e] at h1
        refine .inr ⟨h1, fun j q e1 e2 => ?_⟩
        cases j with
        | zero => rw [Nat.add_zero, e] at e2; cases e2
        | succ j => exact h2 j q (by simpa using e1) (by rw [show i + 1 + j = i + (j + 1) by omega]; exact e2)
      | none =>
        rw [e] at h1
        have h1 : look t (killE p s.env) = some v := h1
        rw [look_killE] at h1
        obtain ⟨v0, h3, h4⟩ := Option.map_eq_some_iff.1 h1
        cases e3 : mentions p v0 with
        | true => rw [e3, if_pos rfl] at h4; exact .inl h4.symm
        | false =>
          rw [e3, if_neg (by simp)] at h4; subst h4
          refine .inr ⟨h3, fun j q e1 e2 => ?_⟩
          cases j with
          | zero => simp at e1; subst e1; exact e3
          | succ j => exact h2 j q (by simpa using e1) (by rw [show i + 1 + j = i + (j + 1) by omega]; exact e2)
theorem killC_len (p : Nat) : ∀ (l : List V), (killC p l).length = l.length
  | [] => rfl
  | v :: r => by simp only [killC, List.length_cons, killC_len p r]
theorem killC_get {p : Nat} : ∀ {l : List V} {k : Nat} {v : V}, (killC p l)[k]? = some v → v = .dead ∨ (l[k]? = some v ∧ mentions p v = false)
  | [], k, v, h => by simp [killC] at h
  | x :: r, 0, v, h => by
    simp only [killC, List.getElem?_cons_zero, Option.some.injEq] at h
    cases e : mentions p x with
    | true => rw [e, if_pos rfl] at h; exact .inl h.symm
    | false => rw [e, if_neg (by simp)] at h; subst h; exact .inr ⟨by simp, e⟩
  | x :: r, k + 1, v, h => by
    simp only [killC, List.getElem?_cons_succ] at h ⊢
    exact killC_get h
theorem backTrees_box {rt : List (Nat × List (List D))} : ∀ {ps : List Nat} {i : Nat} {s : S} {b : Nat} {cs : List V}, (b, cs) ∈ (backTrees rt ps i s).box → ∃ cs0, (b, cs0) ∈ s.box ∧ cs.length = cs0.length ∧ ∀ (k : Nat) (v : V), cs[k]? = some v → v = .dead ∨ (cs0[k]? = some v ∧ Left rt ps i v)
  | [], _, _, b, cs, h => ⟨cs, h, rfl, fun k v e => .inr ⟨e, fun j p e => by simp at e⟩⟩
  | p :: ps, i, s, b, cs, h => by
    simp only [backTrees] at h
    obtain ⟨cs1, h1, h2, h3⟩ := backTrees_box h
    cases e : look i rt with
    | some r =>
      rw [e] at h1
      refine ⟨cs1, h1, h2, fun k v ek => (h3 k v ek).imp _root_.id fun h4 => ⟨h4.1, fun j q e1 e2 => ?_⟩⟩
      cases j with
      | zero => rw [Nat.add_zero, e] at e2; cases e2
      | succ j => exact h4.2 j q (by simpa using e1) (by rw [show i + 1 + j = i + (j + 1) by omega]; exact e2)
    | none =>
      rw [e] at h1
      obtain ⟨cs0, h5, rfl⟩ := mem_killB (show (b, cs1) ∈ killB p s.box from h1)
      refine ⟨cs0, h5, h2.trans (killC_len p cs0), fun k v ek => ?_⟩
      rcases h3 k v ek with h6 | ⟨h6, h7⟩
      · exact .inl h6
      · rcases killC_get h6 with h8 | ⟨h8, h9⟩
        · exact .inl h8
        · refine .inr ⟨h8, fun j q e1 e2 => ?_⟩
          cases j with
          | zero => simp at e1; subst e1; exact h9
          | succ j => exact h7 j q (by simpa using e1) (by rw [show i + 1 + j = i + (j + 1) by omega]; exact e2)
theorem backTrees_tree {rt : List (Nat × List (List D))} : ∀ {ps : List Nat} {i : Nat} {s : S}, ps.Nodup → (∀ p ∈ ps, p ∈ s.tree.map (·.1)) → (s.tree.map (·.1)).Nodup → ((backTrees rt ps i s).tree.map (·.1)).Nodup ∧ ∀ n, look n (backTrees rt ps i s).tree = match pos n ps i with | some m => look m rt | none => look n s.tree
  | [], i, s, _, _, nd => ⟨nd, fun n => rfl⟩
  | p :: ps, i, s, n1, hp, nd => by
    have n2 := List.nodup_cons.1 n1
    simp only [backTrees]
    have h1 : ∀ q ∈ ps, q ∈ (backOne s p (look i rt)).tree.map (·.1) := by
      intro q hq
      have := hp q (by simp [hq])
      cases look i rt with
      | some r => show q ∈ (upd p r s.tree).map (·.1); rw [upd_keys]; exact this
      | none => exact drop1_mem.2 ⟨this, fun e => n2.1 (by rw [← e]; exact hq)⟩
    have h2 : ((backOne s p (look i rt)).tree.map (·.1)).Nodup := by
      cases look i rt with
      | some r => show ((upd p r s.tree).map (·.1)).Nodup; rw [upd_keys]; exact nd
      | none => exact drop1_nodup nd
    obtain ⟨a1, a2⟩ := backTrees_tree (rt := rt) (i := i + 1) n2.2 h1 h2
    refine ⟨a1, fun n => ?_⟩
    rw [a2 n]
    simp only [pos]
    by_cases h : n = p
    · subst h
      rw [if_pos rfl]
      cases e : pos n ps (i + 1) with
      | some m => exfalso; obtain ⟨d, _, e2⟩ := pos_some e; exact n2.1 (List.mem_of_getElem? e2)
      | none =>
        simp only
        obtain ⟨r0, hr0⟩ := key_look.1 (hp n (by simp))
        cases e3 : look i rt with
        | some r => show look n (upd n r s.tree) = some r; rw [look_upd, if_pos rfl, hr0]; rfl
        | none => show look n (drop1 n s.tree) = none; rw [look_drop1, if_pos rfl]
    · rw [if_neg h]
      cases e : pos n ps (i + 1) with
      | some m => rfl
      | none =>
        simp only
        cases e3 : look i rt with
        | some r => show look n (upd p r s.tree) = _; rw [look_upd, if_neg h]
        | none => show look n (drop1 p s.tree) = _; rw [look_drop1, if_neg h]
theorem addTrees_spec {ld : Lend} {t : Nat} : ∀ {rt : List (Nat × List (List D))} {s s' : S}, addTrees ld t rt s = some s' → (rt.map (·.1)).Nodup → (s.tree.map (·.1)).Nodup → (∀ q q', nameOf ld t q = nameOf ld t q' → ¬ q < ld.tree.length → ¬ q' < ld.tree.length → q = q') →
    s'.env = s.env ∧ s'.box = s.box ∧ s'.fro = s.fro ∧ (s'.tree.map (·.1)).Nodup ∧ (∀ n, n ∈ s'.tree.map (·.1) ↔ n ∈ s.tree.map (·.1) ∨ ∃ q, q ∈ rt.map (·.1) ∧ ¬ q < ld.tree.length ∧ nameOf ld t q = n) ∧
    (∀ q rows, (q, rows) ∈ rt → ¬ q < ld.tree.length → look (nameOf ld t q) s'.tree = some rows ∧ look (nameOf ld t q) s.tree = none ∧ look (nameOf ld t q) s.fro = none ∧ nameOf ld t q < 1000000000) ∧ (∀ n rows, look n s.tree = some rows → look n s'.tree = some rows)
  | [], s, s', h, _, nd, _ => by
    simp only [addTrees] at h; injection h with h; subst h
    exact ⟨rfl, rfl, rfl, nd, (fun n => by simp), (fun q rows h => by cases h), fun n rows h => h⟩
  | (q, rows) :: r, s, s', h, n1, nd, inj => by
    simp only [List.map_cons, List.nodup_cons] at n1
    simp only [addTrees] at h
    by_cases hq : q < ld.tree.length
    · rw [if_pos hq] at h
      obtain ⟨a1, a2, a3, a4, a5, a6, a7⟩ := addTrees_spec h n1.2 nd inj
      refine ⟨a1, a2, a3, a4, fun n => ?_, fun q' rows' hm hq' => ?_, a7⟩
      · rw [a5 n]
        constructor
        · rintro (h | ⟨q', h1, h2, h3⟩)
          · exact .inl h
          · exact .inr ⟨q', by simp only [List.map_cons, List.mem_cons]; exact .inr h1, h2, h3⟩
        · rintro (h | ⟨q', h1, h2, h3⟩)
          · exact .inl h
          · simp only [List.map_cons, List.mem_cons] at h1
            rcases h1 with h1 | h1
            · subst h1; exact absurd hq h2
            · exact .inr ⟨q', h1, h2, h3⟩
      · rcases List.mem_cons.1 hm with hm | hm
        · injection hm with h1 h2; subst h1; exact absurd hq hq'
        · exact a6 q' rows' hm hq'
    · rw [if_neg hq] at h
      obtain ⟨⟨hf, hlt9⟩, h⟩ := grd_eq_some h
      unfold fresh at hf
      rw [Bool.and_eq_true] at hf
      have f1 := isNone_eq hf.1
      have f2 := isNone_eq hf.2
      obtain ⟨a1, a2, a3, a4, a5, a6, a7⟩ := addTrees_spec (s := { s with tree := (nameOf ld t q, rows) :: s.tree }) h n1.2 (by rw [List.map_cons, List.nodup_cons]; exact ⟨look_none f1, nd⟩) inj
      have hself : look (nameOf ld t q) s'.tree = some rows := a7 _ _ (by show look _ ((nameOf ld t q, rows) :: s.tree) = _; simp only [look, if_true])
      refine ⟨a1, a2, a3, a4, fun n => ?_, fun q' rows' hm hq' => ?_, fun n rows' hn => ?_⟩
      · rw [a5 n]
        show n ∈ nameOf ld t q :: s.tree.map (·.1) ∨ _ ↔ _
        simp only [List.map_cons, List.mem_cons]
        constructor
        · rintro ((h | h) | ⟨q', h1, h2, h3⟩)
          · exact .inr ⟨q, .inl rfl, hq, h.symm⟩
          · exact .inl h
          · exact .inr ⟨q', .inr h1, h2, h3⟩
        · rintro (h | ⟨q', h1, h2, h3⟩)
          · exact .inl (.inr h)
          · rcases h1 with h1 | h1
            · subst h1; exact .inl (.inl h3.symm)
            · exact .inr ⟨q', h1, h2, h3⟩
      · rcases List.mem_cons.1 hm with hm | hm
        · injection hm with h1 h2; subst h1; subst h2; exact ⟨hself, f1, f2, hlt9⟩
        · obtain ⟨b1, b2, b3⟩ := a6 q' rows' hm hq'
          refine ⟨b1, ?_, b3⟩
          have b2 : look (nameOf ld t q') ((nameOf ld t q, rows) :: s.tree) = none := b2
          simp only [look] at b2
          split at b2
          · cases b2
          · exact b2
      · refine a7 n rows' ?_
        show look n ((nameOf ld t q, rows) :: s.tree) = _
        simp only [look]
        split
        · rename_i e; rw [e, f1] at hn; cases hn
        · exact hn
theorem backBoxes_spec {ld : Lend} {t : Nat} : ∀ {bs : List Nat} {css : List (List V)} {s s' : S}, backBoxes ld t bs css s = some s' → bs.Nodup → (∀ b ∈ bs, b ∈ s.box.map (·.1)) → (s.box.map (·.1)).Nodup →
    s'.env = s.env ∧ s'.tree = s.tree ∧ s'.fro = s.fro ∧ s'.box.map (·.1) = s.box.map (·.1) ∧ css.length = bs.length ∧ (∀ b cs, (b, cs) ∈ s'.box → (∃ (i : Nat) (cs0 : List V), bs[i]? = some b ∧ css[i]? = some cs0 ∧ backL ld t cs0 = some cs) ∨ (b ∉ bs ∧ (b, cs) ∈ s.box))
  | [], [], s, s', h, _, _, _ => by
    simp only [backBoxes] at h; injection h with h; subst h
    exact ⟨rfl, rfl, rfl, rfl, rfl, fun b cs h => .inr ⟨by simp, h⟩⟩
  | [], _ :: _, s, s', h, _, _, _ => by simp only [backBoxes] at h; cases h
  | _ :: _, [], s, s', h, _, _, _ => by simp only [backBoxes] at h; cases h
  | b :: bs, cs :: css, s, s', h, n1, hb, nb => by
    simp only [backBoxes] at h
    obtain ⟨cs1, h1, h⟩ := bnd_eq_some h
    have n2 := List.nodup_cons.1 n1
    obtain ⟨a1, a2, a3, a4, a5, a6⟩ := backBoxes_spec (s := { s with box := upd b cs1 s.box }) h n2.2 (fun b' hb' => by show b' ∈ (upd b cs1 s.box).map (·.1); rw [upd_keys]; exact hb b' (by simp [hb'])) (by show ((upd b cs1 s.box).map (·.1)).Nodup; rw [upd_keys]; exact nb)
    refine ⟨a1, a2, a3, by rw [a4]; exact upd_keys s.box, by rw [List.length_cons, List.length_cons, a5], fun b' cs' hm => ?_⟩
    rcases a6 b' cs' hm with ⟨i, cs0, e1, e2, e3⟩ | ⟨e1, e2⟩
    · exact .inl ⟨i + 1, cs0, by simpa using e1, by simpa using e2, e3⟩
    · rcases mem_upd nb (show (b', cs') ∈ upd b cs1 s.box from e2) with ⟨e3, e4⟩ | ⟨e3, e4⟩
      · subst e3; subst e4; exact .inl ⟨0, cs, rfl, rfl, h1⟩
      · exact .inr ⟨by simp only [List.mem_cons, not_or]; exact ⟨e3, e1⟩, e4⟩
end Go.Proofs.YtnmneoekpikpkaaGreatDoor
namespace Go.Proofs.YtnmneoekpikpkaaGreatDoor
open Go.RowKit
set_option linter.unusedSimpArgs false
set_option linter.unusedVariables false
structure Mem (c : Ctx) (s : S) (y : Lay) (w : World) : Prop where
  st : St c.W w (boxPs y.bl y.T y.us s.box ++ (treePs y.hd s.tree ++ (froPs y.w0 y.F s.fro ++ c.L)))
  box : ∀ b cs, (b, cs) ∈ s.box → RVs (relOf c s y) cs (y.us b).toList
  fro : ∀ p rows, (p, rows) ∈ s.fro → TreeD (y.w0 p) rows (y.hd p) (y.F p)
  nb : (s.box.map (·.1)).Nodup
  nt : ((s.tree ++ s.fro).map (·.1)).Nodup
def resS (bs : List (List V)) (ts : List (Nat × List (List D))) : S := ⟨[], withIdx 0 bs, ts, []⟩
structure Ends (c : Ctx) (nb nt : Nat) (r : Res) (y : Lay) (u : Value) (y' : Lay) (w' : World) : Prop where
  mem : Mem c (resS r.box r.tree) y' w'
  val : RV (relOf c (resS r.box r.tree) y') r.val u
  len : r.box.length = nb ∨ (nb = 0 ∧ nt = 0 ∧ ∃ cs, isNew r = some cs)
  bl : ∀ i, i < nb → y'.bl i = y.bl i
  hd : ∀ q, q < nt → y'.hd q = y.hd q
structure Sound (P : Program) (f : FuncId) (M : Mean) : Prop where
  fn : ∃ fn, P.funcs[f]? = some fn ∧ (fn.name == "runtime.NumGoroutine") = false ∧ fn.body.isNone = false
  run : ∀ (c : Ctx) (args : List V) (boxes : List (List V)) (trees : List (List (List D))) (r : Res), M args boxes trees = some r → ∀ (y : Lay) (us : List Value) (w : World), Mem c (resS boxes (withIdx 0 trees)) y w → RVs (relOf c (resS boxes (withIdx 0 trees)) y) args us →
    Calls P f us.toArray w fun e w' => ∃ u y', e = .returned u ∧ Ends c boxes.length trees.length r y u y' w'
theorem Sep.append {w : World} {L M : List Pc} : ∀ {F G : List Nat}, Sep w L F → Sep w M G → Sep w (L ++ M) (F ++ G) := by
  intro F G h k
  induction h with
  | nil => exact k
  | cons a _ ih => rw [List.append_assoc]; exact Sep.cons a ih
theorem Sep.parts {w : World} : ∀ {L M : List Pc} {F : List Nat}, Sep w (L ++ M) F → ∃ F1 F2, F = F1 ++ F2 ∧ Sep w L F1 ∧ Sep w M F2
  | [], M, F, h => ⟨[], F, rfl, .nil, h⟩
  | x :: L, M, F, h => by
    obtain ⟨F1, G, rfl, a, g⟩ := h.uncons
    obtain ⟨F2, F3, rfl, h1, h2⟩ := Sep.parts g
    exact ⟨F1 ++ F2, F3, by rw [List.append_assoc], .cons a h1, h2⟩
theorem Sep.mem {w : World} {x : Pc} {L : List Pc} {F : List Nat} (h : Sep w L F) (hx : x ∈ L) : ∃ F1, x.P w F1 ∧ ∀ b ∈ F1, b ∈ F := by
  induction h with
  | nil => cases hx
  | cons a _ ih =>
    rcases List.mem_cons.1 hx with hx | hx
    · subst hx; exact ⟨_, a, fun b hb => List.mem_append_left _ hb⟩
    · obtain ⟨F1, h1, h2⟩ := ih hx
      exact ⟨F1, h1, fun b hb => List.mem_append_right _ (h2 b hb)⟩
theorem St.snap {W w : World} {E R : List Pc} (S : St W w (E ++ R)) : ∃ F, St W w (E ++ [snapP w F]) ∧ Sep w R F := by
  obtain ⟨F, s, n, hb⟩ := S.sep
  obtain ⟨F1, F2, rfl, h1, h2⟩ := s.parts
  refine ⟨F2, ⟨S.ext, F1 ++ (F2 ++ []), h1.append (.cons (h := snapP w F2) ⟨rfl, fun _ _ => rfl⟩ .nil), by simpa using n, by simpa using hb⟩, h2⟩
theorem St.unsnap {W w w' : World} {E R : List Pc} {F : List Nat} (S : St W w' (E ++ [snapP w F])) (h : Sep w R F) : St W w' (E ++ R) := by
  obtain ⟨G, s, n, hb⟩ := S.sep
  obtain ⟨F1, F2, rfl, h1, h2⟩ := s.parts
  obtain ⟨F3, F4, rfl, ⟨rfl, h3⟩, h4⟩ := h2.uncons
  cases h4
  refine ⟨S.ext, F1 ++ F3, h1.append (h.st h3), by simpa using n, by simpa using hb⟩
section
variable {P : Program} {c : Ctx} {s s' : S} {y : Lay} {a : Act} {w : World}
theorem lendBoxes_sound (A : At c s y a w) : ∀ {bs : List Nat} {l l' : Lend} {U : List Value} {css : List (List V)}, l.ok (relOf c s y) s U → lendBoxes s l bs = some (css, l') →
    ∃ U', l.le l' U U' ∧ l'.ok (relOf c s y) s U' ∧ css.length = bs.length ∧ (∀ b ∈ bs, b ∈ s.box.map (·.1)) ∧ ∀ (i : Nat) (b : Nat) (cs' : List V), bs[i]? = some b → css[i]? = some cs' → Seens (relOf c s y) s l' U' cs' (y.us b).toList
  | [], l, l', U, css, o, h => by
    simp only [lendBoxes] at h; injection h with h; injection h with h1 h2; subst h1; subst h2
    exact ⟨U, Lend.le.refl _ _, o, rfl, (fun b hb => by cases hb), fun i b cs' e => by simp at e⟩
  | b :: bs, l, l', U, css, o, h => by
    simp only [lendBoxes] at h
    obtain ⟨cs, h1, h⟩ := bnd_eq_some h
    obtain ⟨x, h2, h⟩ := bnd_eq_some h
    obtain ⟨z, h3, h⟩ := bnd_eq_some h
    injection h with h; injection h with h4 h5; subst h4; subst h5
    obtain ⟨U1, a1, a2, a3⟩ := lendCells_sound (fun p r1 r2 e1 e2 => A.apart e1 e2) (l' := x.2) (vs' := x.1) o h2 (A.boxAt h1).2
    obtain ⟨U2, b1, b2, b3, b4, b5⟩ := lendBoxes_sound A (l' := z.2) (css := z.1) a2 h3
    refine ⟨U2, a1.trans b1, b2, by rw [List.length_cons, List.length_cons, b3], fun b' hb => ?_, fun i b' cs' e1 e2 => ?_⟩
    · rcases List.mem_cons.1 hb with hb | hb
      · subst hb; exact key_look.2 ⟨cs, h1⟩
      · exact b4 b' hb
    · cases i with
      | zero => simp at e1 e2; subst e1; subst e2; exact fun ρ' ld SU le L => a3 ρ' ld SU (b1.trans le) L
      | succ i => exact b5 i b' cs' (by simpa using e1) (by simpa using e2)
theorem lentTrees_spec : ∀ {ps : List Nat} {ts : List (List (List D))}, lentTrees s ps = some ts → ts.length = ps.length ∧ ∀ (i : Nat) (p : Nat), ps[i]? = some p → ∃ rows, look p s.tree = some rows ∧ ts[i]? = some rows
  | [], ts, h => by simp only [lentTrees] at h; injection h with h; subst h; exact ⟨rfl, fun i p e => by simp at e⟩
  | p :: ps, ts, h => by
    simp only [lentTrees] at h
    obtain ⟨rows, h1, h⟩ := bnd_eq_some h
    obtain ⟨r, h2, h⟩ := bnd_eq_some h
    injection h with h; subst h
    obtain ⟨k1, k2⟩ := lentTrees_spec h2
    refine ⟨by rw [List.length_cons, List.length_cons, k1], fun i p' e => ?_⟩
    cases i with
    | zero => simp at e; subst e; exact ⟨rows, h1, rfl⟩
    | succ i => simpa using k2 i p' (by simpa using e)
theorem minus_perm {K ns : List Nat} (n1 : K.Nodup) (n2 : ns.Nodup) (h : ∀ x ∈ ns, x ∈ K) : K.Perm (ns ++ K.filter fun k => !ns.contains k) := by
  refine perm_of_mem n1 (List.nodup_append.2 ⟨n2, n1.sublist List.filter_sublist, fun x hx z hz e => ?_⟩) fun x => ?_
  · subst e
    have := (List.mem_filter.1 hz).2
    simp [hx] at this
  · rw [List.mem_append, List.mem_filter]
    constructor
    · intro hx
      by_cases hn : x ∈ ns
      · exact .inl hn
      · exact .inr ⟨hx, by simp [hn]⟩
    · rintro (hx | hx)
      · exact h x hx
      · exact hx.1
structure Back (ρ1 ρ2 : Rel) (ld : Lend) (t : Nat) (SU : List Value) : Prop where
  src : ∀ j u v, ld.src[j]? = some v → ρ1.src j = u → RV ρ2 v u
  K : ld.src.all stable = true → ρ1.K = ρ2.K
  b : ∀ i b, ρ1.Lb i → ld.box[i]? = some b → ρ2.Lb b ∧ ρ2.bl b = ρ1.bl i
  t : ∀ q, ρ1.Lt q → ρ2.Lt (nameOf ld t q) ∧ ρ2.hd (nameOf ld t q) = ρ1.hd q
mutual
theorem backV_sound {ρ1 ρ2 : Rel} {ld : Lend} {t : Nat} {SU : List Value} (B : Back ρ1 ρ2 ld t SU) : ∀ {v v' : V} {u : Value}, backV ld t v = some v' → RV ρ1 v u → RV ρ2 v' u
  | .v x, v', u, h, hv => by simp only [backV] at h; injection h with h; subst h; exact hv
  | .nil, v', u, h, hv => by simp only [backV] at h; injection h with h; subst h; exact hv
  | .lst (some j) rows, v', u, h, hv => by simp only [backV] at h; exact B.src j u v' h (hv.2 j rfl)
  | .lst none rows, v', u, h, hv => by
    simp only [backV] at h
    obtain ⟨h1, h⟩ := grd_eq_some h
    injection h with h; subst h
    refine ⟨?_, fun j e => by cases e⟩
    rw [← B.K h1]; exact hv.1
  | .own q, v', u, h, hv => by
    simp only [backV] at h; injection h with h; subst h
    obtain ⟨k1, k2⟩ := B.t q hv.1
    exact ⟨k1, by rw [k2]; exact hv.2⟩
  | .ref i off, v', u, h, hv => by
    simp only [backV] at h
    obtain ⟨b, h1, h⟩ := bnd_eq_some h
    injection h with h; subst h
    obtain ⟨k1, k2⟩ := B.b i b hv.1 h1
    exact ⟨k1, by rw [k2]; exact hv.2⟩
  | .agg cs, v', u, h, hv => by
    simp only [backV] at h
    obtain ⟨x, h1, h⟩ := bnd_eq_some h
    injection h with h; subst h
    obtain ⟨us, e1, e2⟩ := hv
    exact ⟨us, e1, backL_sound B h1 e2⟩
  | .tup cs, v', u, h, hv => by
    simp only [backV] at h
    obtain ⟨x, h1, h⟩ := bnd_eq_some h
    injection h with h; subst h
    obtain ⟨us, e1, e2⟩ := hv
    exact ⟨us, e1, backL_sound B h1 e2⟩
  | .dead, v', u, h, hv => by simp only [backV] at h; injection h with h; subst h; trivial
  | .fz _, v', u, h, hv => by simp only [backV] at h; cases h
  | .inn _ _ _ _, v', u, h, hv => by simp only [backV] at h; cases h
  | .pe _ _ _ _, v', u, h, hv => by simp only [backV] at h; cases h
  | .fn _ _, v', u, h, hv => by simp only [backV] at h; cases h
theorem backL_sound {ρ1 ρ2 : Rel} {ld : Lend} {t : Nat} {SU : List Value} (B : Back ρ1 ρ2 ld t SU) : ∀ {vs vs' : List V} {us : List Value}, backL ld t vs = some vs' → RVs ρ1 vs us → RVs ρ2 vs' us
  | [], vs', us, h, hv => by simp only [backL] at h; injection h with h; subst h; exact hv
  | v :: vs, vs', us, h, hv => by
    simp only [backL] at h
    obtain ⟨x, h1, h⟩ := bnd_eq_some h
    obtain ⟨z, h2, h⟩ := bnd_eq_some h
    injection h with h; subst h
    obtain ⟨u, q, rfl, e1, e2⟩ := hv
    exact ⟨u, q, rfl, backV_sound B h1 e1, backL_sound B h2 e2⟩
end
theorem lent_K (A : At c s y a w) {ld : Lend} {R : List Pc} {F : List Nat} (hR : Sep w (R ++ c.L) F) (hf : ∀ x ∈ froPs y.w0 y.F s.fro, x ∈ R) (ht : ∀ p rows, look p s.tree = some rows → p ∉ ld.tree → treeP (y.hd p) rows ∈ R) (hm : noMix ld = true) :
    ∃ K' : Nat → Obj → Prop, (∀ w', St c.W w' [snapP w F] → ∀ b o, K' b o → w'.heap[b]? = some o) ∧ (∀ v ∈ ld.src, ∀ u rows, RV (relOf c s y) v u → s.rows v = some rows → RdD K' (.l rows) u) ∧ (ld.src.all stable = true → K' = c.K) ∧ Zed K' := by
  have hc : ∀ w', St c.W w' [snapP w F] → ∀ b o, c.K b o → w'.heap[b]? = some o := fun w' S b o hk => by
    have := St.unsnap (E := []) S hR
    exact c.hK w' (St.dropL this) b o hk
  by_cases hst : ld.src.all stable = true
  · refine ⟨c.K, hc, fun v hv u rows hr hrow => ?_, fun _ => rfl, c.zed⟩
    have := List.all_eq_true.1 hst v hv
    cases v <;> simp only [stable] at this <;> try (cases this; done)
    case nil => simp only [S.rows] at hrow; injection hrow with hrow; subst hrow; rw [show u = _ from hr]; exact .nil none 0 (by omega) (fun _ => rfl)
    case lst o r => simp only [S.rows] at hrow; injection hrow with hrow; subst hrow; exact hr.1
  · refine ⟨fun b o => w.heap[b]? = some o ∧ (b ∈ F ∨ c.K b o), fun w' S b o hk => ?_, fun v hv u rows hr hrow => ?_, fun h => absurd h hst, fun w2 h => c.zed w2 fun b o hk => h b o ⟨c.hK w (St.dropL (St.dropL (St.dropL A.st))) b o hk, .inr hk⟩⟩
    · rcases hk.2 with h | h
      · exact (S.snap_at (by simp) b h).trans hk.1
      · exact hc w' S b o h
    · have hfro : ∀ p r, look p s.fro = some r → ∀ b ∈ y.F p, b ∈ F := by
        intro p r e b hb
        obtain ⟨F1, ⟨h1, _⟩, h2⟩ := hR.mem (List.mem_append_left _ (hf (snapP (y.w0 p) (y.F p)) (List.mem_map.2 ⟨(p, r), look_mem e, rfl⟩)))
        subst h1; exact h2 b hb
      have hrow9 := hrow
      cases v <;> simp only [S.rows] at hrow <;> try (cases hrow; done)
      case inn p i1 j1 k1 =>
        obtain ⟨rows0, r0, m1, m2, m3, m4⟩ := inn_some hrow9
        have hn : p ∉ ld.tree := by
          intro hp
          have := List.all_eq_true.1 (List.all_eq_true.1 hm p hp) _ hv
          simp [mentions] at this
        obtain ⟨F1, h1, h2⟩ := hR.mem (List.mem_append_left _ (ht p rows0 m1 hn))
        obtain ⟨F2, o2, hF2⟩ := (show TreeD w rows0 (y.hd p) F1 from h1).inner m2 m4
        rw [m3, ← show u = (y.hd p).cv (i1 * k1 + j1) from hr.2.1] at o2
        exact OwnD.rd o2 fun b hb o ho => ⟨ho, .inl (h2 b (hF2 b hb))⟩
      case nil => injection hrow with hrow; subst hrow; rw [show u = _ from hr]; exact .nil none 0 (by omega) (fun _ => rfl)
      case lst o r => injection hrow with hrow; subst hrow; exact hr.1.mono fun b o hk => ⟨A.kw b o hk, .inr hk⟩
      case fz r =>
        injection hrow with hrow; subst hrow
        refine RdD.mono hr fun b o hk => ⟨A.zw b o hk, .inl ?_⟩
        obtain ⟨p, hp, hb, _⟩ := hk
        obtain ⟨r0, e⟩ := key_look.1 hp
        exact hfro p r0 e b hb
      case own p =>
        rw [show u = _ from hr.2]
        cases e : look p s.tree with
        | some r =>
          rw [e] at hrow; simp only [orElse1] at hrow; injection hrow with hrow; subst hrow
          have hn : p ∉ ld.tree := by
            intro hp
            have := List.all_eq_true.1 (List.all_eq_true.1 hm p hp) _ hv
            simp [mentions] at this
          obtain ⟨F1, h1, h2⟩ := hR.mem (List.mem_append_left _ (ht p r e hn))
          exact OwnD.rd (show TreeD w r (y.hd p) F1 from h1).own fun b hb o ho => ⟨ho, .inl (h2 b hb)⟩
        | none =>
          rw [e] at hrow; simp only [orElse1] at hrow
          exact (A.fro p rows (look_mem hrow)).own.rd fun b hb o ho => ⟨A.zw b o ⟨p, key_look.2 ⟨rows, hrow⟩, hb, ho⟩, .inl (hfro p rows hrow b hb)⟩
end
end Go.Proofs.YtnmneoekpikpkaaGreatDoor
