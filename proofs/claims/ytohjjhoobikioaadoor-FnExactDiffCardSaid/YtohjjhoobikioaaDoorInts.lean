/-
  Slices of ints: one that the call owns; append onto it; the laws' own helpers (eqIntS, toIntS, markIntS, heldIntS), sameInts.
-/
import Derived.Test.YtohjjhoobikioaaDoorMem
import Derived.Maps.AppendAt
import Derived.OwnWalk
namespace Go.Proofs.YtohjjhoobikioaaDoor
open Go.RowKit

theorem info_int : (Tryd.prog.info? 3).map (fun i => (i.zero, i.size, i.bytes)) = some (some (.int .i64 0), 1, 8) := by kernel_rfl

/-- v is a slice of the call's own (block B or later) that holds the ints l. -/
def OwnI (w : World) (B : Nat) (v : Value) (l : List Int) : Prop := w.ownsRow B 3 1 v l.length (l.map (Value.int .i64))

theorem OwnI.nil (w : World) (B : Nat) : OwnI w B (.slice none 0 0) [] := World.ownsRow_nil _ _ _ _
theorem OwnI.alloc {w : World} {B : Nat} {v : Value} {l : List Int} (h : OwnI w B v l) (o : Obj) : OwnI (w.alloc o) B v l := World.ownsRow.alloc h o
theorem OwnI.empty {w : World} {B : Nat} (hB : B ≤ w.heap.size) : OwnI (w.alloc (.cells #[] 3)) B (.slice (some ⟨w.heap.size, 0, none⟩) 0 0) [] :=
  World.ownsRow_made w #[] 0 hB (by unfold maxLen; omega) rfl
theorem OwnI.mono {w : World} {B B' : Nat} {v : Value} {l : List Int} (h : OwnI w B v l) (hB : B' ≤ B) : OwnI w B' v l :=
  ⟨h.1, by
    rcases h.2 with h2 | ⟨g, cap, cur, hv, hb, r⟩
    · exact .inl h2
    · exact .inr ⟨g, cap, cur, hv, by omega, r⟩⟩
theorem OwnI.lt {w : World} {B : Nat} {v : Value} {l : List Int} (h : OwnI w B v l) : ∀ k, v.ownBlock = some k → B ≤ k ∧ k < w.heap.size := World.ownsRow.lt h
theorem OwnI.kept {w w' : World} {B : Nat} {v : Value} {l : List Int} (h : OwnI w B v l) {row : Option Nat} (hg : w.grownBy w' row) (hne : v.ownBlock = none ∨ v.ownBlock ≠ row) : OwnI w' B v l := World.ownsRow.kept h hg hne
theorem OwnI.ext {w w' : World} {B : Nat} {v : Value} {l : List Int} (h : OwnI w B v l) (e : Ext w w') : OwnI w' B v l :=
  ⟨h.1, by
    rcases h.2 with h2 | ⟨g, cap, cur, hv, hb, hg, r⟩
    · exact .inl h2
    · exact .inr ⟨g, cap, cur, hv, hb, (Below.block e g (Array.getElem?_eq_some_iff.1 hg).1).trans hg, r⟩⟩
theorem OwnI.form {w : World} {B : Nat} {v : Value} {l : List Int} (h : OwnI w B v l) : ∃ A c, v = .slice A l.length c ∧ RI w A l.length c l := by
  have h0 := h
  rcases h.2 with ⟨hv, h0'⟩ | ⟨g, cap, cur, rfl, hb, hg, hn, hm, hs, ht⟩
  · have : l = [] := List.length_eq_zero_iff.1 h0'
    subst this
    exact ⟨none, 0, hv, RI.nil _⟩
  · refine ⟨_, cap, rfl, rfl, hn, by unfold maxLen at hm; omega, (fun h => nomatch h), fun _ => ⟨g, 0, rfl, fun j hj => ?_⟩⟩
    have := World.ownsRow.cellAt h0 j (by omega)
    rw [Nat.zero_add, this]
    simp [hj]
theorem OwnI.below {w w' : World} {B B' : Nat} {v : Value} {l : List Int} (h : OwnI w B v l) (e : Below B' w w') (hv : ∀ k, v.ownBlock = some k → k < B') : OwnI w' B v l :=
  ⟨h.1, by
    rcases h.2 with h2 | ⟨g, cap, cur, rfl, hb, hg, r⟩
    · exact .inl h2
    · exact .inr ⟨g, cap, cur, rfl, hb, (Below.block e g (hv g rfl)).trans hg, r⟩⟩
/-- what a step that turns one block of the call's own leaves of the rest -/
theorem below_of_grown {w w' : World} {B : Nat} {v : Value} (hg : w.grownBy w' v.ownBlock) (hv : ∀ k, v.ownBlock = some k → B ≤ k) (hB : B ≤ w.heap.size) : Below B w w' := (Below.refl B w).grown hg hB hv

theorem RI.new (w : World) (l : List Int) (hl : l.length ≤ 9223372036854775807) : RI (w.alloc (.cells (l.map (Value.int .i64)).toArray 3)) (some ⟨w.heap.size, 0, none⟩) l.length l.length l :=
  ⟨rfl, Nat.le_refl _, hl, (fun h => nomatch h), fun _ => ⟨_, _, rfl, fun j hj => by
    rw [cell_of_row _ w.heap.size (0 + j) _ _ (0, 0) (heap_alloc_new w _)]; simp [hj]⟩⟩

theorem Ext.grown {W w w' : World} {v : Value} {l : List Int} (h : Ext W w) (hown : OwnI w W.heap.size v l) (hg : w.grownBy w' v.ownBlock) : Ext W w' := Below.grown h hg h.size (fun k hk => (hown.lt k hk).1)

theorem lit_cell (w : World) (l : List Int) {j : Nat} (hj : j < l.length) : (w.alloc (.cells (l.map (Value.int .i64)).toArray 3)).cell? ⟨w.heap.size, j, none⟩ = some (.int .i64 (l.getD j 0)) := by
  rw [cell_of_row _ w.heap.size j _ _ (0, 0) (heap_alloc_new w _)]; simp [hj]

/-- the address of x[lo:], kept whole -/
def subA (A : Option Addr) (c lo : Nat) : Option Addr := if c = lo then A else A.map (·.add lo)
theorem RI.subA {w : World} {A : Option Addr} {n c : Nat} {l : List Int} (h : RI w A n c l) {lo hi : Nat} (h1 : lo ≤ hi) (h2 : hi ≤ n) : RI w (subA A c lo) (hi - lo) (c - lo) ((l.drop lo).take (hi - lo)) := h.sub h1 h2

theorem size_int (w : World) : (sizeOf 3).run Tryd.prog w = .ok 1 w := by kernel_rfl
theorem elem_ints : Tryd.prog.underlying 22 = some (.slice (Tryd.prog.elem 22)) := by kernel_rfl
/-- x[lo:]: an arm of the walk: 'with_reducible refine wp_cutI ?_ ?_ ?_' -/
theorem wp_cutI {ops : Array Oper} {rest : List Oper} {d : Option Tmp} {ty : TypeId} {pos : String} {af : Array Edge} {a : Act} {Q : Exit → Act → World → Prop} {w : World} {x lo : Operand}
    {A : Option Addr} {n c k : Nat} (hx : a.eval x = .slice A n c) (hl : a.eval lo = .int .i64 k) (hk : k ≤ n)
    (h : wpList Tryd.prog ops Q rest (a.put d (.slice (subA A c k) (n - k) (c - k))) w) :
    wpList Tryd.prog ops Q (⟨d, Op.slice 22 x (some lo) none none, ty, pos, af, none⟩ :: rest) a w := by
  refine wpList_plain rfl fun K hK => ?_
  have e := run_slice_l (P := Tryd.prog) w 22 A n c elem_ints .i64 (k : Int) (by omega) (by omega)
  have e1 : Tryd.prog.elem 22 = 3 := by kernel_rfl
  rw [e1, size_int] at e
  unfold Oper.wp execOp
  simp [hx, hl, run_sliceAt_slice w _ _ _ _ _ elem_ints, e, sliced, Oper.upon, Result.andThen]
  exact hK _ _ (by simpa [subA] using h)

/-- two slices that the call owns: the elder's block lies below where the younger was made -/
theorem OwnI.ne {w0 w : World} {B0 B' : Nat} {v v' : Value} {l l' : List Int} (h0 : OwnI w0 B0 v l) (h' : OwnI w B' v' l') (hle : w0.heap.size ≤ B') : v.ownBlock = none ∨ v.ownBlock ≠ v'.ownBlock := by
  rcases hv : v.ownBlock with _ | k
  · exact .inl rfl
  · refine .inr fun e => ?_
    have h1 := (h0.lt k hv).2
    have h2 := (h'.lt k e.symm).1
    omega
theorem OwnI.ne' {w0 w : World} {B0 B' : Nat} {v v' : Value} {l l' : List Int} (h0 : OwnI w0 B0 v l) (h' : OwnI w B' v' l') (hle : w0.heap.size ≤ B') : v'.ownBlock = none ∨ v'.ownBlock ≠ v.ownBlock := by
  rcases hv : v'.ownBlock with _ | k
  · exact .inl rfl
  · refine .inr fun e => ?_
    have h1 := (h0.lt k e.symm).2
    have h2 := (h'.lt k hv).1
    omega

/-- append(v, x...): v the call's own, x any ints. -/
theorem wp_appI {ops : Array Oper} {rest : List Oper} {o : Oper} {a : Act} {Q : Exit → Act → World → Prop} {w : World} (hgd : o.guard = none) (s x : Operand)
    (ho : o.op = .call { callee := .builtin .append, args := #[s, x], argTypes := #[22, 22] })
    {B : Nat} {v : Value} {l : List Int} (hs : a.eval s = v) (hown : OwnI w B v l) {A : Option Addr} {m c : Nat} {news : List Int} (hx : a.eval x = .slice A m c) (hr : RI w A m c news)
    (hsz : l.length + m ≤ 17592186044415) (hB : B ≤ w.heap.size)
    (h : ∀ v' w', OwnI w' B v' (l ++ news) → w.grownBy w' v.ownBlock → (v'.ownBlock = v.ownBlock ∨ v'.ownBlock = some w.heap.size) → wpList Tryd.prog ops Q rest (a.put o.dst v') w') : wpList Tryd.prog ops Q (o :: rest) a w := by
  refine wpList_plain hgd fun K hK => ?_
  obtain ⟨i0, hi, hz0, hz1, hz2⟩ := info_parts info_int
  have key : ∃ v' w', (Builtin.append_ #[22, 22] o.type #[v, .slice A m c]).run Tryd.prog w = .ok v' w' ∧ OwnI w' B v' (l ++ news) ∧ w.grownBy w' v.ownBlock ∧ (v'.ownBlock = v.ownBlock ∨ v'.ownBlock = some w.heap.size) := by
    cases A with
    | none =>
      obtain rfl := hr.none_ rfl
      obtain rfl : m = 0 := by have := hr.cap; omega
      have hn : news = [] := List.length_eq_zero_iff.1 hr.len
      subst hn
      exact ⟨v, w, run_append_owned_none (P := Tryd.prog) w B 22 o.type 3 i0 1 Tryd.underlying22 hi v l.length _ hown, by simpa using hown, World.grownBy.refl _ _, .inl rfl⟩
    | some ad =>
      obtain ⟨v', w', hrun, h2, h3, _, h5⟩ := run_append_own_at (P := Tryd.prog) w B 22 o.type 3 i0 (.int .i64 0) 1 8 Tryd.underlying22 hi hz0 hz1 hz2 rfl (by omega) v l.length _ hown ad m c (news.map (Value.int .i64))
        (by rw [List.length_map, hr.len]; omega)
        (fun j u hu => by
          have hj : j < news.length := by have := (List.getElem?_eq_some_iff.1 hu).1; simpa using this
          obtain ⟨b, of, hA, hc⟩ := hr.at_ (by rw [← hr.len]; omega)
          obtain rfl := Option.some.inj hA
          rw [Addr.add_lit, hc j (by rw [← hr.len]; exact hj)]
          rw [← hu]; simp [hj])
        (ints_oneCell _ _) (by unfold maxLen; omega) (by omega) hB
      refine ⟨v', w', hrun, ?_, h3, h5⟩
      have hl : (l ++ news).length = l.length + m := by rw [List.length_append, hr.len]
      unfold OwnI
      rw [hl, List.map_append]
      exact h2
  obtain ⟨v', w', hrun, h2, h3, h4⟩ := key
  unfold Oper.wp execOp
  simp only [ho, resolve, invoke, builtin, Sem.run_bind, Sem.run_pure, Result.andThen_ok, List.map_toArray, List.map_cons, List.map_nil, hs, hx, hrun]
  exact hK _ _ (h v' w' h2 h3 h4)

theorem madeInts (n : Nat) : (madeCells (Value.int .i64 0).cells (n * 1)).toList = (List.replicate n (0 : Int)).map (Value.int .i64) := by
  apply List.ext_getElem
  · simp [madeCells]
  · intro i h1 h2
    simp [madeCells, Value.cells, Nat.mod_one]

/-- make([]int, n) -/
theorem wp_makeI {ops : Array Oper} {rest : List Oper} {o : Oper} {a : Act} {Q : Exit → Act → World → Prop} {w : World} (hgd : o.guard = none) (l c : Operand) (hop : o.op = Op.makeSlice 22 l c)
    {n : Nat} (hl : a.eval l = .int .i64 n) (hc : a.eval c = .int .i64 n) (hn : n ≤ 17592186044415) {B : Nat} (hB : B ≤ w.heap.size)
    (h : ∀ w', OwnI w' B (.slice (some ⟨w.heap.size, 0, none⟩) n n) (List.replicate n 0) → w.grownBy w' none → wpList Tryd.prog ops Q rest (a.put o.dst (.slice (some ⟨w.heap.size, 0, none⟩) n n)) w') : wpList Tryd.prog ops Q (o :: rest) a w := by
  obtain ⟨i0, hi, hz0, hz1, hz2⟩ := info_parts info_int
  refine wpList_make_full w hgd l c 22 hop B 3 i0 (.int .i64 0) 1 Tryd.underlying22 hi hz0 hz1 .i64 .i64 n n n hl hc rfl rfl (by rw [hz2]; omega) (by unfold maxLen; omega) hB ?_
  intro w' h1 h2
  refine h w' ?_ h2
  rw [madeInts] at h1
  unfold OwnI
  rw [List.length_replicate]
  exact h1

theorem OwnI.cell {w : World} {B g n c : Nat} {l : List Int} (h : OwnI w B (.slice (some ⟨g, 0, none⟩) n c) l) {k : Nat} (hk : k < l.length) : w.cell? ⟨g, k, none⟩ = some (.int .i64 (l[k]?.getD 0)) := by
  have hn : n = l.length := by
    rcases h.2 with ⟨hv, _⟩ | ⟨g', cap, cur, hv, _⟩
    · cases hv
    · injection hv
  subst hn
  rw [World.ownsRow.cellAt h k (by omega)]; simp [hk]
theorem OwnI.frozen {w : World} {B g n c : Nat} {l : List Int} (h : OwnI w B (.slice (some ⟨g, 0, none⟩) n c) l) (k : Nat) : w.frozen? ⟨g, k, none⟩ = false := by
  have hn : n = l.length := by
    rcases h.2 with ⟨hv, _⟩ | ⟨g', cap, cur, hv, _⟩
    · cases hv
    · injection hv
  subst hn
  exact World.ownsRow.frozenAt h k
theorem OwnI.set {w : World} {B g n c : Nat} {l : List Int} (h : OwnI w B (.slice (some ⟨g, 0, none⟩) n c) l) (k : Nat) (x : Int) :
    OwnI (w.setCell ⟨g, k, none⟩ (.int .i64 x)) B (.slice (some ⟨g, 0, none⟩) n c) (l.set k x) ∧ w.grownBy (w.setCell ⟨g, k, none⟩ (.int .i64 x)) (some g) := by
  have hn : n = l.length := by
    rcases h.2 with ⟨hv, _⟩ | ⟨g', cap, cur, hv, _⟩
    · cases hv
    · injection hv
  subst hn
  have := World.ownsRow.stored h k (.int .i64 x)
  refine ⟨?_, this.2⟩
  unfold OwnI
  rw [List.length_set, List.map_set]
  exact this.1
/-- the form of a slice that is owned: its block, where there is an element -/
theorem OwnI.shape {w : World} {B : Nat} {v : Value} {l : List Int} (h : OwnI w B v l) : (v = .slice none 0 0 ∧ l = []) ∨ ∃ g c, v = .slice (some ⟨g, 0, none⟩) l.length c ∧ B ≤ g ∧ g < w.heap.size ∧ l.length ≤ c ∧ c ≤ 9223372036854775807 := by
  rcases h.2 with ⟨hv, h0⟩ | ⟨g, cap, cur, hv, hb, hg, hn, hm, _⟩
  · exact .inl ⟨hv, List.length_eq_zero_iff.1 h0⟩
  · exact .inr ⟨g, cap, hv, hb, (Array.getElem?_eq_some_iff.1 hg).1, hn, by unfold maxLen at hm; omega⟩
end Go.Proofs.YtohjjhoobikioaaDoor
