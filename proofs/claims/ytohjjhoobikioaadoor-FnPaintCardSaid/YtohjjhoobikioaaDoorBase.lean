/-
  Of several texts: Pure, Mem, Ints, Leaf, Bytes, Bytes2, Runes, TextOf, Strs, Row.
-/
import Derived.Below
import Derived.Test.YtohjjhoobikioaaDoorRows
import Derived.WalkKit
import Derived.ProofKit
import Derived.OpenShut
import Derived.Handy
import Derived.Deep.QuietTactic
import Derived.BigQuiet
import Derived.Deep.Draws
import Derived.Lib.Hide
import Derived.Laws.BitsLemmas
import Derived.OwnWalk
import Derived.Maps.AppendAt
import Derived.Laws.IdiomStrings
import Derived.Deep.AppendSrc
import Derived.Lib.SmallJoins
import Derived.Lib.ItoaLen
import Derived.Sort.Grow
import Derived.Laws.BytesArg
import Derived.WalkSpells
import Derived.Laws.CopyRow
/-! Plain functions on numbers and lists that the program's leaves compute. No program is in sight here. -/
namespace Go.Proofs.YtohjjhoobikioaaDoor

def inB (n l h : Int) : Bool := decide (l ≤ n) && decide (n ≤ h)
def runeOk (r : Int) : Bool := inB r 0 1114111 && !inB r 55296 57343
def printable (r : Int) : Bool := runeOk r && decide (32 ≤ r) && !inB r 127 159
def wide (r : Int) : Bool := inB r 4352 4447 || inB r 11904 42191 || inB r 44032 55203 || inB r 63744 64255 || inB r 65280 65376 || inB r 65504 65510 || inB r 127744 129791 || inB r 131072 262141
def width (r : Int) : Int := if printable r then (if wide r then 2 else 1) else 0

theorem width_bounds (r : Int) : 0 ≤ width r ∧ width r ≤ 2 := by unfold width; split <;> (try split) <;> omega
theorem printable_bounds {r : Int} (h : printable r = true) : 32 ≤ r ∧ r ≤ 1114111 := by
  simp [printable, runeOk, inB] at h; omega
theorem width_pos {r : Int} (h : printable r = true) : 1 ≤ width r := by unfold width; rw [if_pos h]; split <;> omega
end Go.Proofs.YtohjjhoobikioaaDoor
/-! Words for memory: a slice of ints that reads as a list; a world that has only grown. -/
namespace Go.Proofs.YtohjjhoobikioaaDoor
open Go.RowKit

theorem ret_i {k : IntKind} {a b : Int} (h : a = b) : Ending.returned (.int k a) = .returned (.int k b) := by rw [h]
theorem ret_b {a b : Bool} (h : a = b) : Ending.returned (.bool a) = .returned (.bool b) := by rw [h]
theorem ret_ii {a b c d : Int} (h : a = b) (k : c = d) : Ending.returned (.tuple #[.int .i64 a, .int .i64 c]) = .returned (.tuple #[.int .i64 b, .int .i64 d]) := by rw [h, k]

/-- Nothing that was there has turned. -/
def Ext (w w' : World) : Prop := Below w.heap.size w w'
theorem Ext.refl (w : World) : Ext w w := Below.refl _ _
theorem Ext.trans {a b c : World} (h : Ext a b) (k : Ext b c) : Ext a c := Below.trans h (Below.mono k (Below.size h))
theorem Ext.cell {w w' : World} (h : Ext w w') {p : Addr} {v : Value} (hc : w.cell? p = some v) : w'.cell? p = some v :=
  (Below.cell h (World.block_lt_of_cell? w p hc)).trans hc
theorem Ext.size {w w' : World} (h : Ext w w') : w.heap.size ≤ w'.heap.size := Below.size h
theorem Ext.alloc {a w : World} (h : Ext a w) (o : Obj) : Ext a (w.alloc o) := Below.alloc h (Below.size h) o
theorem Ext.drew {a w : World} (h : Ext a w) : Ext a w.drew := Below.drew h
theorem below_drewN {B : Nat} {a w : World} (h : Below B a w) (n : Nat) : Below B a (w.drewN n) := ⟨h.os, h.tape, h.output, h.size, h.block⟩
theorem Ext.drewN {a w : World} (h : Ext a w) (n : Nat) : Ext a (w.drewN n) := below_drewN h n

/-- The slice value of address A, length n and capacity c reads as the ints l. -/
structure RI (w : World) (A : Option Addr) (n c : Nat) (l : List Int) : Prop where
  len : l.length = n
  cap : n ≤ c
  cmax : c ≤ 9223372036854775807
  none_ : A = none → c = 0
  at_ : 0 < n → ∃ b o, A = some ⟨b, o, none⟩ ∧ ∀ j, j < n → w.cell? ⟨b, o + j, none⟩ = some (.int .i64 (l.getD j 0))

theorem RI.nmax {w : World} {A : Option Addr} {n c : Nat} {l : List Int} (h : RI w A n c l) : n ≤ 9223372036854775807 := Nat.le_trans h.cap h.cmax
theorem RI.ext {w w' : World} {A : Option Addr} {n c : Nat} {l : List Int} (h : RI w A n c l) (e : Ext w w') : RI w' A n c l :=
  ⟨h.len, h.cap, h.cmax, h.none_, fun hn => by
    obtain ⟨b, o, rfl, hc⟩ := h.at_ hn
    exact ⟨b, o, rfl, fun j hj => e.cell (hc j hj)⟩⟩
theorem RI.nil (w : World) : RI w none 0 0 [] := ⟨rfl, Nat.le_refl _, by omega, fun _ => rfl, fun h => absurd h (by omega)⟩
/-- what a round needs: the address, and the one cell. -/
theorem RI.at1 {w : World} {A : Option Addr} {n c : Nat} {l : List Int} (h : RI w A n c l) {k : Nat} (hk : k < n) :
    ∃ b o, A = some ⟨b, o, none⟩ ∧ w.cell? ⟨b, o + k, none⟩ = some (.int .i64 (l.getD k 0)) := by
  obtain ⟨b, o, rfl, hc⟩ := h.at_ (by omega)
  exact ⟨b, o, rfl, hc k hk⟩
/-- x[lo:hi], as the walk spells its address -/
theorem RI.sub {w : World} {A : Option Addr} {n c : Nat} {l : List Int} (h : RI w A n c l) {lo hi : Nat} (h1 : lo ≤ hi) (h2 : hi ≤ n) :
    RI w (if c = lo then A else A.map (·.add lo)) (hi - lo) (c - lo) ((l.drop lo).take (hi - lo)) := by
  have hc := h.cap
  refine ⟨by rw [List.length_take, List.length_drop, h.len]; omega, by omega, by have := h.cmax; omega, ?_, fun hn => ?_⟩
  · intro e
    by_cases hcl : c = lo
    · omega
    · rw [if_neg hcl] at e
      cases A with
      | none => have := h.none_ rfl; omega
      | some a => cases e
  · obtain ⟨b, o, rfl, hx⟩ := h.at_ (by omega)
    rw [if_neg (by omega)]
    refine ⟨b, o + lo, by simp [Addr.add_lit], fun j hj => ?_⟩
    rw [Nat.add_assoc, hx (lo + j) (by omega)]
    simp [hj]
theorem RI.pre {w : World} {A : Option Addr} {n c : Nat} {l : List Int} (h : RI w A n c l) {k : Nat} (hk : k ≤ n) : RI w A k c (l.take k) :=
  ⟨by rw [List.length_take, h.len]; omega, by have := h.cap; omega, h.cmax, h.none_, fun hn => by
    obtain ⟨b, o, rfl, hx⟩ := h.at_ (by omega)
    refine ⟨b, o, rfl, fun j hj => ?_⟩
    rw [hx j (by omega)]
    simp [hj]⟩
theorem take_snoc {l : List Int} {k : Nat} (hk : k < l.length) : l.take (k + 1) = l.take k ++ [l.getD k 0] := by
  rw [List.take_add_one, List.getElem?_eq_getElem hk]; simp [hk]

theorem and_bound (x : Int) (m : Nat) (hm : m < 9223372036854775808) : 0 ≤ bits .and .i64 x m ∧ bits .and .i64 x m ≤ m := by
  have h : ((BitVec.ofInt 64 x) &&& (BitVec.ofInt 64 (m : Int))).toNat ≤ m := by
    rw [BitVec.toNat_and]
    refine Nat.le_trans Nat.and_le_right ?_
    simp only [BitVec.ofInt_natCast, BitVec.toNat_ofNat]
    exact Nat.mod_le _ _
  have e : bits .and .i64 x m = IntKind.i64.wrap ((((BitVec.ofInt 64 x) &&& (BitVec.ofInt 64 (m : Int))).toNat : Nat) : Int) := rfl
  rw [e, IntKind.wrap_i64]
  omega

theorem grown_setCell (w : World) (a : Addr) (u : Value) : w.grownBy (w.setCell a u) (some a.block) :=
  ⟨rfl, rfl, rfl, by simp [World.setCell], fun k _ hne => Below.heap_setCell _ _ _ _ (fun e => hne (by rw [e]))⟩
theorem grown_drewN (w : World) (n : Nat) (row : Option Nat) : w.grownBy (w.drewN n) row := ⟨rfl, rfl, rfl, Nat.le_refl _, fun _ _ _ => rfl⟩
theorem grown_of_ext {w w' : World} (h : Ext w w') (row : Option Nat) : w.grownBy w' row := ⟨h.os, h.tape, h.output, Below.size h, fun k hk _ => Below.block h k hk⟩
theorem drewN_heap (w : World) (n : Nat) : (w.drewN n).heap = w.heap := rfl
/-- what lies in blocks made since does not count -/
theorem grown_onto {W w w' : World} {r row : Option Nat} (h : W.grownBy w r) (hg : w.grownBy w' row) (hr : ∀ k, row = some k → W.heap.size ≤ k) : W.grownBy w' r :=
  ⟨hg.os.trans h.os, hg.tape.trans h.tape, hg.output.trans h.output, Nat.le_trans h.size hg.size, fun k hk hne =>
    (hg.block k (Nat.lt_of_lt_of_le hk h.size) (fun e => by have := hr k e.symm; omega)).trans (h.block k hk hne)⟩
end Go.Proofs.YtohjjhoobikioaaDoor
/-! Slices of ints: one that the call owns; append onto it; the laws' own helpers (eqIntS, toIntS, markIntS, heldIntS), sameInts. -/
namespace Go.Proofs.YtohjjhoobikioaaDoor
open Go.RowKit

theorem info_int : (Tryd.prog.info? 3).map (fun i => (i.zero, i.size, i.bytes)) = some (some (.int .i64 0), 1, 8) := by kernel_rfl

/-- v is a slice of the call's own (block B or later) that holds the ints l. -/
def OwnI (w : World) (B : Nat) (v : Value) (l : List Int) : Prop := w.ownsRow B 3 1 v l.length (l.map (Value.int .i64))

theorem OwnI.nil (w : World) (B : Nat) : OwnI w B (.slice none 0 0) [] := World.ownsRow_nil _ _ _ _
theorem OwnI.alloc {w : World} {B : Nat} {v : Value} {l : List Int} (h : OwnI w B v l) (o : Obj) : OwnI (w.alloc o) B v l := World.ownsRow.alloc h o
theorem OwnI.empty {w : World} {B : Nat} (hB : B ≤ w.heap.size) : OwnI (w.alloc (.cells #[] 3)) B (.slice (some ⟨w.heap.size, 0, none⟩) 0 0) [] :=
  World.ownsRow_made w #[] 0 hB (by unfold maxLen; omega) rfl
theorem OwnI.mono {w : World} {B B' : Nat} {v : Value} {l : List Int} (h : OwnI w B v l) (hB : B' ≤ B) : OwnI w B' v l :=
  ⟨h.1, by
    rcases h.2 with h2 | ⟨g, cap, cur, hv, hb, r⟩
    · exact .inl h2
    · exact .inr ⟨g, cap, cur, hv, by omega, r⟩⟩
theorem OwnI.lt {w : World} {B : Nat} {v : Value} {l : List Int} (h : OwnI w B v l) : ∀ k, v.ownBlock = some k → B ≤ k ∧ k < w.heap.size := World.ownsRow.lt h
theorem OwnI.kept {w w' : World} {B : Nat} {v : Value} {l : List Int} (h : OwnI w B v l) {row : Option Nat} (hg : w.grownBy w' row) (hne : v.ownBlock = none ∨ v.ownBlock ≠ row) : OwnI w' B v l := World.ownsRow.kept h hg hne
theorem OwnI.ext {w w' : World} {B : Nat} {v : Value} {l : List Int} (h : OwnI w B v l) (e : Ext w w') : OwnI w' B v l :=
  ⟨h.1, by
    rcases h.2 with h2 | ⟨g, cap, cur, hv, hb, hg, r⟩
    · exact .inl h2
    · exact .inr ⟨g, cap, cur, hv, hb, (Below.block e g (Array.getElem?_eq_some_iff.1 hg).1).trans hg, r⟩⟩
theorem OwnI.form {w : World} {B : Nat} {v : Value} {l : List Int} (h : OwnI w B v l) : ∃ A c, v = .slice A l.length c ∧ RI w A l.length c l := by
  have h0 := h
  rcases h.2 with ⟨hv, h0'⟩ | ⟨g, cap, cur, rfl, hb, hg, hn, hm, hs, ht⟩
  · have : l = [] := List.length_eq_zero_iff.1 h0'
    subst this
    exact ⟨none, 0, hv, RI.nil _⟩
  · refine ⟨_, cap, rfl, rfl, hn, by unfold maxLen at hm; omega, (fun h => nomatch h), fun _ => ⟨g, 0, rfl, fun j hj => ?_⟩⟩
    have := World.ownsRow.cellAt h0 j (by omega)
    rw [Nat.zero_add, this]
    simp [hj]
theorem OwnI.below {w w' : World} {B B' : Nat} {v : Value} {l : List Int} (h : OwnI w B v l) (e : Below B' w w') (hv : ∀ k, v.ownBlock = some k → k < B') : OwnI w' B v l :=
  ⟨h.1, by
    rcases h.2 with h2 | ⟨g, cap, cur, rfl, hb, hg, r⟩
    · exact .inl h2
    · exact .inr ⟨g, cap, cur, rfl, hb, (Below.block e g (hv g rfl)).trans hg, r⟩⟩
/-- what a step that turns one block of the call's own leaves of the rest -/
theorem below_of_grown {w w' : World} {B : Nat} {v : Value} (hg : w.grownBy w' v.ownBlock) (hv : ∀ k, v.ownBlock = some k → B ≤ k) (hB : B ≤ w.heap.size) : Below B w w' := (Below.refl B w).grown hg hB hv

theorem RI.new (w : World) (l : List Int) (hl : l.length ≤ 9223372036854775807) : RI (w.alloc (.cells (l.map (Value.int .i64)).toArray 3)) (some ⟨w.heap.size, 0, none⟩) l.length l.length l :=
  ⟨rfl, Nat.le_refl _, hl, (fun h => nomatch h), fun _ => ⟨_, _, rfl, fun j hj => by
    rw [cell_of_row _ w.heap.size (0 + j) _ _ (0, 0) (heap_alloc_new w _)]; simp [hj]⟩⟩

theorem Ext.grown {W w w' : World} {v : Value} {l : List Int} (h : Ext W w) (hown : OwnI w W.heap.size v l) (hg : w.grownBy w' v.ownBlock) : Ext W w' := Below.grown h hg h.size (fun k hk => (hown.lt k hk).1)

theorem lit_cell (w : World) (l : List Int) {j : Nat} (hj : j < l.length) : (w.alloc (.cells (l.map (Value.int .i64)).toArray 3)).cell? ⟨w.heap.size, j, none⟩ = some (.int .i64 (l.getD j 0)) := by
  rw [cell_of_row _ w.heap.size j _ _ (0, 0) (heap_alloc_new w _)]; simp [hj]

/-- the address of x[lo:], kept whole -/
def subA (A : Option Addr) (c lo : Nat) : Option Addr := if c = lo then A else A.map (·.add lo)
theorem RI.subA {w : World} {A : Option Addr} {n c : Nat} {l : List Int} (h : RI w A n c l) {lo hi : Nat} (h1 : lo ≤ hi) (h2 : hi ≤ n) : RI w (subA A c lo) (hi - lo) (c - lo) ((l.drop lo).take (hi - lo)) := h.sub h1 h2

theorem size_int (w : World) : (sizeOf 3).run Tryd.prog w = .ok 1 w := by kernel_rfl
theorem elem_ints : Tryd.prog.underlying 22 = some (.slice (Tryd.prog.elem 22)) := by kernel_rfl
/-- x[lo:]: an arm of the walk: 'with_reducible refine wp_cutI ?_ ?_ ?_' -/
theorem wp_cutI {ops : Array Oper} {rest : List Oper} {d : Option Tmp} {ty : TypeId} {pos : String} {af : Array Edge} {a : Act} {Q : Exit → Act → World → Prop} {w : World} {x lo : Operand}
    {A : Option Addr} {n c k : Nat} (hx : a.eval x = .slice A n c) (hl : a.eval lo = .int .i64 k) (hk : k ≤ n)
    (h : wpList Tryd.prog ops Q rest (a.put d (.slice (subA A c k) (n - k) (c - k))) w) :
    wpList Tryd.prog ops Q (⟨d, Op.slice 22 x (some lo) none none, ty, pos, af, none⟩ :: rest) a w := by
  refine wpList_plain rfl fun K hK => ?_
  have e := run_slice_l (P := Tryd.prog) w 22 A n c elem_ints .i64 (k : Int) (by omega) (by omega)
  have e1 : Tryd.prog.elem 22 = 3 := by kernel_rfl
  rw [e1, size_int] at e
  unfold Oper.wp execOp
  simp [hx, hl, run_sliceAt_slice w _ _ _ _ _ elem_ints, e, sliced, Oper.upon, Result.andThen]
  exact hK _ _ (by simpa [subA] using h)

/-- two slices that the call owns: the elder's block lies below where the younger was made -/
theorem OwnI.ne {w0 w : World} {B0 B' : Nat} {v v' : Value} {l l' : List Int} (h0 : OwnI w0 B0 v l) (h' : OwnI w B' v' l') (hle : w0.heap.size ≤ B') : v.ownBlock = none ∨ v.ownBlock ≠ v'.ownBlock := by
  rcases hv : v.ownBlock with _ | k
  · exact .inl rfl
  · refine .inr fun e => ?_
    have h1 := (h0.lt k hv).2
    have h2 := (h'.lt k e.symm).1
    omega
theorem OwnI.ne' {w0 w : World} {B0 B' : Nat} {v v' : Value} {l l' : List Int} (h0 : OwnI w0 B0 v l) (h' : OwnI w B' v' l') (hle : w0.heap.size ≤ B') : v'.ownBlock = none ∨ v'.ownBlock ≠ v.ownBlock := by
  rcases hv : v'.ownBlock with _ | k
  · exact .inl rfl
  · refine .inr fun e => ?_
    have h1 := (h0.lt k e.symm).2
    have h2 := (h'.lt k hv).1
    omega

/-- append(v, x...): v the call's own, x any ints. -/
theorem wp_appI {ops : Array Oper} {rest : List Oper} {o : Oper} {a : Act} {Q : Exit → Act → World → Prop} {w : World} (hgd : o.guard = none) (s x : Operand)
    (ho : o.op = .call { callee := .builtin .append, args := #[s, x], argTypes := #[22, 22] })
    {B : Nat} {v : Value} {l : List Int} (hs : a.eval s = v) (hown : OwnI w B v l) {A : Option Addr} {m c : Nat} {news : List Int} (hx : a.eval x = .slice A m c) (hr : RI w A m c news)
    (hsz : l.length + m ≤ 17592186044415) (hB : B ≤ w.heap.size)
    (h : ∀ v' w', OwnI w' B v' (l ++ news) → w.grownBy w' v.ownBlock → (v'.ownBlock = v.ownBlock ∨ v'.ownBlock = some w.heap.size) → wpList Tryd.prog ops Q rest (a.put o.dst v') w') : wpList Tryd.prog ops Q (o :: rest) a w := by
  refine wpList_plain hgd fun K hK => ?_
  obtain ⟨i0, hi, hz0, hz1, hz2⟩ := info_parts info_int
  have key : ∃ v' w', (Builtin.append_ #[22, 22] o.type #[v, .slice A m c]).run Tryd.prog w = .ok v' w' ∧ OwnI w' B v' (l ++ news) ∧ w.grownBy w' v.ownBlock ∧ (v'.ownBlock = v.ownBlock ∨ v'.ownBlock = some w.heap.size) := by
    cases A with
    | none =>
      obtain rfl := hr.none_ rfl
      obtain rfl : m = 0 := by have := hr.cap; omega
      have hn : news = [] := List.length_eq_zero_iff.1 hr.len
      subst hn
      exact ⟨v, w, run_append_owned_none (P := Tryd.prog) w B 22 o.type 3 i0 1 Tryd.underlying22 hi v l.length _ hown, by simpa using hown, World.grownBy.refl _ _, .inl rfl⟩
    | some ad =>
      obtain ⟨v', w', hrun, h2, h3, _, h5⟩ := run_append_own_at (P := Tryd.prog) w B 22 o.type 3 i0 (.int .i64 0) 1 8 Tryd.underlying22 hi hz0 hz1 hz2 rfl (by omega) v l.length _ hown ad m c (news.map (Value.int .i64))
        (by rw [List.length_map, hr.len]; omega)
        (fun j u hu => by
          have hj : j < news.length := by have := (List.getElem?_eq_some_iff.1 hu).1; simpa using this
          obtain ⟨b, of, hA, hc⟩ := hr.at_ (by rw [← hr.len]; omega)
          obtain rfl := Option.some.inj hA
          rw [Addr.add_lit, hc j (by rw [← hr.len]; exact hj)]
          rw [← hu]; simp [hj])
        (ints_oneCell _ _) (by unfold maxLen; omega) (by omega) hB
      refine ⟨v', w', hrun, ?_, h3, h5⟩
      have hl : (l ++ news).length = l.length + m := by rw [List.length_append, hr.len]
      unfold OwnI
      rw [hl, List.map_append]
      exact h2
  obtain ⟨v', w', hrun, h2, h3, h4⟩ := key
  unfold Oper.wp execOp
  simp only [ho, resolve, invoke, builtin, Sem.run_bind, Sem.run_pure, Result.andThen_ok, List.map_toArray, List.map_cons, List.map_nil, hs, hx, hrun]
  exact hK _ _ (h v' w' h2 h3 h4)

theorem madeInts (n : Nat) : (madeCells (Value.int .i64 0).cells (n * 1)).toList = (List.replicate n (0 : Int)).map (Value.int .i64) := by
  apply List.ext_getElem
  · simp [madeCells]
  · intro i h1 h2
    simp [madeCells, Value.cells, Nat.mod_one]

/-- make([]int, n) -/
theorem wp_makeI {ops : Array Oper} {rest : List Oper} {o : Oper} {a : Act} {Q : Exit → Act → World → Prop} {w : World} (hgd : o.guard = none) (l c : Operand) (hop : o.op = Op.makeSlice 22 l c)
    {n : Nat} (hl : a.eval l = .int .i64 n) (hc : a.eval c = .int .i64 n) (hn : n ≤ 17592186044415) {B : Nat} (hB : B ≤ w.heap.size)
    (h : ∀ w', OwnI w' B (.slice (some ⟨w.heap.size, 0, none⟩) n n) (List.replicate n 0) → w.grownBy w' none → wpList Tryd.prog ops Q rest (a.put o.dst (.slice (some ⟨w.heap.size, 0, none⟩) n n)) w') : wpList Tryd.prog ops Q (o :: rest) a w := by
  obtain ⟨i0, hi, hz0, hz1, hz2⟩ := info_parts info_int
  refine wpList_make_full w hgd l c 22 hop B 3 i0 (.int .i64 0) 1 Tryd.underlying22 hi hz0 hz1 .i64 .i64 n n n hl hc rfl rfl (by rw [hz2]; omega) (by unfold maxLen; omega) hB ?_
  intro w' h1 h2
  refine h w' ?_ h2
  rw [madeInts] at h1
  unfold OwnI
  rw [List.length_replicate]
  exact h1

theorem OwnI.cell {w : World} {B g n c : Nat} {l : List Int} (h : OwnI w B (.slice (some ⟨g, 0, none⟩) n c) l) {k : Nat} (hk : k < l.length) : w.cell? ⟨g, k, none⟩ = some (.int .i64 (l[k]?.getD 0)) := by
  have hn : n = l.length := by
    rcases h.2 with ⟨hv, _⟩ | ⟨g', cap, cur, hv, _⟩
    · cases hv
    · injection hv
  subst hn
  rw [World.ownsRow.cellAt h k (by omega)]; simp [hk]
theorem OwnI.frozen {w : World} {B g n c : Nat} {l : List Int} (h : OwnI w B (.slice (some ⟨g, 0, none⟩) n c) l) (k : Nat) : w.frozen? ⟨g, k, none⟩ = false := by
  have hn : n = l.length := by
    rcases h.2 with ⟨hv, _⟩ | ⟨g', cap, cur, hv, _⟩
    · cases hv
    · injection hv
  subst hn
  exact World.ownsRow.frozenAt h k
theorem OwnI.set {w : World} {B g n c : Nat} {l : List Int} (h : OwnI w B (.slice (some ⟨g, 0, none⟩) n c) l) (k : Nat) (x : Int) :
    OwnI (w.setCell ⟨g, k, none⟩ (.int .i64 x)) B (.slice (some ⟨g, 0, none⟩) n c) (l.set k x) ∧ w.grownBy (w.setCell ⟨g, k, none⟩ (.int .i64 x)) (some g) := by
  have hn : n = l.length := by
    rcases h.2 with ⟨hv, _⟩ | ⟨g', cap, cur, hv, _⟩
    · cases hv
    · injection hv
  subst hn
  have := World.ownsRow.stored h k (.int .i64 x)
  refine ⟨?_, this.2⟩
  unfold OwnI
  rw [List.length_set, List.map_set]
  exact this.1
/-- the form of a slice that is owned: its block, where there is an element -/
theorem OwnI.shape {w : World} {B : Nat} {v : Value} {l : List Int} (h : OwnI w B v l) : (v = .slice none 0 0 ∧ l = []) ∨ ∃ g c, v = .slice (some ⟨g, 0, none⟩) l.length c ∧ B ≤ g ∧ g < w.heap.size ∧ l.length ≤ c ∧ c ≤ 9223372036854775807 := by
  rcases h.2 with ⟨hv, h0⟩ | ⟨g, cap, cur, hv, hb, hg, hn, hm, _⟩
  · exact .inl ⟨hv, List.length_eq_zero_iff.1 h0⟩
  · exact .inr ⟨g, cap, hv, hb, (Array.getElem?_eq_some_iff.1 hg).1, hn, by unfold maxLen at hm; omega⟩
end Go.Proofs.YtohjjhoobikioaaDoor
/-! The contracts of the leaves: in, RuneOk, Printable, Width of both packages. -/
namespace Go.Proofs.YtohjjhoobikioaaDoor
open Go.RowKit

theorem impl_in (n l h : Int) (w : World) : Calls Tryd.prog 97 #[.int .i64 n, .int .i64 l, .int .i64 h] w fun e w' => e = .returned (.bool (inB n l h)) ∧ w = w' := by
  by_cases h1 : l ≤ n
  · by_cases h2 : n ≤ h
    · have e1 : inB n l h = true := by simp [inB, h1, h2]
      rw [e1]
      go_enter Tryd.func97, Tryd.ntmps97
      go_wp2
      all_goals go_ret
      all_goals simp_all
    · have e1 : inB n l h = false := by simp [inB, h1, h2]
      rw [e1]
      go_enter Tryd.func97, Tryd.ntmps97
      go_wp2
      all_goals go_ret
      all_goals simp_all
  · have e1 : inB n l h = false := by simp [inB, h1]
    rw [e1]
    go_enter Tryd.func97, Tryd.ntmps97
    go_wp2
    all_goals go_ret
    all_goals simp_all

theorem impl_RuneOk (r : Int) (w : World) : Calls Tryd.prog 128 #[.int .i64 r] w fun e w' => e = .returned (.bool (runeOk r)) ∧ w = w' := by
  unfold runeOk
  cases h1 : inB r 0 1114111 <;> cases h2 : inB r 55296 57343
  all_goals
    go_enter Tryd.func128, Tryd.ntmps128
    go_wp2_with (go_at_call 97; refine (impl_in _ _ _ _).mono ?_; rintro e w' ⟨rfl, rfl⟩)
    go_ret
    exact ⟨rfl, rfl⟩

theorem impl_Printable (r : Int) (w : World) : Calls Tryd.prog 130 #[.int .i64 r] w fun e w' => e = .returned (.bool (printable r)) ∧ w = w' := by
  unfold printable
  cases h1 : runeOk r <;> cases h2 : inB r 127 159 <;> by_cases h3 : 32 ≤ r
  all_goals
    go_enter Tryd.func130, Tryd.ntmps130
    go_wp2_with (first | (go_at_call 97; refine (impl_in _ _ _ _).mono ?_; rintro e w' ⟨rfl, rfl⟩) | (go_at_call 128; refine (impl_RuneOk _ _).mono ?_; rintro e w' ⟨rfl, rfl⟩))
    go_ret
    exact ⟨by simp [h3], rfl⟩

theorem spec_RuneOk (r : Int) (w : World) : Calls Tryd.prog 115 #[.int .i64 r] w fun e w' => e = .returned (.bool (runeOk r)) ∧ w = w' := by
  by_cases h1 : 0 ≤ r <;> by_cases h2 : r ≤ 1114111 <;> by_cases h3 : r < 55296 <;> by_cases h4 : 57343 < r
  all_goals (try (exfalso; omega))
  all_goals
    have e1 : runeOk r = true ∨ runeOk r = false := by cases runeOk r <;> simp
    rcases e1 with e1 | e1 <;> rw [e1] <;> simp [runeOk, inB] at e1 <;> (try (exfalso; omega)) <;> clear e1
    go_enter Tryd.func115, Tryd.ntmps115
    go_wp2
    all_goals go_ret
    all_goals simp_all

theorem spec_Printable (r : Int) (w : World) : Calls Tryd.prog 117 #[.int .i64 r] w fun e w' => e = .returned (.bool (printable r)) ∧ w = w' := by
  cases h1 : runeOk r <;> by_cases h2 : 32 ≤ r <;> by_cases h3 : r < 127 <;> by_cases h4 : 159 < r
  all_goals (try (exfalso; omega))
  all_goals
    have e1 : printable r = true ∨ printable r = false := by cases printable r <;> simp
    rcases e1 with e1 | e1 <;> rw [e1] <;> simp [printable, inB, h1] at e1 <;> (try (exfalso; omega)) <;> (try clear e1)
    go_enter Tryd.func117, Tryd.ntmps117
    go_wp2_with (go_at_call 115; refine (spec_RuneOk _ _).mono ?_; rintro e w' ⟨rfl, rfl⟩)
    all_goals go_ret
    all_goals simp_all
end Go.Proofs.YtohjjhoobikioaaDoor
/-! Slices of bytes: one that reads as a list, one that the call owns; append onto it; RuneBytes, TextOf. -/
namespace Go.Proofs.YtohjjhoobikioaaDoor
open Go.RowKit

/-- The slice value reads as the bytes l. -/
structure RB (w : World) (A : Option Addr) (n c : Nat) (l : List UInt8) : Prop where
  len : l.length = n
  cap : n ≤ c
  cmax : c ≤ 9223372036854775807
  none_ : A = none → c = 0
  at_ : 0 < n → ∃ b o, A = some ⟨b, o, none⟩ ∧ ∀ j, j < n → w.cell? ⟨b, o + j, none⟩ = some (.int .u8 (l.getD j 0).toNat)
theorem RB.nmax {w : World} {A : Option Addr} {n c : Nat} {l : List UInt8} (h : RB w A n c l) : n ≤ 9223372036854775807 := Nat.le_trans h.cap h.cmax
theorem RB.ext {w w' : World} {A : Option Addr} {n c : Nat} {l : List UInt8} (h : RB w A n c l) (e : Ext w w') : RB w' A n c l :=
  ⟨h.len, h.cap, h.cmax, h.none_, fun hn => by
    obtain ⟨b, o, rfl, hc⟩ := h.at_ hn
    exact ⟨b, o, rfl, fun j hj => e.cell (hc j hj)⟩⟩
theorem RB.nil (w : World) : RB w none 0 0 [] := ⟨rfl, Nat.le_refl _, by omega, fun _ => rfl, fun h => absurd h (by omega)⟩
theorem RB.at1 {w : World} {A : Option Addr} {n c : Nat} {l : List UInt8} (h : RB w A n c l) {k : Nat} (hk : k < n) :
    ∃ b o, A = some ⟨b, o, none⟩ ∧ w.cell? ⟨b, o + k, none⟩ = some (.int .u8 (l.getD k 0).toNat) := by
  obtain ⟨b, o, rfl, hc⟩ := h.at_ (by omega)
  exact ⟨b, o, rfl, hc k hk⟩


def byteC (b : UInt8) : Value := .int .u8 b.toNat
theorem bytes_oneCell (l : List UInt8) : ∀ u ∈ l.map byteC, u.oneCell' = true := by
  intro u hu
  obtain ⟨b, _, rfl⟩ := List.mem_map.1 hu
  rfl
theorem info_byte : (Tryd.prog.info? 5).map (fun i => (i.zero, i.size, i.bytes)) = some (some (.int .u8 0), 1, 1) := by kernel_rfl
/-- v is a slice of the call's own (block B or later) that holds the bytes l. -/
def OwnB (w : World) (B : Nat) (v : Value) (l : List UInt8) : Prop := w.ownsRow B 5 1 v l.length (l.map (byteC))

theorem OwnB.nil (w : World) (B : Nat) : OwnB w B (.slice none 0 0) [] := World.ownsRow_nil _ _ _ _
theorem OwnB.alloc {w : World} {B : Nat} {v : Value} {l : List UInt8} (h : OwnB w B v l) (o : Obj) : OwnB (w.alloc o) B v l := World.ownsRow.alloc h o
theorem OwnB.empty {w : World} {B : Nat} (hB : B ≤ w.heap.size) : OwnB (w.alloc (.cells #[] 5)) B (.slice (some ⟨w.heap.size, 0, none⟩) 0 0) [] :=
  World.ownsRow_made w #[] 0 hB (by unfold maxLen; omega) rfl
theorem OwnB.mono {w : World} {B B' : Nat} {v : Value} {l : List UInt8} (h : OwnB w B v l) (hB : B' ≤ B) : OwnB w B' v l :=
  ⟨h.1, by
    rcases h.2 with h2 | ⟨g, cap, cur, hv, hb, r⟩
    · exact .inl h2
    · exact .inr ⟨g, cap, cur, hv, by omega, r⟩⟩
theorem OwnB.lt {w : World} {B : Nat} {v : Value} {l : List UInt8} (h : OwnB w B v l) : ∀ k, v.ownBlock = some k → B ≤ k ∧ k < w.heap.size := World.ownsRow.lt h
theorem OwnB.kept {w w' : World} {B : Nat} {v : Value} {l : List UInt8} (h : OwnB w B v l) {row : Option Nat} (hg : w.grownBy w' row) (hne : v.ownBlock = none ∨ v.ownBlock ≠ row) : OwnB w' B v l := World.ownsRow.kept h hg hne
theorem OwnB.ext {w w' : World} {B : Nat} {v : Value} {l : List UInt8} (h : OwnB w B v l) (e : Ext w w') : OwnB w' B v l :=
  ⟨h.1, by
    rcases h.2 with h2 | ⟨g, cap, cur, hv, hb, hg, r⟩
    · exact .inl h2
    · exact .inr ⟨g, cap, cur, hv, hb, (Below.block e g (Array.getElem?_eq_some_iff.1 hg).1).trans hg, r⟩⟩
theorem OwnB.form {w : World} {B : Nat} {v : Value} {l : List UInt8} (h : OwnB w B v l) : ∃ A c, v = .slice A l.length c ∧ RB w A l.length c l := by
  have h0 := h
  rcases h.2 with ⟨hv, h0'⟩ | ⟨g, cap, cur, rfl, hb, hg, hn, hm, hs, ht⟩
  · have : l = [] := List.length_eq_zero_iff.1 h0'
    subst this
    exact ⟨none, 0, hv, RB.nil _⟩
  · refine ⟨_, cap, rfl, rfl, hn, by unfold maxLen at hm; omega, (fun h => nomatch h), fun _ => ⟨g, 0, rfl, fun j hj => ?_⟩⟩
    have := World.ownsRow.cellAt h0 j (by omega)
    rw [Nat.zero_add, this]
    simp [hj, byteC]
theorem Ext.grownB {W w w' : World} {v : Value} {l : List UInt8} (h : Ext W w) (hown : OwnB w W.heap.size v l) (hg : w.grownBy w' v.ownBlock) : Ext W w' := Below.grown h hg h.size (fun k hk => (hown.lt k hk).1)

/-- two slices that the call owns: the elder's block lies below where the younger was made -/
theorem OwnB.ne {w0 w : World} {B0 B' : Nat} {v v' : Value} {l l' : List UInt8} (h0 : OwnB w0 B0 v l) (h' : OwnB w B' v' l') (hle : w0.heap.size ≤ B') : v.ownBlock = none ∨ v.ownBlock ≠ v'.ownBlock := by
  rcases hv : v.ownBlock with _ | k
  · exact .inl rfl
  · refine .inr fun e => ?_
    have h1 := (h0.lt k hv).2
    have h2 := (h'.lt k e.symm).1
    omega
theorem OwnB.ne' {w0 w : World} {B0 B' : Nat} {v v' : Value} {l l' : List UInt8} (h0 : OwnB w0 B0 v l) (h' : OwnB w B' v' l') (hle : w0.heap.size ≤ B') : v'.ownBlock = none ∨ v'.ownBlock ≠ v.ownBlock := by
  rcases hv : v'.ownBlock with _ | k
  · exact .inl rfl
  · refine .inr fun e => ?_
    have h1 := (h0.lt k e.symm).2
    have h2 := (h'.lt k hv).1
    omega

/-- append(v, x...): v the call's own, x any bytes. -/
theorem wp_appB {ops : Array Oper} {rest : List Oper} {o : Oper} {a : Act} {Q : Exit → Act → World → Prop} {w : World} (hgd : o.guard = none) (s x : Operand)
    (ho : o.op = .call { callee := .builtin .append, args := #[s, x], argTypes := #[38, 38] })
    {B : Nat} {v : Value} {l : List UInt8} (hs : a.eval s = v) (hown : OwnB w B v l) {A : Option Addr} {m c : Nat} {news : List UInt8} (hx : a.eval x = .slice A m c) (hr : RB w A m c news)
    (hsz : l.length + m ≤ 140737488355327) (hB : B ≤ w.heap.size)
    (h : ∀ v' w', OwnB w' B v' (l ++ news) → w.grownBy w' v.ownBlock → (v'.ownBlock = v.ownBlock ∨ v'.ownBlock = some w.heap.size) → wpList Tryd.prog ops Q rest (a.put o.dst v') w') : wpList Tryd.prog ops Q (o :: rest) a w := by
  refine wpList_plain hgd fun K hK => ?_
  obtain ⟨i0, hi, hz0, hz1, hz2⟩ := info_parts info_byte
  have key : ∃ v' w', (Builtin.append_ #[38, 38] o.type #[v, .slice A m c]).run Tryd.prog w = .ok v' w' ∧ OwnB w' B v' (l ++ news) ∧ w.grownBy w' v.ownBlock ∧ (v'.ownBlock = v.ownBlock ∨ v'.ownBlock = some w.heap.size) := by
    cases A with
    | none =>
      obtain rfl := hr.none_ rfl
      obtain rfl : m = 0 := by have := hr.cap; omega
      have hn : news = [] := List.length_eq_zero_iff.1 hr.len
      subst hn
      exact ⟨v, w, run_append_owned_none (P := Tryd.prog) w B 38 o.type 5 i0 1 Tryd.underlying38 hi v l.length _ hown, by simpa using hown, World.grownBy.refl _ _, .inl rfl⟩
    | some ad =>
      obtain ⟨v', w', hrun, h2, h3, _, h5⟩ := run_append_own_at (P := Tryd.prog) w B 38 o.type 5 i0 (.int .u8 0) 1 1 Tryd.underlying38 hi hz0 hz1 hz2 rfl (by omega) v l.length _ hown ad m c (news.map (byteC))
        (by rw [List.length_map, hr.len]; omega)
        (fun j u hu => by
          have hj : j < news.length := by have := (List.getElem?_eq_some_iff.1 hu).1; simpa using this
          obtain ⟨b, of, hA, hc⟩ := hr.at_ (by rw [← hr.len]; omega)
          obtain rfl := Option.some.inj hA
          rw [Addr.add_lit, hc j (by rw [← hr.len]; exact hj)]
          rw [← hu]; simp [hj, byteC])
        (bytes_oneCell _) (by unfold maxLen; omega) (by omega) hB
      refine ⟨v', w', hrun, ?_, h3, h5⟩
      have hl : (l ++ news).length = l.length + m := by rw [List.length_append, hr.len]
      unfold OwnB
      rw [hl, List.map_append]
      exact h2
  obtain ⟨v', w', hrun, h2, h3, h4⟩ := key
  unfold Oper.wp execOp
  simp only [ho, resolve, invoke, builtin, Sem.run_bind, Sem.run_pure, Result.andThen_ok, List.map_toArray, List.map_cons, List.map_nil, hs, hx, hrun]
  exact hK _ _ (h v' w' h2 h3 h4)

end Go.Proofs.YtohjjhoobikioaaDoor
/-! Slices of bytes and strings: append of a string's bytes; []byte(s); the table of powers. -/
namespace Go.Proofs.YtohjjhoobikioaaDoor
open Go.RowKit

section
variable {P : Program} (w : World)
theorem run_append_room_str (t tx ty e : TypeId) (i : TypeInfo) (ht : P.underlying t = some (.slice e)) (hk : P.underlying tx = some .string) (hi : P.info? e = some i) (h1 : i.size = 1)
    (g sLen sCap : Nat) (cur : Array Value) (hg : w.heap[g]? = some (.cells cur e (0, 0))) (s : ByteArray) (hroom : sLen + s.size ≤ sCap) (hfit : sLen + s.size ≤ cur.size) :
    (Builtin.append_ #[t, tx] ty #[.slice (some ⟨g, 0, none⟩) sLen sCap, .string s]).run P w =
      .ok (.slice (some ⟨g, 0, none⟩) (sLen + s.size) sCap) (w.setRow g (cur.toList.take sLen ++ byteCells s ++ cur.toList.drop (sLen + s.size)).toArray) := by
  have hf := firstCells_string (P := P) s w
  have hst := run_storeCells_at P g sLen e (byteCells s) 0 cur w hg (by rw [byteCells_length]; simpa using hfit) (fun u hu => by
    obtain ⟨_, _, rfl⟩ := List.mem_map.1 hu
    rfl)
  simp only [Nat.add_zero, byteCells_length] at hst
  simp [Builtin.append_, run_underlying ht, run_underlying hk, sizeOf, typeInfo, hi, h1, Builtin.lenOf, hroom, hf, Addr.add_lit, hst]
end

/-- append(v, s...): v the call's own bytes, s a string. -/
theorem wp_appStr {ops : Array Oper} {rest : List Oper} {o : Oper} {a : Act} {Q : Exit → Act → World → Prop} {w : World} (hgd : o.guard = none) (s x : Operand)
    (ho : o.op = .call { callee := .builtin .append, args := #[s, x], argTypes := #[38, 9] })
    {B : Nat} {v : Value} {l : List UInt8} (hs : a.eval s = v) (hown : OwnB w B v l) {news : List UInt8} (hx : a.eval x = .string ⟨news.toArray⟩)
    (hsz : l.length + news.length ≤ 140737488355327) (hB : B ≤ w.heap.size)
    (h : ∀ v' w', OwnB w' B v' (l ++ news) → w.grownBy w' v.ownBlock → (v'.ownBlock = v.ownBlock ∨ v'.ownBlock = some w.heap.size) → wpList Tryd.prog ops Q rest (a.put o.dst v') w') : wpList Tryd.prog ops Q (o :: rest) a w := by
  refine wpList_plain hgd fun K hK => ?_
  obtain ⟨i0, hi, hz0, hz1, hz2⟩ := info_parts info_byte
  have hsi : (⟨news.toArray⟩ : ByteArray).size = news.length := by simp [ByteArray.size]
  have hbc : byteCells ⟨news.toArray⟩ = news.map byteC := by simp [byteCells, byteC]
  have hml : ∀ {n old : Nat}, n ≤ 140737488355327 → grownCap w n old 5 ≤ maxLen := fun hn => grownCap_le_maxLen w _ _ _ (by unfold maxLen; omega)
  have grown : ∀ (old : Nat), OwnB (w.drew.alloc (.cells ((l.map byteC ++ news.map byteC).toArray ++ Builtin.zeroCells (Value.int .u8 0).cells (grownCap w (l.length + news.length) old 5 - (l.length + news.length))) 5)) B
        (.slice (some ⟨w.heap.size, 0, none⟩) (l.length + news.length) (grownCap w (l.length + news.length) old 5)) (l ++ news) := by
    intro old
    have hge := grownCap_ge w (l.length + news.length) old 5
    unfold OwnB
    rw [List.length_append, List.map_append]
    refine ⟨by simp, .inr ⟨w.heap.size, _, _, rfl, hB, heap_alloc_new w.drew _, hge, hml hsz, ?_, ?_⟩⟩
    · simp only [Array.size_append, List.size_toArray, size_zeroCells, List.length_append, List.length_map, Value.cells, List.length_singleton]; omega
    · simp only [Array.toList_append]
      rw [show (l.length + news.length) * 1 = (l.map byteC ++ news.map byteC).length by simp]
      exact List.take_left
  have key : ∃ v' w', (Builtin.append_ #[38, 9] o.type #[v, .string ⟨news.toArray⟩]).run Tryd.prog w = .ok v' w' ∧ OwnB w' B v' (l ++ news) ∧ w.grownBy w' v.ownBlock ∧ (v'.ownBlock = v.ownBlock ∨ v'.ownBlock = some w.heap.size) := by
    have hsrc := Src.ofString (P := Tryd.prog) w (tx := 9) Tryd.underlying9 ⟨news.toArray⟩
    rw [hsi, hbc] at hsrc
    have hsrc' : Src Tryd.prog i0.size 9 (.string ⟨news.toArray⟩) news.length (news.map byteC) w := by rw [hz1]; exact hsrc
    rcases hown.2 with ⟨rfl, h0⟩ | ⟨g, cap, cur, rfl, hbg, hg, hnc, hcm, hcs, htake⟩
    · have hl0 : l = [] := List.length_eq_zero_iff.1 h0
      subst hl0
      by_cases hm : news.length = 0
      · have hn0 : news = [] := List.length_eq_zero_iff.1 hm
        subst hn0
        refine ⟨.slice none 0 0, w, ?_, OwnB.nil _ _, World.grownBy.refl _ _, .inl rfl⟩
        simp [Builtin.append_, run_underlying Tryd.underlying38, run_underlying Tryd.underlying9, sizeOf, typeInfo, hi, Builtin.lenOf, Builtin.firstCells, ByteArray.size]
      · have hr := run_append_grow_src (P := Tryd.prog) w 38 9 o.type 5 i0 (.int .u8 0) Tryd.underlying38 hi hz0 none 0 0 [] (run_firstCells_none w.drew i0.size 0 0 0) (.string ⟨news.toArray⟩) news.length (news.map byteC) hsrc' (by omega) (by omega) (by
          rw [hz2]; exact growslice_fits (bytes := 1) (by omega) (by simp only [List.length_nil] at hsz; omega))
        have hg2 := grown 0
        simp only [List.length_nil, Nat.zero_add, List.map_nil, List.nil_append] at hr hg2 ⊢
        exact ⟨_, _, hr, hg2, ⟨rfl, rfl, rfl, by simp, fun k hk _ => by show (w.heap.push _)[k]? = _; rw [Array.getElem?_push, if_neg (by omega)]⟩, .inr rfl⟩
    · by_cases hroom : l.length + news.length ≤ cap
      · have hr := run_append_room_str (P := Tryd.prog) w 38 9 o.type 5 i0 Tryd.underlying38 Tryd.underlying9 hi hz1 g l.length cap cur hg ⟨news.toArray⟩ (by rw [hsi]; exact hroom) (by rw [hsi]; omega)
        rw [hsi, hbc] at hr
        refine ⟨_, _, hr, ?_, ⟨rfl, rfl, rfl, by simp, fun k _ hk => setRow_other w g k _ (fun e => hk (by simp [Value.ownBlock, e]))⟩, .inl rfl⟩
        unfold OwnB
        rw [List.length_append, List.map_append]
        refine ⟨by simp, .inr ⟨g, cap, _, rfl, hbg, setRow_heap w g cur _ 5 _ hg, hroom, hcm, ?_, ?_⟩⟩
        · simp only [List.size_toArray, List.length_append, List.length_take, List.length_drop, Array.length_toList, List.length_map]
          omega
        · rw [Nat.mul_one] at htake
          rw [htake, show (l.length + news.length) * 1 = (l.map byteC ++ news.map byteC).length by simp]
          exact List.take_left
      · have holds : ∀ j u, (l.map byteC)[j]? = some u → w.drew.cell? ((⟨g, 0, none⟩ : Addr).add j) = some u := fun j u hu => by simpa using hown.cells (g := g) rfl j u hu
        have hr := run_append_grow_src (P := Tryd.prog) w 38 9 o.type 5 i0 (.int .u8 0) Tryd.underlying38 hi hz0 (some ⟨g, 0, none⟩) l.length cap (l.map byteC)
          (run_firstCells_some w.drew i0.size l.length ⟨g, 0, none⟩ l.length cap (l.map byteC) (by rw [hz1]; simp) holds) (.string ⟨news.toArray⟩) news.length (news.map byteC) hsrc' (by omega) (by omega) (by
          rw [hz2]; exact growslice_fits (bytes := 1) (by omega) (by omega))
        have hg2 := grown cap
        exact ⟨_, _, hr, hg2, ⟨rfl, rfl, rfl, by simp, fun k hk _ => by show (w.heap.push _)[k]? = _; rw [Array.getElem?_push, if_neg (by omega)]⟩, .inr rfl⟩
  obtain ⟨v', w', hrun, h2, h3, h4⟩ := key
  unfold Oper.wp execOp
  simp only [ho, resolve, invoke, builtin, Sem.run_bind, Sem.run_pure, Result.andThen_ok, List.map_toArray, List.map_cons, List.map_nil, hs, hx, hrun]
  exact hK _ _ (h v' w' h2 h3 h4)

/-- []byte(s): an arm of the walk -/
theorem wp_toBytes {ops : Array Oper} {rest : List Oper} {d : Option Tmp} {ty : TypeId} {pos : String} {af : Array Edge} {a : Act} {Q : Exit → Act → World → Prop} {w : World} {x : Operand}
    {l : List UInt8} (hx : a.eval x = .string ⟨l.toArray⟩) (hl : l.length ≤ 140737488355327)
    (h : ∀ A c w', RB w' A l.length c l → Ext w w' → wpList Tryd.prog ops Q rest (a.put d (.slice A l.length c)) w') :
    wpList Tryd.prog ops Q (⟨d, Op.convert 9 38 x, ty, pos, af, none⟩ :: rest) a w := by
  refine wpList_plain rfl fun K hK => ?_
  have e := run_bytes_of_string (P := Tryd.prog) w 9 38 5 ⟨l.toArray⟩ Tryd.underlying9 Tryd.underlying38 Tryd.underlying5
  have hsi : (⟨l.toArray⟩ : ByteArray).size = l.length := by simp [ByteArray.size]
  rw [hsi] at e
  unfold Oper.wp execOp
  simp [hx, e, Oper.upon, Result.andThen]
  refine hK _ _ (h _ _ _ ⟨rfl, grownCap_ge _ _ _ _, ?_, (fun h => nomatch h), fun _ => ⟨_, _, rfl, fun j hj => ?_⟩⟩ ((Ext.refl w).drew.alloc _))
  · have := grownCap_le_maxLen w l.length 0 5 (by unfold maxLen; omega)
    unfold maxLen at this; omega
  · rw [cell_of_row _ w.heap.size (0 + j) _ _ _ (heap_alloc_new w.drew _)]
    simp only [bytesRow]
    rw [Nat.zero_add, Array.getElem?_append_left (by simpa using hj)]
    simp [hj]

/-- The table of the powers of ten stands where start-up laid it. -/
def Tab (w : World) : Prop := Lib.TabIs Tryd.prog w "internal/strconv.uint64pow10" .u64 Lib.pow10Tab
theorem Tab.ext {w w' : World} (h : Tab w) (x : Ext w w') : Tab w' := by
  cases hg : Tryd.prog.globalNamed "internal/strconv.uint64pow10" with
  | none => unfold Tab Lib.TabIs World.var? at h; simp [hg] at h
  | some g => exact Joins.tab_stays hg h x (Nat.le_refl _)
theorem Ext.grow {W w : World} (h : Ext W w) (k : Nat) (os : Array Obj) : Ext W (Go.Sort.grow (w.drewN k) os) :=
  ⟨h.os, h.tape, h.output, by have := h.size; simp [Go.Sort.grow]; omega, fun b hb => by
    have e := Below.block h b hb
    have hs := h.size
    show (w.heap ++ os)[b]? = _
    rw [Array.getElem?_append_left (by omega)]; exact e⟩
end Go.Proofs.YtohjjhoobikioaaDoor
/-! RuneBytes and TextOf of both packages. -/
namespace Go.Proofs.YtohjjhoobikioaaDoor
open Go.RowKit

def by8 (x : Int) : UInt8 := UInt8.ofNat x.toNat
def runeBytes (r : Int) : List UInt8 :=
  if runeOk r = false then [] else if r < 128 then [by8 r] else if r < 2048 then [by8 (192 + r / 64), by8 (128 + r % 64)]
  else if r < 65536 then [by8 (224 + r / 4096), by8 (128 + r / 64 % 64), by8 (128 + r % 64)]
  else [by8 (240 + r / 262144), by8 (128 + r / 4096 % 64), by8 (128 + r / 64 % 64), by8 (128 + r % 64)]
def textOf (l : List Int) : List UInt8 := l.flatMap runeBytes
theorem by8_nat {x : Int} (h0 : 0 ≤ x) (h1 : x < 256) : ((by8 x).toNat : Int) = x := by
  unfold by8; rw [UInt8.toNat_ofNat']; omega
theorem runeOk_range {r : Int} (h : runeOk r = true) : 0 ≤ r ∧ r ≤ 1114111 := by
  simp [runeOk, inB] at h; omega
theorem runeBytes_len (r : Int) : (runeBytes r).length ≤ 4 := by
  unfold runeBytes; repeat' split
  all_goals simp
theorem textOf_len (l : List Int) : (textOf l).length ≤ 4 * l.length := by
  induction l with
  | nil => simp [textOf]
  | cons a t ih =>
    have := runeBytes_len a
    simp only [textOf, List.flatMap_cons, List.length_append, List.length_cons] at *
    omega
theorem RB.lit (w : World) (vs : List Value) (l : List UInt8) (h : vs = l.map byteC) (hl : l.length ≤ 16) : RB (w.alloc (.cells vs.toArray 5)) (some ⟨w.heap.size, 0, none⟩) l.length l.length l :=
  ⟨rfl, Nat.le_refl _, by omega, (fun h => nomatch h), fun _ => ⟨_, _, rfl, fun j hj => by
    subst h
    rw [cell_of_row _ w.heap.size (0 + j) _ _ (0, 0) (heap_alloc_new w _)]; simp [hj, byteC]⟩⟩

set_option maxHeartbeats 1000000 in
theorem impl_RuneBytes (r : Int) (w : World) : Calls Tryd.prog 105 #[.int .i64 r] w fun e w' => ∃ A n c, e = .returned (.slice A n c) ∧ RB w' A n c (runeBytes r) ∧ Ext w w' := by
  cases h0 : runeOk r
  · have E : Hid (runeBytes r = []) := by show _ = _; simp [runeBytes, h0]
    go_enter Tryd.func105, Tryd.ntmps105
    go_wp2_with fail
    have k1 := impl_RuneOk r w
    rw [h0] at k1
    refine k1.mono ?_; rintro e w1 ⟨rfl, rfl⟩
    clear k1
    go_wp2_with fail
    go_ret
    exact ⟨none, 0, 0, rfl, by rw [E.out]; exact RB.nil _, Ext.refl _⟩
  obtain ⟨r0, r1⟩ := runeOk_range h0
  by_cases h1 : r < 128
  · have E : Hid (runeBytes r = [by8 r]) := by show _ = _; simp [runeBytes, h0, h1]
    have B1 := by8_nat (x := r) (by omega) (by omega)
    have HB1 := Lib.hid B1; clear B1
    go_enter Tryd.func105, Tryd.ntmps105
    go_wp2_with fail
    have k1 := impl_RuneOk r w
    rw [h0] at k1
    refine k1.mono ?_; rintro e w1 ⟨rfl, rfl⟩
    clear k1
    go_wp2_with fail
    go_ret
    refine ⟨_, 1, 1, rfl, ?_, (Ext.refl _).alloc _⟩
    rw [E.out]
    exact RB.lit w [_] [by8 r] (by simp [byteC, HB1.out]) (by simp)
  by_cases h2 : r < 2048
  · have E : Hid (runeBytes r = [by8 (192 + r / 64), by8 (128 + r % 64)]) := by show _ = _; simp [runeBytes, h0, h1, h2]
    have HB1 := Lib.hid (by8_nat (x := 192 + r / 64) (by omega) (by omega))
    have HB2 := Lib.hid (by8_nat (x := 128 + r % 64) (by omega) (by omega))
    go_enter Tryd.func105, Tryd.ntmps105
    go_wp2_with fail
    have k1 := impl_RuneOk r w
    rw [h0] at k1
    refine k1.mono ?_; rintro e w1 ⟨rfl, rfl⟩
    clear k1
    go_wp2_with fail
    go_ret
    refine ⟨_, 2, 2, rfl, ?_, (Ext.refl _).alloc _⟩
    rw [E.out]
    exact RB.lit w [_, _] [by8 (192 + r / 64), by8 (128 + r % 64)] (by simp [byteC, HB1.out, HB2.out]) (by simp)
  by_cases h3 : r < 65536
  · have E : Hid (runeBytes r = [by8 (224 + r / 4096), by8 (128 + r / 64 % 64), by8 (128 + r % 64)]) := by show _ = _; simp [runeBytes, h0, h1, h2, h3]
    have HB1 := Lib.hid (by8_nat (x := 224 + r / 4096) (by omega) (by omega))
    have HB2 := Lib.hid (by8_nat (x := 128 + r / 64 % 64) (by omega) (by omega))
    have HB3 := Lib.hid (by8_nat (x := 128 + r % 64) (by omega) (by omega))
    go_enter Tryd.func105, Tryd.ntmps105
    go_wp2_with fail
    have k1 := impl_RuneOk r w
    rw [h0] at k1
    refine k1.mono ?_; rintro e w1 ⟨rfl, rfl⟩
    clear k1
    go_wp2_with fail
    go_ret
    refine ⟨_, 3, 3, rfl, ?_, (Ext.refl _).alloc _⟩
    rw [E.out]
    exact RB.lit w [_, _, _] [by8 (224 + r / 4096), by8 (128 + r / 64 % 64), by8 (128 + r % 64)] (by simp [byteC, HB1.out, HB2.out, HB3.out]) (by simp)
  have E : Hid (runeBytes r = [by8 (240 + r / 262144), by8 (128 + r / 4096 % 64), by8 (128 + r / 64 % 64), by8 (128 + r % 64)]) := by show _ = _; simp [runeBytes, h0, h1, h2, h3]
  have HB1 := Lib.hid (by8_nat (x := 240 + r / 262144) (by omega) (by omega))
  have HB2 := Lib.hid (by8_nat (x := 128 + r / 4096 % 64) (by omega) (by omega))
  have HB3 := Lib.hid (by8_nat (x := 128 + r / 64 % 64) (by omega) (by omega))
  have HB4 := Lib.hid (by8_nat (x := 128 + r % 64) (by omega) (by omega))
  go_enter Tryd.func105, Tryd.ntmps105
  go_wp2_with fail
  have k1 := impl_RuneOk r w
  rw [h0] at k1
  refine k1.mono ?_; rintro e w1 ⟨rfl, rfl⟩
  clear k1
  go_wp2_with fail
  go_ret
  refine ⟨_, 4, 4, rfl, ?_, (Ext.refl _).alloc _⟩
  rw [E.out]
  exact RB.lit w [_, _, _, _] [by8 (240 + r / 262144), by8 (128 + r / 4096 % 64), by8 (128 + r / 64 % 64), by8 (128 + r % 64)] (by simp [byteC, HB1.out, HB2.out, HB3.out, HB4.out]) (by simp)

set_option maxHeartbeats 1000000 in
theorem spec_RuneBytes (r : Int) (w : World) : Calls Tryd.prog 76 #[.int .i64 r] w fun e w' => ∃ A n c, e = .returned (.slice A n c) ∧ RB w' A n c (runeBytes r) ∧ Ext w w' := by
  cases h0 : runeOk r
  · have E : Hid (runeBytes r = []) := by show _ = _; simp [runeBytes, h0]
    go_enter Tryd.func76, Tryd.ntmps76
    go_wp2_with fail
    have k1 := spec_RuneOk r w
    rw [h0] at k1
    refine k1.mono ?_; rintro e w1 ⟨rfl, rfl⟩
    clear k1
    go_wp2_with fail
    go_ret
    exact ⟨none, 0, 0, rfl, by rw [E.out]; exact RB.nil _, Ext.refl _⟩
  obtain ⟨r0, r1⟩ := runeOk_range h0
  by_cases h1 : r < 128
  · have E : Hid (runeBytes r = [by8 r]) := by show _ = _; simp [runeBytes, h0, h1]
    have B1 := by8_nat (x := r) (by omega) (by omega)
    have HB1 := Lib.hid B1; clear B1
    go_enter Tryd.func76, Tryd.ntmps76
    go_wp2_with fail
    have k1 := spec_RuneOk r w
    rw [h0] at k1
    refine k1.mono ?_; rintro e w1 ⟨rfl, rfl⟩
    clear k1
    go_wp2_with fail
    go_ret
    refine ⟨_, 1, 1, rfl, ?_, (Ext.refl _).alloc _⟩
    rw [E.out]
    exact RB.lit w [_] [by8 r] (by simp [byteC, HB1.out]) (by simp)
  by_cases h2 : r < 2048
  · have E : Hid (runeBytes r = [by8 (192 + r / 64), by8 (128 + r % 64)]) := by show _ = _; simp [runeBytes, h0, h1, h2]
    have HB1 := Lib.hid (by8_nat (x := 192 + r / 64) (by omega) (by omega))
    have HB2 := Lib.hid (by8_nat (x := 128 + r % 64) (by omega) (by omega))
    go_enter Tryd.func76, Tryd.ntmps76
    go_wp2_with fail
    have k1 := spec_RuneOk r w
    rw [h0] at k1
    refine k1.mono ?_; rintro e w1 ⟨rfl, rfl⟩
    clear k1
    go_wp2_with fail
    go_ret
    refine ⟨_, 2, 2, rfl, ?_, (Ext.refl _).alloc _⟩
    rw [E.out]
    exact RB.lit w [_, _] [by8 (192 + r / 64), by8 (128 + r % 64)] (by simp [byteC, HB1.out, HB2.out]) (by simp)
  by_cases h3 : r < 65536
  · have E : Hid (runeBytes r = [by8 (224 + r / 4096), by8 (128 + r / 64 % 64), by8 (128 + r % 64)]) := by show _ = _; simp [runeBytes, h0, h1, h2, h3]
    have HB1 := Lib.hid (by8_nat (x := 224 + r / 4096) (by omega) (by omega))
    have HB2 := Lib.hid (by8_nat (x := 128 + r / 64 % 64) (by omega) (by omega))
    have HB3 := Lib.hid (by8_nat (x := 128 + r % 64) (by omega) (by omega))
    go_enter Tryd.func76, Tryd.ntmps76
    go_wp2_with fail
    have k1 := spec_RuneOk r w
    rw [h0] at k1
    refine k1.mono ?_; rintro e w1 ⟨rfl, rfl⟩
    clear k1
    go_wp2_with fail
    go_ret
    refine ⟨_, 3, 3, rfl, ?_, (Ext.refl _).alloc _⟩
    rw [E.out]
    exact RB.lit w [_, _, _] [by8 (224 + r / 4096), by8 (128 + r / 64 % 64), by8 (128 + r % 64)] (by simp [byteC, HB1.out, HB2.out, HB3.out]) (by simp)
  have E : Hid (runeBytes r = [by8 (240 + r / 262144), by8 (128 + r / 4096 % 64), by8 (128 + r / 64 % 64), by8 (128 + r % 64)]) := by show _ = _; simp [runeBytes, h0, h1, h2, h3]
  have HB1 := Lib.hid (by8_nat (x := 240 + r / 262144) (by omega) (by omega))
  have HB2 := Lib.hid (by8_nat (x := 128 + r / 4096 % 64) (by omega) (by omega))
  have HB3 := Lib.hid (by8_nat (x := 128 + r / 64 % 64) (by omega) (by omega))
  have HB4 := Lib.hid (by8_nat (x := 128 + r % 64) (by omega) (by omega))
  go_enter Tryd.func76, Tryd.ntmps76
  go_wp2_with fail
  have k1 := spec_RuneOk r w
  rw [h0] at k1
  refine k1.mono ?_; rintro e w1 ⟨rfl, rfl⟩
  clear k1
  go_wp2_with fail
  go_ret
  refine ⟨_, 4, 4, rfl, ?_, (Ext.refl _).alloc _⟩
  rw [E.out]
  exact RB.lit w [_, _, _, _] [by8 (240 + r / 262144), by8 (128 + r / 4096 % 64), by8 (128 + r / 64 % 64), by8 (128 + r % 64)] (by simp [byteC, HB1.out, HB2.out, HB3.out, HB4.out]) (by simp)
end Go.Proofs.YtohjjhoobikioaaDoor
/-! TextOf of both packages. -/
namespace Go.Proofs.YtohjjhoobikioaaDoor
open Go.RowKit

/-- string(b): an arm of the walk -/
theorem wp_toStr {ops : Array Oper} {rest : List Oper} {d : Option Tmp} {ty : TypeId} {pos : String} {af : Array Edge} {a : Act} {Q : Exit → Act → World → Prop} {w : World} {x : Operand}
    {A : Option Addr} {n c : Nat} {l : List UInt8} (hx : a.eval x = .slice A n c) (hr : RB w A n c l)
    (h : wpList Tryd.prog ops Q rest (a.put d (.string ⟨l.toArray⟩)) w) :
    wpList Tryd.prog ops Q (⟨d, Op.convert 38 9 x, ty, pos, af, none⟩ :: rest) a w := by
  refine wpList_plain rfl fun K hK => ?_
  have e : (convert 38 9 (.slice A n c)).run Tryd.prog w = .ok (.string ⟨l.toArray⟩) w := by
    obtain rfl := hr.len
    cases A with
    | none =>
      obtain rfl := hr.none_ rfl
      have hl : l = [] := List.length_eq_zero_iff.1 (by have := hr.cap; omega)
      subst hl
      exact run_convert_bytes_nil w 38 5 Tryd.underlying38 Tryd.underlying5 0 0 9 Tryd.underlying9
    | some ad =>
      refine run_convert_bytes_back w 38 9 5 ad c l Tryd.underlying38 Tryd.underlying5 Tryd.underlying9 (fun j hj => ?_)
      obtain ⟨b, o, e, hc⟩ := hr.at_ (by omega)
      obtain rfl := Option.some.inj e
      rw [Addr.add_lit, hc j hj]
      simp [hj]
  unfold Oper.wp execOp
  simp [hx, e, Oper.upon, Result.andThen]
  exact hK _ _ h

theorem textOf_snoc {t : List Int} {k : Nat} (hk : k < t.length) : textOf (t.take (k + 1)) = textOf (t.take k) ++ runeBytes (t[k]?.getD 0) := by
  unfold textOf; rw [take_snoc hk, List.flatMap_append]; simp


set_option maxHeartbeats 1000000 in
theorem spec_TextOf (A : Option Addr) (n c : Nat) (t : List Int) (W : World) (ht : RI W A n c t) (hsm : n ≤ 4294967296) :
    Calls Tryd.prog 138 #[.slice A n c] W fun e w' => e = .returned (.string ⟨(textOf t).toArray⟩) ∧ Ext W w' := by
  have hn := ht.nmax
  go_enter Tryd.func138, Tryd.ntmps138
  go_wp2_with fail
  go_loopw [3, 9] (fun vo vi wr => ∃ k : Nat, k ≤ n ∧ vi = .int .i64 k ∧ OwnB wr W.heap.size vo (textOf (t.take k)) ∧ Ext W wr) (fun _ vi _ => n - (intOf vi).toNat)
  case atStart => exact ⟨0, by omega, rfl, OwnB.empty (Nat.le_refl _), (Ext.refl _).alloc _⟩
  case round =>
    obtain ⟨k, hk, rfl, hown, hx⟩ := hrel
    by_cases hlt : k < n
    · obtain ⟨b, o, rfl, hcell⟩ := (ht.ext hx).at1 hlt
      have hs := Lib.hid (textOf_snoc (show k < t.length by rw [ht.len]; exact hlt))
      have hl := textOf_len (t.take k)
      have hl2 : (t.take k).length ≤ k := List.length_take_le _ _
      have hl3 := runeBytes_len (t[k]?.getD 0)
      have hB := hx.size
      go_wp2_with fail
      refine (spec_RuneBytes _ _).mono ?_; rintro e w1 ⟨A1, n1, c1, rfl, r1, x1⟩
      have hlen1 := r1.len
      have hB1 := x1.size
      go_wp2_with (at_builtin; refine wp_appB rfl _ _ rfl rfl (hown.ext x1) rfl r1 (by omega) (by omega) ?_)
      intro v1 w2 hown1 hg1 _
      have hx1 := (hx.trans x1).grownB (hown.ext x1) hg1
      go_wp2_with fail
      go_roundw
      case rel => exact ⟨k + 1, by omega, by go_num, by rw [hs.out]; exact hown1, hx1⟩
      case measure => simp [intOf]; omega
    · have e : t.take k = t := List.take_of_length_le (by rw [ht.len]; omega)
      rw [e] at hown
      obtain ⟨A1, c1, rfl, r1⟩ := hown.form
      go_wp2_with ((with_reducible refine wp_toStr (A := A1) (c := c1) (l := textOf t) ?_ r1 ?_); exact rfl)
      go_wp2_with fail
      go_ret
      exact ⟨rfl, hx⟩
end Go.Proofs.YtohjjhoobikioaaDoor
/-! Slices of strings: one that reads as a list, one that the call owns; append onto it. -/
namespace Go.Proofs.YtohjjhoobikioaaDoor
open Go.RowKit

def strC (b : List UInt8) : Value := .string ⟨b.toArray⟩
/-- The slice value reads as the strings l. -/
structure RS (w : World) (A : Option Addr) (n c : Nat) (l : List (List UInt8)) : Prop where
  len : l.length = n
  cap : n ≤ c
  cmax : c ≤ 9223372036854775807
  none_ : A = none → c = 0
  at_ : 0 < n → ∃ b o, A = some ⟨b, o, none⟩ ∧ ∀ j, j < n → w.cell? ⟨b, o + j, none⟩ = some (strC (l.getD j []))
theorem RS.nmax {w : World} {A : Option Addr} {n c : Nat} {l : List (List UInt8)} (h : RS w A n c l) : n ≤ 9223372036854775807 := Nat.le_trans h.cap h.cmax
theorem RS.ext {w w' : World} {A : Option Addr} {n c : Nat} {l : List (List UInt8)} (h : RS w A n c l) (e : Ext w w') : RS w' A n c l :=
  ⟨h.len, h.cap, h.cmax, h.none_, fun hn => by
    obtain ⟨b, o, rfl, hc⟩ := h.at_ hn
    exact ⟨b, o, rfl, fun j hj => e.cell (hc j hj)⟩⟩
theorem RS.nil (w : World) : RS w none 0 0 [] := ⟨rfl, Nat.le_refl _, by omega, fun _ => rfl, fun h => absurd h (by omega)⟩
theorem RS.at1 {w : World} {A : Option Addr} {n c : Nat} {l : List (List UInt8)} (h : RS w A n c l) {k : Nat} (hk : k < n) :
    ∃ b o, A = some ⟨b, o, none⟩ ∧ w.cell? ⟨b, o + k, none⟩ = some (strC (l.getD k [])) := by
  obtain ⟨b, o, rfl, hc⟩ := h.at_ (by omega)
  exact ⟨b, o, rfl, hc k hk⟩


theorem strs_oneCell (l : List (List UInt8)) : ∀ u ∈ l.map strC, u.oneCell' = true := by
  intro u hu
  obtain ⟨b, _, rfl⟩ := List.mem_map.1 hu
  rfl
theorem info_str : (Tryd.prog.info? 9).map (fun i => (i.zero, i.size, i.bytes)) = some (some (.string .empty), 1, 16) := by kernel_rfl
/-- v is a slice of the call's own (block B or later) that holds the bytes l. -/
def OwnS (w : World) (B : Nat) (v : Value) (l : List (List UInt8)) : Prop := w.ownsRow B 9 1 v l.length (l.map (strC))

theorem OwnS.nil (w : World) (B : Nat) : OwnS w B (.slice none 0 0) [] := World.ownsRow_nil _ _ _ _
theorem OwnS.alloc {w : World} {B : Nat} {v : Value} {l : List (List UInt8)} (h : OwnS w B v l) (o : Obj) : OwnS (w.alloc o) B v l := World.ownsRow.alloc h o
theorem OwnS.empty {w : World} {B : Nat} (hB : B ≤ w.heap.size) : OwnS (w.alloc (.cells #[] 9)) B (.slice (some ⟨w.heap.size, 0, none⟩) 0 0) [] :=
  World.ownsRow_made w #[] 0 hB (by unfold maxLen; omega) rfl
theorem OwnS.mono {w : World} {B B' : Nat} {v : Value} {l : List (List UInt8)} (h : OwnS w B v l) (hB : B' ≤ B) : OwnS w B' v l :=
  ⟨h.1, by
    rcases h.2 with h2 | ⟨g, cap, cur, hv, hb, r⟩
    · exact .inl h2
    · exact .inr ⟨g, cap, cur, hv, by omega, r⟩⟩
theorem OwnS.lt {w : World} {B : Nat} {v : Value} {l : List (List UInt8)} (h : OwnS w B v l) : ∀ k, v.ownBlock = some k → B ≤ k ∧ k < w.heap.size := World.ownsRow.lt h
theorem OwnS.kept {w w' : World} {B : Nat} {v : Value} {l : List (List UInt8)} (h : OwnS w B v l) {row : Option Nat} (hg : w.grownBy w' row) (hne : v.ownBlock = none ∨ v.ownBlock ≠ row) : OwnS w' B v l := World.ownsRow.kept h hg hne
theorem OwnS.ext {w w' : World} {B : Nat} {v : Value} {l : List (List UInt8)} (h : OwnS w B v l) (e : Ext w w') : OwnS w' B v l :=
  ⟨h.1, by
    rcases h.2 with h2 | ⟨g, cap, cur, hv, hb, hg, r⟩
    · exact .inl h2
    · exact .inr ⟨g, cap, cur, hv, hb, (Below.block e g (Array.getElem?_eq_some_iff.1 hg).1).trans hg, r⟩⟩
theorem OwnS.form {w : World} {B : Nat} {v : Value} {l : List (List UInt8)} (h : OwnS w B v l) : ∃ A c, v = .slice A l.length c ∧ RS w A l.length c l := by
  have h0 := h
  rcases h.2 with ⟨hv, h0'⟩ | ⟨g, cap, cur, rfl, hb, hg, hn, hm, hs, ht⟩
  · have : l = [] := List.length_eq_zero_iff.1 h0'
    subst this
    exact ⟨none, 0, hv, RS.nil _⟩
  · refine ⟨_, cap, rfl, rfl, hn, by unfold maxLen at hm; omega, (fun h => nomatch h), fun _ => ⟨g, 0, rfl, fun j hj => ?_⟩⟩
    have := World.ownsRow.cellAt h0 j (by omega)
    rw [Nat.zero_add, this]
    simp [hj, strC]
theorem Ext.grownS {W w w' : World} {v : Value} {l : List (List UInt8)} (h : Ext W w) (hown : OwnS w W.heap.size v l) (hg : w.grownBy w' v.ownBlock) : Ext W w' := Below.grown h hg h.size (fun k hk => (hown.lt k hk).1)

/-- two slices that the call owns: the elder's block lies below where the younger was made -/
theorem OwnS.ne {w0 w : World} {B0 B' : Nat} {v v' : Value} {l l' : List (List UInt8)} (h0 : OwnS w0 B0 v l) (h' : OwnS w B' v' l') (hle : w0.heap.size ≤ B') : v.ownBlock = none ∨ v.ownBlock ≠ v'.ownBlock := by
  rcases hv : v.ownBlock with _ | k
  · exact .inl rfl
  · refine .inr fun e => ?_
    have h1 := (h0.lt k hv).2
    have h2 := (h'.lt k e.symm).1
    omega
theorem OwnS.ne' {w0 w : World} {B0 B' : Nat} {v v' : Value} {l l' : List (List UInt8)} (h0 : OwnS w0 B0 v l) (h' : OwnS w B' v' l') (hle : w0.heap.size ≤ B') : v'.ownBlock = none ∨ v'.ownBlock ≠ v.ownBlock := by
  rcases hv : v'.ownBlock with _ | k
  · exact .inl rfl
  · refine .inr fun e => ?_
    have h1 := (h0.lt k e.symm).2
    have h2 := (h'.lt k hv).1
    omega

/-- append(v, x...): v the call's own, x any bytes. -/
theorem wp_appS {ops : Array Oper} {rest : List Oper} {o : Oper} {a : Act} {Q : Exit → Act → World → Prop} {w : World} (hgd : o.guard = none) (s x : Operand)
    (ho : o.op = .call { callee := .builtin .append, args := #[s, x], argTypes := #[142, 142] })
    {B : Nat} {v : Value} {l : List (List UInt8)} (hs : a.eval s = v) (hown : OwnS w B v l) {A : Option Addr} {m c : Nat} {news : List (List UInt8)} (hx : a.eval x = .slice A m c) (hr : RS w A m c news)
    (hsz : l.length + m ≤ 8796093022207) (hB : B ≤ w.heap.size)
    (h : ∀ v' w', OwnS w' B v' (l ++ news) → w.grownBy w' v.ownBlock → (v'.ownBlock = v.ownBlock ∨ v'.ownBlock = some w.heap.size) → wpList Tryd.prog ops Q rest (a.put o.dst v') w') : wpList Tryd.prog ops Q (o :: rest) a w := by
  refine wpList_plain hgd fun K hK => ?_
  obtain ⟨i0, hi, hz0, hz1, hz2⟩ := info_parts info_str
  have key : ∃ v' w', (Builtin.append_ #[142, 142] o.type #[v, .slice A m c]).run Tryd.prog w = .ok v' w' ∧ OwnS w' B v' (l ++ news) ∧ w.grownBy w' v.ownBlock ∧ (v'.ownBlock = v.ownBlock ∨ v'.ownBlock = some w.heap.size) := by
    cases A with
    | none =>
      obtain rfl := hr.none_ rfl
      obtain rfl : m = 0 := by have := hr.cap; omega
      have hn : news = [] := List.length_eq_zero_iff.1 hr.len
      subst hn
      exact ⟨v, w, run_append_owned_none (P := Tryd.prog) w B 142 o.type 9 i0 1 Tryd.underlying142 hi v l.length _ hown, by simpa using hown, World.grownBy.refl _ _, .inl rfl⟩
    | some ad =>
      obtain ⟨v', w', hrun, h2, h3, _, h5⟩ := run_append_own_at (P := Tryd.prog) w B 142 o.type 9 i0 (.string .empty) 1 16 Tryd.underlying142 hi hz0 hz1 hz2 rfl (by omega) v l.length _ hown ad m c (news.map (strC))
        (by rw [List.length_map, hr.len]; omega)
        (fun j u hu => by
          have hj : j < news.length := by have := (List.getElem?_eq_some_iff.1 hu).1; simpa using this
          obtain ⟨b, of, hA, hc⟩ := hr.at_ (by rw [← hr.len]; omega)
          obtain rfl := Option.some.inj hA
          rw [Addr.add_lit, hc j (by rw [← hr.len]; exact hj)]
          rw [← hu]; simp [hj, strC])
        (strs_oneCell _) (by unfold maxLen; omega) (by omega) hB
      refine ⟨v', w', hrun, ?_, h3, h5⟩
      have hl : (l ++ news).length = l.length + m := by rw [List.length_append, hr.len]
      unfold OwnS
      rw [hl, List.map_append]
      exact h2
  obtain ⟨v', w', hrun, h2, h3, h4⟩ := key
  unfold Oper.wp execOp
  simp only [ho, resolve, invoke, builtin, Sem.run_bind, Sem.run_pure, Result.andThen_ok, List.map_toArray, List.map_cons, List.map_nil, hs, hx, hrun]
  exact hK _ _ (h v' w' h2 h3 h4)

theorem RS.new (w : World) (l : List (List UInt8)) (hl : l.length ≤ 9223372036854775807) : RS (w.alloc (.cells (l.map strC).toArray 9)) (some ⟨w.heap.size, 0, none⟩) l.length l.length l :=
  ⟨rfl, Nat.le_refl _, hl, (fun h => nomatch h), fun _ => ⟨_, _, rfl, fun j hj => by
    rw [cell_of_row _ w.heap.size (0 + j) _ _ (0, 0) (heap_alloc_new w _)]; simp [hj]⟩⟩
end Go.Proofs.YtohjjhoobikioaaDoor
/-! A store into a block that is known whole: the world behind it is any world that has the new row there, all else as it was. -/
namespace Go.Proofs.YtohjjhoobikioaaDoor
open Go.RowKit

/-- what the walk reads of a block that is known whole -/
theorem rowAll {w : World} {g : Nat} {T : TypeId} {cs : Array Value} (h : w.heap[g]? = some (.cells cs T (0, 0))) : (∀ i, w.cell? ⟨g, i, none⟩ = cs[i]?) ∧ (∀ i, w.frozen? ⟨g, i, none⟩ = false) ∧ g < w.heap.size :=
  ⟨fun i => cell_of_row w g i cs T (0, 0) h, fun i => frozen_of_row w g i cs T h, (Array.getElem?_eq_some_iff.1 h).1⟩
theorem row_new (w : World) (o : Obj) : (w.alloc o).heap[w.heap.size]? = some o := heap_alloc_new w o
theorem row_ext {w w' : World} {g : Nat} {o : Obj} (h : w.heap[g]? = some o) (x : Ext w w') : w'.heap[g]? = some o := (Below.block x g (Array.getElem?_eq_some_iff.1 h).1).trans h
theorem row_grown {w w' : World} {g : Nat} {o : Obj} {row : Option Nat} (h : w.heap[g]? = some o) (x : w.grownBy w' row) (hne : some g ≠ row) : w'.heap[g]? = some o := (x.block g (Array.getElem?_eq_some_iff.1 h).1 hne).trans h
theorem row_alloc {w : World} {g : Nat} {o : Obj} (h : w.heap[g]? = some o) (o' : Obj) : (w.alloc o').heap[g]? = some o := row_ext h ((Ext.refl w).alloc o')
theorem Ext.row {W w w' : World} {g : Nat} (h : Ext W w) (x : w.grownBy w' (some g)) (hg : W.heap.size ≤ g) : Ext W w' := Below.grown h x h.size (fun k hk => by injection hk with hk; omega)

theorem wp_storeAt {ops : Array Oper} {rest : List Oper} {d : Option Tmp} {tp : TypeId} {pos : String} {af : Array Edge} {a : Act} {w : World} {Q : Exit → Act → World → Prop} {ty : TypeId} {x y : Operand}
    {g off : Nat} {v : Value} {E : TypeId} {old : Array Value} (new : Array Value) (hg : w.heap[g]? = some (.cells old E (0, 0))) (hx : a.eval x = .pointer (some ⟨g, off, none⟩)) (hy : a.eval y = v)
    (hi : (Tryd.prog.info? ty).map (·.size) = some v.cells.size) (h1 : v.cells.all (·.oneCell') = true) (hfit : off + v.cells.toList.length ≤ old.size)
    (hnew : (old.toList.take off ++ v.cells.toList ++ old.toList.drop (off + v.cells.toList.length)).toArray = new)
    (h : ∀ w', w'.heap[g]? = some (.cells new E (0, 0)) → w.grownBy w' (some g) → wpList Tryd.prog ops Q rest (a.put d undef) w') : wpList Tryd.prog ops Q (⟨d, Op.store ty x y, tp, pos, af, none⟩ :: rest) a w := by
  refine wpList_plain rfl fun K hK => ?_
  have hrun := run_storeCells_at (P := Tryd.prog) g off E v.cells.toList 0 old w hg (by simpa using hfit) (fun u hu => (Array.all_eq_true_iff_forall_mem.1 h1) u (by simpa using hu))
  have hst : (storeVar ty ⟨g, off, none⟩ v).run Tryd.prog w = .ok () (w.setRow g new) := by
    cases hq : Tryd.prog.info? ty with
    | none => simp [hq] at hi
    | some i =>
      have hs : v.cells.size = i.size := by simp [hq] at hi; omega
      simp only [Nat.add_zero] at hrun
      rw [hnew] at hrun
      simp [storeVar, sizeOf, typeInfo, hq, hs, hrun]
  unfold Oper.wp execOp
  simp only [hx, hy, Instr.storeAt, Instr.sureAddr, Sem.run_bind, Sem.run_pure, Result.andThen_ok, hst]
  refine hK _ _ (h _ (setRow_heap w g old new E _ hg) ⟨rfl, rfl, rfl, by simp, fun k _ hk => setRow_other w g k new (fun e => hk (by rw [e]))⟩)
end Go.Proofs.YtohjjhoobikioaaDoor
