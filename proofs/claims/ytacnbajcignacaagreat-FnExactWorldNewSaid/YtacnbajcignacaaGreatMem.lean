/-
  Memory in pieces, for the evaluator: deep data that can be read, lists of a call's own.
-/
import Derived.Test.YtacnbajcignacaaGreatEng
namespace Go.Proofs.YtacnbajcignacaaGreat
open Go.RowKit

def Ext (w w' : World) : Prop := Below w.heap.size w w'
theorem Ext.refl (w : World) : Ext w w := Below.refl _ _
theorem Ext.trans {a b c : World} (h : Ext a b) (k : Ext b c) : Ext a c := Below.trans h (Below.mono k (Below.size h))
theorem Ext.cell {w w' : World} (h : Ext w w') {p : Addr} {v : Value} (hc : w.cell? p = some v) : w'.cell? p = some v :=
  (Below.cell h (World.block_lt_of_cell? w p hc)).trans hc
theorem Ext.size {w w' : World} (h : Ext w w') : w.heap.size ≤ w'.heap.size := Below.size h
theorem Ext.alloc {a w : World} (h : Ext a w) (o : Obj) : Ext a (w.alloc o) := Below.alloc h (Below.size h) o
theorem Ext.drew {a w : World} (h : Ext a w) : Ext a w.drew := Below.drew h
theorem below_drewN {B : Nat} {a w : World} (h : Below B a w) (n : Nat) : Below B a (w.drewN n) := ⟨h.os, h.tape, h.output, h.size, h.block⟩
theorem Ext.drewN {a w : World} (h : Ext a w) (n : Nat) : Ext a (w.drewN n) := below_drewN h n

theorem grown_setCell (w : World) (a : Addr) (u : Value) : w.grownBy (w.setCell a u) (some a.block) :=
  ⟨rfl, rfl, rfl, by simp [World.setCell], fun k _ hne => Below.heap_setCell _ _ _ _ (fun e => hne (by rw [e]))⟩
theorem grown_drewN (w : World) (n : Nat) (row : Option Nat) : w.grownBy (w.drewN n) row := ⟨rfl, rfl, rfl, Nat.le_refl _, fun _ _ _ => rfl⟩
theorem grown_of_ext {w w' : World} (h : Ext w w') (row : Option Nat) : w.grownBy w' row := ⟨h.os, h.tape, h.output, Below.size h, fun k hk _ => Below.block h k hk⟩
theorem drewN_heap (w : World) (n : Nat) : (w.drewN n).heap = w.heap := rfl
/-- what lies in blocks made since does not count -/
theorem grown_onto {W w w' : World} {r row : Option Nat} (h : W.grownBy w r) (hg : w.grownBy w' row) (hr : ∀ k, row = some k → W.heap.size ≤ k) : W.grownBy w' r :=
  ⟨hg.os.trans h.os, hg.tape.trans h.tape, hg.output.trans h.output, Nat.le_trans h.size hg.size, fun k hk hne =>
    (hg.block k (Nat.lt_of_lt_of_le hk h.size) (fun e => by have := hr k e.symm; omega)).trans (h.block k hk hne)⟩
theorem rowAll {w : World} {g : Nat} {T : TypeId} {cs : Array Value} (h : w.heap[g]? = some (.cells cs T (0, 0))) : (∀ i, w.cell? ⟨g, i, none⟩ = cs[i]?) ∧ (∀ i, w.frozen? ⟨g, i, none⟩ = false) ∧ g < w.heap.size :=
  ⟨fun i => cell_of_row w g i cs T (0, 0) h, fun i => frozen_of_row w g i cs T h, (Array.getElem?_eq_some_iff.1 h).1⟩
theorem row_new (w : World) (o : Obj) : (w.alloc o).heap[w.heap.size]? = some o := heap_alloc_new w o
theorem row_ext {w w' : World} {g : Nat} {o : Obj} (h : w.heap[g]? = some o) (x : Ext w w') : w'.heap[g]? = some o := (Below.block x g (Array.getElem?_eq_some_iff.1 h).1).trans h
theorem row_grown {w w' : World} {g : Nat} {o : Obj} {row : Option Nat} (h : w.heap[g]? = some o) (x : w.grownBy w' row) (hne : some g ≠ row) : w'.heap[g]? = some o := (x.block g (Array.getElem?_eq_some_iff.1 h).1 hne).trans h
theorem row_alloc {w : World} {g : Nat} {o : Obj} (h : w.heap[g]? = some o) (o' : Obj) : (w.alloc o').heap[g]? = some o := row_ext h ((Ext.refl w).alloc o')
theorem Ext.row {W w w' : World} {g : Nat} (h : Ext W w) (x : w.grownBy w' (some g)) (hg : W.heap.size ≤ g) : Ext W w' := Below.grown h x h.size (fun k hk => by injection hk with hk; omega)

/-- A piece of memory: what it says of a world, and of the blocks in which it lies. -/
structure Pc where
  P : World → List Nat → Prop
  st : ∀ {w w' : World} {F : List Nat}, P w F → (∀ b ∈ F, w'.heap[b]? = w.heap[b]?) → P w' F

inductive Sep (w : World) : List Pc → List Nat → Prop
  | nil : Sep w [] []
  | cons {h : Pc} {L : List Pc} {F G : List Nat} : h.P w F → Sep w L G → Sep w (h :: L) (F ++ G)
theorem Sep.st {w w' : World} {L : List Pc} {F : List Nat} (h : Sep w L F) (hk : ∀ b ∈ F, w'.heap[b]? = w.heap[b]?) : Sep w' L F := by
  induction h with
  | nil => exact .nil
  | cons h1 _ ih => exact .cons (Pc.st _ h1 fun b hb => hk b (List.mem_append_left _ hb)) (ih fun b hb => hk b (List.mem_append_right _ hb))
theorem Sep.uncons {w : World} {h : Pc} {L : List Pc} {F : List Nat} (s : Sep w (h :: L) F) : ∃ F1 G, F = F1 ++ G ∧ h.P w F1 ∧ Sep w L G := by
  cases s with
  | cons a b => exact ⟨_, _, rfl, a, b⟩

/-- Since W the pieces L have been made (or were handed over), and nothing else that was there has turned. -/
structure St (W w : World) (L : List Pc) : Prop where
  ext : Ext W w
  sep : ∃ F, Sep w L F ∧ F.Nodup ∧ ∀ b ∈ F, W.heap.size ≤ b ∧ b < w.heap.size

theorem St.refl (w : World) : St w w [] := ⟨Ext.refl w, [], .nil, List.nodup_nil, fun _ h => by cases h⟩
theorem St.of {W w : World} (x : Ext W w) : St W w [] := ⟨x, [], .nil, List.nodup_nil, fun _ h => by cases h⟩
theorem St.call {W w w' : World} {L : List Pc} (S : St W w L) (x : Ext w w') : St W w' L := by
  obtain ⟨F, s, n, hb⟩ := S.sep
  refine ⟨S.ext.trans x, F, s.st fun b h => Below.block x b (hb b h).2, n, fun b h => ⟨(hb b h).1, ?_⟩⟩
  have := x.size; have := (hb b h).2; omega
theorem St.drewN {W w : World} {L : List Pc} (S : St W w L) (n : Nat) : St W (w.drewN n) L := S.call ((Ext.refl w).drewN n)
theorem St.drew {W w : World} {L : List Pc} (S : St W w L) : St W w.drew L := S.call (Ext.refl w).drew
theorem St.drop {W w : World} {h : Pc} {L : List Pc} (S : St W w (h :: L)) : St W w L := by
  obtain ⟨F, s, n, hb⟩ := S.sep
  obtain ⟨F1, G, rfl, _, g⟩ := s.uncons
  exact ⟨S.ext, G, g, (List.nodup_append.1 n).2.1, fun b h => hb b (List.mem_append_right _ h)⟩
theorem Sep.swap {w : World} {h k : Pc} {L : List Pc} {F : List Nat} (s : Sep w (h :: k :: L) F) : ∃ F', Sep w (k :: h :: L) F' ∧ F'.Perm F := by
  obtain ⟨F1, G, rfl, a, g⟩ := s.uncons
  obtain ⟨F2, G2, rfl, b, g2⟩ := g.uncons
  refine ⟨F2 ++ (F1 ++ G2), .cons b (.cons a g2), ?_⟩
  rw [← List.append_assoc, ← List.append_assoc]
  exact List.Perm.append_right _ List.perm_append_comm
theorem St.swap {W w : World} {h k : Pc} {L : List Pc} (S : St W w (h :: k :: L)) : St W w (k :: h :: L) := by
  obtain ⟨F, s, n, hb⟩ := S.sep
  obtain ⟨F', s', p⟩ := s.swap
  exact ⟨S.ext, F', s', p.nodup_iff.2 n, fun b h => hb b (p.mem_iff.1 h)⟩
/-- under the first piece -/
theorem St.tail {W w : World} {h : Pc} {L L' : List Pc} (S : St W w (h :: L)) (f : ∀ F, Sep w L F → ∃ F', Sep w L' F' ∧ F'.Perm F) : St W w (h :: L') := by
  obtain ⟨F, s, n, hb⟩ := S.sep
  obtain ⟨F1, G, rfl, a, g⟩ := s.uncons
  obtain ⟨G', g', p⟩ := f G g
  have p2 : (F1 ++ G').Perm (F1 ++ G) := List.Perm.append_left _ p
  exact ⟨S.ext, _, .cons a g', p2.nodup_iff.2 n, fun b h => hb b (p2.mem_iff.1 h)⟩
theorem Sep.bring {w : World} : ∀ (i : Nat) {h : Pc} {L : List Pc} {F : List Nat}, Sep w L F → L[i]? = some h → ∃ F', Sep w (h :: L.eraseIdx i) F' ∧ F'.Perm F
  | 0, h, [], F, _, e => by cases e
  | i + 1, h, [], F, _, e => by cases e
  | 0, h, k :: L, F, s, e => by
    simp only [List.getElem?_cons_zero, Option.some.injEq] at e
    subst e
    exact ⟨F, s, List.Perm.refl _⟩
  | i + 1, h, k :: L, F, s, e => by
    obtain ⟨F1, G, rfl, a, g⟩ := s.uncons
    obtain ⟨G', g', p⟩ := Sep.bring i (L := L) g (by simpa using e)
    obtain ⟨F', s', p'⟩ := Sep.swap (.cons a g')
    exact ⟨F', s', p'.trans (List.Perm.append_left _ p)⟩
/-- the i-th piece comes first -/
theorem St.bring {W w : World} {L : List Pc} (S : St W w L) (i : Nat) {h : Pc} (e : L[i]? = some h) : St W w (h :: L.eraseIdx i) := by
  obtain ⟨F, s, n, hb⟩ := S.sep
  obtain ⟨F', s', p⟩ := s.bring i e
  exact ⟨S.ext, F', s', p.nodup_iff.2 n, fun b h => hb b (p.mem_iff.1 h)⟩
theorem St.unbring {W w : World} {h : Pc} {L L' : List Pc} (S : St W w (h :: L)) (i : Nat) (e : L'[i]? = some h) (e2 : L'.eraseIdx i = L) : St W w L' := by
  have key : ∀ (i : Nat) (L' L : List Pc) (G : List Nat), L'[i]? = some h → L'.eraseIdx i = L → Sep w (h :: L) G → ∃ G', Sep w L' G' ∧ G'.Perm G := by
    intro i
    induction i with
    | zero =>
      intro L' L G e e2 s
      cases L' with
      | nil => cases e
      | cons k M => simp at e e2; subst e; subst e2; exact ⟨G, s, List.Perm.refl _⟩
    | succ i ih =>
      intro L' L G e e2 s
      cases L' with
      | nil => cases e
      | cons k M =>
        simp at e e2
        subst e2
        obtain ⟨G1, s1, p1⟩ := s.swap
        obtain ⟨F1, G2, rfl, a, g⟩ := s1.uncons
        obtain ⟨G3, s3, p3⟩ := ih M _ _ e rfl g
        exact ⟨F1 ++ G3, .cons a s3, (List.Perm.append_left _ p3).trans p1⟩
  obtain ⟨F, s, n, hb⟩ := S.sep
  obtain ⟨F', s', p⟩ := key i L' L F e e2 s
  exact ⟨S.ext, F', s', p.nodup_iff.2 n, fun b h => hb b (p.mem_iff.1 h)⟩
/-- what holds of the first piece, and what may come of it -/
theorem St.open_ {W w : World} {h : Pc} {L : List Pc} (S : St W w (h :: L)) : ∃ F, h.P w F ∧ F.Nodup ∧ (∀ b ∈ F, W.heap.size ≤ b ∧ b < w.heap.size) ∧
    ∀ (w' : World) (h' : Pc) (F' : List Nat), w'.os = w.os → w'.tape = w.tape → w'.output = w.output → w.heap.size ≤ w'.heap.size → (∀ b, b < w.heap.size → b ∉ F → w'.heap[b]? = w.heap[b]?) →
      h'.P w' F' → F'.Nodup → (∀ b ∈ F', (b ∈ F ∨ w.heap.size ≤ b) ∧ b < w'.heap.size) → St W w' (h' :: L) := by
  obtain ⟨F, s, n, hb⟩ := S.sep
  obtain ⟨F1, G, rfl, a, g⟩ := s.uncons
  obtain ⟨n1, n2, n3⟩ := List.nodup_append.1 n
  refine ⟨F1, a, n1, fun b h => hb b (List.mem_append_left _ h), fun w' h' F' e1 e2 e3 hs hk hp hn hF => ?_⟩
  refine ⟨?_, F' ++ G, .cons hp (g.st fun b h => hk b (hb b (List.mem_append_right _ h)).2 fun h1 => n3 b h1 b h rfl), ?_, ?_⟩
  · refine ⟨e1.trans S.ext.os, e2.trans S.ext.tape, e3.trans S.ext.output, Nat.le_trans S.ext.size hs, fun k hk2 => ?_⟩
    have := S.ext.size
    exact (hk k (by omega) fun h1 => by have := (hb k (List.mem_append_left _ h1)).1; omega).trans (Below.block S.ext k hk2)
  · refine List.nodup_append.2 ⟨hn, n2, fun b h1 c h2 e => ?_⟩
    subst e
    rcases (hF b h1).1 with h3 | h3
    · exact n3 b h3 b h2 rfl
    · have := (hb b (List.mem_append_right _ h2)).2; omega
  · intro b h
    rcases List.mem_append.1 h with h1 | h1
    · refine ⟨?_, (hF b h1).2⟩
      rcases (hF b h1).1 with h3 | h3
      · exact (hb b (List.mem_append_left _ h3)).1
      · have := S.ext.size; omega
    · have := hb b (List.mem_append_right _ h1)
      exact ⟨this.1, by omega⟩
/-- a new piece -/
theorem St.more {W w w' : World} {L : List Pc} (S : St W w L) (x : Ext w w') {h : Pc} {F : List Nat} (hp : h.P w' F) (hn : F.Nodup) (hF : ∀ b ∈ F, w.heap.size ≤ b ∧ b < w'.heap.size) : St W w' (h :: L) := by
  obtain ⟨G, s, n, hb⟩ := S.sep
  have hs := x.size
  have hs2 := S.ext.size
  refine ⟨S.ext.trans x, F ++ G, .cons hp (s.st fun b h => Below.block x b (hb b h).2), List.nodup_append.2 ⟨hn, n, fun b h1 c h2 e => ?_⟩, fun b h => ?_⟩
  · subst e; have := (hF b h1).1; have := (hb b h2).2; omega
  · rcases List.mem_append.1 h with h1 | h1
    · have := hF b h1; exact ⟨by omega, this.2⟩
    · have := hb b h1; exact ⟨this.1, by omega⟩

/-! ### rows -/
/-- Block b, whole: its cells. -/
def rowP (b : Nat) (T : TypeId) (cs : Array Value) : Pc := ⟨fun w F => F = [b] ∧ w.heap[b]? = some (.cells cs T (0, 0)), fun h k => ⟨h.1, (k b (by rw [h.1]; simp)).trans h.2⟩⟩
theorem St.row {W w : World} {b : Nat} {T : TypeId} {cs : Array Value} {L : List Pc} (S : St W w L) (i : Nat) (e : L[i]? = some (rowP b T cs)) : w.heap[b]? = some (.cells cs T (0, 0)) := by
  obtain ⟨F, s, -, -⟩ := (S.bring i e).sep
  obtain ⟨_, _, _, a, _⟩ := s.uncons
  exact a.2
theorem St.cells {W w : World} {b : Nat} {T : TypeId} {cs : Array Value} {L : List Pc} (S : St W w L) (i : Nat) (e : L[i]? = some (rowP b T cs)) : (∀ i, w.cell? ⟨b, i, none⟩ = cs[i]?) ∧ (∀ i, w.frozen? ⟨b, i, none⟩ = false) ∧ b < w.heap.size := rowAll (S.row i e)
theorem St.alloc {W w : World} {L : List Pc} (S : St W w L) (cs : Array Value) (T : TypeId) : St W (w.alloc (.cells cs T)) (rowP w.heap.size T cs :: L) :=
  S.more ((Ext.refl w).alloc _) (F := [w.heap.size]) ⟨rfl, row_new w _⟩ (by simp) (by simp)
theorem St.skip {W w : World} {L : List Pc} (S : St W w L) (o : Obj) : St W (w.alloc o) L := S.call ((Ext.refl w).alloc o)
theorem St.set {W w w' : World} {b : Nat} {T : TypeId} {cs cs' : Array Value} {L : List Pc} (S : St W w (rowP b T cs :: L)) (h : w'.heap[b]? = some (.cells cs' T (0, 0))) (g : w.grownBy w' (some b)) : St W w' (rowP b T cs' :: L) := by
  obtain ⟨F, ⟨rfl, _⟩, _, hb, k⟩ := S.open_
  have hb2 := hb b (by simp)
  refine k w' _ [b] g.os g.tape g.output g.size (fun c hc hne => g.block c hc (fun e => hne (by injection e with e; simp [e]))) ⟨rfl, h⟩ (by simp) (fun c hc => ?_)
  have := g.size
  simp at hc; subst hc; exact ⟨.inl (by simp), by omega⟩


/-! ### deep data -/
/-- the cell j of the row i -/
theorem flat_get {α : Type} {k : Nat} : ∀ (rows : List (List α)) (i j : Nat) (r : List α) (d : α), (∀ r ∈ rows, r.length = k) → rows[i]? = some r → r[j]? = some d → rows.flatten[i * k + j]? = some d
  | [], i, j, r, d, _, h, _ => by simp at h
  | r0 :: rows, 0, j, r, d, u, h, e => by
    simp at h; subst h
    rw [List.flatten_cons, Nat.zero_mul, Nat.zero_add, List.getElem?_append_left (List.getElem?_eq_some_iff.1 e).1]; exact e
  | r0 :: rows, i + 1, j, r, d, u, h, e => by
    have h0 : r0.length = k := u r0 (by simp)
    rw [List.flatten_cons, List.getElem?_append_right (by rw [h0, Nat.succ_mul]; omega), h0, show (i + 1) * k + j - k = i * k + j by rw [Nat.succ_mul]; omega]
    exact flat_get rows i j r d (fun r hr => u r (List.mem_cons_of_mem _ hr)) (by simpa using h) e
theorem flat_len {α : Type} {k : Nat} : ∀ (rows : List (List α)), (∀ r ∈ rows, r.length = k) → rows.flatten.length = rows.length * k
  | [], _ => by simp
  | r0 :: rows, u => by
    rw [List.flatten_cons, List.length_append, u r0 (by simp), flat_len rows fun r hr => u r (List.mem_cons_of_mem _ hr), List.length_cons, Nat.succ_mul]; omega
theorem flat_set {α : Type} {k : Nat} : ∀ (rows : List (List α)) (i j : Nat) (r : List α) (d : α), (∀ r ∈ rows, r.length = k) → rows[i]? = some r → j < k → (rows.set i (r.set j d)).flatten = rows.flatten.set (i * k + j) d
  | [], i, j, r, d, _, h, _ => by simp at h
  | r0 :: rows, 0, j, r, d, u, h, e => by
    simp at h; subst h
    have h0 : r0.length = k := u r0 (by simp)
    simp [h0, e]
  | r0 :: rows, i + 1, j, r, d, u, h, e => by
    have h0 : r0.length = k := u r0 (by simp)
    have hn : ¬ ((i + 1) * k + j < r0.length) := by rw [h0, Nat.succ_mul]; omega
    simp only [List.set_cons_succ, List.flatten_cons, List.set_append, hn, if_false]
    rw [flat_set rows i j r d (fun r hr => u r (List.mem_cons_of_mem _ hr)) (by simpa using h) e, h0, show (i + 1) * k + j - k = i * k + j by rw [Nat.succ_mul]; omega]

/-- what a world holds -/
def heapOf (w : World) : Nat → Obj → Prop := fun b o => w.heap[b]? = some o
/-- d can be read as u off the blocks G -/
inductive RdD (G : Nat → Obj → Prop) : D → Value → Prop
  | a (x : Value) : RdD G (.a x) x
  | nil (A : Option Addr) (c : Nat) (hm : c ≤ 9223372036854775807) (hA0 : A = none → c = 0) : RdD G (.l []) (.slice A 0 c)
  | l (rows : List (List D)) (n c b o k : Nat) (T : TypeId) (fr : Nat × Nat) (cs : Array Value) (us : Nat → Value) (hn : rows.length = n) (h0 : 0 < n) (hc : n ≤ c) (hm : c ≤ 9223372036854775807) (hk : 0 < k) (hu : ∀ r ∈ rows, r.length = k) (hb : G b (.cells cs T fr))
      (hcell : ∀ i d, rows.flatten[i]? = some d → cs[o + i]? = some (us i)) (hr : ∀ i d, rows.flatten[i]? = some d → RdD G d (us i)) : RdD G (.l rows) (.slice (some ⟨b, o, none⟩) n c)
theorem RdD.mono {G G' : Nat → Obj → Prop} {v : Value} {d : D} (h : RdD G d v) (x : ∀ b o, G b o → G' b o) : RdD G' d v := by
  induction h with
  | a v => exact .a v
  | nil A c h1 h2 => exact .nil A c h1 h2
  | l rows n c b o k T fr cs us h1 h2 h3 h4 h5 h6 h7 h8 _ ih => exact .l rows n c b o k T fr cs us h1 h2 h3 h4 h5 h6 (x _ _ h7) h8 ih
theorem RdD.atom {G : Nat → Obj → Prop} {v u : Value} (h : RdD G (.a v) u) : u = v := by cases h; rfl
theorem RdD.len {G : Nat → Obj → Prop} {v : Value} {rows : List (List D)} (h : RdD G (.l rows) v) : ∃ A c, v = .slice A rows.length c ∧ rows.length ≤ c ∧ c ≤ 9223372036854775807 ∧ (A = none → c = 0) := by
  cases h with
  | nil A c h1 h2 => exact ⟨A, c, rfl, Nat.zero_le _, h1, h2⟩
  | l _ n c b o k T fr cs us h1 h2 h3 h4 => exact ⟨some ⟨b, o, none⟩, c, by rw [h1], by omega, h4, fun h => by cases h⟩
/-- a row -/
theorem RdD.at_ {G : Nat → Obj → Prop} {v : Value} {rows : List (List D)} (h : RdD G (.l rows) v) {i : Nat} {r : List D} (hi : rows[i]? = some r) :
    ∃ c b o T fr cs, v = .slice (some ⟨b, o, none⟩) rows.length c ∧ G b (.cells cs T fr) ∧ ∀ (j : Nat) (d : D), r[j]? = some d → ∃ u, cs[o + (i * r.length + j)]? = some u ∧ RdD G d u := by
  cases h with
  | nil A c h1 h2 => simp at hi
  | l _ n c b o k T fr cs us h1 h2 h3 h4 h5 h6 h7 h8 h9 =>
    have hk : r.length = k := h6 r (List.mem_of_getElem? hi)
    refine ⟨c, b, o, T, fr, cs, by rw [h1], h7, fun j d e => ?_⟩
    have f := flat_get rows i j r d h6 hi e
    rw [hk]
    exact ⟨_, h8 _ _ f, h9 _ _ f⟩

/-- d is u in w, in blocks F of its own -/
inductive OwnD (w : World) : D → Value → List Nat → Prop
  | a (x : Value) : OwnD w (.a x) x []
  | nil : OwnD w (.l []) (.slice none 0 0) []
  | l (rows : List (List D)) (n c g k : Nat) (T : TypeId) (cs : Array Value) (us : Nat → Value) (fs : Nat → List Nat) (hn : rows.length = n) (hc : n ≤ c) (hm : c ≤ maxLen) (hk : 0 < k) (hu : ∀ r ∈ rows, r.length = k) (hs : cs.size = c * k) (h0 : rows = [] → c = 0)
      (hb : w.heap[g]? = some (.cells cs T (0, 0))) (hcell : ∀ i d, rows.flatten[i]? = some d → cs[i]? = some (us i)) (hr : ∀ i d, rows.flatten[i]? = some d → OwnD w d (us i) (fs i)) :
      OwnD w (.l rows) (.slice (some ⟨g, 0, none⟩) n c) (g :: (List.range rows.flatten.length).flatMap fs)
theorem OwnD.st {w w' : World} {v : Value} {d : D} {F : List Nat} (h : OwnD w d v F) (hk : ∀ b ∈ F, w'.heap[b]? = w.heap[b]?) : OwnD w' d v F := by
  induction h with
  | a v => exact .a v
  | nil => exact .nil
  | l rows n c g k T cs us fs h1 h2 h3 h4 h5 h6 h0 h7 h8 _ ih =>
    refine .l rows n c g k T cs us fs h1 h2 h3 h4 h5 h6 h0 ((hk g List.mem_cons_self).trans h7) h8 (fun i d e => ih i d e fun b hb => hk b (List.mem_cons_of_mem _ (List.mem_flatMap.2 ⟨i, ?_, hb⟩)))
    exact List.mem_range.2 (List.getElem?_eq_some_iff.1 e).1
theorem OwnD.rd {w : World} {v : Value} {d : D} {F : List Nat} (h : OwnD w d v F) {G : Nat → Obj → Prop} (x : ∀ b ∈ F, ∀ o, w.heap[b]? = some o → G b o) : RdD G d v := by
  induction h with
  | a v => exact .a v
  | nil => exact .nil none 0 (by omega) (fun _ => rfl)
  | l rows n c g k T cs us fs h1 h2 h3 h4 h5 h6 h00 h7 h8 _ ih =>
    rcases Nat.eq_zero_or_pos n with h0 | h0
    · subst h0
      obtain rfl : rows = [] := List.eq_nil_of_length_eq_zero h1
      exact .nil _ c (by unfold maxLen at h3; omega) (fun h => nomatch h)
    · refine .l rows n c g 0 k T (0, 0) cs us h1 h0 h2 (by unfold maxLen at h3; omega) h4 h5 (x g List.mem_cons_self _ h7) (fun i d e => by rw [Nat.zero_add]; exact h8 i d e) (fun i d e => ih i d e fun b hb => x b (List.mem_cons_of_mem _ (List.mem_flatMap.2 ⟨i, ?_, hb⟩)))
      exact List.mem_range.2 (List.getElem?_eq_some_iff.1 e).1
/-- a list of the call's own -/
def ownP (u : Value) (rows : List (List D)) : Pc := ⟨fun w F => OwnD w (.l rows) u F, fun h k => h.st k⟩
theorem St.own_at {W w : World} {u : Value} {rows : List (List D)} {L : List Pc} (S : St W w L) (h : ownP u rows ∈ L) : ∃ F, OwnD w (.l rows) u F := by
  obtain ⟨i, e⟩ := List.getElem?_of_mem h
  obtain ⟨F, s, _, _⟩ := (S.bring i e).sep
  obtain ⟨F1, _, rfl, a, _⟩ := s.uncons
  exact ⟨F1, a⟩
theorem St.rd {W w : World} {u : Value} {rows : List (List D)} {L : List Pc} (S : St W w L) (h : ownP u rows ∈ L) : RdD (heapOf w) (.l rows) u := by
  obtain ⟨F, a⟩ := S.own_at h
  exact a.rd fun _ _ _ e => e
theorem St.row_at {W w : World} {b : Nat} {T : TypeId} {cs : Array Value} {L : List Pc} (S : St W w L) (h : rowP b T cs ∈ L) : w.heap[b]? = some (.cells cs T (0, 0)) := by
  obtain ⟨i, e⟩ := List.getElem?_of_mem h
  exact S.row i e
/-- blocks F, as they were in w0 -/
def snapP (w0 : World) (F : List Nat) : Pc := ⟨fun w F' => F' = F ∧ ∀ b ∈ F, w.heap[b]? = w0.heap[b]?, fun h k => ⟨h.1, fun b hb => (k b (by rw [h.1]; exact hb)).trans (h.2 b hb)⟩⟩
theorem St.snap_at {W w w0 : World} {F : List Nat} {L : List Pc} (S : St W w L) (h : snapP w0 F ∈ L) : ∀ b ∈ F, w.heap[b]? = w0.heap[b]? := by
  obtain ⟨i, e⟩ := List.getElem?_of_mem h
  obtain ⟨G, s, _, _⟩ := (S.bring i e).sep
  obtain ⟨F1, _, rfl, a, _⟩ := s.uncons
  exact a.2
end Go.Proofs.YtacnbajcignacaaGreat
