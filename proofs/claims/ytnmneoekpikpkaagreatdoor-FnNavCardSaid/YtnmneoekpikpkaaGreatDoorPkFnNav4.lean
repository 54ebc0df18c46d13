/- Part 4 of a proof in several texts (an abstract evaluator, what the functions compute). -/
import Derived.Test.YtnmneoekpikpkaaGreatDoorPkFnNav3
import Derived.Deep.MidRow
import Derived.Laws.BytesString
import Derived.Lib.ConvBytes
import Derived.Laws.CopyRow
namespace Go.Proofs.YtnmneoekpikpkaaGreatDoor
open Go.RowKit
def Ext (w w' : World) : Prop := Below w.heap.size w w'
theorem Ext.refl (w : World) : Ext w w := Below.refl _ _
theorem Ext.trans {a b c : World} (h : Ext a b) (k : Ext b c) : Ext a c := Below.trans h (Below.mono k (Below.size h))
theorem Ext.cell {w w' : World} (h : Ext w w') {p : Addr} {v : Value} (hc : w.cell? p = some v) : w'.cell? p = some v :=
  (Below.cell h (World.block_lt_of_cell? w p hc)).trans hc
theorem Ext.size {w w' : World} (h : Ext w w') : w.heap.size ≤ w'.heap.size := Below.size h
theorem Ext.alloc {a w : World} (h : Ext a w) (o : Obj) : Ext a (w.alloc o) := Below.alloc h (Below.size h) o
theorem Ext.drew {a w : World} (h : Ext a w) : Ext a w.drew := Below.drew h
theorem below_drewN {B : Nat} {a w : World} (h : Below B a w) (n : Nat) : Below B a (w.drewN n) := ⟨h.os, h.tape, h.output, h.size, h.block⟩
theorem Ext.drewN {a w : World} (h : Ext a w) (n : Nat) : Ext a (w.drewN n) := below_drewN h n
theorem grown_setCell (w : World) (a : Addr) (u : Value) : w.grownBy (w.setCell a u) (some a.block) :=
  ⟨rfl, rfl, rfl, by simp [World.setCell], fun k _ hne => Below.heap_setCell _ _ _ _ (fun e => hne (by rw [e]))⟩
theorem grown_drewN (w : World) (n : Nat) (row : Option Nat) : w.grownBy (w.drewN n) row := ⟨rfl, rfl, rfl, Nat.le_refl _, fun _ _ _ => rfl⟩
theorem grown_of_ext {w w' : World} (h : Ext w w') (row : Option Nat) : w.grownBy w' row := ⟨h.os, h.tape, h.output, Below.size h, fun k hk _ => Below.block h k hk⟩
theorem drewN_heap (w : World) (n : Nat) : (w.drewN n).heap = w.heap := rfl
theorem grown_onto {W w w' : World} {r row : Option Nat} (h : W.grownBy w r) (hg : w.grownBy w' row) (hr : ∀ k, row = some k → W.heap.size ≤ k) : W.grownBy w' r :=
  ⟨hg.os.trans h.os, hg.tape.trans h.tape, hg.output.trans h.output, Nat.le_trans h.size hg.size, fun k hk hne =>
    (hg.block k (Nat.lt_of_lt_of_le hk h.size) (fun e => by have := hr k e.symm; omega)).trans (h.block k hk hne)⟩
theorem rowAll {w : World} {g : Nat} {T : TypeId} {cs : Array Value} (h : w.heap[g]? = some (.cells cs T (0, 0))) : (∀ i, w.cell? ⟨g, i, none⟩ = cs[i]?) ∧ (∀ i, w.frozen? ⟨g, i, none⟩ = false) ∧ g < w.heap.size :=
  ⟨fun i => cell_of_row w g i cs T (0, 0) h, fun i => frozen_of_row w g i cs T h, (Array.getElem?_eq_some_iff.1 h).1⟩
theorem row_new (w : World) (o : Obj) : (w.alloc o).heap[w.heap.size]? = some o := heap_alloc_new w o
theorem row_ext {w w' : World} {g : Nat} {o : Obj} (h : w.heap[g]? = some o) (x : Ext w w') : w'.heap[g]? = some o := (Below.block x g (Array.getElem?_eq_some_iff.1 h).1).trans h
theorem row_grown {w w' : World} {g : Nat} {o : Obj} {row : Option Nat} (h : w.heap[g]? = some o) (x : w.grownBy w' row) (hne : some g ≠ row) : w'.heap[g]? = some o := (x.block g (Array.getElem?_eq_some_iff.1 h).1 hne).trans h
theorem row_alloc {w : World} {g : Nat} {o : Obj} (h : w.heap[g]? = some o) (o' : Obj) : (w.alloc o').heap[g]? = some o := row_ext h ((Ext.refl w).alloc o')
theorem Ext.row {W w w' : World} {g : Nat} (h : Ext W w) (x : w.grownBy w' (some g)) (hg : W.heap.size ≤ g) : Ext W w' := Below.grown h x h.size (fun k hk => by injection hk with hk; omega)
structure Pc where
  P : World → List Nat → Prop
  st : ∀ {w w' : World} {F : List Nat}, P w F → (∀ b ∈ F, w'.heap[b]? = w.heap[b]?) → P w' F
inductive Sep (w : World) : List Pc → List Nat → Prop
  | nil : Sep w [] []
  | cons {h : Pc} {L : List Pc} {F G : List Nat} : h.P w F → Sep w L G → Sep w (h :: L) (F ++ G)
theorem Sep.st {w w' : World} {L : List Pc} {F : List Nat} (h : Sep w L F) (hk : ∀ b ∈ F, w'.heap[b]? = w.heap[b]?) : Sep w' L F := by
  induction h with
  | nil => exact .nil
  | cons h1 _ ih => exact .cons (Pc.st _ h1 fun b hb => hk b (List.mem_append_left _ hb)) (ih fun b hb => hk b (List.mem_append_right _ hb))
theorem Sep.uncons {w : World} {h : Pc} {L : List Pc} {F : List Nat} (s : Sep w (h :: L) F) : ∃ F1 G, F = F1 ++ G ∧ h.P w F1 ∧ Sep w L G := by
  cases s with
  | cons a b => exact ⟨_, _, rfl, a, b⟩
structure St (W w : World) (L : List Pc) : Prop where
  ext : Ext W w
  sep : ∃ F, Sep w L F ∧ F.Nodup ∧ ∀ b ∈ F, W.heap.size ≤ b ∧ b < w.heap.size
theorem St.refl (w : World) : St w w [] := ⟨Ext.refl w, [], .nil, List.nodup_nil, fun _ h => by cases h⟩
theorem St.of {W w : World} (x : Ext W w) : St W w [] := ⟨x, [], .nil, List.nodup_nil, fun _ h => by cases h⟩
theorem St.call {W w w' : World} {L : List Pc} (S : St W w L) (x : Ext w w') : St W w' L := by
  obtain ⟨F, s, n, hb⟩ := S.sep
  refine ⟨S.ext.trans x, F, s.st fun b h => Below.block x b (hb b h).2, n, fun b h => ⟨(hb b h).1, ?_⟩⟩
  have := x.size; have := (hb b h).2; omega
theorem St.drewN {W w : World} {L : List Pc} (S : St W w L) (n : Nat) : St W (w.drewN n) L := S.call ((Ext.refl w).drewN n)
theorem St.drew {W w : World} {L : List Pc} (S : St W w L) : St W w.drew L := S.call (Ext.refl w).drew
theorem St.drop {W w : World} {h : Pc} {L : List Pc} (S : St W w (h :: L)) : St W w L := by
  obtain ⟨F, s, n, hb⟩ := S.sep
  obtain ⟨F1, G, rfl, _, g⟩ := s.uncons
  exact ⟨S.ext, G, g, (List.nodup_append.1 n).2.1, fun b h => hb b (List.mem_append_right _ h)⟩
theorem Sep.swap {w : World} {h k : Pc} {L : List Pc} {F : List Nat} (s : Sep w (h :: k :: L) F) : ∃ F', Sep w (k :: h :: L) F' ∧ F'.Perm F := by
  obtain ⟨F1, G, rfl, a, g⟩ := s.uncons
  obtain ⟨F2, G2, rfl, b, g2⟩ := g.uncons
  refine ⟨F2 ++ (F1 ++ G2), .cons b (.cons a g2), ?_⟩
  rw [← List.append_assoc, ← List.append_assoc]
  exact List.Perm.append_right _ List.perm_append_comm
theorem St.swap {W w : World} {h k : Pc} {L : List Pc} (S : St W w (h :: k :: L)) : St W w (k :: h :: L) := by
  obtain ⟨F, s, n, hb⟩ := S.sep
  obtain ⟨F', s', p⟩ := s.swap
  exact ⟨S.ext, F', s', p.nodup_iff.2 n, fun b h => hb b (p.mem_iff.1 h)⟩
theorem St.tail {W w : World} {h : Pc} {L L' : List Pc} (S : St W w (h :: L)) (f : ∀ F, Sep w L F → ∃ F', Sep w L' F' ∧ F'.Perm F) : St W w (h :: L') := by
  obtain ⟨F, s, n, hb⟩ := S.sep
  obtain ⟨F1, G, rfl, a, g⟩ := s.uncons
  obtain ⟨G', g', p⟩ := f G g
  have p2 : (F1 ++ G').Perm (F1 ++ G) := List.Perm.append_left _ p
  exact ⟨S.ext, _, .cons a g', p2.nodup_iff.2 n, fun b h => hb b (p2.mem_iff.1 h)⟩
theorem Sep.bring {w : World} : ∀ (i : Nat) {h : Pc} {L : List Pc} {F : List Nat}, Sep w L F → L[i]? = some h → ∃ F', Sep w (h :: L.eraseIdx i) F' ∧ F'.Perm F
  | 0, h, [], F, _, e => by cases e
  | i + 1, h, [], F, _, e => by cases e
  | 0, h, k :: L, F, s, e => by
    simp only [List.getElem?_cons_zero, Option.some.injEq] at e
    subst e
    exact ⟨F, s, List.Perm.refl _⟩
  | i + 1, h, k :: L, F, s, e => by
    obtain ⟨F1, G, rfl, a, g⟩ := s.uncons
    obtain ⟨G', g', p⟩ := Sep.bring i (L := L) g (by simpa using e)
    obtain ⟨F', s', p'⟩ := Sep.swap (.cons a g')
    exact ⟨F', s', p'.trans (List.Perm.append_left _ p)⟩
theorem St.bring {W w : World} {L : List Pc} (S : St W w L) (i : Nat) {h : Pc} (e : L[i]? = some h) : St W w (h :: L.eraseIdx i) := by
  obtain ⟨F, s, n, hb⟩ := S.sep
  obtain ⟨F', s', p⟩ := s.bring i e
  exact ⟨S.ext, F', s', p.nodup_iff.2 n, fun b h => hb b (p.mem_iff.1 h)⟩
theorem St.unbring {W w : World} {h : Pc} {L L' : List Pc} (S : St W w (h :: L)) (i : Nat) (e : L'[i]? = some h) (e2 : L'.eraseIdx i = L) : St W w L' := by
  have key : ∀ (i : Nat) (L' L : List Pc) (G : List Nat), L'[i]? = some h → L'.eraseIdx i = L → Sep w (h :: L) G → ∃ G', Sep w L' G' ∧ G'.Perm G := by
    intro i
    induction i with
    | zero =>
      intro L' L G e e2 s
      cases L' with
      | nil => cases e
      | cons k M => simp at e e2; subst e; subst e2; exact ⟨G, s, List.Perm.refl _⟩
    | succ i ih =>
      intro L' L G e e2 s
      cases L' with
      | nil => cases e
      | cons k M =>
        simp at e e2
        subst e2
        obtain ⟨G1, s1, p1⟩ := s.swap
        obtain ⟨F1, G2, rfl, a, g⟩ := s1.uncons
        obtain ⟨G3, s3, p3⟩ := ih M _ _ e rfl g
        exact ⟨F1 ++ G3, .cons a s3, (List.Perm.append_left _ p3).trans p1⟩
  obtain ⟨F, s, n, hb⟩ := S.sep
  obtain ⟨F', s', p⟩ := key i L' L F e e2 s
  exact ⟨S.ext, F', s', p.nodup_iff.2 n, fun b h => hb b (p.mem_iff.1 h)⟩
theorem St.open_ {W w : World} {h : Pc} {L : List Pc} (S : St W w (h :: L)) : ∃ F, h.P w F ∧ F.Nodup ∧ (∀ b ∈ F, W.heap.size ≤ b ∧ b < w.heap.size) ∧
    ∀ (w' : World) (h' : Pc) (F' : List Nat), w'.os = w.os → w'.tape = w.tape → w'.output = w.output → w.heap.size ≤ w'.heap.size → (∀ b, b < w.heap.size → b ∉ F → w'.heap[b]? = w.heap[b]?) →
      h'.P w' F' → F'.Nodup → (∀ b ∈ F', (b ∈ F ∨ w.heap.size ≤ b) ∧ b < w'.heap.size) → St W w' (h' :: L) := by
  obtain ⟨F, s, n, hb⟩ := S.sep
  obtain ⟨F1, G, rfl, a, g⟩ := s.uncons
  obtain ⟨n1, n2, n3⟩ := List.nodup_append.1 n
  refine ⟨F1, a, n1, fun b h => hb b (List.mem_append_left _ h), fun w' h' F' e1 e2 e3 hs hk hp hn hF => ?_⟩
  refine ⟨?_, F' ++ G, .cons hp (g.st fun b h => hk b (hb b (List.mem_append_right _ h)).2 fun h1 => n3 b h1 b h rfl), ?_, ?_⟩
  · refine ⟨e1.trans S.ext.os, e2.trans S.ext.tape, e3.trans S.ext.output, Nat.le_trans S.ext.size hs, fun k hk2 => ?_⟩
    have := S.ext.size
    exact (hk k (by omega) fun h1 => by have := (hb k (List.mem_append_left _ h1)).1; omega).trans (Below.block S.ext k hk2)
  · refine List.nodup_append.2 ⟨hn, n2, fun b h1 c h2 e => ?_⟩
    subst e
    rcases (hF b h1).1 with h3 | h3
    · exact n3 b h3 b h2 rfl
    · have := (hb b (List.mem_append_right _ h2)).2; omega
  · intro b h
    rcases List.mem_append.1 h with h1 | h1
    · refine ⟨?_, (hF b h1).2⟩
      rcases (hF b h1).1 with h3 | h3
      · exact (hb b (List.mem_append_left _ h3)).1
      · have := S.ext.size; omega
    · have := hb b (List.mem_append_right _ h1)
      exact ⟨this.1, by omega⟩
theorem St.more {W w w' : World} {L : List Pc} (S : St W w L) (x : Ext w w') {h : Pc} {F : List Nat} (hp : h.P w' F) (hn : F.Nodup) (hF : ∀ b ∈ F, w.heap.size ≤ b ∧ b < w'.heap.size) : St W w' (h :: L) := by
  obtain ⟨G, s, n, hb⟩ := S.sep
  have hs := x.size
  have hs2 := S.ext.size
  refine ⟨S.ext.trans x, F ++ G, .cons hp (s.st fun b h => Below.block x b (hb b h).2), List.nodup_append.2 ⟨hn, n, fun b h1 c h2 e => ?_⟩, fun b h => ?_⟩
  · subst e; have := (hF b h1).1; have := (hb b h2).2; omega
  · rcases List.mem_append.1 h with h1 | h1
    · have := hF b h1; exact ⟨by omega, this.2⟩
    · have := hb b h1; exact ⟨this.1, by omega⟩
def rowP (b : Nat) (T : TypeId) (cs : Array Value) : Pc := ⟨fun w F => F = [b] ∧ w.heap[b]? = some (.cells cs T (0, 0)), fun h k => ⟨h.1, (k b (by rw [h.1]; simp)).trans h.2⟩⟩
theorem St.row {W w : World} {b : Nat} {T : TypeId} {cs : Array Value} {L : List Pc} (S : St W w L) (i : Nat) (e : L[i]? = some (rowP b T cs)) : w.heap[b]? = some (.cells cs T (0, 0)) := by
  obtain ⟨F, s, -, -⟩ := (S.bring i e).sep
  obtain ⟨_, _, _, a, _⟩ := s.uncons
  exact a.2
theorem St.cells {W w : World} {b : Nat} {T : TypeId} {cs : Array Value} {L : List Pc} (S : St W w L) (i : Nat) (e : L[i]? = some (rowP b T cs)) : (∀ i, w.cell? ⟨b, i, none⟩ = cs[i]?) ∧ (∀ i, w.frozen? ⟨b, i, none⟩ = false) ∧ b < w.heap.size := rowAll (S.row i e)
theorem St.alloc {W w : World} {L : List Pc} (S : St W w L) (cs : Array Value) (T : TypeId) : St W (w.alloc (.cells cs T)) (rowP w.heap.size T cs :: L) :=
  S.more ((Ext.refl w).alloc _) (F := [w.heap.size]) ⟨rfl, row_new w _⟩ (by simp) (by simp)
theorem St.skip {W w : World} {L : List Pc} (S : St W w L) (o : Obj) : St W (w.alloc o) L := S.call ((Ext.refl w).alloc o)
theorem St.set {W w w' : World} {b : Nat} {T : TypeId} {cs cs' : Array Value} {L : List Pc} (S : St W w (rowP b T cs :: L)) (h : w'.heap[b]? = some (.cells cs' T (0, 0))) (g : w.grownBy w' (some b)) : St W w' (rowP b T cs' :: L) := by
  obtain ⟨F, ⟨rfl, _⟩, _, hb, k⟩ := S.open_
  have hb2 := hb b (by simp)
  refine k w' _ [b] g.os g.tape g.output g.size (fun c hc hne => g.block c hc (fun e => hne (by injection e with e; simp [e]))) ⟨rfl, h⟩ (by simp) (fun c hc => ?_)
  have := g.size
  simp at hc; subst hc; exact ⟨.inl (by simp), by omega⟩
theorem flat_get {α : Type} {k : Nat} : ∀ (rows : List (List α)) (i j : Nat) (r : List α) (d : α), (∀ r ∈ rows, r.length = k) → rows[i]? = some r → r[j]? = some d → rows.flatten[i * k + j]? = some d
  | [], i, j, r, d, _, h, _ => by simp at h
  | r0 :: rows, 0, j, r, d, u, h, e => by
    simp at h; subst h
    rw [List.flatten_cons, Nat.zero_mul, Nat.zero_add, List.getElem?_append_left (List.getElem?_eq_some_iff.1 e).1]; exact e
  | r0 :: rows, i + 1, j, r, d, u, h, e => by
    have h0 : r0.length = k := u r0 (by simp)
    rw [List.flatten_cons, List.getElem?_append_right (by rw [h0, Nat.succ_mul]; omega), h0, show (i + 1) * k + j - k = i * k + j by rw [Nat.succ_mul]; omega]
    exact flat_get rows i j r d (fun r hr => u r (List.mem_cons_of_mem _ hr)) (by simpa using h) e
theorem flat_len {α : Type} {k : Nat} : ∀ (rows : List (List α)), (∀ r ∈ rows, r.length = k) → rows.flatten.length = rows.length * k
  | [], _ => by simp
  | r0 :: rows, u => by
    rw [List.flatten_cons, List.length_append, u r0 (by simp), flat_len rows fun r hr => u r (List.mem_cons_of_mem _ hr), List.length_cons, Nat.succ_mul]; omega
theorem flat_set {α : Type} {k : Nat} : ∀ (rows : List (List α)) (i j : Nat) (r : List α) (d : α), (∀ r ∈ rows, r.length = k) → rows[i]? = some r → j < k → (rows.set i (r.set j d)).flatten = rows.flatten.set (i * k + j) d
  | [], i, j, r, d, _, h, _ => by simp at h
  | r0 :: rows, 0, j, r, d, u, h, e => by
    simp at h; subst h
    have h0 : r0.length = k := u r0 (by simp)
    simp [h0, e]
  | r0 :: rows, i + 1, j, r, d, u, h, e => by
    have h0 : r0.length = k := u r0 (by simp)
    have hn : ¬ ((i + 1) * k + j < r0.length) := by rw [h0, Nat.succ_mul]; omega
    simp only [List.set_cons_succ, List.flatten_cons, List.set_append, hn, if_false]
    rw [flat_set rows i j r d (fun r hr => u r (List.mem_cons_of_mem _ hr)) (by simpa using h) e, h0, show (i + 1) * k + j - k = i * k + j by rw [Nat.succ_mul]; omega]
def heapOf (w : World) : Nat → Obj → Prop := fun b o => w.heap[b]? = some o
inductive RdD (G : Nat → Obj → Prop) : D → Value → Prop
  | a (x : Value) : RdD G (.a x) x
  | gone (u : Value) (h : u.oneCell' = true) : RdD G .gone u
  | nil (A : Option Addr) (c : Nat) (hm : c ≤ 9223372036854775807) (hA0 : A = none → c = 0) : RdD G (.l []) (.slice A 0 c)
  | l (rows : List (List D)) (n c b o k : Nat) (T : TypeId) (fr : Nat × Nat) (cs : Array Value) (us : Nat → Value) (hn : rows.length = n) (h0 : 0 < n) (hc : n ≤ c) (hm : c ≤ 9223372036854775807) (hk : 0 < k) (hu : ∀ r ∈ rows, r.length = k) (hb : G b (.cells cs T fr))
      (hcell : ∀ i d, rows.flatten[i]? = some d → cs[o + i]? = some (us i)) (hr : ∀ i d, rows.flatten[i]? = some d → RdD G d (us i)) : RdD G (.l rows) (.slice (some ⟨b, o, none⟩) n c)
theorem RdD.mono {G G' : Nat → Obj → Prop} {v : Value} {d : D} (h : RdD G d v) (x : ∀ b o, G b o → G' b o) : RdD G' d v := by
  induction h with
  | a v => exact .a v
  | gone u hu => exact .gone u hu
  | nil A c h1 h2 => exact .nil A c h1 h2
  | l rows n c b o k T fr cs us h1 h2 h3 h4 h5 h6 h7 h8 _ ih => exact .l rows n c b o k T fr cs us h1 h2 h3 h4 h5 h6 (x _ _ h7) h8 ih
theorem RdD.atom {G : Nat → Obj → Prop} {v u : Value} (h : RdD G (.a v) u) : u = v := by cases h; rfl
theorem RdD.len {G : Nat → Obj → Prop} {v : Value} {rows : List (List D)} (h : RdD G (.l rows) v) : ∃ A c, v = .slice A rows.length c ∧ rows.length ≤ c ∧ c ≤ 9223372036854775807 ∧ (A = none → c = 0) := by
  cases h with
  | nil A c h1 h2 => exact ⟨A, c, rfl, Nat.zero_le _, h1, h2⟩
  | l _ n c b o k T fr cs us h1 h2 h3 h4 => exact ⟨some ⟨b, o, none⟩, c, by rw [h1], by omega, h4, fun h => by cases h⟩
theorem RdD.at_ {G : Nat → Obj → Prop} {v : Value} {rows : List (List D)} (h : RdD G (.l rows) v) {i : Nat} {r : List D} (hi : rows[i]? = some r) :
    ∃ c b o T fr cs, v = .slice (some ⟨b, o, none⟩) rows.length c ∧ G b (.cells cs T fr) ∧ ∀ (j : Nat) (d : D), r[j]? = some d → ∃ u, cs[o + (i * r.length + j)]? = some u ∧ RdD G d u := by
  cases h with
  | nil A c h1 h2 => simp at hi
  | l _ n c b o k T fr cs us h1 h2 h3 h4 h5 h6 h7 h8 h9 =>
    have hk : r.length = k := h6 r (List.mem_of_getElem? hi)
    refine ⟨c, b, o, T, fr, cs, by rw [h1], h7, fun j d e => ?_⟩
    have f := flat_get rows i j r d h6 hi e
    rw [hk]
    exact ⟨_, h8 _ _ f, h9 _ _ f⟩
inductive OwnD (w : World) : D → Value → List Nat → Prop
  | a (x : Value) : OwnD w (.a x) x []
  | gone (u : Value) (h : u.oneCell' = true) : OwnD w .gone u []
  | nil (A : Option Addr) (F : List Nat) : OwnD w (.l []) (.slice A 0 0) F
  | l (rows : List (List D)) (n c g o k : Nat) (T : TypeId) (cs : Array Value) (us : Nat → Value) (fs : Nat → List Nat) (hn : rows.length = n) (hc : n ≤ c) (hm : c ≤ maxLen) (hk : 0 < k) (hu : ∀ r ∈ rows, r.length = k) (hs : cs.size = o + c * k) (h0 : rows = [] → c = 0)
      (hb : w.heap[g]? = some (.cells cs T (0, 0))) (hcell : ∀ i d, rows.flatten[i]? = some d → cs[o + i]? = some (us i)) (hr : ∀ i d, rows.flatten[i]? = some d → OwnD w d (us i) (fs i)) :
      OwnD w (.l rows) (.slice (some ⟨g, o, none⟩) n c) (g :: (List.range rows.flatten.length).flatMap fs)
theorem OwnD.st {w w' : World} {v : Value} {d : D} {F : List Nat} (h : OwnD w d v F) (hk : ∀ b ∈ F, w'.heap[b]? = w.heap[b]?) : OwnD w' d v F := by
  induction h with
  | a v => exact .a v
  | gone u hu => exact .gone u hu
  | nil A F => exact .nil A F
  | l rows n c g o k T cs us fs h1 h2 h3 h4 h5 h6 h0 h7 h8 _ ih =>
    refine .l rows n c g o k T cs us fs h1 h2 h3 h4 h5 h6 h0 ((hk g List.mem_cons_self).trans h7) h8 (fun i d e => ih i d e fun b hb => hk b (List.mem_cons_of_mem _ (List.mem_flatMap.2 ⟨i, ?_, hb⟩)))
    exact List.mem_range.2 (List.getElem?_eq_some_iff.1 e).1
theorem OwnD.rd {w : World} {v : Value} {d : D} {F : List Nat} (h : OwnD w d v F) {G : Nat → Obj → Prop} (x : ∀ b ∈ F, ∀ o, w.heap[b]? = some o → G b o) : RdD G d v := by
  induction h with
  | a v => exact .a v
  | gone u hu => exact .gone u hu
  | nil A F => exact .nil A 0 (by omega) (fun _ => rfl)
  | l rows n c g o k T cs us fs h1 h2 h3 h4 h5 h6 h00 h7 h8 _ ih =>
    rcases Nat.eq_zero_or_pos n with h0 | h0
    · subst h0
      obtain rfl : rows = [] := List.eq_nil_of_length_eq_zero h1
      exact .nil _ c (by unfold maxLen at h3; omega) (fun h => nomatch h)
    · refine .l rows n c g o k T (0, 0) cs us h1 h0 h2 (by unfold maxLen at h3; omega) h4 h5 (x g List.mem_cons_self _ h7) (fun i d e => h8 i d e) (fun i d e => ih i d e fun b hb => x b (List.mem_cons_of_mem _ (List.mem_flatMap.2 ⟨i, ?_, hb⟩)))
      exact List.mem_range.2 (List.getElem?_eq_some_iff.1 e).1
def ownP (u : Value) (rows : List (List D)) : Pc := ⟨fun w F => OwnD w (.l rows) u F, fun h k => h.st k⟩
structure Hd where
  v : Value
  cv : Nat → Value
structure TreeD (w : World) (rows : List (List D)) (h : Hd) (F : List Nat) : Prop where
  own : OwnD w (.l rows) h.v F
  hd : ∀ (g o n c : Nat) (cs : Array Value) (T : TypeId) (fr : Nat × Nat) (m : Nat) (r' : List (List D)), h.v = .slice (some ⟨g, o, none⟩) n c → w.heap[g]? = some (.cells cs T fr) → rows.flatten[m]? = some (.l r') → cs[o + m]? = some (h.cv m)
theorem TreeD.st {w w' : World} {rows : List (List D)} {h : Hd} {F : List Nat} (t : TreeD w rows h F) (hk : ∀ b ∈ F, w'.heap[b]? = w.heap[b]?) : TreeD w' rows h F := by
  refine ⟨t.own.st hk, fun g ob n c cs T fr m r' e1 e2 e3 => t.hd g ob n c cs T fr m r' e1 ?_ e3⟩
  rw [← hk g ?_]; exact e2
  have o := t.own
  rw [e1] at o
  cases o with
  | nil A F => simp at e3
  | l => exact List.mem_cons_self
theorem OwnD.tree {w : World} {rows : List (List D)} {u : Value} {F : List Nat} (o : OwnD w (.l rows) u F) : ∃ h : Hd, h.v = u ∧ TreeD w rows h F := by
  cases o with
  | nil A F => exact ⟨⟨.slice A 0 0, fun _ => undef⟩, rfl, .nil A F, fun g ob n c cs T fr m r' e1 e2 e3 => by simp at e3⟩
  | l _ n c g ob k T cs us fs h1 h2 h3 h4 h5 h6 h0 h7 h8 h9 =>
    refine ⟨⟨_, us⟩, rfl, .l rows n c g ob k T cs us fs h1 h2 h3 h4 h5 h6 h0 h7 h8 h9, fun g' ob' n' c' cs' T' fr m r' e1 e2 e3 => ?_⟩
    injection e1 with e1 _ _; injection e1 with e1; injection e1 with e1 eo _
    subst e1; subst eo
    rw [h7] at e2; injection e2 with e2; injection e2 with e2 _ _
    rw [← e2]; exact h8 m _ e3
def treeP (h : Hd) (rows : List (List D)) : Pc := ⟨fun w F => TreeD w rows h F, fun t k => t.st k⟩
def nilHd : Hd := ⟨.slice none 0 0, fun _ => undef⟩
theorem TreeD.nil (w : World) : TreeD w [] nilHd [] := ⟨.nil none [], fun g ob n c cs T fr m r' e1 => by cases e1⟩
theorem St.untree {W w : World} {h : Hd} {rows : List (List D)} {L : List Pc} (S : St W w (treeP h rows :: L)) : St W w (ownP h.v rows :: L) := by
  obtain ⟨F, s, n, hb⟩ := S.sep
  obtain ⟨F1, G, rfl, a, g⟩ := s.uncons
  exact ⟨S.ext, _, .cons (h := ownP h.v rows) (TreeD.own a) g, n, hb⟩
theorem St.tree {W w : World} {u : Value} {rows : List (List D)} {L : List Pc} (S : St W w (ownP u rows :: L)) : ∃ h : Hd, h.v = u ∧ St W w (treeP h rows :: L) := by
  obtain ⟨F, s, n, hb⟩ := S.sep
  obtain ⟨F1, G, rfl, a, g⟩ := s.uncons
  obtain ⟨h, e, t⟩ := OwnD.tree a
  exact ⟨h, e, S.ext, _, .cons (h := treeP h rows) t g, n, hb⟩
theorem St.tree_at {W w : World} {h : Hd} {rows : List (List D)} {L : List Pc} (S : St W w L) (hm : treeP h rows ∈ L) : ∃ F, TreeD w rows h F := by
  obtain ⟨i, e⟩ := List.getElem?_of_mem hm
  obtain ⟨F, s, _, _⟩ := (S.bring i e).sep
  obtain ⟨F1, _, rfl, a, _⟩ := s.uncons
  exact ⟨F1, a⟩
theorem St.own_at {W w : World} {u : Value} {rows : List (List D)} {L : List Pc} (S : St W w L) (h : ownP u rows ∈ L) : ∃ F, OwnD w (.l rows) u F := by
  obtain ⟨i, e⟩ := List.getElem?_of_mem h
  obtain ⟨F, s, _, _⟩ := (S.bring i e).sep
  obtain ⟨F1, _, rfl, a, _⟩ := s.uncons
  exact ⟨F1, a⟩
theorem St.rd {W w : World} {u : Value} {rows : List (List D)} {L : List Pc} (S : St W w L) (h : ownP u rows ∈ L) : RdD (heapOf w) (.l rows) u := by
  obtain ⟨F, a⟩ := S.own_at h
  exact a.rd fun _ _ _ e => e
theorem St.row_at {W w : World} {b : Nat} {T : TypeId} {cs : Array Value} {L : List Pc} (S : St W w L) (h : rowP b T cs ∈ L) : w.heap[b]? = some (.cells cs T (0, 0)) := by
  obtain ⟨i, e⟩ := List.getElem?_of_mem h
  exact S.row i e
def snapP (w0 : World) (F : List Nat) : Pc := ⟨fun w F' => F' = F ∧ ∀ b ∈ F, w.heap[b]? = w0.heap[b]?, fun h k => ⟨h.1, fun b hb => (k b (by rw [h.1]; exact hb)).trans (h.2 b hb)⟩⟩
theorem St.snap_at {W w w0 : World} {F : List Nat} {L : List Pc} (S : St W w L) (h : snapP w0 F ∈ L) : ∀ b ∈ F, w.heap[b]? = w0.heap[b]? := by
  obtain ⟨i, e⟩ := List.getElem?_of_mem h
  obtain ⟨G, s, _, _⟩ := (S.bring i e).sep
  obtain ⟨F1, _, rfl, a, _⟩ := s.uncons
  exact a.2
end Go.Proofs.YtnmneoekpikpkaaGreatDoor
namespace Go.Proofs.YtnmneoekpikpkaaGreatDoor
open Go.RowKit
theorem cell_keep {W w : World} (h : ∀ b o, heapOf W b o → w.heap[b]? = some o) {b i : Nat} {v : Value} (hc : W.cell? ⟨b, i, none⟩ = some v) : w.cell? ⟨b, i, none⟩ = some v := by
  have hb : b < W.heap.size := World.block_lt_of_cell? W _ hc
  have e0 : W.heap[b]? = some W.heap[b] := Array.getElem?_eq_getElem hb
  have e : w.heap[b]? = W.heap[b]? := (h b _ e0).trans e0.symm
  unfold World.cell? at hc ⊢
  rw [e]; exact hc
def ZSplit (w : World) : Prop := ∃ m : Int, w.cell? ⟨0, 0, none⟩ = some (.int .i64 m)
theorem ZSplit.keep {W w : World} (h : ∀ b o, heapOf W b o → w.heap[b]? = some o) (z : ZSplit W) : ZSplit w := z.imp fun _ e => cell_keep h e
def ZW (w : World) : Prop := True
  ∧ ZSplit w
def Zed (K : Nat → Obj → Prop) : Prop := ∀ w : World, (∀ b o, K b o → w.heap[b]? = some o) → ZW w
theorem zed_top {W : World} (z : ZW W) : Zed (heapOf W) := fun w h => by
  exact ⟨trivial, z.2.keep h⟩
end Go.Proofs.YtnmneoekpikpkaaGreatDoor
namespace Go.Proofs.YtnmneoekpikpkaaGreatDoor
open Go.RowKit
set_option linter.unusedSimpArgs false
set_option linter.unusedVariables false
structure Rel where
  K : Nat → Obj → Prop
  Z : Nat → Obj → Prop
  src : Nat → Value
  bl : Nat → Nat
  hd : Nat → Hd
  Lb : Nat → Prop
  Lt : Nat → Prop
mutual
def RV (ρ : Rel) : V → Value → Prop
  | .v x, u => u = x
  | .nil, u => u = .slice none 0 0
  | .lst o rows, u => RdD ρ.K (.l rows) u ∧ ∀ j, o = some j → ρ.src j = u
  | .own p, u => ρ.Lt p ∧ u = (ρ.hd p).v
  | .inn p i j k, u => ρ.Lt p ∧ u = (ρ.hd p).cv (i * k + j) ∧ u.oneCell' = true
  | .fz rows, u => RdD ρ.Z (.l rows) u
  | .ref b off, u => ρ.Lb b ∧ u = .pointer (some ⟨ρ.bl b, off, none⟩)
  | .pe base k i off, u => ∃ ub, RV ρ base ub ∧ ∃ g o n c, ub = .slice (some ⟨g, o, none⟩) n c ∧ i < n ∧ u = .pointer (some ⟨g, o + (i * k + off), none⟩)
  | .agg cs, u => ∃ us, u = .agg us.toArray ∧ RVs ρ cs us
  | .tup cs, u => ∃ us, u = .tuple us.toArray ∧ RVs ρ cs us
  | .fn f cs, u => ∃ us, u = .func (.func f) #[] us.toArray ∧ RVs ρ cs us
  | .dead, _ => True
def RVs (ρ : Rel) : List V → List Value → Prop
  | [], us => us = []
  | v :: r, us => ∃ u q, us = u :: q ∧ RV ρ v u ∧ RVs ρ r q
end
structure Rel.le (ρ ρ' : Rel) : Prop where
  K : ∀ b o, ρ.K b o → ρ'.K b o
  Z : ∀ b o, ρ.Z b o → ρ'.Z b o
  src : ρ'.src = ρ.src
  b : ∀ b, ρ.Lb b → ρ'.Lb b ∧ ρ'.bl b = ρ.bl b
  t : ∀ p, ρ.Lt p → ρ'.Lt p ∧ ρ'.hd p = ρ.hd p
theorem Rel.le.refl (ρ : Rel) : ρ.le ρ := ⟨fun _ _ h => h, fun _ _ h => h, rfl, fun _ h => ⟨h, rfl⟩, fun _ h => ⟨h, rfl⟩⟩
mutual
theorem RV.le {ρ ρ' : Rel} (e : ρ.le ρ') : ∀ {v : V} {u : Value}, RV ρ v u → RV ρ' v u
  | .v _, _, h => h
  | .nil, _, h => h
  | .lst _ _, _, h => ⟨h.1.mono e.K, fun j i => by rw [e.src]; exact h.2 j i⟩
  | .own p, _, h => ⟨(e.t p h.1).1, by rw [(e.t p h.1).2]; exact h.2⟩
  | .inn p _ _ _, _, h => ⟨(e.t p h.1).1, by rw [(e.t p h.1).2]; exact h.2⟩
  | .fz _, _, h => RdD.mono h e.Z
  | .ref b _, _, h => ⟨(e.b b h.1).1, by rw [(e.b b h.1).2]; exact h.2⟩
  | .pe _ _ _ _, _, h => by obtain ⟨ub, h1, h2⟩ := h; exact ⟨ub, RV.le e h1, h2⟩
  | .agg _, _, h => by obtain ⟨us, h1, h2⟩ := h; exact ⟨us, h1, RVs.le e h2⟩
  | .tup _, _, h => by obtain ⟨us, h1, h2⟩ := h; exact ⟨us, h1, RVs.le e h2⟩
  | .fn _ _, _, h => by obtain ⟨us, h1, h2⟩ := h; exact ⟨us, h1, RVs.le e h2⟩
  | .dead, _, _ => trivial
theorem RVs.le {ρ ρ' : Rel} (e : ρ.le ρ') : ∀ {vs : List V} {us : List Value}, RVs ρ vs us → RVs ρ' vs us
  | [], _, h => h
  | _ :: _, _, h => by obtain ⟨u, q, h1, h2, h3⟩ := h; exact ⟨u, q, h1, RV.le e h2, RVs.le e h3⟩
end
mutual
theorem RV.less {ρ ρ' : Rel} {p : Nat} (hK : ρ'.K = ρ.K) (hZ : ∀ b o, ρ.Z b o → ρ'.Z b o) (hs : ρ'.src = ρ.src) (hb : ∀ b, ρ.Lb b → ρ'.Lb b ∧ ρ'.bl b = ρ.bl b) (ht : ∀ q, q ≠ p → ρ.Lt q → ρ'.Lt q ∧ ρ'.hd q = ρ.hd q) :
    ∀ {v : V} {u : Value}, mentions p v = false → RV ρ v u → RV ρ' v u
  | .v _, _, _, h => h
  | .nil, _, _, h => h
  | .lst _ _, _, _, h => ⟨by rw [hK]; exact h.1, fun j i => by rw [hs]; exact h.2 j i⟩
  | .own q, _, m, h => by
    have hq : q ≠ p := by intro e; subst e; simp [mentions] at m
    exact ⟨(ht q hq h.1).1, by rw [(ht q hq h.1).2]; exact h.2⟩
  | .inn q _ _ _, _, m, h => by
    have hq : q ≠ p := by intro e; subst e; simp [mentions] at m
    exact ⟨(ht q hq h.1).1, by rw [(ht q hq h.1).2]; exact h.2⟩
  | .fz _, _, _, h => RdD.mono h hZ
  | .ref b _, _, _, h => ⟨(hb b h.1).1, by rw [(hb b h.1).2]; exact h.2⟩
  | .pe _ _ _ _, _, m, h => by obtain ⟨ub, h1, h2⟩ := h; exact ⟨ub, RV.less hK hZ hs hb ht (by simpa [mentions] using m) h1, h2⟩
  | .agg _, _, m, h => by obtain ⟨us, h1, h2⟩ := h; exact ⟨us, h1, RVs.less hK hZ hs hb ht (by simpa [mentions] using m) h2⟩
  | .tup _, _, m, h => by obtain ⟨us, h1, h2⟩ := h; exact ⟨us, h1, RVs.less hK hZ hs hb ht (by simpa [mentions] using m) h2⟩
  | .fn _ _, _, m, h => by obtain ⟨us, h1, h2⟩ := h; exact ⟨us, h1, RVs.less hK hZ hs hb ht (by simpa [mentions] using m) h2⟩
  | .dead, _, _, _ => trivial
theorem RVs.less {ρ ρ' : Rel} {p : Nat} (hK : ρ'.K = ρ.K) (hZ : ∀ b o, ρ.Z b o → ρ'.Z b o) (hs : ρ'.src = ρ.src) (hb : ∀ b, ρ.Lb b → ρ'.Lb b ∧ ρ'.bl b = ρ.bl b) (ht : ∀ q, q ≠ p → ρ.Lt q → ρ'.Lt q ∧ ρ'.hd q = ρ.hd q) :
    ∀ {vs : List V} {us : List Value}, mentions.any p vs = false → RVs ρ vs us → RVs ρ' vs us
  | [], _, _, h => h
  | _ :: _, _, m, h => by
    simp [mentions.any] at m
    obtain ⟨u, q, h1, h2, h3⟩ := h; exact ⟨u, q, h1, RV.less hK hZ hs hb ht m.1 h2, RVs.less hK hZ hs hb ht m.2 h3⟩
end
theorem RVs.len {ρ : Rel} : ∀ {vs : List V} {us : List Value}, RVs ρ vs us → us.length = vs.length
  | [], _, h => by rw [show _ = [] from h]; rfl
  | _ :: _, _, h => by obtain ⟨u, q, rfl, h2, h3⟩ := h; rw [List.length_cons, List.length_cons, h3.len]
theorem RVs.get {ρ : Rel} : ∀ {vs : List V} {us : List Value} {i : Nat} {v : V}, RVs ρ vs us → vs[i]? = some v → ∃ u, us[i]? = some u ∧ RV ρ v u
  | [], _, i, v, _, e => by simp at e
  | _ :: _, _, 0, v, h, e => by obtain ⟨u, q, rfl, h2, h3⟩ := h; simp at e; subst e; exact ⟨u, rfl, h2⟩
  | _ :: _, _, i + 1, v, h, e => by obtain ⟨u, q, rfl, h2, h3⟩ := h; simpa using h3.get (i := i) (by simpa using e)
theorem RVs.of {ρ : Rel} : ∀ {vs : List V} {us : List Value}, us.length = vs.length → (∀ (i : Nat) (v : V) (u : Value), vs[i]? = some v → us[i]? = some u → RV ρ v u) → RVs ρ vs us
  | [], us, hl, _ => by cases us with | nil => rfl | cons => simp at hl
  | v :: vs, us, hl, h => by
    cases us with
    | nil => simp at hl
    | cons u us => exact ⟨u, us, rfl, h 0 v u rfl rfl, RVs.of (by simpa using hl) fun i v' u' e1 e2 => h (i + 1) v' u' (by simpa using e1) (by simpa using e2)⟩
theorem RVs.app {ρ : Rel} : ∀ {vs ws : List V} {us xs : List Value}, RVs ρ vs us → RVs ρ ws xs → RVs ρ (vs ++ ws) (us ++ xs)
  | [], _, _, _, h, k => by rw [show _ = [] from h]; exact k
  | _ :: _, _, _, _, h, k => by obtain ⟨u, q, rfl, h2, h3⟩ := h; exact ⟨u, q ++ _, rfl, h2, h3.app k⟩
theorem RVs.drop {ρ : Rel} : ∀ (n : Nat) {vs : List V} {us : List Value}, RVs ρ vs us → RVs ρ (vs.drop n) (us.drop n)
  | 0, _, _, h => h
  | n + 1, [], _, h => by rw [show _ = [] from h]; rfl
  | n + 1, _ :: _, _, h => by obtain ⟨u, q, rfl, h2, h3⟩ := h; exact h3.drop n
theorem RVs.take {ρ : Rel} : ∀ (n : Nat) {vs : List V} {us : List Value}, RVs ρ vs us → RVs ρ (vs.take n) (us.take n)
  | 0, _, _, _ => rfl
  | n + 1, [], _, h => by rw [show _ = [] from h]; rfl
  | n + 1, _ :: _, _, h => by obtain ⟨u, q, rfl, h2, h3⟩ := h; exact ⟨u, _, rfl, h2, h3.take n⟩
theorem RVs.set {ρ : Rel} {v : V} {u : Value} (k : RV ρ v u) : ∀ (n : Nat) {vs : List V} {us : List Value}, RVs ρ vs us → RVs ρ (vs.set n v) (us.set n u)
  | _, [], _, h => by rw [show _ = [] from h]; rfl
  | 0, _ :: _, _, h => by obtain ⟨u', q, rfl, h2, h3⟩ := h; exact ⟨u, q, rfl, k, h3⟩
  | n + 1, _ :: _, _, h => by obtain ⟨u', q, rfl, h2, h3⟩ := h; exact ⟨u', _, rfl, h2, h3.set k n⟩
section
variable {α : Type}
theorem look_put {k : Nat} {x : α} : ∀ {l : List (Nat × α)} (j : Nat), look j (put k x l) = if j = k then some x else look j l
  | [], j => by simp only [put, look]
  | (i, y) :: r, j => by
    unfold put
    by_cases h : k = i
    · subst h; rw [if_pos rfl]; simp only [look]; split <;> rfl
    · rw [if_neg h]
      by_cases h2 : i < k
      · rw [if_pos h2]; simp only [look]
      · rw [if_neg h2]; simp only [look]
        by_cases h3 : j = i
        · subst h3; rw [if_pos rfl, if_pos rfl, if_neg fun e => h e.symm]
        · rw [if_neg h3, if_neg h3, look_put j]
theorem look_drop1 {k : Nat} : ∀ {l : List (Nat × α)} (j : Nat), look j (drop1 k l) = if j = k then none else look j l
  | [], j => by simp only [drop1, look]; split <;> rfl
  | (i, y) :: r, j => by
    unfold drop1
    by_cases h : k = i
    · subst h; rw [if_pos rfl, look_drop1 j]; simp only [look]
      by_cases h3 : j = k
      · rw [if_pos h3, if_pos h3]
      · rw [if_neg h3, if_neg h3, if_neg h3]
    · rw [if_neg h]; simp only [look]
      by_cases h3 : j = i
      · subst h3; rw [if_pos rfl, if_pos rfl, if_neg fun e => h e.symm]
      · rw [if_neg h3, if_neg h3, look_drop1 j]
theorem look_mem {k : Nat} {x : α} : ∀ {l : List (Nat × α)}, look k l = some x → (k, x) ∈ l
  | [], h => by cases h
  | (i, y) :: r, h => by
    simp only [look] at h
    split at h
    · rename_i e; subst e; injection h with h; subst h; exact List.mem_cons_self
    · exact List.mem_cons_of_mem _ (look_mem h)
theorem look_none {k : Nat} : ∀ {l : List (Nat × α)}, look k l = none → k ∉ l.map (·.1)
  | [], _ => by simp
  | (i, y) :: r, h => by
    simp only [look] at h
    split at h
    · cases h
    · rename_i e; simp only [List.map_cons, List.mem_cons, not_or]; exact ⟨e, look_none h⟩
theorem look_of_mem {k : Nat} {x : α} : ∀ {l : List (Nat × α)}, (l.map (·.1)).Nodup → (k, x) ∈ l → look k l = some x
  | [], _, h => by cases h
  | (i, y) :: r, n, h => by
    simp only [List.map_cons, List.nodup_cons] at n
    simp only [look]
    rcases List.mem_cons.1 h with h | hm
    · injection h with h1 h2; subst h1; subst h2; rw [if_pos rfl]
    · have : k ≠ i := by intro e; subst e; exact n.1 (List.mem_map.2 ⟨(k, x), hm, rfl⟩)
      rw [if_neg this]; exact look_of_mem n.2 hm
theorem upd_keys {k : Nat} {x : α} : ∀ (l : List (Nat × α)), (upd k x l).map (·.1) = l.map (·.1)
  | [] => rfl
  | (i, y) :: r => by
    unfold upd; split
    · rename_i e; subst e; rfl
    · rw [List.map_cons, List.map_cons, upd_keys r]
theorem mem_upd {k j : Nat} {x y : α} : ∀ {l : List (Nat × α)}, (l.map (·.1)).Nodup → (j, y) ∈ upd k x l → (j = k ∧ y = x) ∨ (j ≠ k ∧ (j, y) ∈ l)
  | [], _, h => by cases h
  | (i, z) :: r, n, h => by
    simp only [List.map_cons, List.nodup_cons] at n
    unfold upd at h
    split at h
    · rename_i e; subst e
      rcases List.mem_cons.1 h with h | hm
      · injection h with h1 h2; exact .inl ⟨h1, h2⟩
      · exact .inr ⟨fun e => n.1 (by rw [← e]; exact List.mem_map.2 ⟨(j, y), hm, rfl⟩), List.mem_cons_of_mem _ hm⟩
    · rename_i e
      rcases List.mem_cons.1 h with h | h
      · injection h with h1 h2; subst h1; subst h2; exact .inr ⟨fun e2 => e e2.symm, List.mem_cons_self⟩
      · rcases mem_upd n.2 h with h | h
        · exact .inl h
        · exact .inr ⟨h.1, List.mem_cons_of_mem _ h.2⟩
theorem look_split {k : Nat} {x : α} : ∀ {l : List (Nat × α)}, look k l = some x → ∃ a b, l = a ++ (k, x) :: b ∧ (∀ y, upd k y l = a ++ (k, y) :: b) ∧ ((l.map (·.1)).Nodup → drop1 k l = a ++ b)
  | [], h => by cases h
  | (i, z) :: r, h => by
    simp only [look] at h
    by_cases e : k = i
    · subst e; rw [if_pos rfl] at h; injection h with h; subst h
      refine ⟨[], r, rfl, fun y => by unfold upd; rw [if_pos rfl]; rfl, fun n => ?_⟩
      simp only [List.map_cons, List.nodup_cons] at n
      unfold drop1; rw [if_pos rfl]
      have : ∀ {l : List (Nat × α)}, k ∉ l.map (·.1) → drop1 k l = l := by
        intro l; induction l with
        | nil => intro _; rfl
        | cons y l ih => intro hn; simp only [List.map_cons, List.mem_cons, not_or] at hn; obtain ⟨j, y⟩ := y; unfold drop1; rw [if_neg hn.1, ih hn.2]
      exact this n.1
    · rw [if_neg e] at h
      obtain ⟨a, b, h1, h2, h3⟩ := look_split h
      refine ⟨(i, z) :: a, b, by rw [h1]; rfl, fun y => by unfold upd; rw [if_neg e, h2]; rfl, fun n => ?_⟩
      simp only [List.map_cons, List.nodup_cons] at n
      unfold drop1; rw [if_neg e, h3 n.2]; rfl
end
structure Ctx where
  W : World
  L : List Pc
  K : Nat → Obj → Prop
  src : Nat → Value
  n : Nat
  hK : ∀ w, St W w L → ∀ b o, K b o → w.heap[b]? = some o
  bF : Nat → Nat
  hF : Nat → Hd
  zed : Zed K
def boxPs (bl : Nat → Nat) (T : Nat → TypeId) (us : Nat → Array Value) (l : List (Nat × List V)) : List Pc := l.map fun x => rowP (bl x.1) (T x.1) (us x.1)
def treePs (hd : Nat → Hd) (l : List (Nat × List (List D))) : List Pc := l.map fun x => treeP (hd x.1) x.2
def froPs (w0 : Nat → World) (F : Nat → List Nat) (l : List (Nat × List (List D))) : List Pc := l.map fun x => snapP (w0 x.1) (F x.1)
structure Lay where
  bl : Nat → Nat
  hd : Nat → Hd
  T : Nat → TypeId
  us : Nat → Array Value
  w0 : Nat → World
  F : Nat → List Nat
def relOf (c : Ctx) (s : S) (y : Lay) : Rel :=
  { K := c.K, Z := fun b o => ∃ p, p ∈ s.fro.map (·.1) ∧ b ∈ y.F p ∧ (y.w0 p).heap[b]? = some o, src := c.src, bl := y.bl, hd := y.hd, Lb := fun b => b ∈ s.box.map (·.1), Lt := fun p => p ∈ (s.tree ++ s.fro).map (·.1) }
structure At (c : Ctx) (s : S) (y : Lay) (a : Act) (w : World) : Prop where
  defers : a.defers = []
  size : a.tmps.size = c.n
  st : St c.W w (boxPs y.bl y.T y.us s.box ++ (treePs y.hd s.tree ++ (froPs y.w0 y.F s.fro ++ c.L)))
  env : ∀ t v, look t s.env = some v → RV (relOf c s y) v (a.tmps.getD t undef)
  box : ∀ b cs, (b, cs) ∈ s.box → RVs (relOf c s y) cs (y.us b).toList
  fro : ∀ p rows, (p, rows) ∈ s.fro → TreeD (y.w0 p) rows (y.hd p) (y.F p)
  nb : (s.box.map (·.1)).Nodup
  nt : ((s.tree ++ s.fro).map (·.1)).Nodup
  fix : c.n ≤ parBase ∧ ∀ i, parBase ≤ i → i < 2 * parBase → y.bl i = c.bF i ∧ y.hd i = c.hF i
def Good (c : Ctx) (s : S) (a : Act) (w : World) : Prop := ∃ y, At c s y a w
theorem Sep.perm {w : World} {L L' : List Pc} (p : L.Perm L') : ∀ {F : List Nat}, Sep w L F → ∃ F', Sep w L' F' ∧ F'.Perm F := by
  induction p with
  | nil => intro F s; exact ⟨F, s, List.Perm.refl _⟩
  | cons x _ ih =>
    intro F s
    obtain ⟨F1, G, rfl, a, g⟩ := s.uncons
    obtain ⟨G', g', pg⟩ := ih g
    exact ⟨F1 ++ G', .cons a g', List.Perm.append_left _ pg⟩
  | swap x y l => intro F s; exact s.swap
  | trans _ _ ih1 ih2 =>
    intro F s
    obtain ⟨F1, s1, p1⟩ := ih1 s
    obtain ⟨F2, s2, p2⟩ := ih2 s1
    exact ⟨F2, s2, p2.trans p1⟩
theorem St.perm {W w : World} {L L' : List Pc} (S : St W w L) (p : L.Perm L') : St W w L' := by
  obtain ⟨F, s, n, hb⟩ := S.sep
  obtain ⟨F', s', pf⟩ := s.perm p
  exact ⟨S.ext, F', s', pf.nodup_iff.2 n, fun b h => hb b (pf.mem_iff.1 h)⟩
theorem St.dropL {W w : World} : ∀ {L1 L2 : List Pc}, St W w (L1 ++ L2) → St W w L2
  | [], _, S => S
  | _ :: _, _, S => St.dropL S.drop
end Go.Proofs.YtnmneoekpikpkaaGreatDoor
namespace Go.Proofs.YtnmneoekpikpkaaGreatDoor
open Go.RowKit
set_option linter.unusedSimpArgs false
set_option linter.unusedVariables false
theorem relOf_put (c : Ctx) (s : S) (y : Lay) (d : Option Nat) (v : V) : relOf c (s.put d v) y = relOf c s y := by cases d <;> rfl
theorem relOf_skip (c : Ctx) (s : S) (y : Lay) (d : Option Nat) : relOf c (s.skip d) y = relOf c s y := by cases d <;> rfl
theorem put_size (a : Act) (d : Option Nat) (u : Value) : (a.put d u).tmps.size = a.tmps.size := by cases d <;> simp [Act.put]
theorem put_defers (a : Act) (d : Option Nat) (u : Value) : (a.put d u).defers = a.defers := by cases d <;> rfl
theorem put_get (a : Act) (d t : Nat) (u : Value) (h : d < a.tmps.size) : (a.put (some d) u).tmps.getD t undef = if t = d then u else a.tmps.getD t undef := by
  by_cases e : t = d
  · subst e; simp [Act.put, h]
  · rw [if_neg e]; simp [Act.put, Array.getElem?_setIfInBounds_ne (fun x => e x.symm)]
def dstOk (n : Nat) (d : Option Nat) : Bool := match d with
  | some d => decide (d < n)
  | none => true
theorem dstOk.lt {n d : Nat} (h : dstOk n (some d) = true) : d < n := by simpa [dstOk] using h
section
variable {P : Program} {c : Ctx} {s : S} {y : Lay} {a : Act} {w : World}
theorem At.value (A : At c s y a w) {v : V} {u : Value} (h : RV (relOf c s y) v u) {d : Option Nat} (hd' : dstOk c.n d = true) : At c (s.put d v) y (a.put d u) w := by
  cases d with
  | none => exact A
  | some d =>
    refine ⟨A.defers, by rw [put_size]; exact A.size, A.st, fun t v' e => ?_, A.box, A.fro, A.nb, A.nt, A.fix⟩
    rw [relOf_put]
    have e : look t (put d v s.env) = some v' := e
    rw [look_put] at e
    rw [put_get _ _ _ _ (by rw [A.size]; exact dstOk.lt hd')]
    by_cases h2 : t = d
    · rw [if_pos h2] at e ⊢; injection e with e; subst e; exact h
    · rw [if_neg h2] at e ⊢; exact A.env t v' e
theorem At.skip (A : At c s y a w) (u : Value) {d : Option Nat} : At c (s.skip d) y (a.put d u) w := by
  cases d with
  | none => exact A
  | some d =>
    refine ⟨A.defers, by rw [put_size]; exact A.size, A.st, fun t v' e => ?_, A.box, A.fro, A.nb, A.nt, A.fix⟩
    rw [relOf_skip]
    have e : look t (drop1 d s.env) = some v' := e
    rw [look_drop1] at e
    by_cases h2 : t = d
    · rw [if_pos h2] at e; cases e
    · rw [if_neg h2] at e
      have : (a.put (some d) u).tmps.getD t undef = a.tmps.getD t undef := by simp [Act.put, Array.getElem?_setIfInBounds_ne (fun x => h2 x.symm)]
      rw [this]; exact A.env t v' e
theorem constC_sound {ρ : Rel} (x : Value) : RV ρ (constC x) x := by
  unfold constC
  split
  · rfl
  · rfl
theorem constV_sound {ρ : Rel} {x : Value} {v : V} (h : constV x = some v) : RV ρ v x := by
  unfold constV at h
  split at h <;> (try cases h) <;> (try rfl)
  rename_i cs
  refine ⟨cs.toList, by simp, ?_⟩
  refine RVs.of (by simp) fun i v u e1 e2 => ?_
  rw [List.getElem?_map, e2] at e1
  simp at e1; subst e1
  exact constC_sound u
theorem At.ev (A : At c s y a w) {x : Operand} {v : V} (h : s.ev x = some v) : RV (relOf c s y) v (a.eval x) := by
  cases x with
  | tmp t => exact A.env t v h
  | const x => exact constV_sound h
  | func f => simp only [S.ev] at h; injection h with h; subst h; exact ⟨[], rfl, rfl⟩
  | global g => cases h
def Step (P : Program) (c : Ctx) (o : Oper) (s s' : S) : Prop :=
  ∀ (a : Act) (w : World), Good c s a w → ∀ (next : Act → World → Prop) (Q : Exit → Act → World → Prop), (∀ a' w', Good c s' a' w' → next a' w') → o.wp P a w next Q
theorem op_value {o : Oper} {u : Value} {w' : World} {next : Act → World → Prop} {Q : Exit → Act → World → Prop} (h : (execOp a.eval o).run P w = .ok (.value u) w') (k : next (a.put o.dst u) w') : o.wp P a w next Q := by
  unfold Oper.wp; rw [h]; exact k
theorem op_skip {o : Oper} {w' : World} {next : Act → World → Prop} {Q : Exit → Act → World → Prop} (h : (execOp a.eval o).run P w = .ok .skip w') (k : next (a.put o.dst undef) w') : o.wp P a w next Q := by
  unfold Oper.wp; rw [h]; exact k
theorem step_value {o : Oper} {v : V} (hd' : dstOk c.n o.dst = true)
    (h : ∀ y a w, At c s y a w → ∃ u, (execOp a.eval o).run P w = .ok (.value u) w ∧ RV (relOf c s y) v u) : Step P c o s (s.put o.dst v) := by
  intro a w G next Q k
  obtain ⟨y, A⟩ := G
  obtain ⟨u, hr, hv⟩ := h y a w A
  exact op_value hr (k _ _ ⟨y, A.value hv hd'⟩)
theorem step_move {o : Oper} {x : Operand} (ho : o.op = .move x) (hd' : dstOk c.n o.dst = true) {v : V} (h : s.ev x = some v) : Step P c o s (s.put o.dst v) :=
  step_value hd' fun yy a w A => ⟨a.eval x, by unfold execOp; rw [ho]; rfl, A.ev h⟩
theorem step_assign {o : Oper} {x : Operand} (ho : o.op = .assign x) (hd' : dstOk c.n o.dst = true) {v : V} (h : s.ev x = some v) : Step P c o s (s.put o.dst v) :=
  step_value hd' fun yy a w A => ⟨a.eval x, by unfold execOp; rw [ho]; rfl, A.ev h⟩
theorem boolOf_some {v : V} {b : Bool} (h : boolOf v = some b) : v = .v (.bool b) := by
  unfold boolOf at h; split at h
  · injection h with h; subst h; rfl
  · cases h
theorem idxOf_some {v : V} {n : Int} (h : idxOf v = some n) : ∃ k, v = .v (.int k n) := by
  unfold idxOf at h; split at h
  · injection h with h; subst h; exact ⟨_, rfl⟩
  · cases h
theorem step_pick {o : Oper} {x y z : Operand} (ho : o.op = .pick x y z) (hd' : dstOk c.n o.dst = true) {b : Bool} {v : V} (hx : s.ev x = some (.v (.bool b))) (h : s.ev (if b then y else z) = some v) : Step P c o s (s.put o.dst v) :=
  step_value hd' fun yy a w A => by
    have e : a.eval x = .bool b := A.ev hx
    refine ⟨a.eval (if b then y else z), ?_, A.ev h⟩
    unfold execOp; rw [ho]
    simp only [e]
    cases b <;> rfl
theorem run_arith {op : BinOp} {k : IntKind} {x y : Int} {z : Value} (h : arith op k x y = some z) (h1 : op ≠ .shl) (h2 : op ≠ .shr) (t : TypeId) (X Y : Operand) (w : World) :
    (do eqGuard op t X Y (.int k x) (.int k y); binOp op t (.int k x) (.int k y) : Sem Value).run P w = .ok z w := by
  cases op <;> simp only [arith] at h <;> first
    | (exact absurd rfl h1)
    | (exact absurd rfl h2)
    | (cases h; done)
    | (injection h with h; subst h; simp [eqGuard, binOp, Op.intArith, Op.intBits, Op.intCmp]; done)
    | (obtain ⟨hy, h⟩ := grd_eq_some h; injection h with h; subst h; simp [eqGuard, binOp, Op.intDiv, hy]; done)
theorem run_binI {op : BinOp} {k k' : IntKind} {x y : Int} {z : Value} (h : binI op k k' x y = some z) (t : TypeId) (X Y : Operand) (w : World) :
    (do eqGuard op t X Y (.int k x) (.int k' y); binOp op t (.int k x) (.int k' y) : Sem Value).run P w = .ok z w := by
  unfold binI at h
  split at h
  · obtain ⟨hy, h⟩ := grd_eq_some h; injection h with h; subst h
    simp [eqGuard, binOp, Op.shift, show ¬ y < 0 by omega]
  · obtain ⟨hy, h⟩ := grd_eq_some h; injection h with h; subst h
    simp [eqGuard, binOp, Op.shift, show ¬ y < 0 by omega]
  · rename_i h1 h2
    obtain ⟨hk, h3⟩ := grd_eq_some h
    subst hk
    exact run_arith h3 (fun e => h1 e) (fun e => h2 e) t X Y w
theorem run_binS {op : BinOp} {x y : ByteArray} {z : Value} (h : binS op x y = some z) (t : TypeId) (X Y : Operand) (w : World) :
    (do eqGuard op t X Y (.string x) (.string y); binOp op t (.string x) (.string y) : Sem Value).run P w = .ok z w := by
  cases op <;> simp only [binS] at h <;> first
    | (cases h; done)
    | (injection h with h; subst h; simp [eqGuard, binOp, Op.stringOp]; done)
    | (obtain ⟨hy, h⟩ := grd_eq_some h; injection h with h; subst h; simp [eqGuard, binOp, Op.stringOp, IntKind.max, IntKind.bits, IntKind.signed]; omega)
theorem run_binB {op : BinOp} {x y : Bool} {z : Value} {d : TypeDesc} (h : binB op x y d = some z) (t : TypeId) (ht : P.underlying t = some d) (X Y : Operand) (w : World) :
    (do eqGuard op t X Y (.bool x) (.bool y); binOp op t (.bool x) (.bool y) : Sem Value).run P w = .ok z w := by
  have hg : eqGuard op t X Y (.bool x) (.bool y) = pure () := by cases op <;> rfl
  rw [hg]
  unfold binB at h
  split at h
  · split at h
    · injection h with h; subst h; exact run_eql_bool w t x y ht
    · injection h with h; subst h; exact run_neq_bool w t x y ht
    · cases h
  · cases h
theorem run_binP {op : BinOp} {a : Addr} {z : Value} {d : TypeDesc} (h : binP op d = some z) (t : TypeId) (ht : P.underlying t = some d) (X Y : Operand) (w : World) :
    (do eqGuard op t X Y (.pointer (some a)) (.pointer none); binOp op t (.pointer (some a)) (.pointer none) : Sem Value).run P w = .ok z w := by
  have hg : eqGuard op t X Y (.pointer (some a)) (.pointer none) = pure () := by cases op <;> rfl
  rw [hg]
  unfold binP at h
  split at h
  · rename_i e
    have hp : P.underlying t = some (.pointer (P.pointee t)) := by unfold Program.pointee; rw [ht]
    split at h
    · injection h with h; subst h; exact run_eql_pointer_nil w t (some a) hp
    · injection h with h; subst h; exact run_neq_pointer_nil w t (some a) hp
    · cases h
  · cases h
theorem step_bin {o : Oper} {op : BinOp} {t t' : TypeId} {x y : Operand} (ho : o.op = .binOp op t x y t') (hd' : dstOk c.n o.dst = true) {vx vy v : V} (hx : s.ev x = some vx) (hy : s.ev y = some vy) (h : bin P t op vx vy = some v) :
    Step P c o s (s.put o.dst v) := step_value hd' fun yy a w A => by
  have ex := A.ev hx
  have ey := A.ev hy
  suffices hh : ∃ z, (do eqGuard op t x y (a.eval x) (a.eval y); binOp op t (a.eval x) (a.eval y) : Sem Value).run P w = .ok z w ∧ v = .v z by
    obtain ⟨z, h1, rfl⟩ := hh
    refine ⟨z, ?_, rfl⟩
    unfold execOp; rw [ho]
    simp only [Sem.run_bind]
    rw [Sem.run_bind] at h1
    rw [h1]; rfl
  unfold bin at h
  split at h
  · obtain ⟨z, h1, h2⟩ := bnd_eq_some h
    injection h2 with h2
    rw [show a.eval x = _ from ex, show a.eval y = _ from ey]
    exact ⟨z, run_binI h1 t x y w, h2.symm⟩
  · obtain ⟨z, h1, h2⟩ := bnd_eq_some h
    injection h2 with h2
    rw [show a.eval x = _ from ex, show a.eval y = _ from ey]
    exact ⟨z, run_binS h1 t x y w, h2.symm⟩
  · obtain ⟨d, hd, h⟩ := bnd_eq_some h
    obtain ⟨z, h1, h2⟩ := bnd_eq_some h
    injection h2 with h2
    rw [show a.eval x = _ from ex, show a.eval y = _ from ey]
    exact ⟨z, run_binB h1 t hd x y w, h2.symm⟩
  · obtain ⟨d, hd, h⟩ := bnd_eq_some h
    obtain ⟨z, h1, h2⟩ := bnd_eq_some h
    injection h2 with h2
    rw [show a.eval x = _ from ex.2, show a.eval y = _ from ey]
    exact ⟨z, run_binP h1 t hd x y w, h2.symm⟩
  · cases h
theorem step_un {o : Oper} {op : UnOp} {t : TypeId} {x : Operand} (ho : o.op = .unOp op t x) (hd' : dstOk c.n o.dst = true) {vx v : V} (hx : s.ev x = some vx) (h : un op vx = some v) :
    Step P c o s (s.put o.dst v) := step_value hd' fun yy a w A => by
  have ex := A.ev hx
  unfold un at h
  split at h
  · split at h
    · injection h with h; subst h
      exact ⟨_, by unfold execOp; simp only [ho, show a.eval x = _ from ex]; simp [Op.unary, Op.intArith], rfl⟩
    · cases h
  · split at h
    · injection h with h; subst h
      exact ⟨_, by unfold execOp; simp only [ho, show a.eval x = _ from ex]; simp [Op.unary], rfl⟩
    · cases h
  · cases h
theorem step_extract {o : Oper} {x : Operand} {i : Nat} (ho : o.op = .extract x i) (hd' : dstOk c.n o.dst = true) {vx v : V} (hx : s.ev x = some vx) (h : tupAt i vx = some v) : Step P c o s (s.put o.dst v) := step_value hd' fun yy a w A => by
  have ex := A.ev hx
  unfold tupAt at h
  split at h
  · obtain ⟨us', e1, e2⟩ := ex
    obtain ⟨u, h1, h2⟩ := e2.get h
    exact ⟨u, by unfold execOp; simp only [ho, e1]; simp [Instr.extract, h1], h2⟩
  · cases h
theorem step_nilCheck {o : Oper} {x : Operand} (ho : o.op = .nilCheck x) (hd' : dstOk c.n o.dst = true) {vx v : V} (hx : s.ev x = some vx) (h : nilOk vx = some v) : Step P c o s (s.put o.dst v) := step_value hd' fun yy a w A => by
  have ex := A.ev hx
  unfold nilOk at h
  split at h
  · injection h with h; subst h
    exact ⟨_, by unfold execOp; simp only [ho, show a.eval x = _ from ex.2]; rfl, ex.1, rfl⟩
  · injection h with h; subst h
    obtain ⟨ub, h1, g, q, n, cc, h2, h3, h4⟩ := ex
    exact ⟨_, by unfold execOp; simp only [ho, h4]; rfl, ub, h1, g, q, n, cc, h2, h3, rfl⟩
  · cases h
end
end Go.Proofs.YtnmneoekpikpkaaGreatDoor
namespace Go.Proofs.YtnmneoekpikpkaaGreatDoor
open Go.RowKit
set_option linter.unusedSimpArgs false
set_option linter.unusedVariables false
section
variable {P : Program}
theorem aggT_some {t : TypeId} {g : Bool} (h : aggT P t = some g) : ∃ d, P.underlying t = some d ∧ isAggD d = g := by
  obtain ⟨d, h1, h2⟩ := bnd_eq_some h
  injection h2 with h2
  exact ⟨d, h1, h2⟩
theorem isRow_of {d : TypeDesc} (h : isAggD d = true) : d.isRow = true := by cases d <;> simp_all [isAggD]
theorem info_of {t : TypeId} {d : TypeDesc} (h : P.underlying t = some d) : ∃ i, P.info? t = some i := by
  unfold Program.underlying at h
  cases e : P.info? t with
  | none => rw [e] at h; cases h
  | some i => exact ⟨i, rfl⟩
theorem size_of {t : TypeId} {d : TypeDesc} (h : P.underlying t = some d) : (P.info? t).map (·.size) = some (P.cellsOf t) := by
  obtain ⟨i, e⟩ := info_of h
  unfold Program.cellsOf; rw [e]; rfl
theorem run_load_cell (w : World) (b o : Nat) (t : TypeId) (d : TypeDesc) (u : Value) (hu : P.underlying t = some d) (hd : isAggD d = false) (hc : w.cell? ⟨b, o, none⟩ = some u) :
    (Instr.loadAt t (.pointer (some ⟨b, o, none⟩))).run P w = .ok u w := by
  have hagg : (isAgg t).run P w = .ok false w := by
    unfold isAgg
    rw [Sem.run_bind, run_underlying hu w]
    cases d <;> simp_all [isAggD]
  simp [Instr.loadAt, Instr.sureAddr, loadVar, Sem.run_bind, hagg, load, Sem.run, hc]
end
section
variable {P : Program} {c : Ctx} {s : S} {y : Lay} {a : Act} {w : World}
theorem At.kw (A : At c s y a w) : ∀ b o, c.K b o → w.heap[b]? = some o := c.hK w (St.dropL (St.dropL (St.dropL A.st)))
theorem At.zw (A : At c s y a w) : ∀ b o, (relOf c s y).Z b o → w.heap[b]? = some o := by
  intro b o ⟨p, hp, hb, ho⟩
  obtain ⟨x, hx, rfl⟩ := List.mem_map.1 hp
  have : snapP (y.w0 x.1) (y.F x.1) ∈ froPs y.w0 y.F s.fro ++ c.L := List.mem_append_left _ (List.mem_map.2 ⟨x, hx, rfl⟩)
  rw [(St.dropL (St.dropL A.st)).snap_at this b hb]; exact ho
theorem At.boxAt (A : At c s y a w) {b : Nat} {cs : List V} (h : look b s.box = some cs) : w.heap[y.bl b]? = some (.cells (y.us b) (y.T b) (0, 0)) ∧ RVs (relOf c s y) cs (y.us b).toList := by
  have m := look_mem h
  exact ⟨A.st.row_at (List.mem_append_left _ (List.mem_map.2 ⟨(b, cs), m, rfl⟩)), A.box b cs m⟩
theorem At.treeAt (A : At c s y a w) {p : Nat} {rows : List (List D)} (h : look p s.tree = some rows) : ∃ F, TreeD w rows (y.hd p) F :=
  A.st.tree_at (List.mem_append_right _ (List.mem_append_left _ (List.mem_map.2 ⟨(p, rows), look_mem h, rfl⟩)))
theorem At.froAt (A : At c s y a w) {p : Nat} {rows : List (List D)} (h : look p s.fro = some rows) : RdD (relOf c s y).Z (.l rows) (y.hd p).v := by
  have m := look_mem h
  exact (A.fro p rows m).own.rd fun b hb o e => ⟨p, List.mem_map.2 ⟨(p, rows), m, rfl⟩, hb, e⟩
theorem At.apart (A : At c s y a w) {p : Nat} {r1 r2 : List (List D)} (h1 : look p s.tree = some r1) (h2 : look p s.fro = some r2) : False := by
  have n := A.nt
  rw [List.map_append, List.nodup_append] at n
  exact n.2.2 p (List.mem_map.2 ⟨(p, r1), look_mem h1, rfl⟩) p (List.mem_map.2 ⟨(p, r2), look_mem h2, rfl⟩) rfl
theorem TreeD.inner {w : World} {rows : List (List D)} {h : Hd} {F : List Nat} (t : TreeD w rows h F) {i j : Nat} {r : List D} {rs : List (List D)} (hi : rows[i]? = some r) (hj : r[j]? = some (.l rs)) : ∃ F', OwnD w (.l rs) (h.cv (i * r.length + j)) F' ∧ ∀ b ∈ F', b ∈ F := by
  have o := t.own
  have hd := t.hd
  generalize h.v = u at o hd
  cases o with
  | nil => simp at hi
  | l _ n c g ob k T cs us fs h1 h2 h3 h4 h5 h6 h0 h7 h8 h9 =>
    have hk : r.length = k := h5 r (List.mem_of_getElem? hi)
    have f := flat_get rows i j r _ h5 hi hj
    have e := hd g ob n c cs T (0, 0) _ rs rfl h7 f
    rw [h8 _ _ f] at e
    injection e with e
    rw [hk, ← e]
    exact ⟨fs (i * k + j), h9 _ _ f, fun b hb => List.mem_cons_of_mem _ (List.mem_flatMap.2 ⟨_, List.mem_range.2 (List.getElem?_eq_some_iff.1 f).1, hb⟩)⟩
theorem rowsD_some {d : D} {rs : List (List D)} (h : rowsD d = some rs) : d = .l rs := by
  cases d <;> simp only [rowsD] at h
  · cases h
  · injection h with h; rw [h]
  · cases h
theorem inn_some {s : S} {p i j k : Nat} {rs : List (List D)} (h : s.rows (.inn p i j k) = some rs) : ∃ rows r, look p s.tree = some rows ∧ rows[i]? = some r ∧ r.length = k ∧ r[j]? = some (.l rs) := by
  simp only [S.rows] at h
  obtain ⟨rows, h1, h⟩ := bnd_eq_some h
  obtain ⟨r, h2, h⟩ := bnd_eq_some h
  obtain ⟨h3, h⟩ := grd_eq_some h
  obtain ⟨d, h4, h⟩ := bnd_eq_some h
  rw [rowsD_some h] at h4
  exact ⟨rows, r, h1, h2, h3, h4⟩
theorem At.innAt (A : At c s y a w) {p i j k : Nat} {u : Value} {rs : List (List D)} (hv : RV (relOf c s y) (.inn p i j k) u) (h : s.rows (.inn p i j k) = some rs) : ∃ F, OwnD w (.l rs) u F := by
  obtain ⟨rows, r, h1, h2, h3, h4⟩ := inn_some h
  obtain ⟨F, t⟩ := A.treeAt h1
  obtain ⟨F', o, _⟩ := t.inner h2 h4
  rw [h3] at o
  rw [show u = _ from hv.2.1]
  exact ⟨F', o⟩
theorem At.rows (A : At c s y a w) {v : V} {u : Value} {rows : List (List D)} (hv : RV (relOf c s y) v u) (h : s.rows v = some rows) : RdD (heapOf w) (.l rows) u := by
  have h9 := h
  cases v <;> simp only [S.rows] at h <;> try (cases h; done)
  case inn p i j k =>
    obtain ⟨F, o⟩ := A.innAt hv h9
    exact o.rd fun _ _ _ e => e
  case nil => injection h with h; subst h; rw [show u = _ from hv]; exact .nil none 0 (by omega) (fun _ => rfl)
  case lst o r => injection h with h; subst h; exact hv.1.mono A.kw
  case fz r => injection h with h; subst h; exact RdD.mono hv A.zw
  case own p =>
    rw [show u = _ from hv.2]
    cases e : look p s.tree with
    | some r =>
      rw [e] at h; simp only [orElse1] at h; injection h with h; subst h
      obtain ⟨F, o⟩ := A.treeAt e
      exact o.own.rd fun _ _ _ e => e
    | none =>
      rw [e] at h; simp only [orElse1] at h
      exact (A.froAt h).mono A.zw
theorem At.cellsAt (A : At c s y a w) {base : V} {ub : Value} {rows : List (List D)} {i : Nat} {r : List D} (hv : RV (relOf c s y) base ub) (h : s.rows base = some rows) (hi : rows[i]? = some r) :
    ∃ cc b o T fr cs, ub = .slice (some ⟨b, o, none⟩) rows.length cc ∧ w.heap[b]? = some (.cells cs T fr) ∧ ∀ (j : Nat) (d : D) (v : V), r[j]? = some d → s.under base r.length i j d = some v → ∃ u, cs[o + (i * r.length + j)]? = some u ∧ RV (relOf c s y) v u := by
  have h9 := h
  cases base <;> simp only [S.rows] at h <;> try (cases h; done)
  case inn p i2 j2 k2 =>
    obtain ⟨F, o'⟩ := A.innAt hv h9
    obtain ⟨cc, b, o, T, fr, cs, h1, h2, h3⟩ := (o'.rd (G := heapOf w) fun _ _ _ e => e).at_ hi
    refine ⟨cc, b, o, T, fr, cs, h1, h2, fun j d v e1 e2 => ?_⟩
    obtain ⟨u, hu, hd⟩ := h3 j d e1
    refine ⟨u, hu, ?_⟩
    cases d <;> simp only [S.under] at e2 <;> try (cases e2; done)
    injection e2 with e2; subst e2; exact hd.atom
  case nil => injection h with h; subst h; simp at hi
  case lst o' r' =>
    injection h with h; subst h
    obtain ⟨cc, b, o, T, fr, cs, h1, h2, h3⟩ := hv.1.at_ hi
    refine ⟨cc, b, o, T, fr, cs, h1, A.kw _ _ h2, fun j d v e1 e2 => ?_⟩
    obtain ⟨u, hu, hd⟩ := h3 j d e1
    refine ⟨u, hu, ?_⟩
    cases d <;> simp only [S.under] at e2 <;> (try (cases e2; done)) <;> (injection e2 with e2; subst e2)
    · exact hd.atom
    · exact ⟨hd, fun j h => by cases h⟩
  case fz r' =>
    injection h with h; subst h
    obtain ⟨cc, b, o, T, fr, cs, h1, h2, h3⟩ := RdD.at_ hv hi
    refine ⟨cc, b, o, T, fr, cs, h1, A.zw _ _ h2, fun j d v e1 e2 => ?_⟩
    obtain ⟨u, hu, hd⟩ := h3 j d e1
    refine ⟨u, hu, ?_⟩
    cases d <;> simp only [S.under] at e2 <;> (try (cases e2; done)) <;> (injection e2 with e2; subst e2)
    · exact hd.atom
    · exact hd
  case own p =>
    rw [show ub = _ from hv.2]
    cases e : look p s.tree with
    | some r' =>
      rw [e] at h; simp only [orElse1] at h; injection h with h; subst h
      obtain ⟨F, tr⟩ := A.treeAt e
      obtain ⟨cc, b, o, T, fr, cs, h1, h2, h3⟩ := (tr.own.rd (G := heapOf w) fun _ _ _ e => e).at_ hi
      refine ⟨cc, b, o, T, fr, cs, h1, h2, fun j d v e1 e2 => ?_⟩
      obtain ⟨u, hu, hd⟩ := h3 j d e1
      refine ⟨u, hu, ?_⟩
      cases d <;> simp only [S.under] at e2
      · injection e2 with e2; subst e2; exact hd.atom
      · cases e5 : look p s.fro with
        | some r2 => exact (A.apart e e5).elim
        | none =>
          rw [e5] at e2; simp only [underOwn] at e2
          injection e2 with e2; subst e2
          refine ⟨by show p ∈ (s.tree ++ s.fro).map (·.1); rw [List.map_append, List.mem_append]; exact .inl (List.mem_map.2 ⟨_, look_mem e, rfl⟩), ?_⟩
          suffices hh : u = (y.hd p).cv (i * r.length + j) from ⟨hh, by obtain ⟨A0, c0, e0, _⟩ := hd.len; rw [e0]; rfl⟩
          have hk : ∀ r2 ∈ r', r2.length = r.length := by
            have := tr.own
            rw [show (y.hd p).v = _ from h1] at this
            cases this with
            | nil => simp at hi
            | l _ _ _ _ _ k2 T2 cs2 us2 fs2 a1 a2 a3 a4 a5 => exact fun r2 hr2 => (a5 r2 hr2).trans (a5 r (List.mem_of_getElem? hi)).symm
          have f := flat_get r' i j r _ hk hi e1
          have := tr.hd b _ _ cc cs T fr _ _ h1 h2 f
          rw [hu] at this; injection this
      · cases e2
    | none =>
      rw [e] at h; simp only [orElse1] at h
      obtain ⟨cc, b, o, T, fr, cs, h1, h2, h3⟩ := (A.froAt h).at_ hi
      refine ⟨cc, b, o, T, fr, cs, h1, A.zw _ _ h2, fun j d v e1 e2 => ?_⟩
      obtain ⟨u, hu, hd⟩ := h3 j d e1
      refine ⟨u, hu, ?_⟩
      cases d <;> simp only [S.under] at e2
      · injection e2 with e2; subst e2; exact hd.atom
      · rw [h] at e2; simp only [underOwn] at e2; injection e2 with e2; subst e2; exact hd
      · cases e2
theorem mapSome_get {α β : Type} {f : α → Option β} : ∀ {l : List α} {r : List β}, mapSome f l = some r → r.length = l.length ∧ ∀ (i : Nat) (x : α), l[i]? = some x → ∃ z, r[i]? = some z ∧ f x = some z
  | [], r, h => by simp only [mapSome] at h; injection h with h; subst h; exact ⟨rfl, fun i x e => by simp at e⟩
  | x :: l, r, h => by
    simp only [mapSome] at h
    obtain ⟨z, h1, h⟩ := bnd_eq_some h
    obtain ⟨q, h2, h⟩ := bnd_eq_some h
    injection h with h; subst h
    obtain ⟨k1, k2⟩ := mapSome_get h2
    refine ⟨by rw [List.length_cons, List.length_cons, k1], fun i x' e => ?_⟩
    cases i with
    | zero => simp at e; subst e; exact ⟨z, rfl, h1⟩
    | succ i => exact k2 i x' (by simpa using e)
theorem underL_get {s : S} {base : V} {k i : Nat} : ∀ {l : List D} {j : Nat} {r : List V}, underL s base k i j l = some r → r.length = l.length ∧ ∀ (m : Nat) (d : D), l[m]? = some d → ∃ v, r[m]? = some v ∧ s.under base k i (j + m) d = some v
  | [], j, r, h => by simp only [underL] at h; injection h with h; subst h; exact ⟨rfl, fun m d e => by simp at e⟩
  | x :: l, j, r, h => by
    simp only [underL] at h
    obtain ⟨z, h1, h⟩ := bnd_eq_some h
    obtain ⟨q, h2, h⟩ := bnd_eq_some h
    injection h with h; subst h
    obtain ⟨k1, k2⟩ := underL_get h2
    refine ⟨by rw [List.length_cons, List.length_cons, k1], fun m d e => ?_⟩
    cases m with
    | zero => simp at e; subst e; exact ⟨z, rfl, h1⟩
    | succ m =>
      obtain ⟨v, e1, e2⟩ := k2 m d (by simpa using e)
      exact ⟨v, by simpa using e1, by rw [show j + (m + 1) = j + 1 + m by omega]; exact e2⟩
theorem At.loadAt (A : At c s y a w) {t : TypeId} {vx v : V} {u0 : Value} (ex : RV (relOf c s y) vx u0) (h : s.load P t vx = some v) : ∃ u, (Instr.loadAt t u0).run P w = .ok u w ∧ RV (relOf c s y) v u := by
  have fin : ∀ u, (Instr.loadAt t u0).run P w = .ok u w → RV (relOf c s y) v u → ∃ u, (Instr.loadAt t u0).run P w = .ok u w ∧ RV (relOf c s y) v u := fun u hr hv => ⟨u, hr, hv⟩
  cases vx <;> simp only [S.load] at h <;> try (cases h; done)
  case ref b off =>
    obtain ⟨g, hg, h⟩ := bnd_eq_some h
    obtain ⟨cs, hcs, h⟩ := bnd_eq_some h
    obtain ⟨d, hu, hd⟩ := aggT_some hg
    obtain ⟨hb, hv⟩ := A.boxAt hcs
    rw [show u0 = _ from ex.2] at fin ⊢
    have cell : ∀ i, w.cell? ⟨y.bl b, i, none⟩ = (y.us b).toList[i]? := fun i => by rw [cell_of_row w _ i _ _ _ hb, Array.getElem?_toList]
    unfold span at h
    cases g with
    | true =>
      rw [if_pos rfl] at h
      obtain ⟨hle, h⟩ := grd_eq_some h
      injection h with h; subst h
      refine fin (.agg (((y.us b).toList.drop off).take (P.cellsOf t)).toArray) ?_ ⟨_, rfl, (hv.drop off).take _⟩
      refine run_loadAt_mid w _ _ t _ d (fun j u e => ?_) hu (isRow_of hd) ?_
      · refine (cell (off + j)).trans ?_
        rw [List.getElem?_take] at e
        split at e
        · rw [List.getElem?_drop] at e; exact e
        · cases e
      · rw [size_of hu, List.length_take, List.length_drop, hv.len]; congr 1; omega
    | false =>
      rw [if_neg (by simp)] at h
      obtain ⟨u, h1, h2⟩ := hv.get h
      exact fin u (run_load_cell w _ _ t d u hu hd ((cell off).trans h1)) h2
  case pe base k i off =>
    obtain ⟨g, hg, h⟩ := bnd_eq_some h
    obtain ⟨rows, hrows, h⟩ := bnd_eq_some h
    obtain ⟨r, hr, h⟩ := bnd_eq_some h
    obtain ⟨hk, h0⟩ := grd_eq_some h
    clear h
    obtain ⟨d, hu, hd⟩ := aggT_some hg
    obtain ⟨ub, e1, g', o', n', c', e2, e3, e4⟩ := ex
    obtain ⟨cc, b, q, T, fr, cs, h1, h2, h3⟩ := A.cellsAt e1 hrows hr
    rw [e2] at h1
    injection h1 with h1 _ _
    injection h1 with h1
    injection h1 with h1 h1' _
    subst h1; subst h1'; subst hk
    rw [e4] at fin ⊢
    have cell : ∀ j, w.cell? ⟨g', j, none⟩ = cs[j]? := fun j => cell_of_row w _ j _ _ _ h2
    have h := h0
    unfold S.loadRow at h
    cases g with
    | true =>
      rw [if_pos rfl] at h
      obtain ⟨hle, h⟩ := grd_eq_some h
      obtain ⟨vs, hvs, h⟩ := bnd_eq_some h
      injection h with h; subst h
      obtain ⟨m1, m2⟩ := underL_get hvs
      have hlen : ((r.drop off).take (P.cellsOf t)).length = P.cellsOf t := by rw [List.length_take, List.length_drop]; omega
      have key : ∀ j, j < P.cellsOf t → ∃ u v, cs[o' + (i * r.length + off) + j]? = some u ∧ vs[j]? = some v ∧ RV (relOf c s y) v u := by
        intro j hj
        have hd2 : ((r.drop off).take (P.cellsOf t))[j]? = some (r[off + j]'(by omega)) := by
          rw [List.getElem?_take, if_pos hj, List.getElem?_drop, List.getElem?_eq_getElem]
        obtain ⟨v, q1, q2⟩ := m2 j _ hd2
        obtain ⟨u, q3, q4⟩ := h3 (off + j) _ v (List.getElem?_eq_getElem (by omega)) q2
        exact ⟨u, v, by rw [show o' + (i * r.length + off) + j = o' + (i * r.length + (off + j)) by omega]; exact q3, q1, q4⟩
      refine fin (.agg ((List.range (P.cellsOf t)).map fun j => cs[o' + (i * r.length + off) + j]?.getD undef).toArray) ?_ ⟨_, rfl, RVs.of (by simp [m1, hlen]) fun j v u w1 w2 => ?_⟩
      · refine run_loadAt_mid w _ _ t _ d (fun j u e => ?_) hu (isRow_of hd) (by rw [size_of hu]; simp)
        rw [cell]
        have hj : j < P.cellsOf t := by have := (List.getElem?_eq_some_iff.1 e).1; simpa using this
        obtain ⟨u', v', k1, k2, k3⟩ := key j hj
        rw [List.getElem?_map, List.getElem?_range hj, Option.map_some, k1] at e
        rw [k1]; exact e
      · have hj : j < P.cellsOf t := by have := (List.getElem?_eq_some_iff.1 w1).1; rw [m1, hlen] at this; exact this
        obtain ⟨u', v', k1, k2, k3⟩ := key j hj
        rw [List.getElem?_map, List.getElem?_range hj, Option.map_some, k1] at w2
        rw [k2] at w1
        injection w1 with w1; injection w2 with w2
        subst w1
        have : u' = u := by simpa using w2
        subst this; exact k3
    | false =>
      rw [if_neg (by simp)] at h
      obtain ⟨dd, hdd, h⟩ := bnd_eq_some h
      obtain ⟨u, q1, q2⟩ := h3 off dd v hdd h
      exact fin u (run_load_cell w _ _ t d u hu hd (by rw [cell]; exact q1)) q2
theorem step_load {o : Oper} {t : TypeId} {x : Operand} (ho : o.op = .load t x) (hd' : dstOk c.n o.dst = true) {vx v : V} (hx : s.ev x = some vx) (h : s.load P t vx = some v) : Step P c o s (s.put o.dst v) := step_value hd' fun yy a w A => by
  obtain ⟨u, hr, hv⟩ := A.loadAt (A.ev hx) h
  refine ⟨u, ?_, hv⟩
  unfold execOp; simp only [ho]; rw [Sem.run_bind, hr]; rfl
end
end Go.Proofs.YtnmneoekpikpkaaGreatDoor
namespace Go.Proofs.YtnmneoekpikpkaaGreatDoor
open Go.RowKit
set_option linter.unusedSimpArgs false
set_option linter.unusedVariables false
section
variable {P : Program} {c : Ctx} {s : S}
theorem addOff_sound {ρ : Rel} {v v' : V} {n : Nat} (h : addOff v n = some v') {u : Value} (hu : RV ρ v u) : ∃ b o, u = .pointer (some ⟨b, o, none⟩) ∧ RV ρ v' (.pointer (some ⟨b, o + n, none⟩)) := by
  unfold addOff at h
  split at h
  · injection h with h; subst h
    exact ⟨_, _, hu.2, hu.1, rfl⟩
  · injection h with h; subst h
    rename_i base k i off
    obtain ⟨ub, h1, g, o, n', c', h2, h3, h4⟩ := hu
    exact ⟨g, _, h4, ub, h1, g, o, n', c', h2, h3, by rw [show o + (i * k + (off + n)) = o + (i * k + off) + n by omega]⟩
  · cases h
theorem fieldOf_some {t : TypeId} {f off : Nat} {ft : TypeId} (h : fieldOf P t f = some (off, ft)) : ∃ fs fd, P.underlying t = some (.struct fs) ∧ fs[f]? = some fd ∧ fd.offset = off ∧ fd.type = ft ∧ P.cellsOf ft ≠ 0 := by
  unfold fieldOf at h
  obtain ⟨d, h1, h⟩ := bnd_eq_some h
  unfold fieldD at h
  split at h
  · obtain ⟨fd, h2, h⟩ := bnd_eq_some h
    obtain ⟨h3, h⟩ := grd_eq_some h
    injection h with h; injection h with e1 e2
    exact ⟨_, fd, h1, h2, e1, e2, by rw [← e2]; exact h3⟩
  · cases h
theorem step_fieldAddr {o : Oper} {t : TypeId} {x : Operand} {f : Nat} (ho : o.op = .fieldAddr t x f) (hd' : dstOk c.n o.dst = true) {vx v : V} {q : Nat × TypeId} (hx : s.ev x = some vx) (hf : fieldOf P t f = some q) (h : addOff vx q.1 = some v) :
    Step P c o s (s.put o.dst v) := step_value hd' fun yy a w A => by
  obtain ⟨off, ft⟩ := q
  obtain ⟨fs, fd, h1, h2, h3, h4, h5⟩ := fieldOf_some hf
  obtain ⟨b, oo, e1, e2⟩ := addOff_sound h (A.ev hx)
  refine ⟨_, ?_, e2⟩
  have hsz : P.cellsOf fd.type ≠ 0 := by rw [h4]; exact h5
  unfold Program.cellsOf at hsz
  cases hi : P.info? fd.type with
  | none => rw [hi] at hsz; simp at hsz
  | some i =>
    rw [hi] at hsz; simp at hsz
    unfold execOp; simp only [ho, e1]
    simp [Instr.fieldAt, run_underlying h1, h2, Instr.sureAddr, fieldPlace, sizeOf, typeInfo, hi, hsz, h3, Addr.add_mid]
theorem elemOfT_some {t : TypeId} {e : TypeId × Option Nat} (h : elemOfT P t = some e) : (∃ q, e = (q, none) ∧ P.underlying t = some (.slice q)) ∨ ∃ q n, e = (q, some n) ∧ P.underlying t = some (.array n q) := by
  unfold elemOfT at h
  obtain ⟨d, h1, h⟩ := bnd_eq_some h
  unfold elemD at h
  split at h
  · injection h with h; subst h; exact .inl ⟨_, rfl, h1⟩
  · injection h with h; subst h; exact .inr ⟨_, _, rfl, h1⟩
  · cases h
theorem run_sizeOf_some {t : TypeId} (h : sizedT P t = true) (w : World) : (sizeOf t).run P w = .ok (P.cellsOf t) w := by
  unfold sizedT at h
  cases hi : P.info? t with
  | none => rw [hi] at h; cases h
  | some i => simp [sizeOf, typeInfo, hi, Program.cellsOf]
theorem step_indexAddr {o : Oper} {t : TypeId} {x i : Operand} (ho : o.op = .indexAddr t x i) (hd' : dstOk c.n o.dst = true) {vx vi v : V} {n : Int} {e : TypeId × Option Nat} (hx : s.ev x = some vx) (hi : s.ev i = some vi) (hn : idxOf vi = some n) (he : elemOfT P t = some e)
    (h : indexAddrV P s vx n e.1 e.2 = some v) : Step P c o s (s.put o.dst v) := step_value hd' fun yy a w A => by
  obtain ⟨k, rfl⟩ := idxOf_some hn
  have hn : k = k := rfl
  have ei : a.eval i = .int k n := by have := A.ev hi; rw [show idxOf (.v (.int k n)) = some n from rfl] at *; exact this
  have ex := A.ev hx
  rcases elemOfT_some he with ⟨q, rfl, hu⟩ | ⟨q, m, rfl, hu⟩
  · simp only [indexAddrV] at h
    obtain ⟨rows, hr, h⟩ := bnd_eq_some h
    obtain ⟨⟨hz, h0, h1⟩, h⟩ := grd_eq_some h
    injection h with h; subst h
    obtain ⟨A', cc, e1, e2, e3, e4⟩ := (A.rows ex hr).len
    have hlt : n.toNat < rows.length := by omega
    obtain ⟨r, hrr⟩ : ∃ r, rows[n.toNat]? = some r := ⟨_, List.getElem?_eq_getElem hlt⟩
    obtain ⟨c2, b, oo, T, fr, cs, k1, k2, k3⟩ := A.cellsAt ex hr hrr
    have ha : A' = some ⟨b, oo, none⟩ := by rw [e1] at k1; injection k1
    refine ⟨.pointer (some ⟨b, oo + (n.toNat * P.cellsOf q + 0), none⟩), ?_, _, ex, b, oo, rows.length, cc, by rw [e1, ha], hlt, rfl⟩
    unfold execOp; simp only [ho, ei, e1, ha]
    simp [Instr.indexAt, asIntOf, run_underlying hu, h0, h1, run_sizeOf_some hz, Addr.add_mid]
  · simp only [indexAddrV] at h
    obtain ⟨⟨hz, h0, h1⟩, h⟩ := grd_eq_some h
    obtain ⟨b, oo, e1, e2⟩ := addOff_sound h ex
    refine ⟨_, ?_, e2⟩
    unfold execOp; simp only [ho, ei, e1]
    simp [Instr.indexAt, asIntOf, run_underlying hu, h0, h1, run_sizeOf_some hz, Addr.add_mid, Instr.sureAddr]
theorem part_sound {ρ : Rel} {cs : List V} {us : List Value} {off : Nat} {t : TypeId} {g : Bool} {v : V} (hv : RVs ρ cs us) (hg : aggT P t = some g) (h : span cs off (P.cellsOf t) g = some v) (w : World) : ∃ u, (part t us.toArray off).run P w = .ok u w ∧ RV ρ v u := by
  obtain ⟨d, hu, hd⟩ := aggT_some hg
  obtain ⟨i, hi⟩ := info_of hu
  unfold span at h
  have hagg : (isAgg t).run P w = .ok g w := by
    unfold isAgg
    rw [Sem.run_bind, run_underlying hu w]
    cases d <;> simp_all [isAggD]
  cases g with
  | true =>
    rw [if_pos rfl] at h
    obtain ⟨hle, h⟩ := grd_eq_some h
    injection h with h; subst h
    refine ⟨.agg (us.toArray.extract off (off + P.cellsOf t)), ?_, ((us.drop off).take (P.cellsOf t)), ?_, (hv.drop off).take _⟩
    · simp [part, hagg, sizeOf, typeInfo, hi, Program.cellsOf]
    · first | rfl | simp
  | false =>
    rw [if_neg (by simp)] at h
    obtain ⟨u, h1, h2⟩ := hv.get h
    exact ⟨u, by simp [part, hagg, h1], h2⟩
theorem step_field {o : Oper} {t : TypeId} {x : Operand} {f : Nat} (ho : o.op = .field t x f) (hd' : dstOk c.n o.dst = true) {cs : List V} {v : V} {q : Nat × TypeId} {g : Bool} (hx : s.ev x = some (.agg cs)) (hf : fieldOf P t f = some q) (hg : aggT P q.2 = some g) (h : span cs q.1 (P.cellsOf q.2) g = some v) :
    Step P c o s (s.put o.dst v) := step_value hd' fun yy a w A => by
  obtain ⟨off, ft⟩ := q
  obtain ⟨fs, fd, h1, h2, h3, h4, h5⟩ := fieldOf_some hf
  obtain ⟨us, e1, e2⟩ := A.ev hx
  obtain ⟨u, k1, k2⟩ := part_sound (P := P) e2 hg h w
  refine ⟨u, ?_, k2⟩
  unfold execOp; simp only [ho, e1]
  simp only at k1
  simp [Instr.field, run_underlying h1, h2, asAgg, h3, h4, k1]
theorem step_index {o : Oper} {t : TypeId} {x i : Operand} (ho : o.op = .index t x i) (hd' : dstOk c.n o.dst = true) {vx vi v : V} {n : Int} (hx : s.ev x = some vx) (hi : s.ev i = some vi) (hn : idxOf vi = some n) (h : indexV P t vx n = some v) : Step P c o s (s.put o.dst v) := step_value hd' fun yy a w A => by
  obtain ⟨k, rfl⟩ := idxOf_some hn
  have ei : a.eval i = .int k n := A.ev hi
  have ex := A.ev hx
  unfold indexV at h
  split at h
  · rename_i b
    obtain ⟨d, hu, h⟩ := bnd_eq_some h
    obtain ⟨⟨hs, h0, h1⟩, h⟩ := grd_eq_some h
    injection h with h; subst h
    have hd : d = .string := by unfold isStrD at hs; split at hs <;> first | rfl | cases hs
    subst hd
    have hlt : n.toNat < b.size := by omega
    refine ⟨_, ?_, rfl⟩
    unfold execOp; simp only [ho, ei, show a.eval x = _ from ex]
    have e1 : b[n.toNat]? = some (b[n.toNat]'hlt) := by simp [hlt]
    have e2 : b.toList[n.toNat]? = some (b[n.toNat]'hlt) := by
      rw [ByteArray.toList_eq]
      simp [hlt]
      rfl
    simp [Instr.index, asIntOf, run_underlying hu, h0, e1, e2]
  · rename_i cs
    obtain ⟨e, he, ha⟩ := bnd_eq_some h
    obtain ⟨m, hm, hb⟩ := bnd_eq_some ha
    obtain ⟨⟨hz, h0, h1⟩, hc⟩ := grd_eq_some hb
    obtain ⟨g, hg, hl⟩ := bnd_eq_some hc
    clear h ha hb hc
    rcases elemOfT_some he with ⟨q, rfl, hu⟩ | ⟨q, m', rfl, hu⟩
    · cases hm
    injection hm with hm; subst hm
    obtain ⟨us, e1, e2⟩ := ex
    obtain ⟨u, k1, k2⟩ := part_sound (P := P) e2 hg hl w
    refine ⟨u, ?_, k2⟩
    unfold execOp; simp only [ho, ei, e1]
    simp only at k1
    simp [Instr.index, asIntOf, run_underlying hu, h0, h1, run_sizeOf_some hz, k1]
  · cases h
theorem optV_some {ρ : Rel} {d n : Int} {x : Option V} (h : optV d x = some n) : (x = none ∧ n = d) ∨ ∃ k, x = some (.v (.int k n)) := by
  cases x with
  | none => simp only [optV] at h; injection h with h; exact .inl ⟨rfl, h.symm⟩
  | some v => obtain ⟨k, rfl⟩ := idxOf_some h; exact .inr ⟨k, rfl⟩
theorem evOptOp_some {x : Option Operand} {v : Option V} (h : evOptOp s x = some v) : (x = none ∧ v = none) ∨ ∃ y u, x = some y ∧ v = some u ∧ s.ev y = some u := by
  cases x with
  | none => simp only [evOptOp] at h; injection h with h; exact .inl ⟨rfl, h.symm⟩
  | some y => simp only [evOptOp] at h; obtain ⟨u, h1, h2⟩ := bnd_eq_some h; injection h2 with h2; exact .inr ⟨y, u, rfl, h2.symm, h1⟩
theorem bounds_sound {y : Lay} {a : Act} {w : World} (A : At c s y a w) {lo hi : Option Operand} {vl vh : Option V} {n cap : Nat} {p : Nat × Nat} (hlo : evOptOp s lo = some vl) (hhi : evOptOp s hi = some vh) (h : bounds n vl vh = some p) (hc : n ≤ cap) (isS : Bool) :
    p.1 ≤ p.2 ∧ p.2 ≤ n ∧ (Instr.sliceBounds isS n cap (lo.map a.eval) (hi.map a.eval) none).run P w = .ok (p.1, p.2, cap) w := by
  unfold bounds at h
  obtain ⟨l, h1, h⟩ := bnd_eq_some h
  obtain ⟨q, h2, h⟩ := bnd_eq_some h
  obtain ⟨⟨h3, h4, h5⟩, h⟩ := grd_eq_some h
  injection h with h; subst h
  refine ⟨by simp only; omega, by simp only; omega, ?_⟩
  rcases evOptOp_some hlo with ⟨rfl, rfl⟩ | ⟨xl, ul, rfl, rfl, el⟩ <;> rcases evOptOp_some hhi with ⟨rfl, rfl⟩ | ⟨xh, uh, rfl, rfl, eh⟩ <;>
    (rcases optV_some (ρ := relOf c s y) h1 with ⟨k1, rfl⟩ | ⟨kl, k1⟩ <;> first | (cases k1; done) | skip) <;>
    (rcases optV_some (ρ := relOf c s y) h2 with ⟨k2, rfl⟩ | ⟨kh, k2⟩ <;> first | (cases k2; done) | skip)
  · simp [Instr.sliceBounds]
  · injection k2 with k2; subst k2
    have e : a.eval xh = .int kh q := A.ev eh
    simp [Instr.sliceBounds, Instr.sliceBound, e, asIntOf, show 0 ≤ q by omega, show q ≤ (cap : Int) by omega]
  · injection k1 with k1; subst k1
    have e : a.eval xl = .int kl l := A.ev el
    simp [Instr.sliceBounds, Instr.sliceBound, e, asIntOf, h3, show l ≤ (n : Int) by omega]
  · injection k1 with k1; subst k1
    injection k2 with k2; subst k2
    have e : a.eval xl = .int kl l := A.ev el
    have e2 : a.eval xh = .int kh q := A.ev eh
    have e3 : (q.toNat : Int) = q := by omega
    simp [Instr.sliceBounds, Instr.sliceBound, e, e2, asIntOf, h3, show 0 ≤ q by omega, show q ≤ (cap : Int) by omega]
    intro hh; exfalso; rw [Int.max_def] at hh; split at hh <;> omega
theorem wid_spec {k : Nat} : ∀ {rows : List (List D)}, wid k rows = true → ∀ r ∈ rows, r.length = k
  | [], _, r, h => by cases h
  | x :: rows, e, r, h => by
    simp only [wid, Bool.and_eq_true, decide_eq_true_eq] at e
    rcases List.mem_cons.1 h with h | h
    · rw [h]; exact e.1.1
    · exact wid_spec e.2 r h
theorem wid_one {k : Nat} : ∀ {rows : List (List D)}, wid k rows = true → ∀ r ∈ rows, ∀ d ∈ r, oneD d = true
  | [], _, r, h => by cases h
  | x :: rows, e, r, h => by
    simp only [wid, Bool.and_eq_true, decide_eq_true_eq] at e
    rcases List.mem_cons.1 h with h | h
    · rw [h]; exact List.all_eq_true.1 e.1.2
    · exact wid_one e.2 r h
theorem flat_sub {α : Type} {k l m i : Nat} {rows : List (List α)} {d : α} (u : ∀ r ∈ rows, r.length = k) (hl : l ≤ rows.length) (e : ((rows.drop l).take m).flatten[i]? = some d) : rows.flatten[l * k + i]? = some d := by
  have h1 : rows = rows.take l ++ ((rows.drop l).take m ++ (rows.drop l).drop m) := by rw [List.take_append_drop, List.take_append_drop]
  have h2 : (rows.take l).flatten.length = l * k := by rw [flat_len _ (fun r h => u r (List.mem_of_mem_take h)), List.length_take]; congr 1; omega
  rw [h1, List.flatten_append, List.flatten_append, List.getElem?_append_right (by rw [h2]; omega), h2, show l * k + i - l * k = i by omega, List.getElem?_append_left (List.getElem?_eq_some_iff.1 e).1]
  exact e
theorem RdD.sub {G : Nat → Obj → Prop} {rows : List (List D)} {A : Option Addr} {n c k l h : Nat} (hr : RdD G (.l rows) (.slice A n c)) (hw : ∀ r ∈ rows, r.length = k) (h1 : l ≤ h) (h2 : h ≤ n) :
    RdD G (.l ((rows.drop l).take (h - l))) (.slice (if c = l then A else A.map (·.add (l * k))) (h - l) (c - l)) := by
  obtain ⟨A', c', e1, e2, e3, e4⟩ := hr.len
  injection e1 with e1 e5 e6
  subst e1; subst e5; subst e6
  by_cases hz : h - l = 0
  · rw [hz, List.take_zero]
    refine .nil _ _ (by omega) fun hn => ?_
    by_cases hc : c = l
    · omega
    · rw [if_neg hc] at hn
      cases A with
      | none => have := e4 rfl; omega
      | some a => cases hn
  · cases hr with
    | nil => simp at h2; omega
    | l _ n' c b o k' T fr cs us q1 q2 q3 q4 q5 q6 q7 q8 q9 =>
      have hk : k' = k := by
        cases rows with
        | nil => simp at h2; omega
        | cons r rs => rw [← q6 r (by simp), hw r (by simp)]
      subst hk
      have hcl : ¬ c = l := by omega
      rw [if_neg hcl, Option.map_some, Addr.add_mid]
      have hlen : ((rows.drop l).take (h - l)).length = h - l := by rw [List.length_take, List.length_drop]; omega
      refine .l _ (h - l) (c - l) b (o + l * k') k' T fr cs (fun i => us (l * k' + i)) hlen (by omega) (by omega) (by omega) q5 (fun r hr => q6 r (List.mem_of_mem_drop (List.mem_of_mem_take hr))) q7 (fun i d e => ?_) (fun i d e => ?_)
      · have := flat_sub q6 (by omega) e
        rw [show o + l * k' + i = o + (l * k' + i) by omega]
        exact q8 _ _ this
      · exact q9 _ _ (flat_sub q6 (by omega) e)
theorem step_slice {o : Oper} {t : TypeId} {x : Operand} {lo hi : Option Operand} (ho : o.op = .slice t x lo hi none) (hd' : dstOk c.n o.dst = true) {vx v : V} {vl vh : Option V} {d : TypeDesc} (hx : s.ev x = some vx) (hlo : evOptOp s lo = some vl) (hhi : evOptOp s hi = some vh) (hu : P.underlying t = some d)
    (h : sliceV P s vx vl vh d = some v) : Step P c o s (s.put o.dst v) := step_value hd' fun yy a w A => by
  have ex := A.ev hx
  unfold sliceV at h
  split at h
  · unfold sliceStr at h
    split at h
    · rename_i b
      obtain ⟨p, hp, h⟩ := bnd_eq_some h
      injection h with h; subst h
      obtain ⟨_, _, hb⟩ := bounds_sound (P := P) A hlo hhi hp (Nat.le_refl _) false
      refine ⟨_, ?_, rfl⟩
      unfold execOp; simp only [ho, show a.eval x = _ from ex]
      simp [Instr.sliceAt, Instr.slice, run_underlying hu, hb]
    · cases h
  · rename_i e
    obtain ⟨hz, h2⟩ := grd_eq_some h
    clear h
    have h := h2
    clear h2
    have key : ∀ (rows : List (List D)) (p : Nat × Nat) (u : Value), a.eval x = u → RdD (heapOf w) (.l rows) u → bounds rows.length vl vh = some p → ∃ A' n' c', u = .slice A' n' c' ∧ p.1 ≤ p.2 ∧ p.2 ≤ n' ∧
        (execOp a.eval o).run P w = .ok (.value (.slice (if c' = p.1 then A' else A'.map (·.add (p.1 * P.cellsOf e))) (p.2 - p.1) (c' - p.1))) w := by
      intro rows p u hu' hr hp
      obtain ⟨A', c', e1, e2, e3, e4⟩ := hr.len
      obtain ⟨b1, b2, hb⟩ := bounds_sound (P := P) A hlo hhi hp e2 true
      refine ⟨A', _, c', e1, b1, b2, ?_⟩
      unfold execOp; simp only [ho, hu', e1]
      simp [Instr.sliceAt, Instr.slice, run_underlying hu, hb, run_sizeOf_some hz]
    unfold sliceL at h
    split at h
    · obtain ⟨p, hp, h⟩ := bnd_eq_some h
      injection h with h; subst h
      obtain ⟨A', n', c', e1, b1, b2, hr⟩ := key [] p _ rfl (A.rows ex rfl) hp
      rw [show a.eval x = _ from ex] at e1
      injection e1 with e1 e2 e3
      subst e1; subst e2; subst e3
      refine ⟨_, hr, ?_⟩
      have : p.1 = 0 := by omega
      have h2 : p.2 = 0 := by omega
      rw [this, h2]; simp; rfl
    · rename_i o' rows
      unfold cutV at h
      obtain ⟨p, hp, h⟩ := bnd_eq_some h
      obtain ⟨hw, h⟩ := grd_eq_some h
      injection h with h; subst h
      obtain ⟨A', n', c', e1, b1, b2, hr⟩ := key rows p _ rfl (A.rows ex rfl) hp
      refine ⟨_, hr, ?_, fun j h => by cases h⟩
      have e3 := ex.1
      rw [e1] at e3
      exact e3.sub (wid_spec hw) b1 b2
    · rename_i rows
      unfold cutV at h
      obtain ⟨p, hp, h⟩ := bnd_eq_some h
      obtain ⟨hw, h⟩ := grd_eq_some h
      injection h with h; subst h
      obtain ⟨A', n', c', e1, b1, b2, hr⟩ := key rows p _ rfl (A.rows ex rfl) hp
      refine ⟨_, hr, ?_⟩
      have e3 : RdD _ _ _ := ex
      rw [e1] at e3
      exact e3.sub (wid_spec hw) b1 b2
    · rename_i q
      obtain ⟨rows, hq, h⟩ := bnd_eq_some h
      unfold cutV at h
      obtain ⟨p, hp, h⟩ := bnd_eq_some h
      obtain ⟨hw, h⟩ := grd_eq_some h
      injection h with h; subst h
      have e3 := A.froAt hq
      obtain ⟨A', n', c', e1, b1, b2, hr⟩ := key rows p _ ex.2 (e3.mono A.zw) hp
      refine ⟨_, hr, ?_⟩
      have e1 : (yy.hd q).v = _ := e1
      rw [e1] at e3
      exact e3.sub (wid_spec hw) b1 b2
    · cases h
  · cases h
end
end Go.Proofs.YtnmneoekpikpkaaGreatDoor
namespace Go.Proofs.YtnmneoekpikpkaaGreatDoor
open Go.RowKit
set_option linter.unusedSimpArgs false
set_option linter.unusedVariables false
section
variable {P : Program} {c : Ctx} {s : S}
theorem bytesOfRow_some {r : List D} {b : UInt8} (h : bytesOfRow r = some b) : ∃ n : Int, r = [.a (.int .u8 n)] ∧ b = UInt8.ofNat n.toNat := by
  unfold bytesOfRow at h
  split at h
  · injection h with h; exact ⟨_, rfl, h.symm⟩
  · cases h
theorem push_fold (l : List Int) : ∀ (r : ByteArray), l.foldl (fun r n => r.push (UInt8.ofNat n.toNat)) r = ⟨r.data ++ (l.map fun n => UInt8.ofNat n.toNat).toArray⟩ := by
  induction l with
  | nil => intro r; simp
  | cons x l ih => intro r; rw [List.foldl_cons, ih]; simp [ByteArray.push]
theorem bytes_rows {rows : List (List D)} {l : List UInt8} (h : mapSome bytesOfRow rows = some l) : ∃ ns : List Int, rows = ns.map (fun n => [.a (.int .u8 n)]) ∧ l = ns.map fun n => UInt8.ofNat n.toNat := by
  induction rows generalizing l with
  | nil => simp only [mapSome] at h; injection h with h; exact ⟨[], rfl, h.symm⟩
  | cons r rows ih =>
    simp only [mapSome] at h
    obtain ⟨b, h1, h⟩ := bnd_eq_some h
    obtain ⟨q, h2, h⟩ := bnd_eq_some h
    injection h with h
    obtain ⟨n, rfl, rfl⟩ := bytesOfRow_some h1
    obtain ⟨ns, rfl, rfl⟩ := ih h2
    exact ⟨n :: ns, rfl, h.symm⟩
theorem run_bytesOf {w : World} {rows : List (List D)} {l : List UInt8} {u : Value} (hr : RdD (heapOf w) (.l rows) u) (h : mapSome bytesOfRow rows = some l) : (Conv.bytesToString u).run P w = .ok (.string ⟨l.toArray⟩) w := by
  obtain ⟨ns, hrows, rfl⟩ := bytes_rows h
  clear h
  cases hr with
  | nil A c h1 h2 =>
    obtain rfl : ns = [] := by cases ns with | nil => rfl | cons => simp at hrows
    cases A with
    | none => simp [Conv.bytesToString]; rfl
    | some a =>
      have := run_bytesToString (P := P) w a 0 c [] (by simp [loadCells, loadCellsFrom])
      rw [this]; simp; rfl
  | l _ n c b o k T fr cs us q1 q2 q3 q4 q5 q6 q7 q8 q9 =>
    subst hrows
    have hk : k = 1 := by
      cases ns with
      | nil => simp at q1; omega
      | cons x ns => exact (q6 [.a (.int .u8 x)] (by simp)).symm
    subst hk
    have hn : n = ns.length := by rw [← q1, List.length_map]
    have hl : (loadCells ⟨b, o, none⟩ n).run P w = .ok (ns.map (Value.int .u8)).toArray w := by
      have := run_loadCells_list (P := P) w ⟨b, o, none⟩ (ns.map (Value.int .u8)) (fun j v hv => ?_)
      · rw [List.length_map, ← hn] at this; exact this
      · rw [Addr.add_mid, cell_of_row w b _ cs T fr q7]
        rw [List.getElem?_map] at hv
        obtain ⟨x, hx, rfl⟩ := Option.map_eq_some_iff.1 hv
        have e : (ns.map (fun n => [D.a (.int .u8 n)])).flatten[j]? = some (.a (.int .u8 x)) := by
          have := flat_get (k := 1) (ns.map (fun n => [D.a (.int .u8 n)])) j 0 [.a (.int .u8 x)] (.a (.int .u8 x)) q6 (by rw [List.getElem?_map, hx]; rfl) rfl
          rw [show j * 1 + 0 = j by omega] at this; exact this
        rw [q8 _ _ e, (q9 _ _ e).atom]
    rw [run_bytesToString (P := P) w _ n c ns hl, push_fold]
    simp
theorem step_convert {o : Oper} {t0 t : TypeId} {x : Operand} (ho : o.op = .convert t0 t x) (hd' : dstOk c.n o.dst = true) {vx v : V} {d0 d : TypeDesc} (hx : s.ev x = some vx) (h0 : P.underlying t0 = some d0) (h1 : P.underlying t = some d) (h : convD P s vx d0 d = some v) :
    Step P c o s (s.put o.dst v) := step_value hd' fun yy a w A => by
  have ex := A.ev hx
  have fin : ∀ u, (convert t0 t (a.eval x)).run P w = .ok u w → RV (relOf c s yy) v u → ∃ u, (execOp a.eval o).run P w = .ok (.value u) w ∧ RV (relOf c s yy) v u := by
    intro u hr hv
    refine ⟨u, ?_, hv⟩
    unfold execOp; simp only [ho]; rw [Sem.run_bind, hr]; rfl
  have bytes : bytesV P s vx d0 = some v → d = .string → (∀ u, a.eval x = u → (∃ A n c, u = .slice A n c)) → ∃ u, (execOp a.eval o).run P w = .ok (.value u) w ∧ RV (relOf c s yy) v u := by
    intro hb hd hsl
    subst hd
    unfold bytesV at hb
    obtain ⟨e, he, hb⟩ := bnd_eq_some hb
    obtain ⟨de, hde, hb⟩ := bnd_eq_some hb
    obtain ⟨hby, hb⟩ := grd_eq_some hb
    obtain ⟨rows, hrows, hb⟩ := bnd_eq_some hb
    obtain ⟨l, hl, hb⟩ := bnd_eq_some hb
    injection hb with hb; subst hb
    have hde2 : de = .int .u8 := by unfold isByteD at hby; split at hby <;> first | rfl | cases hby
    subst hde2
    have hd0 : d0 = .slice e := by unfold sliceElem at he; split at he <;> first | (injection he with he; subst he; rfl) | cases he
    subst hd0
    have hr := run_bytesOf (P := P) (A.rows ex hrows) hl
    obtain ⟨A', n', c', hu⟩ := hsl _ rfl
    refine fin _ ?_ rfl
    rw [hu] at hr ⊢
    simp [convert, run_underlying h0, run_underlying h1, run_underlying hde, hr]
  unfold convD at h
  split at h
  · obtain ⟨n, hn, h⟩ := bnd_eq_some h
    injection h with h; subst h
    obtain ⟨k, rfl⟩ := idxOf_some hn
    refine fin _ ?_ rfl
    rw [show a.eval x = _ from ex]
    simp [convert, run_underlying h0, run_underlying h1, Conv.intToInt]
  · split at h
    · injection h with h; subst h
      refine fin _ ?_ rfl
      rw [show a.eval x = _ from ex]
      simp [convert, run_underlying h0, run_underlying h1]
    · cases h
    · refine bytes h rfl fun u hu => ?_
      have h2 := h
      unfold bytesV at h2
      obtain ⟨e, he, h2⟩ := bnd_eq_some h2
      obtain ⟨de, hde, h2⟩ := bnd_eq_some h2
      obtain ⟨hby, h2⟩ := grd_eq_some h2
      obtain ⟨rows, hrows, h2⟩ := bnd_eq_some h2
      obtain ⟨A', c', e1, -⟩ := (A.rows ex hrows).len
      exact ⟨A', _, c', by rw [← hu]; exact e1⟩
  · cases h
end
end Go.Proofs.YtnmneoekpikpkaaGreatDoor
namespace Go.Proofs.YtnmneoekpikpkaaGreatDoor
open Go.RowKit
set_option linter.unusedSimpArgs false
set_option linter.unusedVariables false
def fset {α : Type} (f : Nat → α) (k : Nat) (x : α) : Nat → α := fun j => if j = k then x else f j
theorem fset_self {α : Type} (f : Nat → α) (k : Nat) (x : α) : fset f k x k = x := if_pos rfl
theorem fset_ne {α : Type} (f : Nat → α) {k j : Nat} (x : α) (h : j ≠ k) : fset f k x j = f j := if_neg h
theorem isNone_eq {α : Type} {x : Option α} (h : x.isNone = true) : x = none := by cases x with | none => rfl | some => cases h
theorem one_of_v {x : Value} (h : x.oneCell' = true) : x.cells = #[x] := by cases x <;> first | rfl | cases h
section
variable {P : Program} {c : Ctx} {s : S} {y : Lay} {a : Act} {w : World}
theorem At.hdSlice (A : At c s y a w) {p : Nat} (h : p ∈ (s.tree ++ s.fro).map (·.1)) : ∃ B n k, (y.hd p).v = .slice B n k := by
  obtain ⟨⟨q, rows⟩, hx, rfl⟩ := List.mem_map.1 h
  rcases List.mem_append.1 hx with hx | hx
  · obtain ⟨F, o⟩ := A.st.tree_at (List.mem_append_right _ (List.mem_append_left _ (List.mem_map.2 ⟨_, hx, rfl⟩)))
    obtain ⟨B, k, e, _⟩ := (o.own.rd (G := heapOf w) fun _ _ _ e => e).len
    exact ⟨_, _, _, e⟩
  · obtain ⟨B, k, e, _⟩ := ((A.fro _ _ hx).own.rd (G := heapOf (y.w0 q)) fun _ _ _ e => e).len
    exact ⟨_, _, _, e⟩
theorem At.one (A : At c s y a w) {v : V} {u : Value} (h : RV (relOf c s y) v u) (o : v.one = true) : u.oneCell' = true := by
  cases v with
  | v x => rw [show u = x from h]; exact o
  | nil => rw [show u = _ from h]; rfl
  | lst o' rows => obtain ⟨B, k, e, _⟩ := h.1.len; rw [e]; rfl
  | own p => obtain ⟨B, n, k, e⟩ := A.hdSlice h.1; rw [h.2, show ((relOf c s y).hd p).v = _ from e]; rfl
  | inn p i j k => exact h.2.2
  | fz rows => obtain ⟨B, k, e, _⟩ := RdD.len (show RdD _ (.l rows) u from h); rw [e]; rfl
  | ref b off => rw [h.2]; rfl
  | pe base k i off => obtain ⟨ub, _, g, q, n, cc, _, _, e⟩ := h; rw [e]; rfl
  | agg cs => cases o
  | tup cs => cases o
  | fn f cs => obtain ⟨us, e, _⟩ := h; rw [e]; rfl
  | dead => cases o
theorem At.cells (A : At c s y a w) {v : V} {u : Value} (h : RV (relOf c s y) v u) (o : v.cells.all V.one = true) : RVs (relOf c s y) v.cells u.cells.toList ∧ ∀ x ∈ u.cells.toList, x.oneCell' = true := by
  by_cases hv : ∃ cs, v = .agg cs
  · obtain ⟨cs, rfl⟩ := hv
    obtain ⟨us, rfl, hs⟩ := h
    refine ⟨by simpa [V.cells, Value.cells] using hs, fun x hx => ?_⟩
    have hx : x ∈ us := by simpa [Value.cells] using hx
    obtain ⟨i, e⟩ := List.getElem?_of_mem hx
    have hl := hs.len
    have hi : i < cs.length := by rw [← hl]; exact (List.getElem?_eq_some_iff.1 e).1
    obtain ⟨u', e1, e2⟩ := hs.get (List.getElem?_eq_getElem hi)
    rw [e] at e1; injection e1 with e1; subst e1
    exact A.one e2 (List.all_eq_true.1 o _ (List.getElem_mem hi))
  · have hc : v.cells = [v] := by cases v <;> first | rfl | exact absurd ⟨_, rfl⟩ hv
    rw [hc] at o ⊢
    have ho : v.one = true := by simpa using o
    have h1 := A.one h ho
    rw [one_of_v h1]
    exact ⟨⟨u, [], rfl, h, rfl⟩, fun x hx => by simp at hx; subst hx; exact h1⟩
theorem boxPs_fresh {bl : Nat → Nat} {T : Nat → TypeId} {us : Nat → Array Value} {k b : Nat} {T' : TypeId} {u' : Array Value} : ∀ {l : List (Nat × List V)}, k ∉ l.map (·.1) → boxPs (fset bl k b) (fset T k T') (fset us k u') l = boxPs bl T us l
  | [], _ => rfl
  | (j, x) :: r, h => by
    simp only [List.map_cons, List.mem_cons, not_or] at h
    unfold boxPs
    rw [List.map_cons, List.map_cons]
    have := boxPs_fresh (bl := bl) (T := T) (us := us) (b := b) (T' := T') (u' := u') h.2
    unfold boxPs at this
    rw [this]
    simp only [fset_ne _ _ (fun e => h.1 e.symm : j ≠ k)]
theorem treePs_fresh {hd : Nat → Hd} {k : Nat} {u : Hd} : ∀ {l : List (Nat × List (List D))}, k ∉ l.map (·.1) → treePs (fset hd k u) l = treePs hd l
  | [], _ => rfl
  | (j, x) :: r, h => by
    simp only [List.map_cons, List.mem_cons, not_or] at h
    unfold treePs
    rw [List.map_cons, List.map_cons]
    have := treePs_fresh (hd := hd) (u := u) h.2
    unfold treePs at this
    rw [this]
    simp only [fset_ne _ _ (fun e => h.1 e.symm : j ≠ k)]
theorem At.newBox (A : At c s y a w) {t : Nat} {cs : List V} {us : Array Value} {T : TypeId} (hf : look t s.box = none) (hv : RVs (relOf c s y) cs us.toList) (hd' : dstOk c.n (some t) = true) :
    At c { s with env := put t (.ref t 0) s.env, box := (t, cs) :: s.box } { y with bl := fset y.bl t w.heap.size, T := fset y.T t T, us := fset y.us t us } (a.put (some t) (.pointer (some ⟨w.heap.size, 0, none⟩))) (w.alloc (.cells us T)) := by
  have hn := look_none hf
  have le : (relOf c s y).le (relOf c { s with box := (t, cs) :: s.box } { y with bl := fset y.bl t w.heap.size, T := fset y.T t T, us := fset y.us t us }) :=
    ⟨fun _ _ h => h, fun _ _ h => h, rfl, fun b h => ⟨List.mem_cons_of_mem _ h, fset_ne _ _ fun e => hn (by rw [← e]; exact h)⟩, fun p h => ⟨h, rfl⟩⟩
  have A1 : At c { s with box := (t, cs) :: s.box } { y with bl := fset y.bl t w.heap.size, T := fset y.T t T, us := fset y.us t us } a (w.alloc (.cells us T)) := by
    refine ⟨A.defers, A.size, ?_, fun t' v e => (A.env t' v e).le le, fun b cs' h => ?_, A.fro, List.nodup_cons.2 ⟨hn, A.nb⟩, A.nt, A.fix.1, fun i h1 h2 => ⟨(fset_ne _ _ (by have := dstOk.lt hd'; have := A.fix.1; omega)).trans (A.fix.2 i h1 h2).1, (A.fix.2 i h1 h2).2⟩⟩
    · have S := A.st.alloc us T
      show St c.W _ ((rowP (fset y.bl t w.heap.size t) (fset y.T t T t) (fset y.us t us t) :: boxPs (fset y.bl t w.heap.size) (fset y.T t T) (fset y.us t us) s.box) ++ _)
      rw [fset_self, fset_self, fset_self, boxPs_fresh hn]
      exact S
    · rcases List.mem_cons.1 h with h | h
      · injection h with h1 h2; subst h1; subst h2
        show RVs _ cs' (fset y.us b us b).toList
        rw [fset_self]; exact hv.le le
      · show RVs _ cs' (fset y.us t us b).toList
        rw [fset_ne _ _ (fun e => hn (by rw [← e]; exact List.mem_map.2 ⟨_, h, rfl⟩))]
        exact (A.box b cs' h).le le
  exact A1.value (v := .ref t 0) ⟨List.mem_cons_self, by show _ = Value.pointer (some ⟨fset y.bl t w.heap.size t, 0, none⟩); rw [fset_self]⟩ hd'
theorem At.newBoxAt (A : At c s y a w) {t b0 : Nat} {cs : List V} {us : Array Value} {T : TypeId} {w' : World} (hf : look t s.box = none) (S : St c.W w' (rowP b0 T us :: (boxPs y.bl y.T y.us s.box ++ (treePs y.hd s.tree ++ (froPs y.w0 y.F s.fro ++ c.L))))) (hv : RVs (relOf c s y) cs us.toList) (hd' : dstOk c.n (some t) = true) :
    At c { s with env := put t (.ref t 0) s.env, box := (t, cs) :: s.box } { y with bl := fset y.bl t b0, T := fset y.T t T, us := fset y.us t us } (a.put (some t) (.pointer (some ⟨b0, 0, none⟩))) w' := by
  have hn := look_none hf
  have le : (relOf c s y).le (relOf c { s with box := (t, cs) :: s.box } { y with bl := fset y.bl t b0, T := fset y.T t T, us := fset y.us t us }) :=
    ⟨fun _ _ h => h, fun _ _ h => h, rfl, fun b h => ⟨List.mem_cons_of_mem _ h, fset_ne _ _ fun e => hn (by rw [← e]; exact h)⟩, fun p h => ⟨h, rfl⟩⟩
  have A1 : At c { s with box := (t, cs) :: s.box } { y with bl := fset y.bl t b0, T := fset y.T t T, us := fset y.us t us } a w' := by
    refine ⟨A.defers, A.size, ?_, fun t' v e => (A.env t' v e).le le, fun b cs' h => ?_, A.fro, List.nodup_cons.2 ⟨hn, A.nb⟩, A.nt, A.fix.1, fun i h1 h2 => ⟨(fset_ne _ _ (by have := dstOk.lt hd'; have := A.fix.1; omega)).trans (A.fix.2 i h1 h2).1, (A.fix.2 i h1 h2).2⟩⟩
    · show St c.W _ ((rowP (fset y.bl t b0 t) (fset y.T t T t) (fset y.us t us t) :: boxPs (fset y.bl t b0) (fset y.T t T) (fset y.us t us) s.box) ++ _)
      rw [fset_self, fset_self, fset_self, boxPs_fresh hn]
      exact S
    · rcases List.mem_cons.1 h with h | h
      · injection h with h1 h2; subst h1; subst h2
        show RVs _ cs' (fset y.us b us b).toList
        rw [fset_self]; exact hv.le le
      · show RVs _ cs' (fset y.us t us b).toList
        rw [fset_ne _ _ (fun e => hn (by rw [← e]; exact List.mem_map.2 ⟨_, h, rfl⟩))]
        exact (A.box b cs' h).le le
  exact A1.value (v := .ref t 0) ⟨List.mem_cons_self, by show _ = Value.pointer (some ⟨fset y.bl t b0 t, 0, none⟩); rw [fset_self]⟩ hd'
theorem At.newTree (A : At c s y a w) {t : Nat} {rows : List (List D)} {u : Hd} {w' : World} (hf : fresh s t = true) (hd' : dstOk c.n (some t) = true)
    (S : St c.W w' (treeP u rows :: (boxPs y.bl y.T y.us s.box ++ (treePs y.hd s.tree ++ (froPs y.w0 y.F s.fro ++ c.L))))) :
    At c { s with env := put t (.own t) s.env, tree := (t, rows) :: s.tree } { y with hd := fset y.hd t u } (a.put (some t) u.v) w' := by
  unfold fresh at hf
  rw [Bool.and_eq_true] at hf
  have hn1 := look_none (isNone_eq hf.1)
  have hn2 := look_none (isNone_eq hf.2)
  have hn : t ∉ (s.tree ++ s.fro).map (·.1) := by rw [List.map_append, List.mem_append]; exact fun h => h.elim hn1 hn2
  have le : (relOf c s y).le (relOf c { s with tree := (t, rows) :: s.tree } { y with hd := fset y.hd t u }) :=
    ⟨fun _ _ h => h, fun _ _ h => h, rfl, fun b h => ⟨h, rfl⟩, fun p h => ⟨List.mem_cons_of_mem _ h, fset_ne _ _ fun e => hn (by rw [← e]; exact h)⟩⟩
  have A1 : At c { s with tree := (t, rows) :: s.tree } { y with hd := fset y.hd t u } a w' := by
    refine ⟨A.defers, A.size, ?_, fun t' v e => (A.env t' v e).le le, fun b cs' h => (A.box b cs' h).le le, fun p rows' h => ?_, A.nb, List.nodup_cons.2 ⟨hn, A.nt⟩, A.fix.1, fun i h1 h2 => ⟨(A.fix.2 i h1 h2).1, (fset_ne _ _ (by have := dstOk.lt hd'; have := A.fix.1; omega)).trans (A.fix.2 i h1 h2).2⟩⟩
    · have S' : St c.W w' (boxPs y.bl y.T y.us s.box ++ (treeP u rows :: treePs y.hd s.tree ++ (froPs y.w0 y.F s.fro ++ c.L))) := S.perm (by
        rw [List.cons_append]
        exact (List.perm_middle).symm)
      show St c.W w' (boxPs y.bl y.T y.us s.box ++ (treeP (fset y.hd t u t) rows :: treePs (fset y.hd t u) s.tree ++ (froPs y.w0 y.F s.fro ++ c.L)))
      rw [fset_self, treePs_fresh hn1]; exact S'
    · show TreeD _ _ (fset y.hd t u p) _
      rw [fset_ne _ _ (fun e => hn2 (by rw [← e]; exact List.mem_map.2 ⟨_, h, rfl⟩))]
      exact A.fro p rows' h
  exact A1.value (v := .own t) ⟨List.mem_cons_self, by show u.v = (fset y.hd t u t).v; rw [fset_self]⟩ hd'
theorem killB_keys (p : Nat) : ∀ (l : List (Nat × List V)), (killB p l).map (·.1) = l.map (·.1)
  | [] => rfl
  | (i, z) :: r => by unfold killB; rw [List.map_cons, List.map_cons, killB_keys p r]
theorem boxPs_killB {bl : Nat → Nat} {T : Nat → TypeId} {us : Nat → Array Value} (p : Nat) : ∀ (l : List (Nat × List V)), boxPs bl T us (killB p l) = boxPs bl T us l
  | [] => rfl
  | (i, z) :: r => by
    have := boxPs_killB (bl := bl) (T := T) (us := us) p r
    unfold boxPs at this ⊢
    unfold killB; rw [List.map_cons, List.map_cons, this]
theorem look_killE (p t : Nat) : ∀ (l : List (Nat × V)), look t (killE p l) = (look t l).map fun v => if mentions p v = true then .dead else v
  | [] => rfl
  | (i, z) :: r => by
    unfold killE
    simp only [look]
    split
    · rfl
    · exact look_killE p t r
theorem killC_sound {ρ ρ' : Rel} {p : Nat} (hK : ρ'.K = ρ.K) (hZ : ∀ b o, ρ.Z b o → ρ'.Z b o) (hs : ρ'.src = ρ.src) (hb : ∀ b, ρ.Lb b → ρ'.Lb b ∧ ρ'.bl b = ρ.bl b) (ht : ∀ q, q ≠ p → ρ.Lt q → ρ'.Lt q ∧ ρ'.hd q = ρ.hd q) :
    ∀ {vs : List V} {us : List Value}, RVs ρ vs us → RVs ρ' (killC p vs) us
  | [], _, h => h
  | v :: _, _, h => by
    obtain ⟨u, q, h1, h2, h3⟩ := h
    refine ⟨u, q, h1, ?_, killC_sound hK hZ hs hb ht h3⟩
    cases e : mentions p v with
    | true => simp; trivial
    | false => simp; exact RV.less hK hZ hs hb ht e h2
theorem mem_killB {p b : Nat} {cs : List V} : ∀ {l : List (Nat × List V)}, (b, cs) ∈ killB p l → ∃ cs', (b, cs') ∈ l ∧ cs = killC p cs'
  | [], h => by cases h
  | (i, z) :: r, h => by
    unfold killB at h
    rcases List.mem_cons.1 h with h | h
    · injection h with h1 h2; subst h1; subst h2; exact ⟨z, List.mem_cons_self, rfl⟩
    · obtain ⟨cs', h1, h2⟩ := mem_killB h
      exact ⟨cs', List.mem_cons_of_mem _ h1, h2⟩
theorem At.out (A : At c s y a w) {p : Nat} {rows : List (List D)} (hl : look p s.tree = some rows) :
    St c.W w (treeP (y.hd p) rows :: (boxPs y.bl y.T y.us s.box ++ (treePs y.hd (drop1 p s.tree) ++ (froPs y.w0 y.F s.fro ++ c.L)))) := by
  obtain ⟨l1, l2, h1, _, h3⟩ := look_split hl
  have n := A.nt
  rw [List.map_append, List.nodup_append] at n
  have h3 := h3 n.1
  refine A.st.perm ?_
  rw [h3]
  refine ((List.perm_middle (l₁ := boxPs y.bl y.T y.us s.box) (l₂ := treePs y.hd (l1 ++ l2) ++ (froPs y.w0 y.F s.fro ++ c.L)) (a := treeP (y.hd p) rows)).symm.trans ?_).symm
  refine List.Perm.append_left _ ?_
  rw [← List.cons_append]
  refine List.Perm.append_right _ ?_
  rw [h1]
  unfold treePs
  rw [List.map_append, List.map_append, List.map_cons]
  exact List.perm_middle.symm
theorem At.killed (A : At c s y a w) {p : Nat} {w' : World} {L' : List Pc} (hK' : ∀ w, St c.W w L' → ∀ b o, c.K b o → w.heap[b]? = some o) (S : St c.W w' (boxPs y.bl y.T y.us s.box ++ (treePs y.hd (drop1 p s.tree) ++ (froPs y.w0 y.F s.fro ++ L')))) (hp : p ∈ s.tree.map (·.1)) : At { c with L := L', hK := hK' } (s.kill p) y a w' := by
  have n := A.nt
  rw [List.map_append, List.nodup_append] at n
  have hmem : ∀ q, q ∈ (drop1 p s.tree).map (·.1) → q ∈ s.tree.map (·.1) ∧ q ≠ p := by
    intro q hq
    obtain ⟨⟨q', r⟩, hx, rfl⟩ := List.mem_map.1 hq
    have : ∀ {l : List (Nat × List (List D))}, (q', r) ∈ drop1 p l → (q', r) ∈ l ∧ q' ≠ p := by
      intro l; induction l with
      | nil => intro h; cases h
      | cons x l ih =>
        intro h
        obtain ⟨i, z⟩ := x
        unfold drop1 at h
        split at h
        · exact ⟨List.mem_cons_of_mem _ (ih h).1, (ih h).2⟩
        · rename_i hne
          rcases List.mem_cons.1 h with h | h
          · injection h with h1 h2; subst h1; subst h2; exact ⟨List.mem_cons_self, fun e => hne e.symm⟩
          · exact ⟨List.mem_cons_of_mem _ (ih h).1, (ih h).2⟩
    have := this hx
    exact ⟨List.mem_map.2 ⟨_, this.1, rfl⟩, this.2⟩
  have hkeep : ∀ q, q ≠ p → q ∈ s.tree.map (·.1) → q ∈ (drop1 p s.tree).map (·.1) := by
    intro q hq h
    obtain ⟨⟨q', r⟩, hx, rfl⟩ := List.mem_map.1 h
    have h2 := look_of_mem n.1 hx
    have : look q' (drop1 p s.tree) = some r := by rw [look_drop1, if_neg hq]; exact h2
    exact List.mem_map.2 ⟨_, look_mem this, rfl⟩
  have ht : ∀ q, q ≠ p → (relOf c s y).Lt q → (relOf c (s.kill p) y).Lt q ∧ (relOf c (s.kill p) y).hd q = (relOf c s y).hd q := by
    intro q hq h
    refine ⟨?_, rfl⟩
    have h : q ∈ (s.tree ++ s.fro).map (·.1) := h
    show q ∈ (drop1 p s.tree ++ s.fro).map (·.1)
    rw [List.map_append, List.mem_append] at h ⊢
    exact h.imp (hkeep q hq) _root_.id
  have hb : ∀ b, (relOf c s y).Lb b → (relOf c (s.kill p) y).Lb b ∧ (relOf c (s.kill p) y).bl b = (relOf c s y).bl b := by
    intro b h
    refine ⟨?_, rfl⟩
    show b ∈ (killB p s.box).map (·.1)
    rw [killB_keys]; exact h
  refine ⟨A.defers, A.size, ?_, fun t v e => ?_, fun b cs h => ?_, A.fro, ?_, ?_, A.fix⟩
  · show St c.W w' (boxPs y.bl y.T y.us (killB p s.box) ++ (treePs y.hd (drop1 p s.tree) ++ (froPs y.w0 y.F s.fro ++ L')))
    rw [boxPs_killB]; exact S
  · have e : look t (killE p s.env) = some v := e
    rw [look_killE] at e
    cases e2 : look t s.env with
    | none => rw [e2] at e; cases e
    | some v' =>
      rw [e2] at e; simp only [Option.map_some, Option.some.injEq] at e
      subst e
      cases e3 : mentions p v' with
      | true => simp; trivial
      | false => simp only [Bool.false_eq_true, if_false]; exact RV.less (ρ := relOf c s y) (ρ' := relOf c (s.kill p) y) rfl (fun _ _ h => h) rfl hb ht e3 (A.env t v' e2)
  · obtain ⟨cs', h1, rfl⟩ := mem_killB h
    exact killC_sound (ρ := relOf c s y) (ρ' := relOf c (s.kill p) y) rfl (fun _ _ h => h) rfl hb ht (A.box b cs' h1)
  · show ((killB p s.box).map (·.1)).Nodup
    rw [killB_keys]; exact A.nb
  · show ((drop1 p s.tree ++ s.fro).map (·.1)).Nodup
    rw [List.map_append, List.nodup_append]
    refine ⟨?_, n.2.1, fun x hx z hz => n.2.2 x (hmem x hx).1 z hz⟩
    obtain ⟨⟨q, r⟩, hx, rfl⟩ := List.mem_map.1 hp
    obtain ⟨l1, l2, e1, _, e3⟩ := look_split (look_of_mem n.1 hx)
    rw [e3 n.1, List.map_append]
    have n1 := n.1
    rw [e1, List.map_append, List.map_cons] at n1
    have n2 := List.perm_middle.nodup_iff.1 n1
    exact (List.nodup_cons.1 n2).2
theorem step_box {o : Oper} {t : TypeId} {x : Operand} (ho : o.op = .box t x) (hd' : dstOk c.n o.dst = true) {v : V} {s' : S} (hx : s.ev x = some v) (h1 : v.cells.all V.one = true) (h : s.newBox o.dst v.cells = some s') : Step P c o s s' := by
  intro a w G next Q k
  obtain ⟨y, A⟩ := G
  unfold S.newBox at h
  obtain ⟨d, hd, h⟩ := bnd_eq_some h
  obtain ⟨hf, h⟩ := grd_eq_some h
  injection h with h; subst h
  rw [hd] at hd'
  have ex := A.cells (A.ev hx) h1
  have A' := A.newBox (T := t) (isNone_eq hf) ex.1 hd'
  refine op_value (u := .pointer (some ⟨w.heap.size, 0, none⟩)) (w' := w.alloc (.cells (a.eval x).cells t)) ?_ (k _ _ ⟨_, by rw [hd]; exact A'⟩)
  unfold execOp; simp only [ho]; simp [Instr.box, newVar, newRow]
theorem constV_cells {ρ : Rel} {z : Value} {v : V} (h : constV z = some v) : RVs ρ v.cells z.cells.toList := by
  have e := constV_sound (ρ := ρ) h
  unfold constV at h
  split at h <;> (try (cases h; done)) <;> (injection h with h; subst h)
  case _ => exact ⟨_, _, rfl, rfl, rfl⟩
  case _ => exact ⟨_, _, rfl, rfl, rfl⟩
  case _ => exact ⟨_, _, rfl, rfl, rfl⟩
  case _ => exact ⟨_, _, rfl, rfl, rfl⟩
  case _ => exact ⟨_, _, rfl, rfl, rfl⟩
  case _ =>
    obtain ⟨us, e1, e2⟩ := e
    injection e1 with e1
    show RVs ρ (List.map constC _) (_ : Array Value).toList
    have e3 : us = (us.toArray).toList := rfl
    rw [e3, ← e1] at e2
    exact e2
theorem zeroV_sound {t : TypeId} {cs : List V} (h : zeroV P t = some cs) : ∃ i z, P.info? t = some i ∧ i.zero = some z ∧ ∀ ρ : Rel, RVs ρ cs z.cells.toList := by
  unfold zeroV at h
  obtain ⟨i, h1, h⟩ := bnd_eq_some h
  obtain ⟨z, h2, h⟩ := bnd_eq_some h
  obtain ⟨v, h3, h⟩ := bnd_eq_some h
  injection h with h; subst h
  exact ⟨i, z, h1, h2, fun ρ => constV_cells h3⟩
theorem step_alloc {o : Oper} {t : TypeId} (ho : o.op = .alloc t) (hd' : dstOk c.n o.dst = true) {cs : List V} {s' : S} (hz : zeroV P t = some cs) (h : s.newBox o.dst cs = some s') : Step P c o s s' := by
  intro a w G next Q k
  obtain ⟨y, A⟩ := G
  unfold S.newBox at h
  obtain ⟨d, hd, h⟩ := bnd_eq_some h
  obtain ⟨hf, h⟩ := grd_eq_some h
  injection h with h; subst h
  rw [hd] at hd'
  obtain ⟨i, z, h1, h2, h3⟩ := zeroV_sound hz
  have A' := A.newBox (T := t) (isNone_eq hf) (h3 _) hd'
  refine op_value (u := .pointer (some ⟨w.heap.size, 0, none⟩)) (w' := w.alloc (.cells z.cells t)) ?_ (k _ _ ⟨_, by rw [hd]; exact A'⟩)
  unfold execOp; simp only [ho]; simp [Instr.alloc, zeroValue, typeInfo, h1, h2, newVar, newRow]
end
end Go.Proofs.YtnmneoekpikpkaaGreatDoor
namespace Go.Proofs.YtnmneoekpikpkaaGreatDoor
open Go.RowKit
set_option linter.unusedSimpArgs false
set_option linter.unusedVariables false
theorem froPs_fresh' {w0 : Nat → World} {F : Nat → List Nat} {k : Nat} {u : World} {f : List Nat} : ∀ {l : List (Nat × List (List D))}, k ∉ l.map (·.1) → froPs (fset w0 k u) (fset F k f) l = froPs w0 F l
  | [], _ => rfl
  | (j, x) :: r, h => by
    simp only [List.map_cons, List.mem_cons, not_or] at h
    have := froPs_fresh' (w0 := w0) (F := F) (u := u) (f := f) h.2
    unfold froPs at this ⊢
    rw [List.map_cons, List.map_cons, this]
    simp only [fset_ne _ _ (fun e => h.1 e.symm : j ≠ k)]
theorem bytesWorld_ext (w : World) (e : TypeId) (b : ByteArray) : Ext w (Lib.bytesWorld w e b) :=
  ⟨rfl, rfl, rfl, by rw [Lib.bytesWorld_size]; omega, fun k hk => Lib.bytesWorld_at_old w e b k hk⟩
theorem rowsOfStr_flat (b : ByteArray) : (rowsOfStr b).flatten = b.data.toList.map fun c => D.a (.int .u8 (c.toNat : Int)) := by
  unfold rowsOfStr
  induction b.data.toList with
  | nil => rfl
  | cons x l ih => rw [List.map_cons, List.flatten_cons, ih]; rfl
theorem bytes_rd {w : World} {e : TypeId} {b : ByteArray} (hb : b.size ≤ 4611686018427387904) {G : Nat → Obj → Prop} (hG : ∀ o, (Lib.bytesWorld w e b).heap[w.heap.size]? = some o → G w.heap.size o) :
    RdD G (.l (rowsOfStr b)) (.slice (some ⟨w.heap.size, 0, none⟩) b.size (grownCap w b.size 0 e)) := by
  have h1 := grownCap_ge w b.size 0 e
  have h2 := grownCap_le_maxLen w b.size 0 e (by unfold maxLen; omega)
  unfold maxLen at h2
  have hs : b.size = b.data.toList.length := by simp
  by_cases h0 : b.size = 0
  · have : rowsOfStr b = [] := by
      unfold rowsOfStr
      rw [List.map_eq_nil_iff]
      exact List.eq_nil_of_length_eq_zero (by omega)
    rw [this, h0]
    exact .nil _ _ (by rw [h0] at h2; omega) (fun h => nomatch h)
  · refine .l (rowsOfStr b) b.size _ w.heap.size 0 1 e _ (Lib.bytesCells w e b) (fun i => .int .u8 ((b.data.toList.getD i 0).toNat : Int)) (by rw [rowsOfStr, List.length_map]; omega) (by omega) h1 (by omega) (by omega) (fun r hr => ?_) (hG _ (Lib.bytesWorld_at_new w e b)) (fun i d hd => ?_) (fun i d hd => ?_)
    · unfold rowsOfStr at hr
      obtain ⟨c, _, rfl⟩ := List.mem_map.1 hr
      rfl
    · rw [rowsOfStr_flat, List.getElem?_map] at hd
      obtain ⟨c, hc, rfl⟩ := Option.map_eq_some_iff.1 hd
      have hi : i < b.data.size := by simpa using (List.getElem?_eq_some_iff.1 hc).1
      rw [Nat.zero_add]
      unfold Lib.bytesCells
      rw [Array.getElem?_append_left (by simpa using hi)]
      simp only [Array.getElem?_map]
      have : b.data[i]? = some c := by simpa using hc
      rw [this, List.getD_eq_getElem?_getD, hc]
      rfl
    · rw [rowsOfStr_flat, List.getElem?_map] at hd
      obtain ⟨c, hc, rfl⟩ := Option.map_eq_some_iff.1 hd
      rw [List.getD_eq_getElem?_getD, hc]
      exact .a _
section
variable {P : Program} {c : Ctx} {s : S} {y : Lay} {a : Act} {w : World}
theorem At.froze (A : At c s y a w) {t : Nat} {e : TypeId} {b : ByteArray} (hb : b.size ≤ 4611686018427387904) (hf : fresh s t = true) (hd' : dstOk c.n (some t) = true) :
    Good c { s with env := put t (.fz (rowsOfStr b)) s.env, fro := (t, []) :: s.fro } (a.put (some t) (.slice (some ⟨w.heap.size, 0, none⟩) b.size (grownCap w b.size 0 e))) (Lib.bytesWorld w e b) := by
  unfold fresh at hf
  rw [Bool.and_eq_true] at hf
  have hn1 := look_none (isNone_eq hf.1)
  have hn2 := look_none (isNone_eq hf.2)
  have hn : t ∉ (s.tree ++ s.fro).map (·.1) := by rw [List.map_append, List.mem_append]; exact fun h => h.elim hn1 hn2
  have hx := bytesWorld_ext w e b
  have kk : ∀ n, n ∈ (s.tree ++ s.fro).map (·.1) → n ∈ (s.tree ++ (t, ([] : List (List D))) :: s.fro).map (·.1) := by
    intro n h
    rw [List.map_append, List.mem_append] at h ⊢
    exact h.elim .inl fun h => .inr (List.mem_cons_of_mem _ h)
  have le : (relOf c s y).le (relOf c { s with fro := (t, []) :: s.fro } { y with hd := fset y.hd t nilHd, w0 := fset y.w0 t (Lib.bytesWorld w e b), F := fset y.F t [w.heap.size] }) := by
    refine ⟨fun _ _ h => h, fun b' o ⟨q, h1, h2, h3⟩ => ?_, rfl, fun b h => ⟨h, rfl⟩, fun q h => ⟨kk q h, fset_ne _ _ fun e => hn (by rw [← e]; exact h)⟩⟩
    have hq : q ≠ t := fun e => hn2 (by rw [← e]; exact h1)
    exact ⟨q, List.mem_cons_of_mem _ h1, by show b' ∈ fset y.F t _ q; rw [fset_ne _ _ hq]; exact h2, by show (fset y.w0 t _ q).heap[b']? = some o; rw [fset_ne _ _ hq]; exact h3⟩
  have A1 : At c { s with fro := (t, []) :: s.fro } { y with hd := fset y.hd t nilHd, w0 := fset y.w0 t (Lib.bytesWorld w e b), F := fset y.F t [w.heap.size] } a (Lib.bytesWorld w e b) := by
    refine ⟨A.defers, A.size, ?_, fun t' v e => (A.env t' v e).le le, fun b cs h => (A.box b cs h).le le, fun q r h => ?_, A.nb, ?_, A.fix.1, fun i h1 h2 => ⟨(A.fix.2 i h1 h2).1, (fset_ne _ _ (by have := dstOk.lt hd'; have := A.fix.1; omega)).trans (A.fix.2 i h1 h2).2⟩⟩
    · have S1 : St c.W (Lib.bytesWorld w e b) (snapP (Lib.bytesWorld w e b) [w.heap.size] :: (boxPs y.bl y.T y.us s.box ++ (treePs y.hd s.tree ++ (froPs y.w0 y.F s.fro ++ c.L)))) :=
        A.st.more hx (h := snapP (Lib.bytesWorld w e b) [w.heap.size]) (F := [w.heap.size]) ⟨rfl, fun _ _ => rfl⟩ (by simp) (fun k hk => by simp only [List.mem_singleton] at hk; subst hk; rw [Lib.bytesWorld_size]; omega)
      show St c.W _ (boxPs y.bl y.T y.us s.box ++ (treePs (fset y.hd t nilHd) s.tree ++ ((snapP (fset y.w0 t (Lib.bytesWorld w e b) t) (fset y.F t [w.heap.size] t) :: froPs (fset y.w0 t (Lib.bytesWorld w e b)) (fset y.F t [w.heap.size]) s.fro) ++ c.L)))
      rw [fset_self, fset_self, froPs_fresh' hn2, treePs_fresh hn1]
      have q := (List.perm_middle (a := snapP (Lib.bytesWorld w e b) [w.heap.size]) (l₁ := boxPs y.bl y.T y.us s.box ++ treePs y.hd s.tree) (l₂ := froPs y.w0 y.F s.fro ++ c.L)).symm
      simp only [List.append_assoc, List.cons_append] at q ⊢ S1
      exact S1.perm q
    · show TreeD (fset y.w0 t _ q) _ (fset y.hd t nilHd q) (fset y.F t _ q)
      rcases List.mem_cons.1 h with h | h
      · injection h with h1 h2; subst h1; subst h2
        rw [fset_self, fset_self, fset_self]
        exact ⟨.nil none _, fun g ob n c cs T fr m r' e1 => by cases e1⟩
      · have hq : q ≠ t := fun e => hn2 (by rw [← e]; exact List.mem_map.2 ⟨_, h, rfl⟩)
        rw [fset_ne _ _ hq, fset_ne _ _ hq, fset_ne _ _ hq]; exact A.fro q r h
    · show ((s.tree ++ (t, []) :: s.fro).map (·.1)).Nodup
      have An := A.nt
      rw [List.map_append, List.nodup_append] at An ⊢
      refine ⟨An.1, List.nodup_cons.2 ⟨hn2, An.2.1⟩, fun x hx z hz e => ?_⟩
      subst e
      rcases List.mem_cons.1 hz with h | h
      · have h : x = t := h
        subst h
        exact hn1 hx
      · exact An.2.2 x hx x h rfl
  refine ⟨_, A1.value (v := .fz (rowsOfStr b)) ?_ hd'⟩
  refine bytes_rd hb fun o ho => ⟨t, List.mem_cons_self, ?_, ?_⟩
  · show w.heap.size ∈ fset y.F t _ t
    rw [fset_self]; exact List.mem_singleton_self _
  · show (fset y.w0 t _ t).heap[w.heap.size]? = some o
    rw [fset_self]; exact ho
theorem step_bytes {o : Oper} {t0 t : TypeId} {x : Operand} {s' : S} (ho : o.op = .convert t0 t x) (hd' : dstOk c.n o.dst = true) {vx : V} {d0 d : TypeDesc} (hx : s.ev x = some vx) (h0 : P.underlying t0 = some d0) (h1 : P.underlying t = some d) (h : convS P s o.dst vx d0 d = some s') : Step P c o s s' := by
  by_cases hs : ∃ e, d = .slice e
  · obtain ⟨e, rfl⟩ := hs
    simp only [convS] at h
    obtain ⟨de, he, h⟩ := bnd_eq_some h
    obtain ⟨hby, h⟩ := grd_eq_some h
    have hde2 : de = .int .u8 := by unfold isByteD at hby; split at hby <;> first | rfl | cases hby
    subst hde2
    have hv : ∃ b, vx = .v (.string b) := by
      unfold newBytes at h
      split at h
      · exact ⟨_, rfl⟩
      · cases h
    · obtain ⟨b, rfl⟩ := hv
      simp only [newBytes] at h
      obtain ⟨t', ht, h⟩ := bnd_eq_some h
      obtain ⟨⟨hf, hb⟩, h⟩ := grd_eq_some h
      injection h with h; subst h
      rw [ht] at hd'
      intro a w G next Q k
      obtain ⟨y, A⟩ := G
      have ex : a.eval x = .string b := A.ev hx
      refine op_value (u := .slice (some ⟨w.heap.size, 0, none⟩) b.size (grownCap w b.size 0 e)) (w' := Lib.bytesWorld w e b) ?_ (k _ _ ?_)
      · unfold execOp
        simp only [ho]
        rw [ex, Sem.run_bind, Lib.run_convert_string_bytes (P := P) w t0 t e b h0 h1 he]
        rfl
      · rw [ht]
        exact A.froze hb hf hd'
  · have hc : convS P s o.dst vx d0 d = bnd (convD P s vx d0 d) fun v => some (s.put o.dst v) := by
      cases d <;> first | rfl | exact absurd ⟨_, rfl⟩ hs
    rw [hc] at h
    obtain ⟨v, h2, h⟩ := bnd_eq_some h
    injection h with h; subst h
    exact step_convert ho hd' hx h0 h1 h2
end
end Go.Proofs.YtnmneoekpikpkaaGreatDoor
namespace Go.Proofs.YtnmneoekpikpkaaGreatDoor
open Go.RowKit
set_option linter.unusedSimpArgs false
set_option linter.unusedVariables false
theorem setAt_sound {ρ : Rel} : ∀ {vs : List V} {xs : List Value} {off : Nat} {cs : List V} {us : List Value}, RVs ρ vs xs → RVs ρ cs us → off + xs.length ≤ us.length → RVs ρ (setAt cs off vs) (us.take off ++ xs ++ us.drop (off + xs.length))
  | [], xs, off, cs, us, h, k, hl => by
    rw [show xs = [] from h]
    simpa [setAt] using k
  | v :: vs, xs, off, cs, us, h, k, hl => by
    obtain ⟨x, q, rfl, h2, h3⟩ := h
    have := setAt_sound (off := off + 1) h3 (k.set h2 off) (by simp at hl ⊢; omega)
    rw [list_seg_step us off x q (by simpa using hl)] at this
    exact this
section
variable {P : Program} {c : Ctx} {s : S} {y : Lay} {a : Act} {w : World}
theorem At.turn (A : At c s y a w) {b : Nat} {cs cs' : List V} {us' : Array Value} {w' : World} (hl : look b s.box = some cs) (hv : RVs (relOf c s y) cs' us'.toList) (hh : w'.heap[y.bl b]? = some (.cells us' (y.T b) (0, 0))) (g : w.grownBy w' (some (y.bl b))) :
    At c { s with box := upd b cs' s.box } { y with us := fset y.us b us' } a w' := by
  obtain ⟨l1, l2, h1, h2, _⟩ := look_split hl
  have hk : (s.box.map (·.1)) = (l1.map (·.1)) ++ b :: (l2.map (·.1)) := by rw [h1]; simp
  have nb := A.nb
  rw [hk] at nb
  have n2 := List.nodup_cons.1 (List.perm_middle.nodup_iff.1 nb)
  have n1 : b ∉ l1.map (·.1) := fun h => n2.1 (List.mem_append_left _ h)
  have n3 : b ∉ l2.map (·.1) := fun h => n2.1 (List.mem_append_right _ h)
  have hsame : ∀ {l : List (Nat × List V)}, b ∉ l.map (·.1) → boxPs y.bl y.T (fset y.us b us') l = boxPs y.bl y.T y.us l := by
    intro l; induction l with
    | nil => intro _; rfl
    | cons x l ih =>
      intro h
      simp only [List.map_cons, List.mem_cons, not_or] at h
      unfold boxPs at ih ⊢
      rw [List.map_cons, List.map_cons, ih h.2, fset_ne _ _ (fun e => h.1 e.symm)]
  have le : (relOf c s y).le (relOf c { s with box := upd b cs' s.box } { y with us := fset y.us b us' }) :=
    ⟨fun _ _ h => h, fun _ _ h => h, rfl, fun b' h => ⟨by show b' ∈ (upd b cs' s.box).map (·.1); rw [upd_keys]; exact h, rfl⟩, fun p h => ⟨h, rfl⟩⟩
  refine ⟨A.defers, A.size, ?_, fun t' v e => (A.env t' v e).le le, fun b' cs1 h => ?_, A.fro, by show ((upd b cs' s.box).map (·.1)).Nodup; rw [upd_keys]; exact A.nb, A.nt, A.fix⟩
  · have S := A.st
    rw [h1] at S
    unfold boxPs at S
    rw [List.map_append, List.map_cons, List.append_assoc, List.cons_append] at S
    have S2 := (S.perm List.perm_middle).set hh g
    have S3 := S2.perm List.perm_middle.symm
    show St c.W w' (boxPs y.bl y.T (fset y.us b us') (upd b cs' s.box) ++ _)
    rw [h2 cs']
    have e : boxPs y.bl y.T (fset y.us b us') (l1 ++ (b, cs') :: l2) = boxPs y.bl y.T y.us l1 ++ rowP (y.bl b) (y.T b) us' :: boxPs y.bl y.T y.us l2 := by
      have e1 := hsame n1
      have e2 := hsame n3
      unfold boxPs at e1 e2 ⊢
      rw [List.map_append, List.map_cons, e1, e2]
      simp only [fset_self]
    rw [e, List.append_assoc, List.cons_append]
    exact S3
  · rcases mem_upd A.nb h with ⟨h3, h4⟩ | ⟨h3, h4⟩
    · subst h3; subst h4
      show RVs _ cs1 (fset y.us b' us' b').toList
      rw [fset_self]; exact hv.le le
    · show RVs _ cs1 (fset y.us b us' b').toList
      rw [fset_ne _ _ h3]; exact (A.box b' cs1 h4).le le
theorem run_storeAt_row {t : TypeId} {v : Value} {b off : Nat} {cur : Array Value} {T : TypeId} (hz : v.cells.size = P.cellsOf t) (hs : sizedT P t = true) (hh : w.heap[b]? = some (.cells cur T (0, 0))) (hl : off + v.cells.size ≤ cur.size) (h1 : ∀ x ∈ v.cells.toList, x.oneCell' = true) :
    (Instr.storeAt t (.pointer (some ⟨b, off, none⟩)) v).run P w = .ok () (w.setRow b (cur.toList.take off ++ v.cells.toList ++ cur.toList.drop (off + v.cells.size)).toArray) := by
  have hst := run_storeCells_at P b off T v.cells.toList 0 cur w hh (by simpa using hl) h1
  have hsz := run_sizeOf_some (P := P) (w := w) hs
  simp only [Nat.add_zero, Array.length_toList] at hst
  simp [Instr.storeAt, Instr.sureAddr, storeVar, hsz, hz, hst]
theorem step_storeBox {o : Oper} {t : TypeId} {x z : Operand} (ho : o.op = .store t x z) {b off : Nat} {v : V} {cs : List V} (hx : s.ev x = some (.ref b off)) (hv : s.ev z = some v) (hz : v.cells.length = P.cellsOf t) (hsz : sizedT P t = true) (h1 : v.cells.all V.one = true) (hl : look b s.box = some cs) (hle : off + v.cells.length ≤ cs.length) :
    Step P c o s ({ s with box := upd b (setAt cs off v.cells) s.box }.skip o.dst) := by
  intro a w G next Q k
  obtain ⟨y, A⟩ := G
  obtain ⟨hb, hr⟩ := A.boxAt hl
  have ex := (A.ev hx).2
  obtain ⟨ev, e1⟩ := A.cells (A.ev hv) h1
  have l1 := ev.len
  have l2 := hr.len
  rw [Array.length_toList] at l1 l2
  have hrun := run_storeAt_row (P := P) (off := off) (v := a.eval z) (by rw [l1]; exact hz) hsz hb (by rw [l1, l2]; exact hle) e1
  have A2 := A.turn (cs' := setAt cs off v.cells) (us' := ((y.us b).toList.take off ++ (a.eval z).cells.toList ++ (y.us b).toList.drop (off + (a.eval z).cells.size)).toArray) hl (by
    have := setAt_sound ev hr (off := off) (by rw [Array.length_toList, Array.length_toList, l1, l2]; exact hle)
    rw [Array.length_toList] at this
    exact this) (setRow_heap w _ _ _ _ _ hb) ⟨rfl, rfl, rfl, by simp, fun k _ hk => setRow_other w _ k _ (fun e => hk (by rw [e]))⟩
  refine op_skip ?_ (k _ _ ⟨_, A2.skip undef⟩)
  unfold execOp; simp only [ho, show a.eval x = _ from ex]
  rw [Sem.run_bind]
  have hrun' : (Instr.storeAt t (.pointer (some ⟨(relOf c s y).bl b, off, none⟩)) (a.eval z)).run P w = _ := hrun
  rw [hrun']; rfl
theorem OwnD.put {w : World} {rows : List (List D)} {g o n cc : Nat} {F : List Nat} (h : OwnD w (.l rows) (.slice (some ⟨g, o, none⟩) n cc) F) {i j : Nat} {r : List D} {x0 x : Value} (hi : rows[i]? = some r) (hj : r[j]? = some (.a x0)) {u : Value} (hu : u = x) :
    ∃ T cs, w.heap[g]? = some (.cells cs T (0, 0)) ∧ o + (i * r.length + j) < cs.size ∧ ∀ w' : World, ((w'.heap[g]? = some (.cells (cs.setIfInBounds (o + (i * r.length + j)) u) T (0, 0))) → (∀ b ∈ F, b ≠ g → w'.heap[b]? = w.heap[b]?) → F.Nodup → OwnD w' (.l (rows.set i (r.set j (.a x)))) (.slice (some ⟨g, o, none⟩) n cc) F) := by
  subst hu
  cases h with
  | nil => simp at hi
  | l _ _ _ _ _ k T cs us fs h1 h2 h3 h4 h5 h6 h00 h7 h8 h9 =>
    have hk : r.length = k := h5 r (List.mem_of_getElem? hi)
    have hjk : j < k := by rw [← hk]; exact (List.getElem?_eq_some_iff.1 hj).1
    have f := flat_get rows i j r _ h5 hi hj
    have hcs := h8 _ _ f
    have hsz : o + (i * k + j) < cs.size := (Array.getElem?_eq_some_iff.1 hcs).1
    refine ⟨T, cs, h7, by rw [hk]; exact hsz, fun w' hh hF hnd => ?_⟩
    rw [hk] at hh
    have hflat := flat_set rows i j r (.a u) h5 hi hjk
    have hlen : (rows.set i (r.set j (.a u))).flatten.length = rows.flatten.length := by rw [hflat, List.length_set]
    rw [← hlen]
    have hg := List.nodup_cons.1 hnd
    refine .l _ n cc g o k T _ (fun m => if m = i * k + j then u else us m) fs (by rw [List.length_set]; exact h1) h2 h3 h4 (fun r' hr' => ?_) (by simpa using h6) (fun e => h00 (List.eq_nil_of_length_eq_zero (by have := congrArg List.length e; simpa using this))) hh (fun m d e => ?_) (fun m d e => ?_)
    · rcases List.mem_or_eq_of_mem_set hr' with hr' | hr'
      · exact h5 r' hr'
      · rw [hr', List.length_set]; exact hk
    · rw [hflat, List.getElem?_set] at e
      by_cases hm : i * k + j = m
      · subst hm; simp [hsz]
      · rw [if_neg hm] at e
        simp only [if_neg (fun e => hm e.symm : ¬ m = i * k + j)]
        rw [Array.getElem?_setIfInBounds_ne (by omega)]
        exact h8 m d e
    · rw [hflat, List.getElem?_set] at e
      by_cases hm : i * k + j = m
      · subst hm
        rw [if_pos rfl] at e
        split at e
        · injection e with e; subst e
          simp only [if_true]
          have := h9 _ _ f
          have hnil : fs (i * k + j) = [] := by
            generalize fs (i * k + j) = F0 at this
            cases this; rfl
          rw [hnil]; exact .a u
        · cases e
      · rw [if_neg hm] at e
        simp only [if_neg (fun e => hm e.symm : ¬ m = i * k + j)]
        have hmF : ∀ b ∈ fs m, b ∈ (List.range rows.flatten.length).flatMap fs := fun b hb => List.mem_flatMap.2 ⟨m, List.mem_range.2 (List.getElem?_eq_some_iff.1 e).1, hb⟩
        exact (h9 m d e).st fun b hb => hF b (List.mem_cons_of_mem _ (hmF b hb)) fun e2 => hg.1 (by rw [← e2]; exact hmF b hb)
theorem At.own1 (A : At c s y a w) {p : Nat} {rows : List (List D)} (hl : look p s.tree = some rows) {w' : World} {rows' : List (List D)} (S : St c.W w' (treeP (y.hd p) rows' :: (boxPs y.bl y.T y.us s.box ++ (treePs y.hd (drop1 p s.tree) ++ (froPs y.w0 y.F s.fro ++ c.L))))) :
    At c { s with tree := upd p rows' s.tree } y a w' := by
  obtain ⟨l1, l2, h1, h2, h3⟩ := look_split hl
  have n := A.nt
  rw [List.map_append, List.nodup_append] at n
  have h3 := h3 n.1
  have le : (relOf c s y).le (relOf c { s with tree := upd p rows' s.tree } y) :=
    ⟨fun _ _ h => h, fun _ _ h => h, rfl, fun b' h => ⟨h, rfl⟩, fun q h => ⟨by
      show q ∈ (upd p rows' s.tree ++ s.fro).map (·.1)
      rw [List.map_append, upd_keys, ← List.map_append]; exact h, rfl⟩⟩
  refine ⟨A.defers, A.size, ?_, fun t' v e => (A.env t' v e).le le, fun b cs h => (A.box b cs h).le le, A.fro, A.nb, by
    show ((upd p rows' s.tree ++ s.fro).map (·.1)).Nodup
    rw [List.map_append, upd_keys, ← List.map_append]; exact A.nt, A.fix⟩
  show St c.W w' (boxPs y.bl y.T y.us s.box ++ (treePs y.hd (upd p rows' s.tree) ++ (froPs y.w0 y.F s.fro ++ c.L)))
  rw [h2 rows']
  rw [h3] at S
  refine S.perm ?_
  refine (List.perm_middle (l₁ := boxPs y.bl y.T y.us s.box) (l₂ := treePs y.hd (l1 ++ l2) ++ (froPs y.w0 y.F s.fro ++ c.L)) (a := treeP (y.hd p) rows')).symm.trans ?_
  refine List.Perm.append_left _ ?_
  rw [← List.cons_append]
  refine List.Perm.append_right _ ?_
  unfold treePs
  rw [List.map_append, List.map_append, List.map_cons]
  exact List.perm_middle.symm
theorem atom_some {v : V} {d : D} (h : v.atom = some d) : ∃ x, v = .v x ∧ d = .a x := by
  unfold V.atom at h
  split at h
  · injection h with h; subst h; exact ⟨_, rfl, rfl⟩
  · cases h
theorem step_storeOwn {o : Oper} {t : TypeId} {x z : Operand} (ho : o.op = .store t x z) {q i off k : Nat} {v : V} {d d0 : D} {rows : List (List D)} {r : List D} (hx : s.ev x = some (.pe (.own q) k i off)) (hv : s.ev z = some v) (hz : v.cells.length = P.cellsOf t) (hsz : sizedT P t = true)
    (hl : look q s.tree = some rows) (hat : v.atom = some d) (hr : rows[i]? = some r) (hd0 : r[off]? = some d0) (hk : r.length = k) (hf : flatD d0 = true) (h1 : oneD d = true) :
    Step P c o s ({ s with tree := upd q (rows.set i (r.set off d)) s.tree }.skip o.dst) := by
  intro a w G next Q kk
  obtain ⟨y, A⟩ := G
  obtain ⟨X, rfl, rfl⟩ := atom_some hat
  obtain ⟨ub, ⟨_, rfl⟩, g, o', n, cc, e1, e2, e3⟩ := A.ev hx
  have ez : a.eval z = X := A.ev hv
  have hX : X.oneCell' = true := h1
  cases d0 with
  | l _ => cases hf
  | gone => cases hf
  | a x0 =>
  have S := A.out hl
  have e1 : (y.hd q).v = .slice (some ⟨g, o', none⟩) n cc := e1
  obtain ⟨F, htree, hnd, hbd, rest⟩ := S.open_
  have htree : TreeD w rows (y.hd q) F := htree
  have hown := htree.own
  rw [e1] at hown
  have hgF : ∃ T0, F = g :: T0 := by
    have : OwnD w (.l rows) (.slice (some ⟨g, o', none⟩) n cc) F := hown
    cases this with
    | nil => simp at hr
    | l => exact ⟨_, rfl⟩
  obtain ⟨T0, hF⟩ := hgF
  obtain ⟨T, cs, hh, hlt, hput⟩ := OwnD.put hown hr hd0 (u := X) rfl
  rw [hk] at hlt hput
  have hXc := one_of_v hX
  have hrun := run_storeAt_row (P := P) (t := t) (v := X) (off := o' + (i * k + off)) (by rw [hXc]; exact hz) hsz hh (by rw [hXc]; exact hlt) (by rw [hXc]; simpa using hX)
  have earr : (cs.toList.take (o' + (i * k + off)) ++ X.cells.toList ++ cs.toList.drop (o' + (i * k + off) + X.cells.size)).toArray = cs.setIfInBounds (o' + (i * k + off)) X := by
    rw [hXc]
    apply Array.ext'
    rw [Array.toList_setIfInBounds, List.set_eq_take_append_cons_drop, if_pos (by simpa using hlt)]
    simp
  rw [earr] at hrun
  have hset := setRow_heap w g cs (cs.setIfInBounds (o' + (i * k + off)) X) T (0, 0) hh
  have hoth : ∀ b, b ≠ g → (w.setRow g (cs.setIfInBounds (o' + (i * k + off)) X)).heap[b]? = w.heap[b]? := fun b hb => setRow_other w g b _ hb
  have A2 := A.own1 hl (rest (w.setRow g (cs.setIfInBounds (o' + (i * k + off)) X)) (treeP (y.hd q) (rows.set i (r.set off (.a X)))) F rfl rfl rfl (by simp) (fun b hb hne => hoth b fun e => hne (by rw [e, hF]; exact List.mem_cons_self)) (by
    show TreeD _ _ (y.hd q) F
    refine ⟨by rw [e1]; exact hput _ hset (fun b _ hb => hoth b hb) hnd, fun g2 ob2 n2 c2 cs2 T2 fr m r' q1 q2 q3 => ?_⟩
    rw [e1] at q1
    injection q1 with q1 _ _; injection q1 with q1; injection q1 with q1 qo _
    subst q1; subst qo
    have q2 : (w.setRow g (cs.setIfInBounds (o' + (i * k + off)) X)).heap[g]? = _ := q2
    rw [hset] at q2
    injection q2 with q2; injection q2 with q2 _ _
    subst q2
    have hrk : ∀ r ∈ rows, r.length = k := by
      cases hown with
      | nil => simp at hr
      | l _ _ _ _ _ k2 T2 cs2 us2 fs2 a1 a2 a3 a4 a5 =>
        intro r2 hr2
        rw [a5 r2 hr2, ← a5 r (List.mem_of_getElem? hr), hk]
    rw [flat_set rows i off r (.a X) hrk hr (by rw [← hk]; exact (List.getElem?_eq_some_iff.1 hd0).1), List.getElem?_set] at q3
    by_cases hm : i * k + off = m
    · subst hm; rw [if_pos rfl] at q3; split at q3 <;> cases q3
    · rw [if_neg hm] at q3
      rw [Array.getElem?_setIfInBounds_ne (by omega)]
      exact htree.hd g _ n cc cs T (0, 0) m r' e1 hh q3) hnd (fun b hb => ⟨.inl hb, by have := (hbd b hb).2; simpa using this⟩))
  refine op_skip ?_ (kk _ _ ⟨_, A2.skip undef⟩)
  unfold execOp; simp only [ho, e3, ez]
  rw [Sem.run_bind, hrun]; rfl
end
end Go.Proofs.YtnmneoekpikpkaaGreatDoor
