/-
  Of several texts: Sep, Sep2.
-/
import Derived.Test.YtohjjhoobikioaaDoorBase
/-! Memory in pieces: what a call has made, piece by piece, no two of which share a block; all else is as it was. -/
namespace Go.Proofs.YtohjjhoobikioaaDoor
open Go.RowKit

/-- A piece of memory: what it says of a world, and of the blocks in which it lies. -/
structure Pc where
  P : World → List Nat → Prop
  st : ∀ {w w' : World} {F : List Nat}, P w F → (∀ b ∈ F, w'.heap[b]? = w.heap[b]?) → P w' F

inductive Sep (w : World) : List Pc → List Nat → Prop
  | nil : Sep w [] []
  | cons {h : Pc} {L : List Pc} {F G : List Nat} : h.P w F → Sep w L G → Sep w (h :: L) (F ++ G)
theorem Sep.st {w w' : World} {L : List Pc} {F : List Nat} (h : Sep w L F) (hk : ∀ b ∈ F, w'.heap[b]? = w.heap[b]?) : Sep w' L F := by
  induction h with
  | nil => exact .nil
  | cons h1 _ ih => exact .cons (Pc.st _ h1 fun b hb => hk b (List.mem_append_left _ hb)) (ih fun b hb => hk b (List.mem_append_right _ hb))
theorem Sep.uncons {w : World} {h : Pc} {L : List Pc} {F : List Nat} (s : Sep w (h :: L) F) : ∃ F1 G, F = F1 ++ G ∧ h.P w F1 ∧ Sep w L G := by
  cases s with
  | cons a b => exact ⟨_, _, rfl, a, b⟩

/-- Since W the pieces L have been made (or were handed over), and nothing else that was there has turned. -/
structure St (W w : World) (L : List Pc) : Prop where
  ext : Ext W w
  sep : ∃ F, Sep w L F ∧ F.Nodup ∧ ∀ b ∈ F, W.heap.size ≤ b ∧ b < w.heap.size

theorem St.refl (w : World) : St w w [] := ⟨Ext.refl w, [], .nil, List.nodup_nil, fun _ h => by cases h⟩
theorem St.of {W w : World} (x : Ext W w) : St W w [] := ⟨x, [], .nil, List.nodup_nil, fun _ h => by cases h⟩
theorem St.call {W w w' : World} {L : List Pc} (S : St W w L) (x : Ext w w') : St W w' L := by
  obtain ⟨F, s, n, hb⟩ := S.sep
  refine ⟨S.ext.trans x, F, s.st fun b h => Below.block x b (hb b h).2, n, fun b h => ⟨(hb b h).1, ?_⟩⟩
  have := x.size; have := (hb b h).2; omega
theorem St.drewN {W w : World} {L : List Pc} (S : St W w L) (n : Nat) : St W (w.drewN n) L := S.call ((Ext.refl w).drewN n)
theorem St.drew {W w : World} {L : List Pc} (S : St W w L) : St W w.drew L := S.call (Ext.refl w).drew
theorem St.drop {W w : World} {h : Pc} {L : List Pc} (S : St W w (h :: L)) : St W w L := by
  obtain ⟨F, s, n, hb⟩ := S.sep
  obtain ⟨F1, G, rfl, _, g⟩ := s.uncons
  exact ⟨S.ext, G, g, (List.nodup_append.1 n).2.1, fun b h => hb b (List.mem_append_right _ h)⟩
theorem Sep.swap {w : World} {h k : Pc} {L : List Pc} {F : List Nat} (s : Sep w (h :: k :: L) F) : ∃ F', Sep w (k :: h :: L) F' ∧ F'.Perm F := by
  obtain ⟨F1, G, rfl, a, g⟩ := s.uncons
  obtain ⟨F2, G2, rfl, b, g2⟩ := g.uncons
  refine ⟨F2 ++ (F1 ++ G2), .cons b (.cons a g2), ?_⟩
  rw [← List.append_assoc, ← List.append_assoc]
  exact List.Perm.append_right _ List.perm_append_comm
theorem St.swap {W w : World} {h k : Pc} {L : List Pc} (S : St W w (h :: k :: L)) : St W w (k :: h :: L) := by
  obtain ⟨F, s, n, hb⟩ := S.sep
  obtain ⟨F', s', p⟩ := s.swap
  exact ⟨S.ext, F', s', p.nodup_iff.2 n, fun b h => hb b (p.mem_iff.1 h)⟩
/-- under the first piece -/
theorem St.tail {W w : World} {h : Pc} {L L' : List Pc} (S : St W w (h :: L)) (f : ∀ F, Sep w L F → ∃ F', Sep w L' F' ∧ F'.Perm F) : St W w (h :: L') := by
  obtain ⟨F, s, n, hb⟩ := S.sep
  obtain ⟨F1, G, rfl, a, g⟩ := s.uncons
  obtain ⟨G', g', p⟩ := f G g
  have p2 : (F1 ++ G').Perm (F1 ++ G) := List.Perm.append_left _ p
  exact ⟨S.ext, _, .cons a g', p2.nodup_iff.2 n, fun b h => hb b (p2.mem_iff.1 h)⟩
theorem Sep.bring {w : World} : ∀ (i : Nat) {h : Pc} {L : List Pc} {F : List Nat}, Sep w L F → L[i]? = some h → ∃ F', Sep w (h :: L.eraseIdx i) F' ∧ F'.Perm F
  | 0, h, [], F, _, e => by cases e
  | i + 1, h, [], F, _, e => by cases e
  | 0, h, k :: L, F, s, e => by
    simp only [List.getElem?_cons_zero, Option.some.injEq] at e
    subst e
    exact ⟨F, s, List.Perm.refl _⟩
  | i + 1, h, k :: L, F, s, e => by
    obtain ⟨F1, G, rfl, a, g⟩ := s.uncons
    obtain ⟨G', g', p⟩ := Sep.bring i (L := L) g (by simpa using e)
    obtain ⟨F', s', p'⟩ := Sep.swap (.cons a g')
    exact ⟨F', s', p'.trans (List.Perm.append_left _ p)⟩
/-- the i-th piece comes first -/
theorem St.bring {W w : World} {L : List Pc} (S : St W w L) (i : Nat) {h : Pc} (e : L[i]? = some h) : St W w (h :: L.eraseIdx i) := by
  obtain ⟨F, s, n, hb⟩ := S.sep
  obtain ⟨F', s', p⟩ := s.bring i e
  exact ⟨S.ext, F', s', p.nodup_iff.2 n, fun b h => hb b (p.mem_iff.1 h)⟩
theorem St.unbring {W w : World} {h : Pc} {L L' : List Pc} (S : St W w (h :: L)) (i : Nat) (e : L'[i]? = some h) (e2 : L'.eraseIdx i = L) : St W w L' := by
  have key : ∀ (i : Nat) (L' L : List Pc) (G : List Nat), L'[i]? = some h → L'.eraseIdx i = L → Sep w (h :: L) G → ∃ G', Sep w L' G' ∧ G'.Perm G := by
    intro i
    induction i with
    | zero =>
      intro L' L G e e2 s
      cases L' with
      | nil => cases e
      | cons k M => simp at e e2; subst e; subst e2; exact ⟨G, s, List.Perm.refl _⟩
    | succ i ih =>
      intro L' L G e e2 s
      cases L' with
      | nil => cases e
      | cons k M =>
        simp at e e2
        subst e2
        obtain ⟨G1, s1, p1⟩ := s.swap
        obtain ⟨F1, G2, rfl, a, g⟩ := s1.uncons
        obtain ⟨G3, s3, p3⟩ := ih M _ _ e rfl g
        exact ⟨F1 ++ G3, .cons a s3, (List.Perm.append_left _ p3).trans p1⟩
  obtain ⟨F, s, n, hb⟩ := S.sep
  obtain ⟨F', s', p⟩ := key i L' L F e e2 s
  exact ⟨S.ext, F', s', p.nodup_iff.2 n, fun b h => hb b (p.mem_iff.1 h)⟩
/-- what holds of the first piece, and what may come of it -/
theorem St.open_ {W w : World} {h : Pc} {L : List Pc} (S : St W w (h :: L)) : ∃ F, h.P w F ∧ F.Nodup ∧ (∀ b ∈ F, W.heap.size ≤ b ∧ b < w.heap.size) ∧
    ∀ (w' : World) (h' : Pc) (F' : List Nat), w'.os = w.os → w'.tape = w.tape → w'.output = w.output → w.heap.size ≤ w'.heap.size → (∀ b, b < w.heap.size → b ∉ F → w'.heap[b]? = w.heap[b]?) →
      h'.P w' F' → F'.Nodup → (∀ b ∈ F', (b ∈ F ∨ w.heap.size ≤ b) ∧ b < w'.heap.size) → St W w' (h' :: L) := by
  obtain ⟨F, s, n, hb⟩ := S.sep
  obtain ⟨F1, G, rfl, a, g⟩ := s.uncons
  obtain ⟨n1, n2, n3⟩ := List.nodup_append.1 n
  refine ⟨F1, a, n1, fun b h => hb b (List.mem_append_left _ h), fun w' h' F' e1 e2 e3 hs hk hp hn hF => ?_⟩
  refine ⟨?_, F' ++ G, .cons hp (g.st fun b h => hk b (hb b (List.mem_append_right _ h)).2 fun h1 => n3 b h1 b h rfl), ?_, ?_⟩
  · refine ⟨e1.trans S.ext.os, e2.trans S.ext.tape, e3.trans S.ext.output, Nat.le_trans S.ext.size hs, fun k hk2 => ?_⟩
    have := S.ext.size
    exact (hk k (by omega) fun h1 => by have := (hb k (List.mem_append_left _ h1)).1; omega).trans (Below.block S.ext k hk2)
  · refine List.nodup_append.2 ⟨hn, n2, fun b h1 c h2 e => ?_⟩
    subst e
    rcases (hF b h1).1 with h3 | h3
    · exact n3 b h3 b h2 rfl
    · have := (hb b (List.mem_append_right _ h2)).2; omega
  · intro b h
    rcases List.mem_append.1 h with h1 | h1
    · refine ⟨?_, (hF b h1).2⟩
      rcases (hF b h1).1 with h3 | h3
      · exact (hb b (List.mem_append_left _ h3)).1
      · have := S.ext.size; omega
    · have := hb b (List.mem_append_right _ h1)
      exact ⟨this.1, by omega⟩
/-- a new piece -/
theorem St.more {W w w' : World} {L : List Pc} (S : St W w L) (x : Ext w w') {h : Pc} {F : List Nat} (hp : h.P w' F) (hn : F.Nodup) (hF : ∀ b ∈ F, w.heap.size ≤ b ∧ b < w'.heap.size) : St W w' (h :: L) := by
  obtain ⟨G, s, n, hb⟩ := S.sep
  have hs := x.size
  have hs2 := S.ext.size
  refine ⟨S.ext.trans x, F ++ G, .cons hp (s.st fun b h => Below.block x b (hb b h).2), List.nodup_append.2 ⟨hn, n, fun b h1 c h2 e => ?_⟩, fun b h => ?_⟩
  · subst e; have := (hF b h1).1; have := (hb b h2).2; omega
  · rcases List.mem_append.1 h with h1 | h1
    · have := hF b h1; exact ⟨by omega, this.2⟩
    · have := hb b h1; exact ⟨this.1, by omega⟩

/-! ### rows -/
/-- Block b, whole: its cells. -/
def row (b : Nat) (T : TypeId) (cs : Array Value) : Pc := ⟨fun w F => F = [b] ∧ w.heap[b]? = some (.cells cs T (0, 0)), fun h k => ⟨h.1, (k b (by rw [h.1]; simp)).trans h.2⟩⟩
theorem St.row {W w : World} {b : Nat} {T : TypeId} {cs : Array Value} {L : List Pc} (S : St W w L) (i : Nat) (e : L[i]? = some (row b T cs)) : w.heap[b]? = some (.cells cs T (0, 0)) := by
  obtain ⟨F, s, -, -⟩ := (S.bring i e).sep
  obtain ⟨_, _, _, a, _⟩ := s.uncons
  exact a.2
theorem St.cells {W w : World} {b : Nat} {T : TypeId} {cs : Array Value} {L : List Pc} (S : St W w L) (i : Nat) (e : L[i]? = some (YtohjjhoobikioaaDoor.row b T cs)) : (∀ i, w.cell? ⟨b, i, none⟩ = cs[i]?) ∧ (∀ i, w.frozen? ⟨b, i, none⟩ = false) ∧ b < w.heap.size := rowAll (S.row i e)
theorem St.alloc {W w : World} {L : List Pc} (S : St W w L) (cs : Array Value) (T : TypeId) : St W (w.alloc (.cells cs T)) (YtohjjhoobikioaaDoor.row w.heap.size T cs :: L) :=
  S.more ((Ext.refl w).alloc _) (F := [w.heap.size]) ⟨rfl, row_new w _⟩ (by simp) (by simp)
theorem St.skip {W w : World} {L : List Pc} (S : St W w L) (o : Obj) : St W (w.alloc o) L := S.call ((Ext.refl w).alloc o)
theorem St.set {W w w' : World} {b : Nat} {T : TypeId} {cs cs' : Array Value} {L : List Pc} (S : St W w (YtohjjhoobikioaaDoor.row b T cs :: L)) (h : w'.heap[b]? = some (.cells cs' T (0, 0))) (g : w.grownBy w' (some b)) : St W w' (YtohjjhoobikioaaDoor.row b T cs' :: L) := by
  obtain ⟨F, ⟨rfl, _⟩, _, hb, k⟩ := S.open_
  have hb2 := hb b (by simp)
  refine k w' _ [b] g.os g.tape g.output g.size (fun c hc hne => g.block c hc (fun e => hne (by injection e with e; simp [e]))) ⟨rfl, h⟩ (by simp) (fun c hc => ?_)
  have := g.size
  simp at hc; subst hc; exact ⟨.inl (by simp), by omega⟩

/-! ### slices of the call's own -/
theorem ownKeep {w w' : World} {E : TypeId} {n m : Nat} {v : Value} {cs : List Value} (h : w.ownsRow 0 E n v m cs) (k : ∀ b ∈ v.ownBlock.toList, w'.heap[b]? = w.heap[b]?) : w'.ownsRow 0 E n v m cs :=
  ⟨h.1, by
    rcases h.2 with h2 | ⟨g, cap, cur, rfl, hb, hg, r⟩
    · exact .inl h2
    · exact .inr ⟨g, cap, cur, rfl, hb, (k g (by simp [Value.ownBlock])).trans hg, r⟩⟩
def ownI (v : Value) (l : List Int) : Pc := ⟨fun w F => F = v.ownBlock.toList ∧ OwnI w 0 v l, fun h k => ⟨h.1, ownKeep h.2 (by rw [← h.1]; exact k)⟩⟩
def ownB (v : Value) (l : List UInt8) : Pc := ⟨fun w F => F = v.ownBlock.toList ∧ OwnB w 0 v l, fun h k => ⟨h.1, ownKeep h.2 (by rw [← h.1]; exact k)⟩⟩
def ownS (v : Value) (l : List (List UInt8)) : Pc := ⟨fun w F => F = v.ownBlock.toList ∧ OwnS w 0 v l, fun h k => ⟨h.1, ownKeep h.2 (by rw [← h.1]; exact k)⟩⟩
theorem nodup_opt (o : Option Nat) : o.toList.Nodup := by cases o <;> simp
theorem St.ownI {W w : World} {v : Value} {l : List Int} {L : List Pc} (S : St W w L) (i : Nat) (e : L[i]? = some (ownI v l)) : OwnI w 0 v l := by
  obtain ⟨F, s, -, -⟩ := (S.bring i e).sep
  obtain ⟨_, _, _, a, _⟩ := s.uncons
  exact a.2
theorem St.ownB {W w : World} {v : Value} {l : List UInt8} {L : List Pc} (S : St W w L) (i : Nat) (e : L[i]? = some (ownB v l)) : OwnB w 0 v l := by
  obtain ⟨F, s, -, -⟩ := (S.bring i e).sep
  obtain ⟨_, _, _, a, _⟩ := s.uncons
  exact a.2
theorem St.ownS {W w : World} {v : Value} {l : List (List UInt8)} {L : List Pc} (S : St W w L) (i : Nat) (e : L[i]? = some (ownS v l)) : OwnS w 0 v l := by
  obtain ⟨F, s, -, -⟩ := (S.bring i e).sep
  obtain ⟨_, _, _, a, _⟩ := s.uncons
  exact a.2
theorem optBlock {o : Option Nat} {B C : Nat} (h : ∀ k, o = some k → B ≤ k ∧ k < C) : ∀ b ∈ o.toList, B ≤ b ∧ b < C := by
  intro b hb; cases o with
  | none => simp at hb
  | some k => simp at hb; subst hb; exact h _ rfl
theorem St.newI {W w w' : World} {L : List Pc} (S : St W w L) {v : Value} {l : List Int} (h : OwnI w' w.heap.size v l) (x : Ext w w') : St W w' (YtohjjhoobikioaaDoor.ownI v l :: L) :=
  S.more x (F := v.ownBlock.toList) ⟨rfl, h.mono (Nat.zero_le _)⟩ (nodup_opt _) (optBlock h.lt)
theorem St.newB {W w w' : World} {L : List Pc} (S : St W w L) {v : Value} {l : List UInt8} (h : OwnB w' w.heap.size v l) (x : Ext w w') : St W w' (YtohjjhoobikioaaDoor.ownB v l :: L) :=
  S.more x (F := v.ownBlock.toList) ⟨rfl, h.mono (Nat.zero_le _)⟩ (nodup_opt _) (optBlock h.lt)
theorem St.newS {W w w' : World} {L : List Pc} (S : St W w L) {v : Value} {l : List (List UInt8)} (h : OwnS w' w.heap.size v l) (x : Ext w w') : St W w' (YtohjjhoobikioaaDoor.ownS v l :: L) :=
  S.more x (F := v.ownBlock.toList) ⟨rfl, h.mono (Nat.zero_le _)⟩ (nodup_opt _) (optBlock h.lt)
theorem St.nilI {W w : World} {L : List Pc} (S : St W w L) : St W w (YtohjjhoobikioaaDoor.ownI (.slice none 0 0) [] :: L) := S.newI (OwnI.nil _ _) (Ext.refl _)
theorem St.nilB {W w : World} {L : List Pc} (S : St W w L) : St W w (YtohjjhoobikioaaDoor.ownB (.slice none 0 0) [] :: L) := S.newB (OwnB.nil _ _) (Ext.refl _)
theorem St.nilS {W w : World} {L : List Pc} (S : St W w L) : St W w (YtohjjhoobikioaaDoor.ownS (.slice none 0 0) [] :: L) := S.newS (OwnS.nil _ _) (Ext.refl _)
theorem ownTurn {W w w' : World} {h h' : Pc} {L : List Pc} {v v' : Value} (S : St W w (h :: L)) (hv : ∀ F, h.P w F → F = v.ownBlock.toList) (g : w.grownBy w' v.ownBlock) (hp : h'.P w' v'.ownBlock.toList)
    (hb : v'.ownBlock = v.ownBlock ∨ v'.ownBlock = some w.heap.size) (hlt : ∀ k, v'.ownBlock = some k → k < w'.heap.size) : St W w' (h' :: L) := by
  obtain ⟨F, hF, _, hbd, k⟩ := S.open_
  have hF2 := hv F hF
  subst hF2
  refine k w' h' _ g.os g.tape g.output g.size (fun c hc hne => g.block c hc (fun e => hne (by rw [← e]; simp))) hp (nodup_opt _) (fun c hc => ?_)
  have hc2 : v'.ownBlock = some c := by simpa using hc
  refine ⟨?_, hlt c hc2⟩
  rcases hb with h1 | h1
  · left; rw [← h1, hc2]; simp
  · right; rw [h1] at hc2; injection hc2 with hc2; omega
theorem St.turnI {W w w' : World} {L : List Pc} {v v' : Value} {l l' : List Int} (S : St W w (YtohjjhoobikioaaDoor.ownI v l :: L)) (h : OwnI w' 0 v' l') (g : w.grownBy w' v.ownBlock) (hb : v'.ownBlock = v.ownBlock ∨ v'.ownBlock = some w.heap.size) : St W w' (YtohjjhoobikioaaDoor.ownI v' l' :: L) :=
  ownTurn S (v := v) (fun _ hF => hF.1) g ⟨rfl, h⟩ hb (fun k hk => (h.lt k hk).2)
theorem St.turnB {W w w' : World} {L : List Pc} {v v' : Value} {l l' : List UInt8} (S : St W w (YtohjjhoobikioaaDoor.ownB v l :: L)) (h : OwnB w' 0 v' l') (g : w.grownBy w' v.ownBlock) (hb : v'.ownBlock = v.ownBlock ∨ v'.ownBlock = some w.heap.size) : St W w' (YtohjjhoobikioaaDoor.ownB v' l' :: L) :=
  ownTurn S (v := v) (fun _ hF => hF.1) g ⟨rfl, h⟩ hb (fun k hk => (h.lt k hk).2)
theorem St.turnS {W w w' : World} {L : List Pc} {v v' : Value} {l l' : List (List UInt8)} (S : St W w (YtohjjhoobikioaaDoor.ownS v l :: L)) (h : OwnS w' 0 v' l') (g : w.grownBy w' v.ownBlock) (hb : v'.ownBlock = v.ownBlock ∨ v'.ownBlock = some w.heap.size) : St W w' (YtohjjhoobikioaaDoor.ownS v' l' :: L) :=
  ownTurn S (v := v) (fun _ hF => hF.1) g ⟨rfl, h⟩ hb (fun k hk => (h.lt k hk).2)
/-! ### the i-th piece -/
theorem St.upd {W w w' : World} {L : List Pc} {h h' : Pc} (S : St W w L) (i : Nat) (e : L[i]? = some h) (f : ∀ L', St W w (h :: L') → St W w' (h' :: L')) : St W w' (L.set i h') := by
  have hi := (List.getElem?_eq_some_iff.1 e).1
  exact (f _ (S.bring i e)).unbring i (by simp [hi]) (by rw [List.eraseIdx_set_eq])
theorem setCell_row {w : World} {b : Nat} {T : TypeId} {cs : Array Value} (h : w.heap[b]? = some (.cells cs T (0, 0))) (i : Nat) (u : Value) :
    (w.setCell ⟨b, i, none⟩ u).heap[b]? = some (.cells (cs.setIfInBounds i u) T (0, 0)) := by
  unfold World.setCell
  simp only [Array.getElem?_modify, if_true, h, Option.map_some]
  rfl
/-- a store to one cell of a block that is known whole -/
theorem St.setc {W w : World} {b : Nat} {T : TypeId} {cs : Array Value} {L : List Pc} (S : St W w L) (i : Nat) (e : L[i]? = some (YtohjjhoobikioaaDoor.row b T cs)) (k : Nat) (u : Value) : St W (w.setCell ⟨b, k, none⟩ u) (L.set i (YtohjjhoobikioaaDoor.row b T (cs.setIfInBounds k u))) :=
  S.upd i e fun _ S' => S'.set (setCell_row (S'.row 0 rfl) k u) (grown_setCell _ _ _)
/-- a store to an element of a slice of the call's own -/
theorem St.setI {W w : World} {q n c : Nat} {l : List Int} {L : List Pc} (S : St W w L) (i : Nat) (e : L[i]? = some (YtohjjhoobikioaaDoor.ownI (.slice (some ⟨q, 0, none⟩) n c) l)) (k : Nat) (x : Int) :
    St W (w.setCell ⟨q, k, none⟩ (.int .i64 x)) (L.set i (YtohjjhoobikioaaDoor.ownI (.slice (some ⟨q, 0, none⟩) n c) (l.set k x))) :=
  S.upd i e fun _ S' => S'.turnI ((S'.ownI 0 rfl).set k x).1 (grown_setCell _ _ _) (.inl rfl)
theorem St.castR {W w : World} {b : Nat} {T : TypeId} {cs cs' : Array Value} {L : List Pc} (S : St W w (YtohjjhoobikioaaDoor.row b T cs :: L)) (e : cs = cs') : St W w (YtohjjhoobikioaaDoor.row b T cs' :: L) := e ▸ S
/-- append onto the i-th piece -/
theorem St.appB {W w w' : World} {L : List Pc} {v v' : Value} {l l' : List UInt8} (S : St W w L) (i : Nat) (e : L[i]? = some (YtohjjhoobikioaaDoor.ownB v l)) (h : OwnB w' 0 v' l') (g : w.grownBy w' v.ownBlock) (hb : v'.ownBlock = v.ownBlock ∨ v'.ownBlock = some w.heap.size) : St W w' (L.set i (YtohjjhoobikioaaDoor.ownB v' l')) :=
  S.upd i e fun _ S' => S'.turnB h g hb
theorem St.appI {W w w' : World} {L : List Pc} {v v' : Value} {l l' : List Int} (S : St W w L) (i : Nat) (e : L[i]? = some (YtohjjhoobikioaaDoor.ownI v l)) (h : OwnI w' 0 v' l') (g : w.grownBy w' v.ownBlock) (hb : v'.ownBlock = v.ownBlock ∨ v'.ownBlock = some w.heap.size) : St W w' (L.set i (YtohjjhoobikioaaDoor.ownI v' l')) :=
  S.upd i e fun _ S' => S'.turnI h g hb
theorem St.appS {W w w' : World} {L : List Pc} {v v' : Value} {l l' : List (List UInt8)} (S : St W w L) (i : Nat) (e : L[i]? = some (YtohjjhoobikioaaDoor.ownS v l)) (h : OwnS w' 0 v' l') (g : w.grownBy w' v.ownBlock) (hb : v'.ownBlock = v.ownBlock ∨ v'.ownBlock = some w.heap.size) : St W w' (L.set i (YtohjjhoobikioaaDoor.ownS v' l')) :=
  S.upd i e fun _ S' => S'.turnS h g hb
/-! ### arms of the walk: stores -/
theorem info_bool : (Tryd.prog.info? 4).map (fun i => i.size) = some 1 := by kernel_rfl
/-- x[k] = u on a slice of the call's own -/
theorem wp_setI {ops : Array Oper} {rest : List Oper} {d : Option Tmp} {tp : TypeId} {pos : String} {af : Array Edge} {a : Act} {W w : World} {Q : Exit → Act → World → Prop} {x y : Operand} {q n c k : Nat} {l : List Int} {u : Int} {L : List Pc}
    (S : St W w L) (i : Nat) (e : L[i]? = some (ownI (.slice (some ⟨q, 0, none⟩) n c) l)) (hk : k < l.length) (hx : a.eval x = .pointer (some ⟨q, k, none⟩)) (hy : a.eval y = .int .i64 u)
    (h : ∀ w', St W w' (L.set i (ownI (.slice (some ⟨q, 0, none⟩) n c) (l.set k u))) → wpList Tryd.prog ops Q rest (a.put d undef) w') : wpList Tryd.prog ops Q (⟨d, Op.store 3 x y, tp, pos, af, none⟩ :: rest) a w := by
  refine wpList_plain rfl fun K hK => ?_
  have own := S.ownI i e
  have hc := own.cell hk
  have hf := own.frozen k
  have h2 := hK _ _ (h _ (S.setI i e k u))
  unfold Oper.wp execOp
  simp only [hx, hy]
  simp [go_sem, hc, hf]
  exact h2
/-- a store to one cell of a block that is known whole -/
theorem wp_setR {ops : Array Oper} {rest : List Oper} {d : Option Tmp} {ty tp : TypeId} {pos : String} {af : Array Edge} {a : Act} {W w : World} {Q : Exit → Act → World → Prop} {x y : Operand} {b k : Nat} {T : TypeId} {cs : Array Value} {u : Value} {L : List Pc}
    (S : St W w L) (i : Nat) (e : L[i]? = some (row b T cs)) (hk : k < cs.size) (hx : a.eval x = .pointer (some ⟨b, k, none⟩)) (hy : a.eval y = u) (hi : (Tryd.prog.info? ty).map (·.size) = some 1) (h1 : u.cells = #[u]) (h2 : u.oneCell' = true)
    (h : ∀ w', St W w' (L.set i (row b T (cs.setIfInBounds k u))) → wpList Tryd.prog ops Q rest (a.put d undef) w') : wpList Tryd.prog ops Q (⟨d, Op.store ty x y, tp, pos, af, none⟩ :: rest) a w := by
  have hrow := S.row i e
  have hs : cs.setIfInBounds k u = (cs.toList.take k ++ u.cells.toList ++ cs.toList.drop (k + u.cells.toList.length)).toArray := by
    rw [h1]
    apply Array.toList_inj.1
    simp only [Array.toList_setIfInBounds]
    rw [List.set_eq_take_append_cons_drop, if_pos (by simpa using hk)]; simp
  refine wp_storeAt (cs.setIfInBounds k u) hrow hx hy (by rw [hi, h1]; rfl) (by rw [h1]; simpa using h2) (by rw [h1]; simp; omega) hs.symm (fun w' hw g => h w' ?_)
  exact S.upd i e fun _ S' => S'.set hw g
/-- a store of a struct into a block that is known whole -/
theorem wp_setA {ops : Array Oper} {rest : List Oper} {d : Option Tmp} {ty tp : TypeId} {pos : String} {af : Array Edge} {a : Act} {W w : World} {Q : Exit → Act → World → Prop} {x y : Operand} {b k : Nat} {T : TypeId} {cs : Array Value} {u : Value} {L : List Pc} (new : Array Value)
    (S : St W w L) (i : Nat) (e : L[i]? = some (row b T cs)) (hx : a.eval x = .pointer (some ⟨b, k, none⟩)) (hy : a.eval y = u) (hi : (Tryd.prog.info? ty).map (·.size) = some u.cells.size) (h1 : u.cells.all (·.oneCell') = true)
    (hfit : k + u.cells.toList.length ≤ cs.size) (hnew : (cs.toList.take k ++ u.cells.toList ++ cs.toList.drop (k + u.cells.toList.length)).toArray = new)
    (h : ∀ w', St W w' (L.set i (row b T new)) → wpList Tryd.prog ops Q rest (a.put d undef) w') : wpList Tryd.prog ops Q (⟨d, Op.store ty x y, tp, pos, af, none⟩ :: rest) a w :=
  wp_storeAt new (S.row i e) hx hy hi h1 hfit hnew (fun w' hw g => h w' (S.upd i e fun _ S' => S'.set hw g))
/-- append onto the i-th piece: ints, bytes, a string's bytes -/
theorem wp_addI {ops : Array Oper} {rest : List Oper} {o : Oper} {a : Act} {Q : Exit → Act → World → Prop} {W w : World} {L : List Pc} (hgd : o.guard = none) (s x : Operand)
    (ho : o.op = .call { callee := .builtin .append, args := #[s, x], argTypes := #[22, 22] }) {v : Value} {l : List Int} (S : St W w L) (i : Nat) (e : L[i]? = some (ownI v l)) (hs : a.eval s = v)
    {A : Option Addr} {m c : Nat} {news : List Int} (hx : a.eval x = .slice A m c) (hr : RI w A m c news) (hsz : l.length + m ≤ 17592186044415)
    (h : ∀ v' w', St W w' (L.set i (ownI v' (l ++ news))) → wpList Tryd.prog ops Q rest (a.put o.dst v') w') : wpList Tryd.prog ops Q (o :: rest) a w :=
  wp_appI hgd s x ho hs (S.ownI i e) hx hr hsz (Nat.zero_le _) fun v' w' h1 h2 h3 => h v' w' (S.appI i e h1 h2 h3)
theorem wp_addB {ops : Array Oper} {rest : List Oper} {o : Oper} {a : Act} {Q : Exit → Act → World → Prop} {W w : World} {L : List Pc} (hgd : o.guard = none) (s x : Operand)
    (ho : o.op = .call { callee := .builtin .append, args := #[s, x], argTypes := #[38, 38] }) {v : Value} {l : List UInt8} (S : St W w L) (i : Nat) (e : L[i]? = some (ownB v l)) (hs : a.eval s = v)
    {A : Option Addr} {m c : Nat} {news : List UInt8} (hx : a.eval x = .slice A m c) (hr : RB w A m c news) (hsz : l.length + m ≤ 140737488355327)
    (h : ∀ v' w', St W w' (L.set i (ownB v' (l ++ news))) → wpList Tryd.prog ops Q rest (a.put o.dst v') w') : wpList Tryd.prog ops Q (o :: rest) a w :=
  wp_appB hgd s x ho hs (S.ownB i e) hx hr hsz (Nat.zero_le _) fun v' w' h1 h2 h3 => h v' w' (S.appB i e h1 h2 h3)
theorem wp_addStr {ops : Array Oper} {rest : List Oper} {o : Oper} {a : Act} {Q : Exit → Act → World → Prop} {W w : World} {L : List Pc} (hgd : o.guard = none) (s x : Operand)
    (ho : o.op = .call { callee := .builtin .append, args := #[s, x], argTypes := #[38, 9] }) {v : Value} {l : List UInt8} (S : St W w L) (i : Nat) (e : L[i]? = some (ownB v l)) (hs : a.eval s = v)
    {news : List UInt8} (hx : a.eval x = .string ⟨news.toArray⟩) (hsz : l.length + news.length ≤ 140737488355327)
    (h : ∀ v' w', St W w' (L.set i (ownB v' (l ++ news))) → wpList Tryd.prog ops Q rest (a.put o.dst v') w') : wpList Tryd.prog ops Q (o :: rest) a w :=
  wp_appStr hgd s x ho hs (S.ownB i e) hx hsz (Nat.zero_le _) fun v' w' h1 h2 h3 => h v' w' (S.appB i e h1 h2 h3)
end Go.Proofs.YtohjjhoobikioaaDoor
/-! Memory in pieces, more: what a call hands out; a struct of six cells stored cell by cell. -/
namespace Go.Proofs.YtohjjhoobikioaaDoor
open Go.RowKit

theorem ownUp {w : World} {E : TypeId} {k B : Nat} {v : Value} {n : Nat} {cs : List Value} (h : w.ownsRow 0 E k v n cs) (hb : ∀ b, v.ownBlock = some b → B ≤ b) : w.ownsRow B E k v n cs :=
  ⟨h.1, by
    rcases h.2 with h2 | ⟨g, cap, cur, rfl, _, r⟩
    · exact .inl h2
    · exact .inr ⟨g, cap, cur, rfl, hb g rfl, r⟩⟩
/-- the i-th piece, seen from where the call began: it is new -/
theorem St.outI {W w : World} {v : Value} {l : List Int} {L : List Pc} (S : St W w L) (i : Nat) (e : L[i]? = some (YtohjjhoobikioaaDoor.ownI v l)) : OwnI w W.heap.size v l := by
  obtain ⟨F, s, _, hb⟩ := (S.bring i e).sep
  obtain ⟨F1, _, rfl, ⟨rfl, a⟩, _⟩ := s.uncons
  exact ownUp a (fun b hv => (hb b (List.mem_append_left _ (by rw [hv]; simp))).1)
theorem St.outB {W w : World} {v : Value} {l : List UInt8} {L : List Pc} (S : St W w L) (i : Nat) (e : L[i]? = some (YtohjjhoobikioaaDoor.ownB v l)) : OwnB w W.heap.size v l := by
  obtain ⟨F, s, _, hb⟩ := (S.bring i e).sep
  obtain ⟨F1, _, rfl, ⟨rfl, a⟩, _⟩ := s.uncons
  exact ownUp a (fun b hv => (hb b (List.mem_append_left _ (by rw [hv]; simp))).1)
theorem St.setc1 {W w : World} {b : Nat} {T : TypeId} {cs : Array Value} {L : List Pc} (S : St W w (YtohjjhoobikioaaDoor.row b T cs :: L)) (k : Nat) (u : Value) : St W (w.setCell ⟨b, k, none⟩ u) (YtohjjhoobikioaaDoor.row b T (cs.setIfInBounds k u) :: L) :=
  S.set (setCell_row (S.row 0 rfl) k u) (grown_setCell _ _ _)
theorem six {cs : Array Value} (hs : cs.size = 6) (a0 a1 a2 a3 a4 a5 : Value) : (((((cs.setIfInBounds 0 a0).setIfInBounds 1 a1).setIfInBounds 2 a2).setIfInBounds 3 a3).setIfInBounds 4 a4).setIfInBounds 5 a5 = #[a0, a1, a2, a3, a4, a5] := by
  obtain ⟨l⟩ := cs
  match l, hs with
  | [_, _, _, _, _, _], _ => rfl
theorem St.set6h {W w : World} {b : Nat} {T : TypeId} {cs : Array Value} {L : List Pc} (S : St W w (YtohjjhoobikioaaDoor.row b T cs :: L)) (hs : cs.size = 6) (a0 a1 a2 a3 a4 a5 : Value) :
    St W ((((((w.setCell ⟨b, 0, none⟩ a0).setCell ⟨b, 1, none⟩ a1).setCell ⟨b, 2, none⟩ a2).setCell ⟨b, 3, none⟩ a3).setCell ⟨b, 4, none⟩ a4).setCell ⟨b, 5, none⟩ a5) (YtohjjhoobikioaaDoor.row b T #[a0, a1, a2, a3, a4, a5] :: L) := by
  have h1 := S.setc1 0 a0
  have h2 := h1.setc1 1 a1
  have h3 := h2.setc1 2 a2
  have h4 := h3.setc1 3 a3
  have h5 := h4.setc1 4 a4
  have h6 := h5.setc1 5 a5
  exact h6.castR (six hs a0 a1 a2 a3 a4 a5)
/-- six cells stored one by one -/
theorem St.set6 {W w : World} {b : Nat} {T : TypeId} {cs : Array Value} {L : List Pc} (S : St W w L) (i : Nat) (e : L[i]? = some (YtohjjhoobikioaaDoor.row b T cs)) (hs : cs.size = 6) (a0 a1 a2 a3 a4 a5 : Value) :
    St W ((((((w.setCell ⟨b, 0, none⟩ a0).setCell ⟨b, 1, none⟩ a1).setCell ⟨b, 2, none⟩ a2).setCell ⟨b, 3, none⟩ a3).setCell ⟨b, 4, none⟩ a4).setCell ⟨b, 5, none⟩ a5) (L.set i (YtohjjhoobikioaaDoor.row b T #[a0, a1, a2, a3, a4, a5])) :=
  S.upd i e fun _ S' => S'.set6h hs a0 a1 a2 a3 a4 a5
end Go.Proofs.YtohjjhoobikioaaDoor
