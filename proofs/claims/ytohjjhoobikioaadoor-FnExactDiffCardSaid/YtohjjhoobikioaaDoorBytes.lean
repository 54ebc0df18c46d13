/-
  Slices of bytes: one that reads as a list, one that the call owns; append onto it; RuneBytes, TextOf.
-/
import Derived.Test.YtohjjhoobikioaaDoorInts
import Derived.Test.YtohjjhoobikioaaDoorLeaf
import Derived.Laws.IdiomStrings
namespace Go.Proofs.YtohjjhoobikioaaDoor
open Go.RowKit

/-- The slice value reads as the bytes l. -/
structure RB (w : World) (A : Option Addr) (n c : Nat) (l : List UInt8) : Prop where
  len : l.length = n
  cap : n ≤ c
  cmax : c ≤ 9223372036854775807
  none_ : A = none → c = 0
  at_ : 0 < n → ∃ b o, A = some ⟨b, o, none⟩ ∧ ∀ j, j < n → w.cell? ⟨b, o + j, none⟩ = some (.int .u8 (l.getD j 0).toNat)
theorem RB.nmax {w : World} {A : Option Addr} {n c : Nat} {l : List UInt8} (h : RB w A n c l) : n ≤ 9223372036854775807 := Nat.le_trans h.cap h.cmax
theorem RB.ext {w w' : World} {A : Option Addr} {n c : Nat} {l : List UInt8} (h : RB w A n c l) (e : Ext w w') : RB w' A n c l :=
  ⟨h.len, h.cap, h.cmax, h.none_, fun hn => by
    obtain ⟨b, o, rfl, hc⟩ := h.at_ hn
    exact ⟨b, o, rfl, fun j hj => e.cell (hc j hj)⟩⟩
theorem RB.nil (w : World) : RB w none 0 0 [] := ⟨rfl, Nat.le_refl _, by omega, fun _ => rfl, fun h => absurd h (by omega)⟩
theorem RB.at1 {w : World} {A : Option Addr} {n c : Nat} {l : List UInt8} (h : RB w A n c l) {k : Nat} (hk : k < n) :
    ∃ b o, A = some ⟨b, o, none⟩ ∧ w.cell? ⟨b, o + k, none⟩ = some (.int .u8 (l.getD k 0).toNat) := by
  obtain ⟨b, o, rfl, hc⟩ := h.at_ (by omega)
  exact ⟨b, o, rfl, hc k hk⟩


def byteC (b : UInt8) : Value := .int .u8 b.toNat
theorem bytes_oneCell (l : List UInt8) : ∀ u ∈ l.map byteC, u.oneCell' = true := by
  intro u hu
  obtain ⟨b, _, rfl⟩ := List.mem_map.1 hu
  rfl
theorem info_byte : (Tryd.prog.info? 5).map (fun i => (i.zero, i.size, i.bytes)) = some (some (.int .u8 0), 1, 1) := by kernel_rfl
/-- v is a slice of the call's own (block B or later) that holds the bytes l. -/
def OwnB (w : World) (B : Nat) (v : Value) (l : List UInt8) : Prop := w.ownsRow B 5 1 v l.length (l.map (byteC))

theorem OwnB.nil (w : World) (B : Nat) : OwnB w B (.slice none 0 0) [] := World.ownsRow_nil _ _ _ _
theorem OwnB.alloc {w : World} {B : Nat} {v : Value} {l : List UInt8} (h : OwnB w B v l) (o : Obj) : OwnB (w.alloc o) B v l := World.ownsRow.alloc h o
theorem OwnB.empty {w : World} {B : Nat} (hB : B ≤ w.heap.size) : OwnB (w.alloc (.cells #[] 5)) B (.slice (some ⟨w.heap.size, 0, none⟩) 0 0) [] :=
  World.ownsRow_made w #[] 0 hB (by unfold maxLen; omega) rfl
theorem OwnB.mono {w : World} {B B' : Nat} {v : Value} {l : List UInt8} (h : OwnB w B v l) (hB : B' ≤ B) : OwnB w B' v l :=
  ⟨h.1, by
    rcases h.2 with h2 | ⟨g, cap, cur, hv, hb, r⟩
    · exact .inl h2
    · exact .inr ⟨g, cap, cur, hv, by omega, r⟩⟩
theorem OwnB.lt {w : World} {B : Nat} {v : Value} {l : List UInt8} (h : OwnB w B v l) : ∀ k, v.ownBlock = some k → B ≤ k ∧ k < w.heap.size := World.ownsRow.lt h
theorem OwnB.kept {w w' : World} {B : Nat} {v : Value} {l : List UInt8} (h : OwnB w B v l) {row : Option Nat} (hg : w.grownBy w' row) (hne : v.ownBlock = none ∨ v.ownBlock ≠ row) : OwnB w' B v l := World.ownsRow.kept h hg hne
theorem OwnB.ext {w w' : World} {B : Nat} {v : Value} {l : List UInt8} (h : OwnB w B v l) (e : Ext w w') : OwnB w' B v l :=
  ⟨h.1, by
    rcases h.2 with h2 | ⟨g, cap, cur, hv, hb, hg, r⟩
    · exact .inl h2
    · exact .inr ⟨g, cap, cur, hv, hb, (Below.block e g (Array.getElem?_eq_some_iff.1 hg).1).trans hg, r⟩⟩
theorem OwnB.form {w : World} {B : Nat} {v : Value} {l : List UInt8} (h : OwnB w B v l) : ∃ A c, v = .slice A l.length c ∧ RB w A l.length c l := by
  have h0 := h
  rcases h.2 with ⟨hv, h0'⟩ | ⟨g, cap, cur, rfl, hb, hg, hn, hm, hs, ht⟩
  · have : l = [] := List.length_eq_zero_iff.1 h0'
    subst this
    exact ⟨none, 0, hv, RB.nil _⟩
  · refine ⟨_, cap, rfl, rfl, hn, by unfold maxLen at hm; omega, (fun h => nomatch h), fun _ => ⟨g, 0, rfl, fun j hj => ?_⟩⟩
    have := World.ownsRow.cellAt h0 j (by omega)
    rw [Nat.zero_add, this]
    simp [hj, byteC]
theorem Ext.grownB {W w w' : World} {v : Value} {l : List UInt8} (h : Ext W w) (hown : OwnB w W.heap.size v l) (hg : w.grownBy w' v.ownBlock) : Ext W w' := Below.grown h hg h.size (fun k hk => (hown.lt k hk).1)

/-- two slices that the call owns: the elder's block lies below where the younger was made -/
theorem OwnB.ne {w0 w : World} {B0 B' : Nat} {v v' : Value} {l l' : List UInt8} (h0 : OwnB w0 B0 v l) (h' : OwnB w B' v' l') (hle : w0.heap.size ≤ B') : v.ownBlock = none ∨ v.ownBlock ≠ v'.ownBlock := by
  rcases hv : v.ownBlock with _ | k
  · exact .inl rfl
  · refine .inr fun e => ?_
    have h1 := (h0.lt k hv).2
    have h2 := (h'.lt k e.symm).1
    omega
theorem OwnB.ne' {w0 w : World} {B0 B' : Nat} {v v' : Value} {l l' : List UInt8} (h0 : OwnB w0 B0 v l) (h' : OwnB w B' v' l') (hle : w0.heap.size ≤ B') : v'.ownBlock = none ∨ v'.ownBlock ≠ v.ownBlock := by
  rcases hv : v'.ownBlock with _ | k
  · exact .inl rfl
  · refine .inr fun e => ?_
    have h1 := (h0.lt k e.symm).2
    have h2 := (h'.lt k hv).1
    omega

/-- append(v, x...): v the call's own, x any bytes. -/
theorem wp_appB {ops : Array Oper} {rest : List Oper} {o : Oper} {a : Act} {Q : Exit → Act → World → Prop} {w : World} (hgd : o.guard = none) (s x : Operand)
    (ho : o.op = .call { callee := .builtin .append, args := #[s, x], argTypes := #[38, 38] })
    {B : Nat} {v : Value} {l : List UInt8} (hs : a.eval s = v) (hown : OwnB w B v l) {A : Option Addr} {m c : Nat} {news : List UInt8} (hx : a.eval x = .slice A m c) (hr : RB w A m c news)
    (hsz : l.length + m ≤ 140737488355327) (hB : B ≤ w.heap.size)
    (h : ∀ v' w', OwnB w' B v' (l ++ news) → w.grownBy w' v.ownBlock → (v'.ownBlock = v.ownBlock ∨ v'.ownBlock = some w.heap.size) → wpList Tryd.prog ops Q rest (a.put o.dst v') w') : wpList Tryd.prog ops Q (o :: rest) a w := by
  refine wpList_plain hgd fun K hK => ?_
  obtain ⟨i0, hi, hz0, hz1, hz2⟩ := info_parts info_byte
  have key : ∃ v' w', (Builtin.append_ #[38, 38] o.type #[v, .slice A m c]).run Tryd.prog w = .ok v' w' ∧ OwnB w' B v' (l ++ news) ∧ w.grownBy w' v.ownBlock ∧ (v'.ownBlock = v.ownBlock ∨ v'.ownBlock = some w.heap.size) := by
    cases A with
    | none =>
      obtain rfl := hr.none_ rfl
      obtain rfl : m = 0 := by have := hr.cap; omega
      have hn : news = [] := List.length_eq_zero_iff.1 hr.len
      subst hn
      exact ⟨v, w, run_append_owned_none (P := Tryd.prog) w B 38 o.type 5 i0 1 Tryd.underlying38 hi v l.length _ hown, by simpa using hown, World.grownBy.refl _ _, .inl rfl⟩
    | some ad =>
      obtain ⟨v', w', hrun, h2, h3, _, h5⟩ := run_append_own_at (P := Tryd.prog) w B 38 o.type 5 i0 (.int .u8 0) 1 1 Tryd.underlying38 hi hz0 hz1 hz2 rfl (by omega) v l.length _ hown ad m c (news.map (byteC))
        (by rw [List.length_map, hr.len]; omega)
        (fun j u hu => by
          have hj : j < news.length := by have := (List.getElem?_eq_some_iff.1 hu).1; simpa using this
          obtain ⟨b, of, hA, hc⟩ := hr.at_ (by rw [← hr.len]; omega)
          obtain rfl := Option.some.inj hA
          rw [Addr.add_lit, hc j (by rw [← hr.len]; exact hj)]
          rw [← hu]; simp [hj, byteC])
        (bytes_oneCell _) (by unfold maxLen; omega) (by omega) hB
      refine ⟨v', w', hrun, ?_, h3, h5⟩
      have hl : (l ++ news).length = l.length + m := by rw [List.length_append, hr.len]
      unfold OwnB
      rw [hl, List.map_append]
      exact h2
  obtain ⟨v', w', hrun, h2, h3, h4⟩ := key
  unfold Oper.wp execOp
  simp only [ho, resolve, invoke, builtin, Sem.run_bind, Sem.run_pure, Result.andThen_ok, List.map_toArray, List.map_cons, List.map_nil, hs, hx, hrun]
  exact hK _ _ (h v' w' h2 h3 h4)

end Go.Proofs.YtohjjhoobikioaaDoor
