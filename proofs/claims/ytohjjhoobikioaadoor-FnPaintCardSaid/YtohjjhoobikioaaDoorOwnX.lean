/-
  Slices of bytes of the call's own that may stand in a literal's marked row.
-/
import Derived.Test.YtohjjhoobikioaaDoorLawKit
import Derived.Test.YtohjjhoobikioaaDoorEmit
import Derived.Lib.SlBytesConst
import Derived.ArgAppend
import Derived.Deep.Upon
namespace Go.Proofs.YtohjjhoobikioaaDoor
open Go.RowKit

/-- a literal's row: one place behind its last cell is marked -/
def OwnM (w : World) (B : Nat) (v : Value) (l : List UInt8) : Prop :=
  ∃ g, v = .slice (some ⟨g, 0, none⟩) l.length l.length ∧ B ≤ g ∧ l.length ≤ 1000 ∧ w.heap[g]? = some (.cells (l.map byteC).toArray 5 (l.length, l.length + 1))
def OwnX (w : World) (B : Nat) (v : Value) (l : List UInt8) : Prop := OwnB w B v l ∨ OwnM w B v l
theorem cell_marked {w : World} {g : Nat} {cs : Array Value} {T : TypeId} {fr : Nat × Nat} (h : w.heap[g]? = some (.cells cs T fr)) (k : Nat) : w.cell? ⟨g, k, none⟩ = cs[k]? := by
  simp [World.cell?, h]
theorem frozen_marked {w : World} {g : Nat} {cs : Array Value} {T : TypeId} {fr : Nat × Nat} (h : w.heap[g]? = some (.cells cs T fr)) {k : Nat} (hk : k < fr.1) : w.frozen? ⟨g, k, none⟩ = false := by
  simp only [World.frozen?, h]
  simp; omega
theorem OwnM.rb {w : World} {B : Nat} {l : List UInt8} {A : Option Addr} {n c : Nat} (h : OwnM w B (.slice A n c) l) : RB w A n c l := by
  obtain ⟨g, e, -, hl, hg⟩ := h
  injection e with e1 e2 e3
  subst e1; subst e2; subst e3
  refine ⟨rfl, Nat.le_refl _, by omega, (fun h => nomatch h), fun _ => ⟨g, 0, rfl, fun j hj => ?_⟩⟩
  rw [Nat.zero_add, cell_marked hg]
  simp [hj, byteC]
theorem OwnX.rb {w : World} {B : Nat} {l : List UInt8} {A : Option Addr} {n c : Nat} (h : OwnX w B (.slice A n c) l) : RB w A n c l := h.elim OwnB.rb OwnM.rb
theorem OwnX.form' {w : World} {B : Nat} {v : Value} {l : List UInt8} (h : OwnX w B v l) : ∃ A n c, v = .slice A n c :=
  h.elim OwnB.form' fun ⟨_, e, _⟩ => ⟨_, _, _, e⟩
theorem OwnX.mono {w : World} {B B' : Nat} {v : Value} {l : List UInt8} (h : OwnX w B v l) (hB : B' ≤ B) : OwnX w B' v l :=
  h.imp (fun x => x.mono hB) fun ⟨g, e, hg, x⟩ => ⟨g, e, Nat.le_trans hB hg, x⟩
theorem OwnX.lt {w : World} {B : Nat} {v : Value} {l : List UInt8} (h : OwnX w B v l) : ∀ k, v.ownBlock = some k → B ≤ k ∧ k < w.heap.size := by
  rcases h with h | ⟨g, rfl, hg, _, hh⟩
  · exact h.lt
  · intro k hk
    have : g = k := by simpa [Value.ownBlock] using hk
    subst this
    exact ⟨hg, (Array.getElem?_eq_some_iff.1 hh).1⟩
theorem OwnX.keep {w w' : World} {v : Value} {l : List UInt8} (h : OwnX w 0 v l) (k : ∀ b ∈ v.ownBlock.toList, w'.heap[b]? = w.heap[b]?) : OwnX w' 0 v l := by
  rcases h with h | ⟨g, rfl, hg, hl, hh⟩
  · exact .inl (ownKeep h k)
  · exact .inr ⟨g, rfl, hg, hl, (k g (by simp [Value.ownBlock])).trans hh⟩
def ownX (v : Value) (l : List UInt8) : Pc := ⟨fun w F => F = v.ownBlock.toList ∧ OwnX w 0 v l, fun h k => ⟨h.1, h.2.keep (by rw [← h.1]; exact k)⟩⟩
theorem St.ownX {W w : World} {v : Value} {l : List UInt8} {L : List Pc} (S : St W w L) (i : Nat) (e : L[i]? = some (ownX v l)) : OwnX w 0 v l := by
  obtain ⟨F, s, -, -⟩ := (S.bring i e).sep
  obtain ⟨_, _, _, a, _⟩ := s.uncons
  exact a.2
theorem St.newX {W w w' : World} {L : List Pc} (S : St W w L) {v : Value} {l : List UInt8} (h : OwnX w' w.heap.size v l) (x : Ext w w') : St W w' (YtohjjhoobikioaaDoor.ownX v l :: L) :=
  S.more x (F := v.ownBlock.toList) ⟨rfl, h.mono (Nat.zero_le _)⟩ (nodup_opt _) (optBlock h.lt)
theorem St.turnX {W w w' : World} {L : List Pc} {v v' : Value} {l l' : List UInt8} (S : St W w (YtohjjhoobikioaaDoor.ownX v l :: L)) (h : OwnX w' 0 v' l') (g : w.grownBy w' v.ownBlock) (hb : v'.ownBlock = v.ownBlock ∨ v'.ownBlock = some w.heap.size) : St W w' (YtohjjhoobikioaaDoor.ownX v' l' :: L) :=
  ownTurn S (v := v) (fun _ hF => hF.1) g ⟨rfl, h⟩ hb (fun k hk => (h.lt k hk).2)
theorem St.appX {W w w' : World} {L : List Pc} {v v' : Value} {l l' : List UInt8} (S : St W w L) (i : Nat) (e : L[i]? = some (YtohjjhoobikioaaDoor.ownX v l)) (h : OwnX w' 0 v' l') (g : w.grownBy w' v.ownBlock) (hb : v'.ownBlock = v.ownBlock ∨ v'.ownBlock = some w.heap.size) : St W w' (L.set i (YtohjjhoobikioaaDoor.ownX v' l')) :=
  S.upd i e fun _ S' => S'.turnX h g hb
theorem St.outX {W w : World} {v : Value} {l : List UInt8} {L : List Pc} (S : St W w L) (i : Nat) (e : L[i]? = some (YtohjjhoobikioaaDoor.ownX v l)) : OwnX w W.heap.size v l := by
  obtain ⟨F, s, _, hb⟩ := (S.bring i e).sep
  obtain ⟨F1, _, rfl, ⟨rfl, a⟩, _⟩ := s.uncons
  rcases a with a | ⟨g, rfl, hg, hl, hh⟩
  · exact .inl (ownUp a (fun b hv => (hb b (List.mem_append_left _ (by rw [hv]; simp))).1))
  · exact .inr ⟨g, rfl, (hb g (List.mem_append_left _ (by simp [Value.ownBlock]))).1, hl, hh⟩
theorem St.markX {W w w' : World} {L : List Pc} {v : Value} {l l' : List UInt8} {B : Nat} (S : St W w L) (i : Nat) (e : L[i]? = some (YtohjjhoobikioaaDoor.ownX v l)) (h : OwnX w' B v l') (g : w.grownBy w' v.ownBlock) : St W w' (L.set i (YtohjjhoobikioaaDoor.ownX v l')) :=
  S.appX i e (h.mono (Nat.zero_le _)) g (.inl rfl)

/-- the literal's row, marked -/
theorem OwnM.lit (w : World) (B : Nat) (hB : B ≤ w.heap.size) (l : List UInt8) (hl : l.length ≤ 1000) : OwnM (w.alloc (.cells (l.map byteC).toArray 5 (l.length, l.length + 1))) B (.slice (some ⟨w.heap.size, 0, none⟩) l.length l.length) l :=
  ⟨w.heap.size, rfl, hB, hl, by
    show (w.heap.push _)[w.heap.size]? = _
    simp⟩
/-- append onto a literal -/
theorem wp_addM {ops : Array Oper} {rest : List Oper} {o : Oper} {a : Act} {Q : Exit → Act → World → Prop} {W w : World} {L : List Pc} (hgd : o.guard = none) (s x : Operand)
    (ho : o.op = .call { callee := .builtin .append, args := #[s, x], argTypes := #[38, 38] }) {v : Value} {l : List UInt8} (S : St W w L) (i : Nat) (e : L[i]? = some (ownX v l)) (hM : OwnM w 0 v l) (hs : a.eval s = v)
    {A : Option Addr} {m c : Nat} {news : List UInt8} (hx : a.eval x = .slice A m c) (hr : RB w A m c news) (hsz : l.length + m ≤ 140737488355327)
    (h : ∀ v' w', St W w' (L.set i (ownX v' (l ++ news))) → wpList Tryd.prog ops Q rest (a.put o.dst v') w') : wpList Tryd.prog ops Q (o :: rest) a w := by
  refine wpList_plain hgd fun K hK => ?_
  obtain ⟨i0, hi, hz0, hz1, hz2⟩ := info_parts info_byte
  have key : ∃ v' w', (Builtin.append_ #[38, 38] o.type #[v, .slice A m c]).run Tryd.prog w = .ok v' w' ∧ St W w' (L.set i (ownX v' (l ++ news))) := by
    obtain ⟨g, rfl, hg, hl, hh⟩ := hM
    by_cases hm : m = 0
    · subst hm
      have hn : news = [] := List.length_eq_zero_iff.1 hr.len
      subst hn
      have hsrc : Src Tryd.prog i0.size 38 (.slice A 0 c) 0 [] w := by
        cases A with
        | none => exact Src.ofNil w Tryd.underlying38 c
        | some ad => exact Src.ofSlice w Tryd.underlying38 ad 0 c [] (by simp) (fun j u h => by cases h) (fun _ h => by cases h)
      refine ⟨_, w, run_append_nothing w _ _ _ 5 i0 Tryd.underlying38 hi _ _ _ (Nat.le_refl _) _ hsrc, ?_⟩
      rw [List.append_nil]
      have e2 : L.set i (ownX (.slice (some ⟨g, 0, none⟩) l.length l.length) l) = L := by
        apply List.ext_getElem?
        intro j
        rw [List.getElem?_set]
        split
        · rename_i h1
          subst h1
          rw [if_pos (List.getElem?_eq_some_iff.1 e).1, e]
        · rfl
      rw [e2]; exact S
    · obtain ⟨b, of, hA, hc⟩ := hr.at_ (by omega)
      subst hA
      obtain ⟨v', w', hrun, hown, hgr⟩ := run_append_arg_grows (P := Tryd.prog) w 38 o.type 5 i0 (.int .u8 0) 1 1 Tryd.underlying38 hi hz0 hz1 hz2 rfl (by omega) ⟨g, 0, none⟩ l.length l.length (l.map byteC) (by simp)
        (fun j u hu => by
          rw [Addr.add_lit, Nat.zero_add, cell_marked hh, List.getElem?_toArray]; exact hu)
        ⟨b, of, none⟩ m c (news.map byteC) (by rw [List.length_map, hr.len]; omega)
        (fun j u hu => by
          have hj : j < news.length := by have := (List.getElem?_eq_some_iff.1 hu).1; simpa using this
          rw [Addr.add_lit, hc j (by rw [← hr.len]; exact hj)]
          rw [← hu]; simp [hj, byteC])
        (by omega) (by unfold maxLen; omega) (by omega)
      have hl2 : (l ++ news).length = l.length + m := by rw [List.length_append, hr.len]
      have hob : OwnB w' w.heap.size v' (l ++ news) := by
        unfold OwnB
        rw [hl2, List.map_append]
        exact hown
      refine ⟨v', w', hrun, S.upd i e fun L' S' => ?_⟩
      obtain ⟨F, ⟨hF, _⟩, _, hbd, k⟩ := S'.open_
      refine k w' (ownX v' (l ++ news)) v'.ownBlock.toList hgr.os hgr.tape hgr.output hgr.size (fun c hc _ => hgr.block c hc (fun h => nomatch h)) ⟨rfl, .inl (hob.mono (Nat.zero_le _))⟩ (nodup_opt _) (fun c hc => ?_)
      have hc2 : v'.ownBlock = some c := by simpa using hc
      exact ⟨.inr (hob.lt c hc2).1, (hob.lt c hc2).2⟩
  obtain ⟨v', w', hrun, h2⟩ := key
  unfold Oper.wp execOp
  simp only [ho, resolve, invoke, builtin, Sem.run_bind, Sem.run_pure, Result.andThen_ok, List.map_toArray, List.map_cons, List.map_nil, hs, hx, hrun]
  exact hK _ _ (h v' w' h2)

/-! ### marking -/
theorem OwnX.cell {w : World} {B g n c : Nat} {l : List UInt8} (h : OwnX w B (.slice (some ⟨g, 0, none⟩) n c) l) {k : Nat} (hk : k < l.length) : w.cell? ⟨g, k, none⟩ = some (.int .u8 (l[k]?.getD 0).toNat) := by
  rcases h with h | ⟨g', e, -, -, hh⟩
  · exact h.cell hk
  · injection e with e1 e2 e3
    injection e1 with e1
    injection e1 with e1
    subst e1
    rw [cell_marked hh]; simp [hk, byteC]
theorem OwnX.frozen {w : World} {B g n c : Nat} {l : List UInt8} (h : OwnX w B (.slice (some ⟨g, 0, none⟩) n c) l) {k : Nat} (hk : k < l.length) : w.frozen? ⟨g, k, none⟩ = false := by
  rcases h with h | ⟨g', e, -, -, hh⟩
  · exact h.frozen k
  · injection e with e1 e2 e3
    injection e1 with e1
    injection e1 with e1
    subst e1
    exact frozen_marked hh hk
theorem setCell_marked {w : World} {b : Nat} {T : TypeId} {cs : Array Value} {fr : Nat × Nat} (h : w.heap[b]? = some (.cells cs T fr)) (i : Nat) (u : Value) :
    (w.setCell ⟨b, i, none⟩ u).heap[b]? = some (.cells (cs.setIfInBounds i u) T fr) := by
  unfold World.setCell
  simp only [Array.getElem?_modify, if_true, h, Option.map_some]
  rfl
theorem OwnX.set {w : World} {B g n c : Nat} {l : List UInt8} (h : OwnX w B (.slice (some ⟨g, 0, none⟩) n c) l) (k : Nat) (x : UInt8) :
    OwnX (w.setCell ⟨g, k, none⟩ (byteC x)) B (.slice (some ⟨g, 0, none⟩) n c) (l.set k x) ∧ w.grownBy (w.setCell ⟨g, k, none⟩ (byteC x)) (some g) := by
  rcases h with h | ⟨g', e, hB, hl, hh⟩
  · exact ⟨.inl (h.set k x).1, (h.set k x).2⟩
  · injection e with e1 e2 e3
    injection e1 with e1
    injection e1 with e1
    subst e1; subst e2; subst e3
    refine ⟨.inr ⟨g, by rw [List.length_set], hB, by rw [List.length_set]; exact hl, ?_⟩, grown_setCell _ _ _⟩
    rw [List.length_set, List.map_set]
    have := setCell_marked hh k (byteC x)
    simpa using this
theorem OwnX.shape {w : World} {B : Nat} {v : Value} {l : List UInt8} (h : OwnX w B v l) : (v = .slice none 0 0 ∧ l = []) ∨ ∃ g c, v = .slice (some ⟨g, 0, none⟩) l.length c ∧ B ≤ g ∧ g < w.heap.size ∧ l.length ≤ c ∧ c ≤ 9223372036854775807 := by
  rcases h with h | ⟨g, e, hB, hl, hh⟩
  · exact h.shape
  · exact .inr ⟨g, _, e, hB, (Array.getElem?_eq_some_iff.1 hh).1, Nat.le_refl _, by omega⟩
set_option maxHeartbeats 1000000 in
theorem laws_markByteX (v : Value) (l : List UInt8) (B : Nat) (q : Int) (W : World) (h : OwnX W B v l) (hq0 : 0 ≤ q) (hq : q ≤ 4611686018427387904) (hs : l.length ≤ 4294967296) :
    Calls Tryd.prog 32 #[v, .int .i64 q] W fun e w' => e = .returned (.int .i64 (q + l.length)) ∧ OwnX w' B v (marksB q l.length) ∧ W.grownBy w' v.ownBlock := by
  rcases h.shape with ⟨rfl, rfl⟩ | ⟨g, c, rfl, hBg, hgl, hc, hcm⟩
  · go_enter Tryd.func32, Tryd.ntmps32
    go_wp2_with fail
    go_rounds 1
    go_ret
    exact ⟨ret_i (by simp), h, World.grownBy.refl _ _⟩
  · obtain ⟨n, hn⟩ : ∃ n, n = l.length := ⟨_, rfl⟩
    rw [← hn] at h hs hc ⊢
    have Hn := Lib.hid hn; clear hn
    go_enter Tryd.func32, Tryd.ntmps32
    go_wp2_with fail
    go_loopw [1, 5] (fun vq vi wr => ∃ k : Nat, k ≤ n ∧ vi = .int .i64 k ∧ vq = .int .i64 (q + k) ∧ OwnX wr B (.slice (some ⟨g, 0, none⟩) n c) (marksB q k ++ l.drop k) ∧ W.grownBy wr (some g)) (fun _ vi _ => n - (intOf vi).toNat)
    case atStart => exact ⟨0, by omega, rfl, by go_num, by simpa [marksB] using h, World.grownBy.refl _ _⟩
    case round =>
      obtain ⟨k, hk, rfl, rfl, hown, hx⟩ := hrel
      by_cases hlt : k < n
      · have hc2 := hown.cell (k := k) (by rw [List.length_append, marksB_len, List.length_drop, ← Hn.out]; omega)
        have hf2 := hown.frozen (k := k) (by rw [List.length_append, marksB_len, List.length_drop, ← Hn.out]; omega)
        have hset := hown.set k (by8 (q + k))
        have Hb := Lib.hid (by8_mod (x := q + k) (by omega))
        go_wp2_with fail
        go_roundw
        case rel =>
          have e : (marksB q k ++ l.drop k).set k (by8 (q + k)) = marksB q (k + 1) ++ l.drop (k + 1) := by
            rw [List.set_append, if_neg (by rw [marksB_len]; omega), marksB_len, Nat.sub_self, List.drop_eq_getElem_cons (by rw [← Hn.out]; exact hlt), List.set_cons_zero]
            unfold marksB
            rw [List.range_succ, List.map_append, List.append_assoc]
            rfl
          rw [e] at hset
          unfold byteC at hset
          rw [Hb.out] at hset
          exact ⟨k + 1, by omega, by go_num, by go_num, hset.1, hx.trans hset.2⟩
        case measure => simp [intOf]; omega
      · go_wp2_with fail
        go_ret
        obtain rfl : k = n := by omega
        have e : marksB q k ++ l.drop k = marksB q k := by rw [List.drop_of_length_le (by rw [← Hn.out]; omega), List.append_nil]
        rw [e] at hown
        exact ⟨rfl, hown, hx⟩
end Go.Proofs.YtohjjhoobikioaaDoor
