/-
  Slices of bytes and strings: append of a string's bytes; []byte(s); the table of powers.
-/
import Derived.Test.YtohjjhoobikioaaDoorBytes
import Derived.Deep.AppendSrc
import Derived.Lib.SmallJoins
import Derived.Lib.ItoaLen
import Derived.Sort.Grow
namespace Go.Proofs.YtohjjhoobikioaaDoor
open Go.RowKit

section
variable {P : Program} (w : World)
theorem run_append_room_str (t tx ty e : TypeId) (i : TypeInfo) (ht : P.underlying t = some (.slice e)) (hk : P.underlying tx = some .string) (hi : P.info? e = some i) (h1 : i.size = 1)
    (g sLen sCap : Nat) (cur : Array Value) (hg : w.heap[g]? = some (.cells cur e (0, 0))) (s : ByteArray) (hroom : sLen + s.size ≤ sCap) (hfit : sLen + s.size ≤ cur.size) :
    (Builtin.append_ #[t, tx] ty #[.slice (some ⟨g, 0, none⟩) sLen sCap, .string s]).run P w =
      .ok (.slice (some ⟨g, 0, none⟩) (sLen + s.size) sCap) (w.setRow g (cur.toList.take sLen ++ byteCells s ++ cur.toList.drop (sLen + s.size)).toArray) := by
  have hf := firstCells_string (P := P) s w
  have hst := run_storeCells_at P g sLen e (byteCells s) 0 cur w hg (by rw [byteCells_length]; simpa using hfit) (fun u hu => by
    obtain ⟨_, _, rfl⟩ := List.mem_map.1 hu
    rfl)
  simp only [Nat.add_zero, byteCells_length] at hst
  simp [Builtin.append_, run_underlying ht, run_underlying hk, sizeOf, typeInfo, hi, h1, Builtin.lenOf, hroom, hf, Addr.add_lit, hst]
end

/-- append(v, s...): v the call's own bytes, s a string. -/
theorem wp_appStr {ops : Array Oper} {rest : List Oper} {o : Oper} {a : Act} {Q : Exit → Act → World → Prop} {w : World} (hgd : o.guard = none) (s x : Operand)
    (ho : o.op = .call { callee := .builtin .append, args := #[s, x], argTypes := #[38, 9] })
    {B : Nat} {v : Value} {l : List UInt8} (hs : a.eval s = v) (hown : OwnB w B v l) {news : List UInt8} (hx : a.eval x = .string ⟨news.toArray⟩)
    (hsz : l.length + news.length ≤ 140737488355327) (hB : B ≤ w.heap.size)
    (h : ∀ v' w', OwnB w' B v' (l ++ news) → w.grownBy w' v.ownBlock → (v'.ownBlock = v.ownBlock ∨ v'.ownBlock = some w.heap.size) → wpList Tryd.prog ops Q rest (a.put o.dst v') w') : wpList Tryd.prog ops Q (o :: rest) a w := by
  refine wpList_plain hgd fun K hK => ?_
  obtain ⟨i0, hi, hz0, hz1, hz2⟩ := info_parts info_byte
  have hsi : (⟨news.toArray⟩ : ByteArray).size = news.length := by simp [ByteArray.size]
  have hbc : byteCells ⟨news.toArray⟩ = news.map byteC := by simp [byteCells, byteC]
  have hml : ∀ {n old : Nat}, n ≤ 140737488355327 → grownCap w n old 5 ≤ maxLen := fun hn => grownCap_le_maxLen w _ _ _ (by unfold maxLen; omega)
  have grown : ∀ (old : Nat), OwnB (w.drew.alloc (.cells ((l.map byteC ++ news.map byteC).toArray ++ Builtin.zeroCells (Value.int .u8 0).cells (grownCap w (l.length + news.length) old 5 - (l.length + news.length))) 5)) B
        (.slice (some ⟨w.heap.size, 0, none⟩) (l.length + news.length) (grownCap w (l.length + news.length) old 5)) (l ++ news) := by
    intro old
    have hge := grownCap_ge w (l.length + news.length) old 5
    unfold OwnB
    rw [List.length_append, List.map_append]
    refine ⟨by simp, .inr ⟨w.heap.size, _, _, rfl, hB, heap_alloc_new w.drew _, hge, hml hsz, ?_, ?_⟩⟩
    · simp only [Array.size_append, List.size_toArray, size_zeroCells, List.length_append, List.length_map, Value.cells, List.length_singleton]; omega
    · simp only [Array.toList_append]
      rw [show (l.length + news.length) * 1 = (l.map byteC ++ news.map byteC).length by simp]
      exact List.take_left
  have key : ∃ v' w', (Builtin.append_ #[38, 9] o.type #[v, .string ⟨news.toArray⟩]).run Tryd.prog w = .ok v' w' ∧ OwnB w' B v' (l ++ news) ∧ w.grownBy w' v.ownBlock ∧ (v'.ownBlock = v.ownBlock ∨ v'.ownBlock = some w.heap.size) := by
    have hsrc := Src.ofString (P := Tryd.prog) w (tx := 9) Tryd.underlying9 ⟨news.toArray⟩
    rw [hsi, hbc] at hsrc
    have hsrc' : Src Tryd.prog i0.size 9 (.string ⟨news.toArray⟩) news.length (news.map byteC) w := by rw [hz1]; exact hsrc
    rcases hown.2 with ⟨rfl, h0⟩ | ⟨g, cap, cur, rfl, hbg, hg, hnc, hcm, hcs, htake⟩
    · have hl0 : l = [] := List.length_eq_zero_iff.1 h0
      subst hl0
      by_cases hm : news.length = 0
      · have hn0 : news = [] := List.length_eq_zero_iff.1 hm
        subst hn0
        refine ⟨.slice none 0 0, w, ?_, OwnB.nil _ _, World.grownBy.refl _ _, .inl rfl⟩
        simp [Builtin.append_, run_underlying Tryd.underlying38, run_underlying Tryd.underlying9, sizeOf, typeInfo, hi, Builtin.lenOf, Builtin.firstCells, ByteArray.size]
      · have hr := run_append_grow_src (P := Tryd.prog) w 38 9 o.type 5 i0 (.int .u8 0) Tryd.underlying38 hi hz0 none 0 0 [] (run_firstCells_none w.drew i0.size 0 0 0) (.string ⟨news.toArray⟩) news.length (news.map byteC) hsrc' (by omega) (by omega) (by
          rw [hz2]; exact growslice_fits (bytes := 1) (by omega) (by simp only [List.length_nil] at hsz; omega))
        have hg2 := grown 0
        simp only [List.length_nil, Nat.zero_add, List.map_nil, List.nil_append] at hr hg2 ⊢
        exact ⟨_, _, hr, hg2, ⟨rfl, rfl, rfl, by simp, fun k hk _ => by show (w.heap.push _)[k]? = _; rw [Array.getElem?_push, if_neg (by omega)]⟩, .inr rfl⟩
    · by_cases hroom : l.length + news.length ≤ cap
      · have hr := run_append_room_str (P := Tryd.prog) w 38 9 o.type 5 i0 Tryd.underlying38 Tryd.underlying9 hi hz1 g l.length cap cur hg ⟨news.toArray⟩ (by rw [hsi]; exact hroom) (by rw [hsi]; omega)
        rw [hsi, hbc] at hr
        refine ⟨_, _, hr, ?_, ⟨rfl, rfl, rfl, by simp, fun k _ hk => setRow_other w g k _ (fun e => hk (by simp [Value.ownBlock, e]))⟩, .inl rfl⟩
        unfold OwnB
        rw [List.length_append, List.map_append]
        refine ⟨by simp, .inr ⟨g, cap, _, rfl, hbg, setRow_heap w g cur _ 5 _ hg, hroom, hcm, ?_, ?_⟩⟩
        · simp only [List.size_toArray, List.length_append, List.length_take, List.length_drop, Array.length_toList, List.length_map]
          omega
        · rw [Nat.mul_one] at htake
          rw [htake, show (l.length + news.length) * 1 = (l.map byteC ++ news.map byteC).length by simp]
          exact List.take_left
      · have holds : ∀ j u, (l.map byteC)[j]? = some u → w.drew.cell? ((⟨g, 0, none⟩ : Addr).add j) = some u := fun j u hu => by simpa using hown.cells (g := g) rfl j u hu
        have hr := run_append_grow_src (P := Tryd.prog) w 38 9 o.type 5 i0 (.int .u8 0) Tryd.underlying38 hi hz0 (some ⟨g, 0, none⟩) l.length cap (l.map byteC)
          (run_firstCells_some w.drew i0.size l.length ⟨g, 0, none⟩ l.length cap (l.map byteC) (by rw [hz1]; simp) holds) (.string ⟨news.toArray⟩) news.length (news.map byteC) hsrc' (by omega) (by omega) (by
          rw [hz2]; exact growslice_fits (bytes := 1) (by omega) (by omega))
        have hg2 := grown cap
        exact ⟨_, _, hr, hg2, ⟨rfl, rfl, rfl, by simp, fun k hk _ => by show (w.heap.push _)[k]? = _; rw [Array.getElem?_push, if_neg (by omega)]⟩, .inr rfl⟩
  obtain ⟨v', w', hrun, h2, h3, h4⟩ := key
  unfold Oper.wp execOp
  simp only [ho, resolve, invoke, builtin, Sem.run_bind, Sem.run_pure, Result.andThen_ok, List.map_toArray, List.map_cons, List.map_nil, hs, hx, hrun]
  exact hK _ _ (h v' w' h2 h3 h4)

/-- []byte(s): an arm of the walk -/
theorem wp_toBytes {ops : Array Oper} {rest : List Oper} {d : Option Tmp} {ty : TypeId} {pos : String} {af : Array Edge} {a : Act} {Q : Exit → Act → World → Prop} {w : World} {x : Operand}
    {l : List UInt8} (hx : a.eval x = .string ⟨l.toArray⟩) (hl : l.length ≤ 140737488355327)
    (h : ∀ A c w', RB w' A l.length c l → Ext w w' → wpList Tryd.prog ops Q rest (a.put d (.slice A l.length c)) w') :
    wpList Tryd.prog ops Q (⟨d, Op.convert 9 38 x, ty, pos, af, none⟩ :: rest) a w := by
  refine wpList_plain rfl fun K hK => ?_
  have e := run_bytes_of_string (P := Tryd.prog) w 9 38 5 ⟨l.toArray⟩ Tryd.underlying9 Tryd.underlying38 Tryd.underlying5
  have hsi : (⟨l.toArray⟩ : ByteArray).size = l.length := by simp [ByteArray.size]
  rw [hsi] at e
  unfold Oper.wp execOp
  simp [hx, e, Oper.upon, Result.andThen]
  refine hK _ _ (h _ _ _ ⟨rfl, grownCap_ge _ _ _ _, ?_, (fun h => nomatch h), fun _ => ⟨_, _, rfl, fun j hj => ?_⟩⟩ ((Ext.refl w).drew.alloc _))
  · have := grownCap_le_maxLen w l.length 0 5 (by unfold maxLen; omega)
    unfold maxLen at this; omega
  · rw [cell_of_row _ w.heap.size (0 + j) _ _ _ (heap_alloc_new w.drew _)]
    simp only [bytesRow]
    rw [Nat.zero_add, Array.getElem?_append_left (by simpa using hj)]
    simp [hj]

/-- The table of the powers of ten stands where start-up laid it. -/
def Tab (w : World) : Prop := Lib.TabIs Tryd.prog w "internal/strconv.uint64pow10" .u64 Lib.pow10Tab
theorem Tab.ext {w w' : World} (h : Tab w) (x : Ext w w') : Tab w' := by
  cases hg : Tryd.prog.globalNamed "internal/strconv.uint64pow10" with
  | none => unfold Tab Lib.TabIs World.var? at h; simp [hg] at h
  | some g => exact Joins.tab_stays hg h x (Nat.le_refl _)
theorem Ext.grow {W w : World} (h : Ext W w) (k : Nat) (os : Array Obj) : Ext W (Go.Sort.grow (w.drewN k) os) :=
  ⟨h.os, h.tape, h.output, by have := h.size; simp [Go.Sort.grow]; omega, fun b hb => by
    have e := Below.block h b hb
    have hs := h.size
    show (w.heap ++ os)[b]? = _
    rw [Array.getElem?_append_left (by omega)]; exact e⟩
end Go.Proofs.YtohjjhoobikioaaDoor
