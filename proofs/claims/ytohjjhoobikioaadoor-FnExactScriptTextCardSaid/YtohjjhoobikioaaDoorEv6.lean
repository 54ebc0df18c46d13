/-
  impl.textOfEvent: crashes.
-/
import Derived.Test.YtohjjhoobikioaaDoorEv5
import Derived.Deep.RegionLaw
namespace Go.Proofs.YtohjjhoobikioaaDoor
open Go.RowKit

theorem run_appI {w : World} {B : Nat} {v : Value} {l : List Int} (ty : TypeId) (hown : OwnI w B v l) {A : Option Addr} {m c : Nat} {news : List Int} (hr : RI w A m c news) (hsz : l.length + m ≤ 17592186044415) (hB : B ≤ w.heap.size) :
    ∃ v' w', (Builtin.append_ #[22, 22] ty #[v, .slice A m c]).run Tryd.prog w = .ok v' w' ∧ OwnI w' B v' (l ++ news) ∧ w.grownBy w' v.ownBlock ∧ (v'.ownBlock = v.ownBlock ∨ v'.ownBlock = some w.heap.size) := by
  obtain ⟨i0, hi, hz0, hz1, hz2⟩ := info_parts info_int

  cases A with
  | none =>
    obtain rfl := hr.none_ rfl
    obtain rfl : m = 0 := by have := hr.cap; omega
    have hn : news = [] := List.length_eq_zero_iff.1 hr.len
    subst hn
    exact ⟨v, w, run_append_owned_none (P := Tryd.prog) w B 22 ty 3 i0 1 Tryd.underlying22 hi v l.length _ hown, by simpa using hown, World.grownBy.refl _ _, .inl rfl⟩
  | some ad =>
    obtain ⟨v', w', hrun, h2, h3, _, h5⟩ := run_append_own_at (P := Tryd.prog) w B 22 ty 3 i0 (.int .i64 0) 1 8 Tryd.underlying22 hi hz0 hz1 hz2 rfl (by omega) v l.length _ hown ad m c (news.map (Value.int .i64))
      (by rw [List.length_map, hr.len]; omega)
      (fun j u hu => by
        have hj : j < news.length := by have := (List.getElem?_eq_some_iff.1 hu).1; simpa using this
        obtain ⟨b, of, hA, hc⟩ := hr.at_ (by rw [← hr.len]; omega)
        obtain rfl := Option.some.inj hA
        rw [Addr.add_lit, hc j (by rw [← hr.len]; exact hj)]
        rw [← hu]; simp [hj])
      (ints_oneCell _ _) (by unfold maxLen; omega) (by omega) hB
    refine ⟨v', w', hrun, ?_, h3, h5⟩
    have hl : (l ++ news).length = l.length + m := by rw [List.length_append, hr.len]
    unfold OwnI
    rw [hl, List.map_append]
    exact h2

/-- append onto the i-th piece, as one step of a region that draws -/
theorem step_addI {ops : Array Oper} {o : Oper} {a : Act} {W w : World} {K : Act → World → Prop} {Q : Exit → Act → World → Prop} {E : Prop} {L : List Pc} (hg : o.guard = none) (s x : Operand)
    (ho : o.op = .call { callee := .builtin .append, args := #[s, x], argTypes := #[22, 22] }) {v : Value} {l : List Int} (S : St W w L) (i : Nat) (e : L[i]? = some (ownI v l)) (hs : a.eval s = v)
    {A : Option Addr} {m c : Nat} {news : List Int} (hx : a.eval x = .slice A m c) (hr : RI w A m c news) (hsz : l.length + m ≤ 17592186044415)
    (hK : ∀ v' w', St W w' (L.set i (ownI v' (l ++ news))) → K (a.put o.dst v') w') :
    if Region.wanted o (yielded ops a.tmps) = true then Oper.wp Tryd.prog o a w K Q else E := by
  have hw : Region.wanted o (yielded ops a.tmps) = true := by simp [Region.wanted, hg]
  rw [if_pos hw]
  obtain ⟨v', w', hrun, h2, h3, h4⟩ := run_appI o.type (S.ownI i e) hr hsz (Nat.zero_le _)
  unfold Oper.wp
  simp [execOp, ho, resolve, invoke, builtin, hs, hx, hrun, Result.andThen]
  exact hK v' w' (S.appI i e h2 h3 h4)

theorem OwnI.lit (w : World) (B : Nat) (hB : B ≤ w.heap.size) (l : List Int) (hl : l.length ≤ 16) : OwnI (w.alloc (.cells (l.map (Value.int .i64)).toArray 3)) B (.slice (some ⟨w.heap.size, 0, none⟩) l.length l.length) l := by
  unfold OwnI
  refine ⟨by simp, .inr ⟨w.heap.size, _, _, rfl, hB, heap_alloc_new w _, Nat.le_refl _, by unfold maxLen; omega, by simp, List.take_of_length_le (by simp)⟩⟩
set_option maxRecDepth 100000 in
set_option maxHeartbeats 2000000 in
theorem impl_textOfEvent_crash (a b : Int) (A : Option Addr) (n c : Nat) (l : List Int) (w : World) (ht : Tab w) (h : RI w A n c l) (hs : n ≤ 1048576) :
    Calls Tryd.prog 60 #[.agg #[.int .i64 6, .int .i64 a, .int .i64 b, .slice A n c]] w (EvOut 6 a b l n w) := by
  have E : Hid (evRes a b n ([99, 114, 97, 115, 104] ++ wordsN ([a] ++ l)) a 0 n (allNum ([a] ++ l)) = eventText 6 a b l) := by
    show _ = _
    unfold evRes eventText nums wordsN allNum
    cases hq : List.all ([a] ++ l) isNum <;> by_cases h2 : b = 0 <;> simp [h2] <;> simp_all
  have HR := Lib.hid h; clear h
  go_enter Tryd.func60, Tryd.ntmps60
  have S3 := (((St.refl w).alloc #[.int .i64 6, .int .i64 a, .int .i64 b, .slice A n c] 27).alloc zeroE 27).alloc #[.int .i64 6, .int .i64 a, .int .i64 0, .slice none 0 0] 27
  have S3 := S3.skip (.cells #[.int .i64 a] 3)
  simp only [World.size_alloc] at S3
  have HS := Lib.hid S3
  generalize hw4 : (((w.alloc (.cells #[.int .i64 6, .int .i64 a, .int .i64 b, .slice A n c] 27)).alloc (.cells zeroE 27)).alloc (.cells #[.int .i64 6, .int .i64 a, .int .i64 0, .slice none 0 0] 27)).alloc (.cells #[.int .i64 a] 3) = w4 at HS
  have hz : w4.heap.size = w.heap.size + 1 + 1 + 1 + 1 := by rw [← hw4]; simp [World.size_alloc]
  have S3b := (HS.out.newI (OwnI.lit w4 _ (Nat.le_refl _) [a] (by simp)) ((Ext.refl _).alloc _)).drew
  rw [hz] at S3b
  subst hw4
  clear hz HS
  go_wp2_with fail
  have B1 := St.eb (k := 6) (a := a) (b' := b) (v := .slice A n c) (b := w.heap.size) (T := 27) S3.drew 2 rfl
  have B2 := St.eb (k := 6) (a := a) (b' := b) (v := .slice A n c) (b := w.heap.size) (T := 27) S3b 3 rfl
  go_region_held3 (fun w' => EBox w' w.heap.size 6 a b (.slice A n c))
    ((first | with_reducible assumption | assumption))
    (first
      | (refine step_addI rfl _ _ rfl S3b 0 rfl rfl rfl (HR.out.ext S3b.ext) (by simp; omega) ?_; intro v5 w5 S5; have S5 : St w w5 [ownI v5 ([a] ++ l), row (w.heap.size + 1 + 1) 27 #[.int .i64 6, .int .i64 a, .int .i64 0, .slice none 0 0], row (w.heap.size + 1) 27 zeroE, row w.heap.size 27 #[.int .i64 6, .int .i64 a, .int .i64 b, .slice A n c]] := S5; obtain ⟨lcq, lfq, lsq⟩ := S5.cells 1 rfl; have S6 := S5.setc 1 rfl 3 (.slice A n c); have B3 := St.eb (k := 6) (a := a) (b' := b) (v := .slice A n c) (b := w.heap.size) (T := 27) S5 3 rfl; have B4 := St.eb (k := 6) (a := a) (b' := b) (v := .slice A n c) (b := w.heap.size) (T := 27) S6 3 rfl))
  have S7 : St w (w5.setCell ⟨w.heap.size + 1 + 1, 3, none⟩ (.slice A n c)) [ownI v5 ([a] ++ l), row (w.heap.size + 1 + 1) 27 #[.int .i64 6, .int .i64 a, .int .i64 0, .slice A n c], row (w.heap.size + 1) 27 zeroE, row w.heap.size 27 #[.int .i64 6, .int .i64 a, .int .i64 b, .slice A n c]] := S6
  obtain ⟨A5, n5, c5, rfl⟩ : ∃ A n c, v5 = .slice A n c := by
    obtain ⟨A, c, e, -⟩ := (S7.ownI 0 rfl).form
    exact ⟨A, _, c, e⟩
  have hn5 : n5 ≤ 1048577 := by
    rw [← ((S7.ownI 0 rfl).get rfl).len, List.length_append, HR.out.len]
    simp; omega
  clear S3 S3b S5 S6 lcq lfq lsq B1 B2 B3 B4
  generalize w5.setCell ⟨w.heap.size + 1 + 1, 3, none⟩ (.slice A n c) = w6 at S7 ⊢
  go_wp2_with fail
  refine Calls.mono (impl_numberWords _ _ _ _ _ (ht.ext S7.ext) ((S7.ownI 0 rfl).get rfl) (by omega)) ?_; rintro e w1 ⟨rfl, x1⟩
  have S3 := S7.call x1
  clear S7 x1
  obtain ⟨lc, lf, ls⟩ := S3.cells 1 rfl
  obtain ⟨lc2, lf2, ls2⟩ := S3.cells 2 rfl
  obtain ⟨s1, hs1⟩ : ∃ s1, s1 = wordsN ([a] ++ l) := ⟨_, rfl⟩
  have hl1 : s1.length ≤ 11534347 := by
    rw [hs1]; unfold wordsN
    split
    · have := words_len ([a] ++ l)
      rw [List.length_append, HR.out.len] at this
      simp at this ⊢; omega
    · simp
  obtain ⟨ok, hok⟩ : ∃ ok, ok = allNum ([a] ++ l) := ⟨_, rfl⟩
  rw [← hs1, ← hok] at E ⊢
  clear hs1 hok
  go_wp2_with fail
  have hsz := size_of_list s1
  go_region
  have S4 := (S3.set4 2 rfl rfl (.int .i64 6) (.int .i64 a) (.int .i64 0) (.slice A n c)).drew
  obtain ⟨lcZ, -, -⟩ := S4.cells 2 rfl
  clear hsz lc lf ls lc2 lf2 ls2 S3
  go_wp2_with fail
  exact bodyPost_ret (v := .tuple #[.string (⟨([99, 114, 97, 115, 104] : List UInt8).toArray⟩ ++ ⟨s1.toArray⟩), .agg #[.int .i64 6, .int .i64 a, .int .i64 0, .slice A n c], .bool ok]) (by simp [results, Tryd.results60, go_sem, lcZ]) rfl ⟨_, 6, a, 0, A, n, c, ok, by rw [strcat], E, S4.ext⟩
end Go.Proofs.YtohjjhoobikioaaDoor
