/-
  impl.textOfEvent: bytes.
-/
import Derived.Test.YtohjjhoobikioaaDoorEv4
import Derived.Deep.RegionHeld3
namespace Go.Proofs.YtohjjhoobikioaaDoor
open Go.RowKit

abbrev EBox (w : World) (b : Nat) (k a b' : Int) (v : Value) : Prop := w.cell? ⟨b, 0, none⟩ = some (.int .i64 k) ∧ w.cell? ⟨b, 1, none⟩ = some (.int .i64 a) ∧ w.cell? ⟨b, 2, none⟩ = some (.int .i64 b') ∧ w.cell? ⟨b, 3, none⟩ = some v
theorem St.eb {W w : World} {L : List Pc} {b : Nat} {T : TypeId} {k a b' : Int} {v : Value} (S : St W w L) (i : Nat) (e : L[i]? = some (YtohjjhoobikioaaDoor.row b T #[.int .i64 k, .int .i64 a, .int .i64 b', v])) : EBox w b k a b' v := by
  obtain ⟨lc, -, -⟩ := S.cells i e
  exact ⟨lc 0, lc 1, lc 2, lc 3⟩

set_option maxRecDepth 100000 in
set_option maxHeartbeats 2000000 in
theorem impl_textOfEvent_hex (a b : Int) (A : Option Addr) (n c : Nat) (l : List Int) (w : World) (h : RI w A n c l) :
    Calls Tryd.prog 60 #[.agg #[.int .i64 1, .int .i64 a, .int .i64 b, .slice A n c]] w (EvOut 1 a b l n w) := by
  obtain ⟨x, hx⟩ : ∃ x : Nat, (x : Int) = a % 256 := ⟨(a % 256).toNat, by omega⟩
  have hx256 : x < 256 := by omega
  obtain ⟨ok, hok⟩ : ∃ ok, ok = inB a 0 255 := ⟨_, rfl⟩
  have E : Hid (evRes a b n ([104, 101, 120, 32] ++ hex2 x) a 0 0 ok = eventText 1 a b l) := by
    show _ = _
    unfold evRes eventText
    have := nil_iff h.len
    by_cases h1 : 0 ≤ a ∧ a ≤ 255
    · have e1 : ok = true := by rw [hok]; exact inB_iff.2 h1
      have e2 : (x : Int) = a := by omega
      rw [e2]
      by_cases h2 : b = 0 <;> by_cases h3 : n = 0 <;> simp [h1, h2, h3, this, e1]
    · have e1 : ok = false := by rw [hok]; exact inB_not.2 h1
      have e3 : ¬ (0 ≤ a ∧ a ≤ 255 ∧ b = 0 ∧ l = []) := fun q => h1 ⟨q.1, q.2.1⟩
      rw [e1, if_neg e3]; simp
  have HX := Lib.hid hx; have HK := Lib.hid hok
  clear h hx hok
  go_enter Tryd.func60, Tryd.ntmps60
  have S3 := (((St.refl w).alloc #[.int .i64 1, .int .i64 a, .int .i64 b, .slice A n c] 27).alloc zeroE 27).alloc #[.int .i64 1, .int .i64 a, .int .i64 0, .slice none 0 0] 27
  have S3 := S3.skip (.cells #[.int .i64 a] 3)
  simp only [World.size_alloc] at S3
  have S3b := (S3.skip (.cells #[.int .u8 (a % 256)] 5)).drew
  have hrb : RB ((((((w.alloc (.cells #[.int .i64 1, .int .i64 a, .int .i64 b, .slice A n c] 27)).alloc (.cells zeroE 27)).alloc (.cells #[.int .i64 1, .int .i64 a, .int .i64 0, .slice none 0 0] 27)).alloc (.cells #[.int .i64 a] 3)).alloc (.cells #[.int .u8 (a % 256)] 5)).drew) (some ⟨w.heap.size + 1 + 1 + 1 + 1, 0, none⟩) 1 1 [by8 x] := by
    have e := by8_nat (x := x) (by omega) (by omega)
    have := (RB.lit ((((w.alloc (.cells #[.int .i64 1, .int .i64 a, .int .i64 b, .slice A n c] 27)).alloc (.cells zeroE 27)).alloc (.cells #[.int .i64 1, .int .i64 a, .int .i64 0, .slice none 0 0] 27)).alloc (.cells #[.int .i64 a] 3)) [.int .u8 (a % 256)] [by8 x] (by simp only [List.map_cons, List.map_nil, byteC]; rw [e, HX.out]) (by simp)).ext (Ext.refl _).drew
    simpa [World.size_alloc] using this
  obtain ⟨s1, hs1⟩ : ∃ s1, s1 = hex2 x := ⟨_, rfl⟩
  have hl1 : s1.length = 2 := by rw [hs1]; rfl
  have K := Lib.hid (impl_HexOf1 x hx256 _ _ _ hrb)
  rw [← hs1] at E K
  clear hrb hs1
  go_wp2_with fail
  have hsz := size_of_list s1
  have B1 := And.intro (St.eb (k := 1) (a := a) (b' := b) (v := .slice A n c) (b := w.heap.size) (T := 27) S3.drew 2 rfl) (St.eb (k := 1) (a := a) (b' := 0) (v := .slice none 0 0) (b := w.heap.size + 1 + 1) (T := 27) S3.drew 0 rfl)
  have B2 := And.intro (St.eb (k := 1) (a := a) (b' := b) (v := .slice A n c) (b := w.heap.size) (T := 27) S3b 2 rfl) (St.eb (k := 1) (a := a) (b' := 0) (v := .slice none 0 0) (b := w.heap.size + 1 + 1) (T := 27) S3b 0 rfl)
  go_region_held3 (fun w' => EBox w' w.heap.size 1 a b (.slice A n c) ∧ EBox w' (w.heap.size + 1 + 1) 1 a 0 (.slice none 0 0))
    ((first | with_reducible assumption | assumption))
    (first
      | (go_at_call 96; refine Calls.mono K.out ?_; rintro e w2 ⟨rfl, x2⟩; have S5 := S3b.call x2; obtain ⟨lcq, lfq, lsq⟩ := S5.cells 1 rfl; have S6 := S5.set4 1 rfl rfl (.int .i64 1) (.int .i64 a) (.int .i64 0) (.slice none 0 0); have B3 := And.intro (St.eb (k := 1) (a := a) (b' := b) (v := .slice A n c) (b := w.heap.size) (T := 27) S5 2 rfl) (St.eb (k := 1) (a := a) (b' := 0) (v := .slice none 0 0) (b := w.heap.size + 1 + 1) (T := 27) S5 0 rfl); have B4 := And.intro (St.eb (k := 1) (a := a) (b' := b) (v := .slice A n c) (b := w.heap.size) (T := 27) S6 2 rfl) (St.eb (k := 1) (a := a) (b' := 0) (v := .slice none 0 0) (b := w.heap.size + 1 + 1) (T := 27) S6 0 rfl))
      | (go_at_call 97; refine Calls.mono (impl_in _ _ _ _) ?_; rintro e w3 ⟨rfl, rfl⟩))
  obtain ⟨lcZ, -, -⟩ := S6.cells 1 rfl
  clear hsz lcq lfq lsq S5
  go_wp2_with fail
  exact bodyPost_ret (v := .tuple #[.string (⟨([104, 101, 120, 32] : List UInt8).toArray⟩ ++ ⟨s1.toArray⟩), .agg #[.int .i64 1, .int .i64 a, .int .i64 0, .slice none 0 0], .bool (inB a 0 255)]) (by simp [results, Tryd.results60, go_sem, lcZ]) rfl ⟨_, 1, a, 0, none, 0, 0, ok, by rw [strcat, HK.out], E, S6.ext⟩
end Go.Proofs.YtohjjhoobikioaaDoor
