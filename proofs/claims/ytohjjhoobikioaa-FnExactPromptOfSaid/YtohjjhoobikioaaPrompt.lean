/-
  PromptOf, both.
-/
import Derived.Test.YtohjjhoobikioaaCvT
import Derived.Laws.Concat
namespace Go.Proofs.Ytohjjhoobikioaa
open Go.RowKit

def promptOf (x : SEd) (s : ByteArray) : ByteArray :=
  if x.Mode = 3 then ⟨([40, 115, 101, 97, 114, 99, 104, 41, 96] ++ textOf x.Query ++ [39, 58, 32]).toArray⟩ else s
theorem cat3 (l : List UInt8) : ((⟨#[40, 115, 101, 97, 114, 99, 104, 41, 96]⟩ : ByteArray) ++ ⟨l.toArray⟩) ++ (⟨#[39, 58, 32]⟩ : ByteArray) = ⟨([40, 115, 101, 97, 114, 99, 104, 41, 96] ++ l ++ [39, 58, 32]).toArray⟩ := by
  apply ByteArray.ext
  simp
set_option maxRecDepth 100000 in
set_option maxHeartbeats 4000000 in
theorem impl_PromptOf (x : SEd) (p0 p1 p2 p3 p4 p5 : Value) (s : ByteArray) (w : World) (h : Rd w p4 (Dv.ints x.Query)) (hs : x.Query.length ≤ 4294967296) :
    Calls Try.prog 8 #[.agg #[.bool x.Vi, .int .i64 x.Mode, p0, .int .i64 x.Line.At, .int .i64 x.Count, .int .i64 x.Op, .int .i64 x.OpCount, .int .i64 x.Wait, .int .i64 x.FindR, .int .i64 x.FindHow, .int .i64 x.Last, p1, p2, .int .i64 x.Nav, p3, .int .i64 x.Own.At, p4, .int .i64 x.Hit, p5, .int .i64 x.Back.At], .string s] w fun e w' => e = .returned (.string (promptOf x s)) ∧ Ext w w' := by
  have E : Hid (promptOf x s = if x.Mode = 3 then ⟨([40, 115, 101, 97, 114, 99, 104, 41, 96] ++ textOf x.Query ++ [39, 58, 32]).toArray⟩ else s) := rfl
  obtain ⟨A, n, c, rfl, r⟩ := h.ints
  have hn := r.len
  by_cases h3 : x.Mode = 3
  · have hb : (x.Mode != 3) = false := by simp [h3]
    have hb2 : (x.Mode == 3) = true := by simp [h3]
    have H3 := Lib.hid h3; clear h3 h
    have HN := Lib.hid hn; clear hn
    have hn2 : n ≤ 4294967296 := by rw [← HN.out]; exact hs
    have ht : (textOf x.Query).length ≤ 17179869184 := by have := textOf_len x.Query; omega
    have HR := Lib.hid r; clear r hs
    go_enter Try.func8, Try.ntmps8
    go_wp2_with fail
    refine Calls.mono (impl_TextOf A n c x.Query _ (HR.out.ext ((Ext.refl w).alloc _)) hn2) ?_; rintro e w1 ⟨rfl, x1⟩
    go_wp2_with fail
    go_ret
    exact ⟨by rw [E.out, if_pos H3.out]; first | rfl | rw [cat3], ((Ext.refl w).alloc _).trans x1⟩
  · have hb : (x.Mode != 3) = true := by simp [h3]
    have hb2 : (x.Mode == 3) = false := by simp [h3]
    have H3 := Lib.hid h3; clear h3 h hn r
    go_enter Try.func8, Try.ntmps8
    go_wp2_with fail
    go_ret
    exact ⟨by rw [E.out, if_neg H3.out]; rfl, (Ext.refl w).alloc _⟩
set_option maxRecDepth 100000 in
set_option maxHeartbeats 4000000 in
theorem spec_PromptOf (x : SEd) (p0 p1 p2 p3 p4 p5 : Value) (s : ByteArray) (w : World) (h : Rd w p4 (Dv.ints x.Query)) (hs : x.Query.length ≤ 4294967296) :
    Calls Try.prog 6 #[.agg #[.bool x.Vi, .int .i64 x.Mode, p0, .int .i64 x.Line.At, .int .i64 x.Count, .int .i64 x.Op, .int .i64 x.OpCount, .int .i64 x.Wait, .int .i64 x.FindR, .int .i64 x.FindHow, .int .i64 x.Last, p1, p2, .int .i64 x.Nav, p3, .int .i64 x.Own.At, p4, .int .i64 x.Hit, p5, .int .i64 x.Back.At], .string s] w fun e w' => e = .returned (.string (promptOf x s)) ∧ Ext w w' := by
  have E : Hid (promptOf x s = if x.Mode = 3 then ⟨([40, 115, 101, 97, 114, 99, 104, 41, 96] ++ textOf x.Query ++ [39, 58, 32]).toArray⟩ else s) := rfl
  obtain ⟨A, n, c, rfl, r⟩ := h.ints
  have hn := r.len
  by_cases h3 : x.Mode = 3
  · have hb : (x.Mode == 3) = true := by simp [h3]
    have H3 := Lib.hid h3; clear h3 h
    have HN := Lib.hid hn; clear hn
    have hn2 : n ≤ 4294967296 := by rw [← HN.out]; exact hs
    have ht : (textOf x.Query).length ≤ 17179869184 := by have := textOf_len x.Query; omega
    have HR := Lib.hid r; clear r hs
    go_enter Try.func6, Try.ntmps6
    go_wp2_with fail
    refine Calls.mono (spec_TextOf A n c x.Query _ (HR.out.ext ((Ext.refl w).alloc _)) hn2) ?_; rintro e w1 ⟨rfl, x1⟩
    go_wp2_with fail
    go_ret
    exact ⟨by rw [E.out, if_pos H3.out]; first | rfl | rw [cat3], ((Ext.refl w).alloc _).trans x1⟩
  · have hb : (x.Mode == 3) = false := by simp [h3]
    have H3 := Lib.hid h3; clear h3 h hn r
    go_enter Try.func6, Try.ntmps6
    go_wp2_with fail
    go_ret
    exact ⟨by rw [E.out, if_neg H3.out]; rfl, (Ext.refl w).alloc _⟩
end Go.Proofs.Ytohjjhoobikioaa
