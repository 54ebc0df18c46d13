/-
  impl.textOfEvent: sizes, bytes.
-/
import Derived.Test.YtohjjhoobikioaaDoorEv3
import Derived.Deep.RegionWith
namespace Go.Proofs.YtohjjhoobikioaaDoor
open Go.RowKit

set_option maxRecDepth 100000 in
set_option maxHeartbeats 2000000 in
theorem impl_textOfEvent_size (a b : Int) (A : Option Addr) (n c : Nat) (l : List Int) (w : World) (ht : Tab w) (h : RI w A n c l) :
    Calls Tryd.prog 60 #[.agg #[.int .i64 3, .int .i64 a, .int .i64 b, .slice A n c]] w (EvOut 3 a b l n w) := by
  have E : Hid (evRes a b n ([115, 105, 122, 101] ++ wordsN [a, b]) a b 0 (allNum [a, b]) = eventText 3 a b l) := by
    show _ = _
    unfold evRes eventText nums wordsN allNum
    have := nil_iff h.len
    cases hq : List.all [a, b] isNum <;> by_cases h3 : n = 0 <;> simp [h3, this]
  clear h
  go_enter Tryd.func60, Tryd.ntmps60
  go_wp2_with fail
  go_region
  have S2 := ((((((St.refl w).alloc #[.int .i64 3, .int .i64 a, .int .i64 b, .slice A n c] 27).alloc zeroE 27).alloc #[.int .i64 3, .int .i64 a, .int .i64 b, .slice none 0 0] 27).skip (.cells #[.int .i64 a] 3)).skip (.cells #[.int .i64 a, .int .i64 b] 3)).drew
  simp only [World.size_alloc] at S2
  go_wp2_with fail
  have hri : RI ((((((w.alloc (.cells #[.int .i64 3, .int .i64 a, .int .i64 b, .slice A n c] 27)).alloc (.cells zeroE 27)).alloc (.cells #[.int .i64 3, .int .i64 a, .int .i64 b, .slice none 0 0] 27)).alloc (.cells #[.int .i64 a] 3)).alloc (.cells #[.int .i64 a, .int .i64 b] 3)).drew) (some ⟨w.heap.size + 1 + 1 + 1 + 1, 0, none⟩) 2 2 [a, b] := by
    have := (RI.new ((((w.alloc (.cells #[.int .i64 3, .int .i64 a, .int .i64 b, .slice A n c] 27)).alloc (.cells zeroE 27)).alloc (.cells #[.int .i64 3, .int .i64 a, .int .i64 b, .slice none 0 0] 27)).alloc (.cells #[.int .i64 a] 3)) [a, b] (by simp)).ext (Ext.refl _).drew
    simpa [World.size_alloc] using this
  refine Calls.mono (impl_numberWords _ _ _ _ _ (ht.ext S2.ext) hri (by omega)) ?_; rintro e w1 ⟨rfl, x1⟩
  have S3 := S2.call x1
  clear S2 x1 hri
  obtain ⟨lc, lf, ls⟩ := S3.cells 0 rfl
  obtain ⟨lc2, lf2, ls2⟩ := S3.cells 1 rfl
  obtain ⟨s1, hs1⟩ : ∃ s1, s1 = wordsN [a, b] := ⟨_, rfl⟩
  have hl1 : s1.length ≤ 22 := by
    rw [hs1]; unfold wordsN
    split
    · exact words_len [a, b]
    · simp
  obtain ⟨ok, hok⟩ : ∃ ok, ok = allNum [a, b] := ⟨_, rfl⟩
  rw [← hs1, ← hok] at E ⊢
  clear hs1 hok
  go_wp2_with fail
  have hsz := size_of_list s1
  go_region
  have S4 := (S3.set4 1 rfl rfl (.int .i64 3) (.int .i64 a) (.int .i64 b) (.slice none 0 0)).drew
  obtain ⟨lcZ, -, -⟩ := S4.cells 1 rfl
  clear hsz lc lf ls lc2 lf2 ls2 S3
  go_wp2_with fail
  exact bodyPost_ret (v := .tuple #[.string (⟨([115, 105, 122, 101] : List UInt8).toArray⟩ ++ ⟨s1.toArray⟩), .agg #[.int .i64 3, .int .i64 a, .int .i64 b, .slice none 0 0], .bool ok]) (by simp [results, Tryd.results60, go_sem, lcZ]) rfl ⟨_, 3, a, b, none, 0, 0, ok, by rw [strcat], E, S4.ext⟩
end Go.Proofs.YtohjjhoobikioaaDoor
