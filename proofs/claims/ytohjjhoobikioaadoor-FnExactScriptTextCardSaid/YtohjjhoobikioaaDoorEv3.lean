/-
  impl.textOfEvent.
-/
import Derived.Test.YtohjjhoobikioaaDoorEv1
import Derived.Test.YtohjjhoobikioaaDoorEv2
import Derived.Test.YtohjjhoobikioaaDoorLawKit
namespace Go.Proofs.YtohjjhoobikioaaDoor
open Go.RowKit

abbrev zeroE : Array Value := #[.int .i64 0, .int .i64 0, .int .i64 0, .slice none 0 0]
/-- what comes of a line's text and of the fields that it tells -/
def evRes (a b : Int) (n : Nat) (t : List UInt8) (oa ob : Int) (on : Nat) (ok : Bool) : List UInt8 := if ok = true ∧ a = oa ∧ b = ob ∧ n = on then t else []
def EvOut (kind a b : Int) (l : List Int) (n : Nat) (w : World) (e : Ending) (w' : World) : Prop :=
  ∃ (t : List UInt8) (k' oa ob : Int) (oA : Option Addr) (on oc : Nat) (ok : Bool), e = .returned (.tuple #[.string ⟨t.toArray⟩, .agg #[.int .i64 k', .int .i64 oa, .int .i64 ob, .slice oA on oc], .bool ok]) ∧ Hid (evRes a b n t oa ob on ok = eventText kind a b l) ∧ Ext w w'
theorem nil_iff {l : List Int} {n : Nat} (h : l.length = n) : l = [] ↔ n = 0 := by rw [← h]; exact List.length_eq_zero_iff.symm

theorem strcat (l m : List UInt8) : (⟨l.toArray⟩ ++ ⟨m.toArray⟩ : ByteArray) = ⟨(l ++ m).toArray⟩ := by
  apply ByteArray.ext; simp
theorem four {cs : Array Value} (hs : cs.size = 4) (a0 a1 a2 a3 : Value) : (((cs.setIfInBounds 0 a0).setIfInBounds 1 a1).setIfInBounds 2 a2).setIfInBounds 3 a3 = #[a0, a1, a2, a3] := by
  obtain ⟨l⟩ := cs
  match l, hs with
  | [_, _, _, _], _ => rfl
theorem St.set4h {W w : World} {b : Nat} {T : TypeId} {cs : Array Value} {L : List Pc} (S : St W w (YtohjjhoobikioaaDoor.row b T cs :: L)) (hs : cs.size = 4) (a0 a1 a2 a3 : Value) :
    St W ((((w.setCell ⟨b, 0, none⟩ a0).setCell ⟨b, 1, none⟩ a1).setCell ⟨b, 2, none⟩ a2).setCell ⟨b, 3, none⟩ a3) (YtohjjhoobikioaaDoor.row b T #[a0, a1, a2, a3] :: L) := by
  have h0 := S.setc1 0 a0
  have h1 := h0.setc1 1 a1
  have h2 := h1.setc1 2 a2
  have h3 := h2.setc1 3 a3
  exact h3.castR (four hs a0 a1 a2 a3)
theorem St.set4 {W w : World} {b : Nat} {T : TypeId} {cs : Array Value} {L : List Pc} (S : St W w L) (i : Nat) (e : L[i]? = some (YtohjjhoobikioaaDoor.row b T cs)) (hs : cs.size = 4) (a0 a1 a2 a3 : Value) :
    St W ((((w.setCell ⟨b, 0, none⟩ a0).setCell ⟨b, 1, none⟩ a1).setCell ⟨b, 2, none⟩ a2).setCell ⟨b, 3, none⟩ a3) (L.set i (YtohjjhoobikioaaDoor.row b T #[a0, a1, a2, a3])) :=
  S.upd i e fun _ S' => S'.set4h hs a0 a1 a2 a3
set_option maxRecDepth 100000 in
set_option maxHeartbeats 2000000 in
theorem impl_textOfEvent_tick (a b : Int) (A : Option Addr) (n c : Nat) (l : List Int) (w : World) (h : RI w A n c l) :
    Calls Tryd.prog 60 #[.agg #[.int .i64 2, .int .i64 a, .int .i64 b, .slice A n c]] w (EvOut 2 a b l n w) := by
  have S0 := ((St.refl w).alloc #[.int .i64 2, .int .i64 a, .int .i64 b, .slice A n c] 27).alloc zeroE 27
  rw [World.size_alloc] at S0
  have E : Hid (evRes a b n [116, 105, 99, 107] 0 0 0 true = eventText 2 a b l) := by
    show _ = _
    unfold evRes eventText
    have := nil_iff h.len
    by_cases h1 : a = 0 <;> by_cases h2 : b = 0 <;> by_cases h3 : n = 0 <;> simp [h1, h2, h3, this]
  clear h
  go_enter Tryd.func60, Tryd.ntmps60
  clear S0
  have ST := ((((St.refl w).alloc #[.int .i64 2, .int .i64 a, .int .i64 b, .slice A n c] 27).alloc #[.int .i64 2, .int .i64 0, .int .i64 0, .slice none 0 0] 27).alloc #[.int .i64 2, .int .i64 a, .int .i64 0, .slice none 0 0] 27).skip (.cells #[.int .i64 a] 3)
  simp only [World.size_alloc] at ST
  obtain ⟨lcZ, -, -⟩ := ST.cells 1 rfl
  go_wp2_with fail
  exact bodyPost_ret (v := .tuple #[.string ⟨([116, 105, 99, 107] : List UInt8).toArray⟩, .agg #[.int .i64 2, .int .i64 0, .int .i64 0, .slice none 0 0], .bool true]) (by simp [results, Tryd.results60, go_sem, lcZ]) rfl ⟨_, 2, 0, 0, none, 0, 0, true, rfl, E, ST.ext⟩
set_option maxRecDepth 100000 in
set_option maxHeartbeats 2000000 in
theorem impl_textOfEvent_room (a b : Int) (A : Option Addr) (n c : Nat) (l : List Int) (w : World) (ht : Tab w) (h : RI w A n c l) :
    Calls Tryd.prog 60 #[.agg #[.int .i64 4, .int .i64 a, .int .i64 b, .slice A n c]] w (EvOut 4 a b l n w) := by
  have E : Hid (evRes a b n ([114, 111, 111, 109] ++ wordsN [a]) a 0 0 (allNum [a]) = eventText 4 a b l) := by
    show _ = _
    unfold evRes eventText nums wordsN allNum
    have := nil_iff h.len
    cases hq : List.all [a] isNum <;> by_cases h2 : b = 0 <;> by_cases h3 : n = 0 <;> simp [h2, h3, this]
  clear h
  go_enter Tryd.func60, Tryd.ntmps60
  have ST := ((((St.refl w).alloc #[.int .i64 4, .int .i64 a, .int .i64 b, .slice A n c] 27).alloc zeroE 27).alloc #[.int .i64 4, .int .i64 a, .int .i64 0, .slice none 0 0] 27)
  simp only [World.size_alloc] at ST
  have hri : RI ((((w.alloc (.cells #[.int .i64 4, .int .i64 a, .int .i64 b, .slice A n c] 27)).alloc (.cells zeroE 27)).alloc (.cells #[.int .i64 4, .int .i64 a, .int .i64 0, .slice none 0 0] 27)).alloc (.cells #[.int .i64 a] 3)) (some ⟨w.heap.size + 1 + 1 + 1, 0, none⟩) 1 1 [a] := by
    have := RI.new (((w.alloc (.cells #[.int .i64 4, .int .i64 a, .int .i64 b, .slice A n c] 27)).alloc (.cells zeroE 27)).alloc (.cells #[.int .i64 4, .int .i64 a, .int .i64 0, .slice none 0 0] 27)) [a] (by simp)
    simpa [World.size_alloc] using this
  have S2 := ST.skip (.cells #[.int .i64 a] 3)
  clear ST
  go_wp2_with fail
  refine Calls.mono (impl_numberWords _ _ _ _ _ (ht.ext S2.ext) hri (by omega)) ?_; rintro e w1 ⟨rfl, x1⟩
  have S3 := S2.call x1
  clear S2 x1 hri
  obtain ⟨lc, lf, ls⟩ := S3.cells 0 rfl
  obtain ⟨lc2, lf2, ls2⟩ := S3.cells 1 rfl
  obtain ⟨s1, hs1⟩ : ∃ s1, s1 = wordsN [a] := ⟨_, rfl⟩
  have hl1 : s1.length ≤ 11 := by
    rw [hs1]; unfold wordsN
    split
    · exact words_len [a]
    · simp
  obtain ⟨ok, hok⟩ : ∃ ok, ok = allNum [a] := ⟨_, rfl⟩
  rw [← hs1, ← hok] at E ⊢
  clear hs1 hok
  go_wp2_with fail
  have hsz := size_of_list s1
  go_region
  have S4 := (S3.set4 1 rfl rfl (.int .i64 4) (.int .i64 a) (.int .i64 0) (.slice none 0 0)).drew
  obtain ⟨lcZ, -, -⟩ := S4.cells 1 rfl
  clear hsz lc lf ls lc2 lf2 ls2 S3
  go_wp2_with fail
  exact bodyPost_ret (v := .tuple #[.string (⟨([114, 111, 111, 109] : List UInt8).toArray⟩ ++ ⟨s1.toArray⟩), .agg #[.int .i64 4, .int .i64 a, .int .i64 0, .slice none 0 0], .bool ok]) (by simp [results, Tryd.results60, go_sem, lcZ]) rfl ⟨_, 4, a, 0, none, 0, 0, ok, by rw [strcat], E, S4.ext⟩
set_option maxRecDepth 100000 in
set_option maxHeartbeats 2000000 in
theorem impl_textOfEvent_fuse (a b : Int) (A : Option Addr) (n c : Nat) (l : List Int) (w : World) (ht : Tab w) (h : RI w A n c l) (hne : a ≠ -1) :
    Calls Tryd.prog 60 #[.agg #[.int .i64 5, .int .i64 a, .int .i64 b, .slice A n c]] w (EvOut 5 a b l n w) := by
  have E : Hid (evRes a b n ([102, 117, 115, 101] ++ wordsN [a]) a 0 0 (allNum [a]) = eventText 5 a b l) := by
    show _ = _
    unfold evRes eventText nums wordsN allNum
    have := nil_iff h.len
    cases hq : List.all [a] isNum <;> by_cases h2 : b = 0 <;> by_cases h3 : n = 0 <;> simp [h2, h3, this, hne]
  clear h
  have hb : (a == -1) = false := by simpa using hne
  clear hne
  go_enter Tryd.func60, Tryd.ntmps60
  have ST := ((((St.refl w).alloc #[.int .i64 5, .int .i64 a, .int .i64 b, .slice A n c] 27).alloc zeroE 27).alloc #[.int .i64 5, .int .i64 a, .int .i64 0, .slice none 0 0] 27)
  simp only [World.size_alloc] at ST
  have hri : RI ((((w.alloc (.cells #[.int .i64 5, .int .i64 a, .int .i64 b, .slice A n c] 27)).alloc (.cells zeroE 27)).alloc (.cells #[.int .i64 5, .int .i64 a, .int .i64 0, .slice none 0 0] 27)).alloc (.cells #[.int .i64 a] 3)) (some ⟨w.heap.size + 1 + 1 + 1, 0, none⟩) 1 1 [a] := by
    have := RI.new (((w.alloc (.cells #[.int .i64 5, .int .i64 a, .int .i64 b, .slice A n c] 27)).alloc (.cells zeroE 27)).alloc (.cells #[.int .i64 5, .int .i64 a, .int .i64 0, .slice none 0 0] 27)) [a] (by simp)
    simpa [World.size_alloc] using this
  have S2 := ST.skip (.cells #[.int .i64 a] 3)
  clear ST
  go_wp2_with fail
  refine Calls.mono (impl_numberWords _ _ _ _ _ (ht.ext S2.ext) hri (by omega)) ?_; rintro e w1 ⟨rfl, x1⟩
  have S3 := S2.call x1
  clear S2 x1 hri
  obtain ⟨lc, lf, ls⟩ := S3.cells 0 rfl
  obtain ⟨lc2, lf2, ls2⟩ := S3.cells 1 rfl
  obtain ⟨s1, hs1⟩ : ∃ s1, s1 = wordsN [a] := ⟨_, rfl⟩
  have hl1 : s1.length ≤ 11 := by
    rw [hs1]; unfold wordsN
    split
    · exact words_len [a]
    · simp
  obtain ⟨ok, hok⟩ : ∃ ok, ok = allNum [a] := ⟨_, rfl⟩
  rw [← hs1, ← hok] at E ⊢
  clear hs1 hok
  go_wp2_with fail
  have hsz := size_of_list s1
  go_region
  have S4 := (S3.set4 1 rfl rfl (.int .i64 5) (.int .i64 a) (.int .i64 0) (.slice none 0 0)).drew
  obtain ⟨lcZ, -, -⟩ := S4.cells 1 rfl
  clear hsz lc lf ls lc2 lf2 ls2 S3
  go_wp2_with fail
  exact bodyPost_ret (v := .tuple #[.string (⟨([102, 117, 115, 101] : List UInt8).toArray⟩ ++ ⟨s1.toArray⟩), .agg #[.int .i64 5, .int .i64 a, .int .i64 0, .slice none 0 0], .bool ok]) (by simp [results, Tryd.results60, go_sem, lcZ]) rfl ⟨_, 5, a, 0, none, 0, 0, ok, by rw [strcat], E, S4.ext⟩
set_option maxRecDepth 100000 in
set_option maxHeartbeats 2000000 in
theorem impl_textOfEvent_start (a b : Int) (A : Option Addr) (n c : Nat) (l : List Int) (w : World) (h : RI w A n c l) :
    Calls Tryd.prog 60 #[.agg #[.int .i64 7, .int .i64 a, .int .i64 b, .slice A n c]] w (EvOut 7 a b l n w) := by
  have E : Hid (evRes a b n [115, 116, 97, 114, 116] 0 0 0 true = eventText 7 a b l) := by
    show _ = _
    unfold evRes eventText
    have := nil_iff h.len
    by_cases h1 : a = 0 <;> by_cases h2 : b = 0 <;> by_cases h3 : n = 0 <;> simp [h1, h2, h3, this]
  clear h
  go_enter Tryd.func60, Tryd.ntmps60
  have ST := ((((St.refl w).alloc #[.int .i64 7, .int .i64 a, .int .i64 b, .slice A n c] 27).alloc #[.int .i64 7, .int .i64 0, .int .i64 0, .slice none 0 0] 27).alloc #[.int .i64 7, .int .i64 a, .int .i64 0, .slice none 0 0] 27).skip (.cells #[.int .i64 a] 3)
  simp only [World.size_alloc] at ST
  obtain ⟨lcZ, -, -⟩ := ST.cells 1 rfl
  go_wp2_with fail
  exact bodyPost_ret (v := .tuple #[.string ⟨([115, 116, 97, 114, 116] : List UInt8).toArray⟩, .agg #[.int .i64 7, .int .i64 0, .int .i64 0, .slice none 0 0], .bool true]) (by simp [results, Tryd.results60, go_sem, lcZ]) rfl ⟨_, 7, 0, 0, none, 0, 0, true, rfl, E, ST.ext⟩
set_option maxRecDepth 100000 in
set_option maxHeartbeats 2000000 in
theorem impl_textOfEvent_none (kind a b : Int) (A : Option Addr) (n c : Nat) (l : List Int) (w : World) (h1 : kind ≠ 1) (h2 : kind ≠ 2) (h3 : kind ≠ 3) (h4 : kind ≠ 4) (h5 : kind ≠ 5) (h6 : kind ≠ 6) (h7 : kind ≠ 7) :
    Calls Tryd.prog 60 #[.agg #[.int .i64 kind, .int .i64 a, .int .i64 b, .slice A n c]] w (EvOut kind a b l n w) := by
  have E : Hid (evRes a b n [] 0 0 0 false = eventText kind a b l) := by
    show _ = _
    unfold evRes eventText
    simp [h1, h2, h3, h4, h5, h6, h7]
  have b1 : (kind == 1) = false := by simpa using h1
  have b2 : (kind == 2) = false := by simpa using h2
  have b3 : (kind == 3) = false := by simpa using h3
  have b4 : (kind == 4) = false := by simpa using h4
  have b5 : (kind == 5) = false := by simpa using h5
  have b6 : (kind == 6) = false := by simpa using h6
  have b7 : (kind == 7) = false := by simpa using h7
  clear h1 h2 h3 h4 h5 h6 h7
  go_enter Tryd.func60, Tryd.ntmps60
  have ST := ((((St.refl w).alloc #[.int .i64 kind, .int .i64 a, .int .i64 b, .slice A n c] 27).alloc zeroE 27).alloc #[.int .i64 kind, .int .i64 a, .int .i64 0, .slice none 0 0] 27).skip (.cells #[.int .i64 a] 3)
  simp only [World.size_alloc] at ST
  obtain ⟨lcZ, -, -⟩ := ST.cells 1 rfl
  go_wp2_with fail
  exact bodyPost_ret (v := .tuple #[.string ⟨([] : List UInt8).toArray⟩, .agg zeroE, .bool false]) (by simp [results, Tryd.results60, go_sem, lcZ]) rfl ⟨[], 0, 0, 0, none, 0, 0, false, rfl, E, ST.ext⟩
set_option maxRecDepth 100000 in
set_option maxHeartbeats 2000000 in
theorem impl_textOfEvent_fuse0 (b : Int) (A : Option Addr) (n c : Nat) (l : List Int) (w : World) (h : RI w A n c l) :
    Calls Tryd.prog 60 #[.agg #[.int .i64 5, .int .i64 (-1), .int .i64 b, .slice A n c]] w (EvOut 5 (-1) b l n w) := by
  have E : Hid (evRes (-1) b n [102, 117, 115, 101, 32, 110, 111, 110, 101] (-1) 0 0 true = eventText 5 (-1) b l) := by
    show _ = _
    unfold evRes eventText
    have := nil_iff h.len
    by_cases h2 : b = 0 <;> by_cases h3 : n = 0 <;> simp [h2, h3, this]
  clear h
  go_enter Tryd.func60, Tryd.ntmps60
  have S3 := ((((St.refl w).alloc #[.int .i64 5, .int .i64 (-1), .int .i64 b, .slice A n c] 27).alloc zeroE 27).alloc #[.int .i64 5, .int .i64 (-1), .int .i64 0, .slice none 0 0] 27).skip (.cells #[.int .i64 (-1)] 3)
  simp only [World.size_alloc] at S3
  go_wp2_with fail
  obtain ⟨lc, lf, ls⟩ := S3.cells 0 rfl
  obtain ⟨lc2, lf2, ls2⟩ := S3.cells 1 rfl
  go_region
  have S4 := (((((St.refl w).alloc #[.int .i64 5, .int .i64 (-1), .int .i64 b, .slice A n c] 27).alloc #[.int .i64 5, .int .i64 (-1), .int .i64 0, .slice none 0 0] 27).alloc #[.int .i64 5, .int .i64 (-1), .int .i64 0, .slice none 0 0] 27).skip (.cells #[.int .i64 (-1)] 3)).drew
  clear lc lf ls lc2 lf2 ls2 S3
  go_wp2_with fail
  exact bodyPost_ret (v := .tuple #[.string ⟨([102, 117, 115, 101, 32, 110, 111, 110, 101] : List UInt8).toArray⟩, .agg #[.int .i64 5, .int .i64 (-1), .int .i64 0, .slice none 0 0], .bool true]) (by simp [results, Tryd.results60, go_sem]) rfl ⟨_, 5, -1, 0, none, 0, 0, true, rfl, E, S4.ext⟩
end Go.Proofs.YtohjjhoobikioaaDoor
