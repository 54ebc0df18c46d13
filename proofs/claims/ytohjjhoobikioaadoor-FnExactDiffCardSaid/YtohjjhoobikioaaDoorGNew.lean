/-
  GridNew of both packages.
-/
import Derived.Test.YtohjjhoobikioaaDoorGBox
namespace Go.Proofs.YtohjjhoobikioaaDoor
open Go.RowKit

def newOk (w h : Int) : Prop := 2 ≤ w ∧ w ≤ 200 ∧ 1 ≤ h ∧ h ≤ 200 ∧ w * h ≤ 8000
instance (w h : Int) : Decidable (newOk w h) := by unfold newOk; infer_instance

theorem row6 {w : World} {g : Nat} {T : TypeId} {a b c d e f : Value} (h : w.heap[g]? = some (.cells #[a, b, c, d, e, f] T (0, 0))) :
    w.cell? ⟨g, 0, none⟩ = some a ∧ w.cell? ⟨g, 1, none⟩ = some b ∧ w.cell? ⟨g, 2, none⟩ = some c ∧ w.cell? ⟨g, 3, none⟩ = some d ∧ w.cell? ⟨g, 4, none⟩ = some e ∧ w.cell? ⟨g, 5, none⟩ = some f ∧ (∀ i, w.frozen? ⟨g, i, none⟩ = false) ∧ g < w.heap.size := by
  refine ⟨?_, ?_, ?_, ?_, ?_, ?_, fun i => frozen_of_row w g i _ _ h, (Array.getElem?_eq_some_iff.1 h).1⟩ <;> (rw [cell_of_row _ g _ _ _ (0, 0) h]; rfl)
theorem heap_ext {w w' : World} {g : Nat} {o : Obj} (h : w.heap[g]? = some o) (x : Ext w w') : w'.heap[g]? = some o := (Below.block x g (Array.getElem?_eq_some_iff.1 h).1).trans h
theorem heap_grown {w w' : World} {g : Nat} {o : Obj} {row : Option Nat} (h : w.heap[g]? = some o) (x : w.grownBy w' row) (hne : some g ≠ row) : w'.heap[g]? = some o := (x.block g (Array.getElem?_eq_some_iff.1 h).1 hne).trans h
theorem heap_far {w : World} {g : Nat} {o : Obj} {a : Addr} (h : w.heap[g]? = some o) (hne : g ≠ a.block) (u : Value) : (w.setCell a u).heap[g]? = some o := (Below.heap_setCell w a u g hne).trans h

set_option maxRecDepth 100000 in
set_option maxHeartbeats 2000000 in
theorem impl_GridNew_no (w hh : Int) (W : World) (hno : ¬ newOk w hh) :
    Calls Tryd.prog 80 #[.int .i64 w, .int .i64 hh] W fun e w' => e = .returned (.tuple #[.agg #[.int .i64 0, .int .i64 0, .slice none 0 0, .int .i64 0, .int .i64 0, .bool false], .bool false]) ∧ Ext W w' := by
  cases h1 : inB w 2 200
  · clear hno
    go_enter Tryd.func80, Tryd.ntmps80
    go_wp2_with (go_at_call 97; refine (impl_in _ _ _ _).mono ?_; rintro e w' ⟨rfl, rfl⟩)
    refine bodyPost_ret (v := .tuple #[.agg #[.int .i64 0, .int .i64 0, .slice none 0 0, .int .i64 0, .int .i64 0, .bool false], .bool false]) (by simp [results, Tryd.results80, go_sem]) rfl ⟨rfl, (Ext.refl _).alloc _⟩
  cases h2 : inB hh 1 200
  · clear hno
    go_enter Tryd.func80, Tryd.ntmps80
    go_wp2_with (go_at_call 97; refine (impl_in _ _ _ _).mono ?_; rintro e w' ⟨rfl, rfl⟩)
    refine bodyPost_ret (v := .tuple #[.agg #[.int .i64 0, .int .i64 0, .slice none 0 0, .int .i64 0, .int .i64 0, .bool false], .bool false]) (by simp [results, Tryd.results80, go_sem]) rfl ⟨rfl, (Ext.refl _).alloc _⟩
  obtain ⟨a1, a2⟩ := inB_iff.1 h1
  obtain ⟨a3, a4⟩ := inB_iff.1 h2
  obtain ⟨p1, p2⟩ := prod_bounds a1 a2 a3 a4
  have h3 : 8000 < w * hh := by unfold newOk at hno; omega
  clear hno
  go_enter Tryd.func80, Tryd.ntmps80
  go_wp2_with (go_at_call 97; refine (impl_in _ _ _ _).mono ?_; rintro e w' ⟨rfl, rfl⟩)
  refine bodyPost_ret (v := .tuple #[.agg #[.int .i64 0, .int .i64 0, .slice none 0 0, .int .i64 0, .int .i64 0, .bool false], .bool false]) (by simp [results, Tryd.results80, go_sem]) rfl ⟨rfl, (Ext.refl _).alloc _⟩

set_option maxRecDepth 100000 in
set_option maxHeartbeats 4000000 in
theorem impl_GridNew_yes (w hh : Int) (m : Nat) (W : World) (hok : newOk w hh) (hm : (m : Int) = w * hh) :
    Calls Tryd.prog 80 #[.int .i64 w, .int .i64 hh] W fun e w' => ∃ v, e = .returned (.tuple #[.agg #[.int .i64 w, .int .i64 hh, v, .int .i64 0, .int .i64 0, .bool false], .bool true]) ∧ OwnI w' W.heap.size v (List.replicate m 32) ∧ Ext W w' := by
  obtain ⟨a1, a2, a3, a4, a5⟩ := hok
  obtain ⟨p1, p2⟩ := prod_bounds a1 a2 a3 a4
  have h1 : inB w 2 200 = true := inB_iff.2 ⟨a1, a2⟩
  have h2 : inB hh 1 200 = true := inB_iff.2 ⟨a3, a4⟩
  have Hm := Lib.hid hm; clear hm
  go_enter Tryd.func80, Tryd.ntmps80
  go_wp2_with (go_at_call 97; refine (impl_in _ _ _ _).mono ?_; rintro e w' ⟨rfl, rfl⟩)
  go_loopw [28] (fun vi wr => ∃ (k : Nat) (v : Value), k ≤ m ∧ vi = .int .i64 k ∧ wr.heap[W.heap.size]? = some (.cells #[.int .i64 0, .int .i64 0, .slice none 0 0, .int .i64 0, .int .i64 0, .bool false] 40 (0, 0)) ∧
    wr.heap[W.heap.size + 1]? = some (.cells #[.int .i64 w, .int .i64 hh, v, .int .i64 0, .int .i64 0, .bool false] 40 (0, 0)) ∧ OwnI wr (W.heap.size + 2) v (List.replicate k 32) ∧ Ext W wr) (fun vi _ => m - (intOf vi).toNat)
  case atStart =>
    refine ⟨0, .slice none 0 0, by omega, rfl, ?_, ?_, OwnI.nil _ _, ((Ext.refl W).alloc _).alloc _⟩
    · exact heap_ext (heap_alloc_new W _) ((Ext.refl _).alloc _)
    · have := heap_alloc_new (W.alloc (.cells #[.int .i64 0, .int .i64 0, .slice none 0 0, .int .i64 0, .int .i64 0, .bool false] 40)) (.cells #[.int .i64 w, .int .i64 hh, .slice none 0 0, .int .i64 0, .int .i64 0, .bool false] 40)
      rw [World.size_alloc] at this
      exact this
  case round =>
    obtain ⟨k, v, hk, rfl, hb0, hb1, hown, hx⟩ := hrel
    obtain ⟨z0, z1, z2, z3, z4, z5, zf, zl⟩ := row6 hb0
    obtain ⟨q0, q1, q2, q3, q4, q5, qf, ql⟩ := row6 hb1
    have Hb0 := Lib.hid hb0; have Hb1 := Lib.hid hb1; clear hb0 hb1
    have hmk : (m : Int) = w * hh := Hm.out
    by_cases hlt : k < m
    · have hlt' : (k : Int) < w * hh := by omega
      clear hmk
      go_wp2_with (at_builtin; refine wp_appI rfl _ _ rfl rfl (hown.alloc _) rfl (RI.new _ [32] (by simp)) (by simp; have := Hm.out; omega) (by simp; omega) ?_)
      intro v1 w1 own1 g1 _
      obtain ⟨A1, c1, rfl, -⟩ := own1.form
      have el : (List.replicate k (32 : Int) ++ [32] : List Int).length = k + 1 := by simp
      rw [el] at own1
      clear el
      have hg := fun (k : Nat) (hk : v.ownBlock = some k) => (hown.lt k hk).1
      have hb0' := heap_grown (heap_ext Hb0.out ((Ext.refl wr).alloc (.cells #[.int .i64 32] 3))) g1 (fun e => by have := hg _ e.symm; omega)
      have hb1' := heap_grown (heap_ext Hb1.out ((Ext.refl wr).alloc (.cells #[.int .i64 32] 3))) g1 (fun e => by have := hg _ e.symm; omega)
      have hx1 := Below.grown (hx.alloc (.cells #[.int .i64 32] 3)) g1 (by simp; omega) (fun k hk => by have := hg k hk; omega)
      clear z0 z1 z2 z3 z4 z5 zf q0 q1 q2 q3 q4 q5 qf
      obtain ⟨q0, q1, q2, q3, q4, q5, qf, ql1⟩ := row6 hb1'
      have Hb0 := Lib.hid hb0'; have Hb1 := Lib.hid hb1'; clear hb0' hb1'
      go_wp2_with fail
      go_roundw
      case rel =>
        refine ⟨k + 1, .slice A1 (k + 1) c1, by omega, by go_num, heap_far Hb0.out (by simp) _, ?_, ?_, Ext.set hx1 (by simp) _⟩
        · exact heap_setCell_same w1 (W.heap.size + 1) 2 _ _ _ Hb1.out
        · have e : List.replicate (k + 1) (32 : Int) = List.replicate k 32 ++ [32] := by rw [List.replicate_succ']
          rw [e]
          exact OwnI.off own1 (by simp) _
      case measure => simp [intOf]; have := Hm.out; omega
    · have hlt' : ¬ (k : Int) < w * hh := by omega
      obtain rfl : k = m := by omega
      clear hmk hlt
      obtain ⟨A1, c1, rfl, r1⟩ := hown.form
      rw [List.length_replicate] at hown
      go_wp2_with fail
      refine bodyPost_ret (v := .tuple #[.agg #[.int .i64 w, .int .i64 hh, .slice A1 k c1, .int .i64 0, .int .i64 0, .bool false], .bool true]) (by simp [results, Tryd.results80, go_sem, z0, z1, z2, z3, z4, z5]) rfl ⟨_, rfl, ?_, ?_⟩
      · refine OwnI.mono (B := W.heap.size + 2) ?_ (by omega)
        repeat (with_reducible refine OwnI.off ?_ (by dsimp only; omega) _)
        exact hown
      · repeat (with_reducible refine Ext.set ?_ (by dsimp only; omega) _)
        exact hx

set_option maxRecDepth 100000 in
set_option maxHeartbeats 2000000 in
theorem spec_GridNew_no (w hh : Int) (W : World) (hno : ¬ newOk w hh) :
    Calls Tryd.prog 66 #[.int .i64 w, .int .i64 hh] W fun e w' => e = .returned (.tuple #[.agg #[.int .i64 0, .int .i64 0, .slice none 0 0, .int .i64 0, .int .i64 0, .bool false], .bool false]) ∧ Ext W w' := by
  by_cases h1 : w < 2
  · clear hno
    go_enter Tryd.func66, Tryd.ntmps66
    go_wp2_with fail
    refine bodyPost_ret (v := .tuple #[.agg #[.int .i64 0, .int .i64 0, .slice none 0 0, .int .i64 0, .int .i64 0, .bool false], .bool false]) (by simp [results, Tryd.results66, go_sem]) rfl ⟨rfl, (Ext.refl _).alloc _⟩
  by_cases h2 : 200 < w
  · clear hno
    go_enter Tryd.func66, Tryd.ntmps66
    go_wp2_with fail
    refine bodyPost_ret (v := .tuple #[.agg #[.int .i64 0, .int .i64 0, .slice none 0 0, .int .i64 0, .int .i64 0, .bool false], .bool false]) (by simp [results, Tryd.results66, go_sem]) rfl ⟨rfl, (Ext.refl _).alloc _⟩
  by_cases h3 : hh < 1
  · clear hno
    go_enter Tryd.func66, Tryd.ntmps66
    go_wp2_with fail
    refine bodyPost_ret (v := .tuple #[.agg #[.int .i64 0, .int .i64 0, .slice none 0 0, .int .i64 0, .int .i64 0, .bool false], .bool false]) (by simp [results, Tryd.results66, go_sem]) rfl ⟨rfl, (Ext.refl _).alloc _⟩
  by_cases h4 : 200 < hh
  · clear hno
    go_enter Tryd.func66, Tryd.ntmps66
    go_wp2_with fail
    refine bodyPost_ret (v := .tuple #[.agg #[.int .i64 0, .int .i64 0, .slice none 0 0, .int .i64 0, .int .i64 0, .bool false], .bool false]) (by simp [results, Tryd.results66, go_sem]) rfl ⟨rfl, (Ext.refl _).alloc _⟩
  obtain ⟨p1, p2⟩ := prod_bounds (W := w) (H := hh) (by omega) (by omega) (by omega) (by omega)
  have h5 : 8000 < w * hh := by unfold newOk at hno; omega
  clear hno
  go_enter Tryd.func66, Tryd.ntmps66
  go_wp2_with fail
  refine bodyPost_ret (v := .tuple #[.agg #[.int .i64 0, .int .i64 0, .slice none 0 0, .int .i64 0, .int .i64 0, .bool false], .bool false]) (by simp [results, Tryd.results66, go_sem]) rfl ⟨rfl, (Ext.refl _).alloc _⟩

set_option maxRecDepth 100000 in
set_option maxHeartbeats 4000000 in
theorem spec_GridNew_yes (w hh : Int) (m : Nat) (W : World) (hok : newOk w hh) (hm : (m : Int) = w * hh) :
    Calls Tryd.prog 66 #[.int .i64 w, .int .i64 hh] W fun e w' => ∃ v, e = .returned (.tuple #[.agg #[.int .i64 w, .int .i64 hh, v, .int .i64 0, .int .i64 0, .bool false], .bool true]) ∧ OwnI w' W.heap.size v (List.replicate m 32) ∧ Ext W w' := by
  obtain ⟨a1, a2, a3, a4, a5⟩ := hok
  obtain ⟨p1, p2⟩ := prod_bounds a1 a2 a3 a4
  have Hm := Lib.hid hm; clear hm
  go_enter Tryd.func66, Tryd.ntmps66
  go_wp2_with fail
  go_loopw [7] (fun vi wr => ∃ (k : Nat) (v : Value), k ≤ m ∧ vi = .int .i64 k ∧ wr.heap[W.heap.size]? = some (.cells #[.int .i64 0, .int .i64 0, .slice none 0 0, .int .i64 0, .int .i64 0, .bool false] 40 (0, 0)) ∧
    wr.heap[W.heap.size + 1]? = some (.cells #[.int .i64 w, .int .i64 hh, v, .int .i64 0, .int .i64 0, .bool false] 40 (0, 0)) ∧ OwnI wr (W.heap.size + 2) v (List.replicate k 32) ∧ Ext W wr) (fun vi _ => m - (intOf vi).toNat)
  case atStart =>
    refine ⟨0, .slice none 0 0, by omega, rfl, ?_, ?_, OwnI.nil _ _, ((Ext.refl W).alloc _).alloc _⟩
    · exact heap_ext (heap_alloc_new W _) ((Ext.refl _).alloc _)
    · have := heap_alloc_new (W.alloc (.cells #[.int .i64 0, .int .i64 0, .slice none 0 0, .int .i64 0, .int .i64 0, .bool false] 40)) (.cells #[.int .i64 w, .int .i64 hh, .slice none 0 0, .int .i64 0, .int .i64 0, .bool false] 40)
      rw [World.size_alloc] at this
      exact this
  case round =>
    obtain ⟨k, v, hk, rfl, hb0, hb1, hown, hx⟩ := hrel
    obtain ⟨z0, z1, z2, z3, z4, z5, zf, zl⟩ := row6 hb0
    obtain ⟨q0, q1, q2, q3, q4, q5, qf, ql⟩ := row6 hb1
    have Hb0 := Lib.hid hb0; have Hb1 := Lib.hid hb1; clear hb0 hb1
    have hmk : (m : Int) = w * hh := Hm.out
    by_cases hlt : k < m
    · have hlt' : (k : Int) < w * hh := by omega
      clear hmk
      go_wp2_with (at_builtin; refine wp_appI rfl _ _ rfl rfl (hown.alloc _) rfl (RI.new _ [32] (by simp)) (by simp; have := Hm.out; omega) (by simp; omega) ?_)
      intro v1 w1 own1 g1 _
      obtain ⟨A1, c1, rfl, -⟩ := own1.form
      have el : (List.replicate k (32 : Int) ++ [32] : List Int).length = k + 1 := by simp
      rw [el] at own1
      clear el
      have hg := fun (k : Nat) (hk : v.ownBlock = some k) => (hown.lt k hk).1
      have hb0' := heap_grown (heap_ext Hb0.out ((Ext.refl wr).alloc (.cells #[.int .i64 32] 3))) g1 (fun e => by have := hg _ e.symm; omega)
      have hb1' := heap_grown (heap_ext Hb1.out ((Ext.refl wr).alloc (.cells #[.int .i64 32] 3))) g1 (fun e => by have := hg _ e.symm; omega)
      have hx1 := Below.grown (hx.alloc (.cells #[.int .i64 32] 3)) g1 (by simp; omega) (fun k hk => by have := hg k hk; omega)
      clear z0 z1 z2 z3 z4 z5 zf q0 q1 q2 q3 q4 q5 qf
      obtain ⟨q0, q1, q2, q3, q4, q5, qf, ql1⟩ := row6 hb1'
      have Hb0 := Lib.hid hb0'; have Hb1 := Lib.hid hb1'; clear hb0' hb1'
      go_wp2_with fail
      go_roundw
      case rel =>
        refine ⟨k + 1, .slice A1 (k + 1) c1, by omega, by go_num, heap_far Hb0.out (by simp) _, ?_, ?_, Ext.set hx1 (by simp) _⟩
        · exact heap_setCell_same w1 (W.heap.size + 1) 2 _ _ _ Hb1.out
        · have e : List.replicate (k + 1) (32 : Int) = List.replicate k 32 ++ [32] := by rw [List.replicate_succ']
          rw [e]
          exact OwnI.off own1 (by simp) _
      case measure => simp [intOf]; have := Hm.out; omega
    · have hlt' : ¬ (k : Int) < w * hh := by omega
      obtain rfl : k = m := by omega
      clear hmk hlt
      obtain ⟨A1, c1, rfl, r1⟩ := hown.form
      rw [List.length_replicate] at hown
      go_wp2_with fail
      refine bodyPost_ret (v := .tuple #[.agg #[.int .i64 w, .int .i64 hh, .slice A1 k c1, .int .i64 0, .int .i64 0, .bool false], .bool true]) (by simp [results, Tryd.results66, go_sem, z0, z1, z2, z3, z4, z5]) rfl ⟨_, rfl, ?_, ?_⟩
      · refine OwnI.mono (B := W.heap.size + 2) ?_ (by omega)
        repeat (with_reducible refine OwnI.off ?_ (by dsimp only; omega) _)
        exact hown
      · repeat (with_reducible refine Ext.set ?_ (by dsimp only; omega) _)
        exact hx
end Go.Proofs.YtohjjhoobikioaaDoor
