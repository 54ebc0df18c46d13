/-
  Of several texts: Help, GHelp, GBox, HelpB, GNew, PHelp, LawKit.
-/
import Derived.Test.YtohjjhoobikioaaDoorBase
import Derived.Test.YtohjjhoobikioaaDoorGrid
import Derived.Deep.RegionHeld3
import Derived.Test.YtohjjhoobikioaaDoorSep
/-! The laws' helpers on slices of ints: eqIntS, sameInts, toIntS, markIntS, heldIntS. -/
namespace Go.Proofs.YtohjjhoobikioaaDoor
open Go.RowKit

theorem eq_of_getD {l m : List Int} (hl : l.length = m.length) (h : ∀ i, i < l.length → l[i]?.getD 0 = m[i]?.getD 0) : l = m := by
  apply List.ext_getElem hl
  intro i h1 h2
  have := h i h1
  simpa [h1, h2] using this

theorem laws_eqIntS (A : Option Addr) (n c : Nat) (l : List Int) (A' : Option Addr) (n' c' : Nat) (l' : List Int) (W : World) (h : RI W A n c l) (h' : RI W A' n' c' l') :
    Calls Tryd.prog 61 #[.slice A n c, .slice A' n' c'] W fun e w' => e = .returned (.bool (decide (l = l'))) ∧ Ext W w' := by
  have hn := h.nmax
  by_cases hnn : n = n'
  case neg =>
    have hb : ((n : Int) == (n' : Int)) = false := by simp; omega
    go_enter Tryd.func61, Tryd.ntmps61
    go_wp2_with fail
    go_ret
    exact ⟨ret_b (by rw [eq_comm, decide_eq_false_iff_not]; intro e; subst e; exact hnn (h.len.symm.trans h'.len)), Ext.refl _⟩
  subst hnn
  have hll : l.length = l'.length := by rw [h.len, h'.len]
  go_enter Tryd.func61, Tryd.ntmps61
  go_wp2_with fail
  go_loopw [5] (fun vi wr => ∃ k : Nat, k ≤ n ∧ vi = .int .i64 k ∧ (∀ i, i < k → l[i]?.getD 0 = l'[i]?.getD 0) ∧ Ext W wr) (fun vi _ => n - (intOf vi).toNat)
  case atStart => exact ⟨0, by omega, rfl, fun i hi => absurd hi (by omega), Ext.refl _⟩
  case round =>
    obtain ⟨k, hk, rfl, hp, hx⟩ := hrel
    have Hp := Lib.hid hp; clear hp
    by_cases hlt : k < n
    · obtain ⟨b, o, rfl, hcell⟩ := (h.ext hx).at1 hlt
      obtain ⟨b', o', rfl, hcell'⟩ := (h'.ext hx).at1 hlt
      by_cases hq : l[k]?.getD 0 = l'[k]?.getD 0
      · have hqb : (l[k]?.getD 0 == l'[k]?.getD 0) = true := by simp [hq]
        go_wp2_with fail
        go_quiet (fail)
        go_wp2_with fail
        go_roundw
        case rel =>
          refine ⟨k + 1, by omega, by go_num, fun i hi => ?_, hx.drewN _⟩
          rcases Nat.lt_or_ge i k with h1 | h1
          · exact Hp.out i h1
          · obtain rfl : i = k := by omega
            exact hq
        case measure => simp [intOf]; omega
      · go_wp2_with fail
        go_quiet (fail)
        go_wp2_with fail
        go_ret
        exact ⟨ret_b (by rw [eq_comm, decide_eq_false_iff_not]; intro e; subst e; exact hq rfl), hx.drewN _⟩
    · go_wp2_with fail
      go_ret
      exact ⟨ret_b (by rw [eq_comm, decide_eq_true_iff]; exact eq_of_getD hll fun i hi => Hp.out i (by rw [h.len] at hi; omega)), hx⟩

set_option maxHeartbeats 400000 in
theorem laws_toIntS (A : Option Addr) (n c : Nat) (l : List Int) (W : World) (h : RI W A n c l) (hs : n ≤ 4294967296) :
    Calls Tryd.prog 59 #[.slice A n c] W fun e w' => ∃ v, e = .returned v ∧ OwnI w' W.heap.size v l ∧ Ext W w' := by
  have hn := h.nmax
  go_enter Tryd.func59, Tryd.ntmps59
  go_wp2_with (at_make; refine wp_makeI rfl _ _ rfl (n := n) rfl rfl (by omega) (Nat.le_refl _) ?_)
  intro w1 hown1 hg1
  have hx1 : Ext W w1 := (Ext.refl W).grown (v := .slice none 0 0) (OwnI.nil _ _) hg1
  have hW := hx1.size
  have hex := h.ext hx1
  go_wp2_with fail
  go_loopw [4] (fun vi wr => ∃ k : Nat, k ≤ n ∧ vi = .int .i64 k ∧ OwnI wr W.heap.size (.slice (some ⟨W.heap.size, 0, none⟩) n n) (l.take k ++ List.replicate (n - k) 0) ∧ Ext W wr) (fun vi _ => n - (intOf vi).toNat)
  case atStart => exact ⟨0, by omega, rfl, by simpa using hown1, hx1⟩
  case round =>
    obtain ⟨k, hk, rfl, hown, hx⟩ := hrel
    have hll : (l.take k ++ List.replicate (n - k) 0).length = n := by simp [h.len]; omega
    by_cases hlt : k < n
    · obtain ⟨b, o, rfl, hcell⟩ := (h.ext hx).at1 hlt
      have hc2 := hown.cell (k := k) (by omega)
      have hf2 := hown.frozen k
      have hset := hown.set k (l[k]?.getD 0)
      have Hl := Lib.hid hll; clear hll
      go_wp2_with fail
      go_roundw
      case rel =>
        refine ⟨k + 1, by omega, by go_num, ?_, hx.grown hown hset.2⟩
        have e : (l.take k ++ List.replicate (n - k) 0).set k (l[k]?.getD 0) = l.take (k + 1) ++ List.replicate (n - (k + 1)) 0 := by
          have hk' : k < l.length := by rw [h.len]; exact hlt
          have e1 : (l.take k).length = k := by simp; omega
          rw [List.set_append, if_neg (by omega), e1, Nat.sub_self, take_snoc hk', show n - k = (n - (k + 1)) + 1 by omega, List.replicate_succ]
          simp
        rw [← e]
        exact hset.1
      case measure => simp [intOf]; omega
    · go_wp2_with fail
      go_ret
      have e : l.take k ++ List.replicate (n - k) 0 = l := by rw [show n - k = 0 by omega, List.replicate_zero, List.append_nil, List.take_of_length_le (by rw [h.len]; omega)]
      rw [e] at hown
      exact ⟨_, rfl, hown, hx⟩

/-- the marks k, k+1, .. -/
def marks (k : Int) (n : Nat) : List Int := (List.range n).map fun (i : Nat) => k + (i : Int)
theorem marks_get {k : Int} {n i : Nat} (h : i < n) : (marks k n)[i]?.getD 0 = k + i := by simp [marks, h]
theorem marks_len (k : Int) (n : Nat) : (marks k n).length = n := by simp [marks]

set_option maxHeartbeats 400000 in
theorem laws_markIntS (v : Value) (l : List Int) (B : Nat) (q : Int) (W : World) (h : OwnI W B v l) (hq0 : 0 ≤ q) (hq : q ≤ 4611686018427387904) (hs : l.length ≤ 4294967296) :
    Calls Tryd.prog 79 #[v, .int .i64 q] W fun e w' => e = .returned (.int .i64 (q + l.length)) ∧ OwnI w' B v (marks q l.length) ∧ W.grownBy w' v.ownBlock := by
  rcases h.shape with ⟨rfl, rfl⟩ | ⟨g, c, rfl, hBg, hgl, hc, hcm⟩
  · go_enter Tryd.func79, Tryd.ntmps79
    go_wp2_with fail
    go_rounds 1
    go_ret
    exact ⟨ret_i (by simp), h, World.grownBy.refl _ _⟩
  · obtain ⟨n, hn⟩ : ∃ n, n = l.length := ⟨_, rfl⟩
    rw [← hn] at h hs hc ⊢
    have Hn := Lib.hid hn; clear hn
    go_enter Tryd.func79, Tryd.ntmps79
    go_wp2_with fail
    go_loopw [1, 5] (fun vq vi wr => ∃ k : Nat, k ≤ n ∧ vi = .int .i64 k ∧ vq = .int .i64 (q + k) ∧ OwnI wr B (.slice (some ⟨g, 0, none⟩) n c) (marks q k ++ l.drop k) ∧ W.grownBy wr (some g)) (fun _ vi _ => n - (intOf vi).toNat)
    case atStart => exact ⟨0, by omega, rfl, by go_num, by simpa [marks] using h, World.grownBy.refl _ _⟩
    case round =>
      obtain ⟨k, hk, rfl, rfl, hown, hx⟩ := hrel
      by_cases hlt : k < n
      · have hc2 := hown.cell (k := k) (by rw [List.length_append, marks_len, List.length_drop, ← Hn.out]; omega)
        have hf2 := hown.frozen k
        have hset := hown.set k (q + k)
        go_wp2_with fail
        go_roundw
        case rel =>
          refine ⟨k + 1, by omega, by go_num, by go_num, ?_, hx.trans hset.2⟩
          have e : (marks q k ++ l.drop k).set k (q + k) = marks q (k + 1) ++ l.drop (k + 1) := by
            rw [List.set_append, if_neg (by rw [marks_len]; omega), marks_len, Nat.sub_self, List.drop_eq_getElem_cons (by rw [← Hn.out]; exact hlt), List.set_cons_zero]
            unfold marks
            rw [List.range_succ, List.map_append, List.append_assoc]
            rfl
          rw [← e]
          exact hset.1
        case measure => simp [intOf]; omega
      · go_wp2_with fail
        go_ret
        obtain rfl : k = n := by omega
        have e : marks q k ++ l.drop k = marks q k := by rw [List.drop_of_length_le (by rw [← Hn.out]; omega), List.append_nil]
        rw [e] at hown
        exact ⟨rfl, hown, hx⟩

theorem laws_heldIntS (A : Option Addr) (n c : Nat) (q : Int) (W : World) (h : RI W A n c (marks q n)) (hq0 : 0 ≤ q) (hq : q ≤ 4611686018427387904) (hs : n ≤ 4294967296) :
    Calls Tryd.prog 124 #[.slice A n c, .int .i64 q] W fun e w' => e = .returned (.int .i64 (q + n)) ∧ Ext W w' := by
  go_enter Tryd.func124, Tryd.ntmps124
  go_wp2_with fail
  go_loopw [1, 5] (fun vq vi wr => ∃ k : Nat, k ≤ n ∧ vi = .int .i64 k ∧ vq = .int .i64 (q + k) ∧ Ext W wr) (fun _ vi _ => n - (intOf vi).toNat)
  case atStart => exact ⟨0, by omega, rfl, by go_num, Ext.refl _⟩
  case round =>
    obtain ⟨k, hk, rfl, rfl, hx⟩ := hrel
    by_cases hlt : k < n
    · obtain ⟨b, o, rfl, hcell⟩ := (h.ext hx).at1 hlt
      rw [List.getD_eq_getElem?_getD, marks_get hlt] at hcell
      go_wp2_with fail
      go_roundw
      case rel => exact ⟨k + 1, by omega, by go_num, by go_num, hx⟩
      case measure => simp [intOf]; omega
    · go_wp2_with fail
      go_ret
      obtain rfl : k = n := by omega
      exact ⟨rfl, hx⟩
end Go.Proofs.YtohjjhoobikioaaDoor
/-! The laws' helpers on grids: szIntS, szGrid, toGrid, eqGrid. -/
namespace Go.Proofs.YtohjjhoobikioaaDoor
open Go.RowKit

theorem OwnI.get {w : World} {B : Nat} {v : Value} {l : List Int} (h : OwnI w B v l) {A : Option Addr} {n c : Nat} (hv : v = .slice A n c) : RI w A n c l := by
  obtain ⟨A', c', e, r⟩ := h.form
  rw [hv] at e
  injection e with e1 e2 e3
  subst e1; subst e2; subst e3
  exact r

theorem OwnI.off {w : World} {B : Nat} {v : Value} {l : List Int} (h : OwnI w B v l) {a : Addr} (ha : a.block < B) (u : Value) : OwnI (w.setCell a u) B v l :=
  h.kept (grown_setCell w a u) (by
    rcases hv : v.ownBlock with _ | k
    · exact .inl rfl
    · exact .inr (by have := (h.lt k hv).1; simp; omega))
theorem Ext.set {W w : World} (h : Ext W w) {a : Addr} (ha : W.heap.size ≤ a.block) (u : Value) : Ext W (w.setCell a u) := Below.setCell h ha u

/-- what is left of the size -/
def szN (left : Int) (n : Nat) : Int := if left < n then -1 else left - n
theorem szN_neg {left : Int} {n : Nat} (h : left < n) : szN left n = -1 := by unfold szN; rw [if_pos h]
theorem szN_pos {left : Int} {n : Nat} (h : ¬ left < n) : szN left n = left - n := by unfold szN; rw [if_neg h]
theorem szN_cases (left : Int) (n : Nat) : (left < n ∧ szN left n = -1) ∨ (¬ left < n ∧ szN left n = left - n) := by
  by_cases h : left < n
  · exact .inl ⟨h, szN_neg h⟩
  · exact .inr ⟨h, szN_pos h⟩

theorem laws_szIntS (A : Option Addr) (n c : Nat) (left : Int) (w : World) (h0 : -1 ≤ left) (h1 : left ≤ 1048576) (hn : n ≤ 9223372036854775807) :
    Calls Tryd.prog 56 #[.slice A n c, .int .i64 left] w fun e w' => e = .returned (.int .i64 (szN left n)) ∧ Ext w w' := by
  by_cases h : left < n
  · rw [szN_neg h]
    go_enter Tryd.func56, Tryd.ntmps56
    go_wp2_with fail
    go_ret
    exact ⟨rfl, Ext.refl _⟩
  · rw [szN_pos h]
    go_enter Tryd.func56, Tryd.ntmps56
    go_wp2_with fail
    go_ret
    exact ⟨rfl, Ext.refl _⟩

set_option maxRecDepth 100000 in
theorem laws_szGrid (W H X Y : Int) (R : Bool) (A : Option Addr) (n c : Nat) (left : Int) (w : World) (h0 : -1 ≤ left) (h1 : left ≤ 1048576) (hn : n ≤ 9223372036854775807) :
    Calls Tryd.prog 26 #[.agg #[.int .i64 W, .int .i64 H, .slice A n c, .int .i64 X, .int .i64 Y, .bool R], .int .i64 left] w fun e w' => e = .returned (.int .i64 (szN left n)) ∧ Ext w w' := by
  go_enter Tryd.func26, Tryd.ntmps26
  go_wp2_with fail
  refine (laws_szIntS A n c left _ h0 h1 hn).mono ?_; rintro e w1 ⟨rfl, x1⟩
  rcases szN_cases left n with ⟨h, e⟩ | ⟨h, e⟩ <;> rw [e] <;> clear e
  · go_wp2_with fail
    go_ret
    exact ⟨ret_i (szN_neg h).symm, ((Ext.refl w).alloc _).trans x1⟩
  · go_wp2_with fail
    go_ret
    exact ⟨ret_i (szN_pos (by omega)).symm, ((Ext.refl w).alloc _).trans x1⟩

set_option maxRecDepth 100000 in
set_option maxHeartbeats 1000000 in
theorem laws_toGrid (W H X Y : Int) (R : Bool) (C : List Int) (A : Option Addr) (n c : Nat) (w : World) (hC : RI w A n c C) (hs : n ≤ 4294967296) :
    Calls Tryd.prog 28 #[.agg #[.int .i64 W, .int .i64 H, .slice A n c, .int .i64 X, .int .i64 Y, .bool R]] w fun e w' =>
      ∃ v, e = .returned (.agg #[.int .i64 W, .int .i64 H, v, .int .i64 X, .int .i64 Y, .bool R]) ∧ OwnI w' w.heap.size v C ∧ Ext w w' := by
  go_enter Tryd.func28, Tryd.ntmps28
  go_wp2_with fail
  refine (laws_toIntS A n c C _ (hC.ext ((((Ext.refl w).alloc _).alloc _).alloc _)) hs).mono ?_; rintro e w1 ⟨v, rfl, own1, x1⟩
  have X1 := ((((Ext.refl w).alloc _).alloc _).alloc _).trans x1
  simp only [World.size_alloc] at own1
  obtain ⟨A1, c1, rfl, r1⟩ := own1.form
  obtain ⟨lc, lf, ls⟩ := x1.look
  go_wp2_with fail
  refine bodyPost_ret (v := .agg #[.int .i64 W, .int .i64 H, .slice A1 C.length c1, .int .i64 X, .int .i64 Y, .bool R]) (by simp [results, Tryd.results28, go_sem, lc]) rfl ⟨_, rfl, ?_, ?_⟩
  · refine OwnI.mono (B := w.heap.size + 1 + 1 + 1) ?_ (by omega)
    repeat (with_reducible refine OwnI.off ?_ (by dsimp only; omega) _)
    exact own1
  · repeat (with_reducible refine Ext.set ?_ (by dsimp only; omega) _)
    exact X1

set_option maxRecDepth 100000 in
set_option maxHeartbeats 1000000 in
theorem laws_eqGrid (W H X Y : Int) (R : Bool) (C : List Int) (A A' : Option Addr) (n c n' c' : Nat) (w : World) (hC : RI w A n c C) (hC' : RI w A' n' c' C) :
    Calls Tryd.prog 30 #[.agg #[.int .i64 W, .int .i64 H, .slice A n c, .int .i64 X, .int .i64 Y, .bool R], .agg #[.int .i64 W, .int .i64 H, .slice A' n' c', .int .i64 X, .int .i64 Y, .bool R]] w fun e w' =>
      e = .returned (.bool true) ∧ Ext w w' := by
  have X0 := (((Ext.refl w).alloc (.cells #[.int .i64 W, .int .i64 H, .slice A n c, .int .i64 X, .int .i64 Y, .bool R] 40)).alloc (.cells #[.int .i64 W, .int .i64 H, .slice A' n' c', .int .i64 X, .int .i64 Y, .bool R] 40))
  cases R
  all_goals
    go_enter Tryd.func30, Tryd.ntmps30
    go_wp2_with fail
    refine (laws_eqIntS A n c C A' n' c' C _ (hC.ext X0) (hC'.ext X0)).mono ?_; rintro e w1 ⟨rfl, x1⟩
    obtain ⟨lc, lf, ls⟩ := x1.look
    go_wp2_with fail
    go_ret
    exact ⟨rfl, X0.trans x1⟩
end Go.Proofs.YtohjjhoobikioaaDoor
/-! A grid in a variable of its own: its six cells; what is kept while the world grows. -/
namespace Go.Proofs.YtohjjhoobikioaaDoor
open Go.RowKit

abbrev GBox (w : World) (b : Nat) (W H : Int) (v : Value) (X Y : Int) (R : Bool) : Prop :=
  w.cell? ⟨b, 0, none⟩ = some (.int .i64 W) ∧ w.cell? ⟨b, 1, none⟩ = some (.int .i64 H) ∧ w.cell? ⟨b, 2, none⟩ = some v ∧ w.cell? ⟨b, 3, none⟩ = some (.int .i64 X) ∧ w.cell? ⟨b, 4, none⟩ = some (.int .i64 Y) ∧ w.cell? ⟨b, 5, none⟩ = some (.bool R)
theorem GBox.ext {w w' : World} {b : Nat} {W H X Y : Int} {R : Bool} {v : Value} (h : GBox w b W H v X Y R) (x : Ext w w') : GBox w' b W H v X Y R :=
  ⟨x.cell h.1, x.cell h.2.1, x.cell h.2.2.1, x.cell h.2.2.2.1, x.cell h.2.2.2.2.1, x.cell h.2.2.2.2.2⟩
theorem GBox.made (w : World) (W H : Int) (v : Value) (X Y : Int) (R : Bool) (T : TypeId) : GBox (w.alloc (.cells #[.int .i64 W, .int .i64 H, v, .int .i64 X, .int .i64 Y, .bool R] T)) w.heap.size W H v X Y R := by
  refine ⟨?_, ?_, ?_, ?_, ?_, ?_⟩ <;> (rw [cell_of_row _ w.heap.size _ _ _ (0, 0) (heap_alloc_new w _)]; rfl)
/-- two variables and a world that they are seen from -/
theorem keep2 {wb w' w1 : World} {b b' : Nat} {W H X Y W' H' X' Y' : Int} {R R' : Bool} {v v' : Value} (h : GBox w' b W H v X Y R ∧ GBox w' b' W' H' v' X' Y' R' ∧ Ext wb w') (x : Ext w' w1) : GBox w1 b W H v X Y R ∧ GBox w1 b' W' H' v' X' Y' R' ∧ Ext wb w1 :=
  ⟨h.1.ext x, h.2.1.ext x, h.2.2.trans x⟩
end Go.Proofs.YtohjjhoobikioaaDoor
/-! The laws' helpers on slices of bytes: eqByteS, markByteS, heldByteS. -/
namespace Go.Proofs.YtohjjhoobikioaaDoor
open Go.RowKit

theorem OwnB.cell {w : World} {B g n c : Nat} {l : List UInt8} (h : OwnB w B (.slice (some ⟨g, 0, none⟩) n c) l) {k : Nat} (hk : k < l.length) : w.cell? ⟨g, k, none⟩ = some (.int .u8 (l[k]?.getD 0).toNat) := by
  have hn : n = l.length := by
    rcases h.2 with ⟨hv, _⟩ | ⟨g', cap, cur, hv, _⟩
    · cases hv
    · injection hv
  subst hn
  rw [World.ownsRow.cellAt h k (by omega)]; simp [hk, byteC]
theorem OwnB.frozen {w : World} {B g n c : Nat} {l : List UInt8} (h : OwnB w B (.slice (some ⟨g, 0, none⟩) n c) l) (k : Nat) : w.frozen? ⟨g, k, none⟩ = false := by
  have hn : n = l.length := by
    rcases h.2 with ⟨hv, _⟩ | ⟨g', cap, cur, hv, _⟩
    · cases hv
    · injection hv
  subst hn
  exact World.ownsRow.frozenAt h k
theorem OwnB.set {w : World} {B g n c : Nat} {l : List UInt8} (h : OwnB w B (.slice (some ⟨g, 0, none⟩) n c) l) (k : Nat) (x : UInt8) :
    OwnB (w.setCell ⟨g, k, none⟩ (byteC x)) B (.slice (some ⟨g, 0, none⟩) n c) (l.set k x) ∧ w.grownBy (w.setCell ⟨g, k, none⟩ (byteC x)) (some g) := by
  have hn : n = l.length := by
    rcases h.2 with ⟨hv, _⟩ | ⟨g', cap, cur, hv, _⟩
    · cases hv
    · injection hv
  subst hn
  have := World.ownsRow.stored h k (byteC x)
  refine ⟨?_, this.2⟩
  unfold OwnB
  rw [List.length_set, List.map_set]
  exact this.1
theorem OwnB.shape {w : World} {B : Nat} {v : Value} {l : List UInt8} (h : OwnB w B v l) : (v = .slice none 0 0 ∧ l = []) ∨ ∃ g c, v = .slice (some ⟨g, 0, none⟩) l.length c ∧ B ≤ g ∧ g < w.heap.size ∧ l.length ≤ c ∧ c ≤ 9223372036854775807 := by
  rcases h.2 with ⟨hv, h0⟩ | ⟨g, cap, cur, hv, hb, hg, hn, hm, _⟩
  · exact .inl ⟨hv, List.length_eq_zero_iff.1 h0⟩
  · exact .inr ⟨g, cap, hv, hb, (Array.getElem?_eq_some_iff.1 hg).1, hn, by unfold maxLen at hm; omega⟩

theorem laws_eqByteS (l : List UInt8) (A : Option Addr) (n c : Nat) (A' : Option Addr) (n' c' : Nat) (W : World) (h : RB W A n c l) (h' : RB W A' n' c' l) :
    Calls Tryd.prog 29 #[.slice A n c, .slice A' n' c'] W fun e w' => e = .returned (.bool true) ∧ Ext W w' := by
  have hn := h.nmax
  obtain rfl : n = n' := by rw [← h.len, ← h'.len]
  go_enter Tryd.func29, Tryd.ntmps29
  go_wp2_with fail
  go_loopw [5] (fun vi wr => ∃ k : Nat, k ≤ n ∧ vi = .int .i64 k ∧ Ext W wr) (fun vi _ => n - (intOf vi).toNat)
  case atStart => exact ⟨0, by omega, rfl, Ext.refl _⟩
  case round =>
    obtain ⟨k, hk, rfl, hx⟩ := hrel
    by_cases hlt : k < n
    · obtain ⟨b, o, rfl, hcell⟩ := (h.ext hx).at1 hlt
      obtain ⟨b', o', rfl, hcell'⟩ := (h'.ext hx).at1 hlt
      go_wp2_with fail
      go_quiet (fail)
      go_wp2_with fail
      go_roundw
      case rel => exact ⟨k + 1, by omega, by go_num, hx.drewN _⟩
      case measure => simp [intOf]; omega
    · go_wp2_with fail
      go_ret
      exact ⟨rfl, hx⟩

def marksB (q : Int) (n : Nat) : List UInt8 := (List.range n).map fun (i : Nat) => by8 (q + (i : Int))
theorem marksB_get {q : Int} {n i : Nat} (h : i < n) : (marksB q n)[i]?.getD 0 = by8 (q + i) := by simp [marksB, h]
theorem marksB_len (q : Int) (n : Nat) : (marksB q n).length = n := by simp [marksB]
theorem by8_mod {x : Int} (h0 : 0 ≤ x) : ((by8 x).toNat : Int) = x % 256 := by
  unfold by8; rw [UInt8.toNat_ofNat']; omega

set_option maxHeartbeats 1000000 in
theorem laws_markByteS (v : Value) (l : List UInt8) (B : Nat) (q : Int) (W : World) (h : OwnB W B v l) (hq0 : 0 ≤ q) (hq : q ≤ 4611686018427387904) (hs : l.length ≤ 4294967296) :
    Calls Tryd.prog 32 #[v, .int .i64 q] W fun e w' => e = .returned (.int .i64 (q + l.length)) ∧ OwnB w' B v (marksB q l.length) ∧ W.grownBy w' v.ownBlock := by
  rcases h.shape with ⟨rfl, rfl⟩ | ⟨g, c, rfl, hBg, hgl, hc, hcm⟩
  · go_enter Tryd.func32, Tryd.ntmps32
    go_wp2_with fail
    go_rounds 1
    go_ret
    exact ⟨ret_i (by simp), h, World.grownBy.refl _ _⟩
  · obtain ⟨n, hn⟩ : ∃ n, n = l.length := ⟨_, rfl⟩
    rw [← hn] at h hs hc ⊢
    have Hn := Lib.hid hn; clear hn
    go_enter Tryd.func32, Tryd.ntmps32
    go_wp2_with fail
    go_loopw [1, 5] (fun vq vi wr => ∃ k : Nat, k ≤ n ∧ vi = .int .i64 k ∧ vq = .int .i64 (q + k) ∧ OwnB wr B (.slice (some ⟨g, 0, none⟩) n c) (marksB q k ++ l.drop k) ∧ W.grownBy wr (some g)) (fun _ vi _ => n - (intOf vi).toNat)
    case atStart => exact ⟨0, by omega, rfl, by go_num, by simpa [marksB] using h, World.grownBy.refl _ _⟩
    case round =>
      obtain ⟨k, hk, rfl, rfl, hown, hx⟩ := hrel
      by_cases hlt : k < n
      · have hc2 := hown.cell (k := k) (by rw [List.length_append, marksB_len, List.length_drop, ← Hn.out]; omega)
        have hf2 := hown.frozen k
        have hset := hown.set k (by8 (q + k))
        have Hb := Lib.hid (by8_mod (x := q + k) (by omega))
        go_wp2_with fail
        go_roundw
        case rel =>
          have e : (marksB q k ++ l.drop k).set k (by8 (q + k)) = marksB q (k + 1) ++ l.drop (k + 1) := by
            rw [List.set_append, if_neg (by rw [marksB_len]; omega), marksB_len, Nat.sub_self, List.drop_eq_getElem_cons (by rw [← Hn.out]; exact hlt), List.set_cons_zero]
            unfold marksB
            rw [List.range_succ, List.map_append, List.append_assoc]
            rfl
          rw [e] at hset
          unfold byteC at hset
          rw [Hb.out] at hset
          exact ⟨k + 1, by omega, by go_num, by go_num, hset.1, hx.trans hset.2⟩
        case measure => simp [intOf]; omega
      · go_wp2_with fail
        go_ret
        obtain rfl : k = n := by omega
        have e : marksB q k ++ l.drop k = marksB q k := by rw [List.drop_of_length_le (by rw [← Hn.out]; omega), List.append_nil]
        rw [e] at hown
        exact ⟨rfl, hown, hx⟩

set_option maxHeartbeats 1000000 in
theorem laws_heldByteS (A : Option Addr) (n c : Nat) (q : Int) (W : World) (h : RB W A n c (marksB q n)) (hq0 : 0 ≤ q) (hq : q ≤ 4611686018427387904) (hs : n ≤ 4294967296) :
    Calls Tryd.prog 33 #[.slice A n c, .int .i64 q] W fun e w' => e = .returned (.int .i64 (q + n)) ∧ Ext W w' := by
  go_enter Tryd.func33, Tryd.ntmps33
  go_wp2_with fail
  go_loopw [1, 5] (fun vq vi wr => ∃ k : Nat, k ≤ n ∧ vi = .int .i64 k ∧ vq = .int .i64 (q + k) ∧ Ext W wr) (fun _ vi _ => n - (intOf vi).toNat)
  case atStart => exact ⟨0, by omega, rfl, by go_num, Ext.refl _⟩
  case round =>
    obtain ⟨k, hk, rfl, rfl, hx⟩ := hrel
    by_cases hlt : k < n
    · obtain ⟨b, o, rfl, hcell⟩ := (h.ext hx).at1 hlt
      rw [List.getD_eq_getElem?_getD, marksB_get hlt, by8_mod (by omega)] at hcell
      go_wp2_with fail
      go_roundw
      case rel => exact ⟨k + 1, by omega, by go_num, by go_num, hx⟩
      case measure => simp [intOf]; omega
    · go_wp2_with fail
      go_ret
      obtain rfl : k = n := by omega
      exact ⟨rfl, hx⟩
end Go.Proofs.YtohjjhoobikioaaDoor
/-! GridNew of both packages. -/
namespace Go.Proofs.YtohjjhoobikioaaDoor
open Go.RowKit

def newOk (w h : Int) : Prop := 2 ≤ w ∧ w ≤ 200 ∧ 1 ≤ h ∧ h ≤ 200 ∧ w * h ≤ 8000
instance (w h : Int) : Decidable (newOk w h) := by unfold newOk; infer_instance

theorem row6 {w : World} {g : Nat} {T : TypeId} {a b c d e f : Value} (h : w.heap[g]? = some (.cells #[a, b, c, d, e, f] T (0, 0))) :
    w.cell? ⟨g, 0, none⟩ = some a ∧ w.cell? ⟨g, 1, none⟩ = some b ∧ w.cell? ⟨g, 2, none⟩ = some c ∧ w.cell? ⟨g, 3, none⟩ = some d ∧ w.cell? ⟨g, 4, none⟩ = some e ∧ w.cell? ⟨g, 5, none⟩ = some f ∧ (∀ i, w.frozen? ⟨g, i, none⟩ = false) ∧ g < w.heap.size := by
  refine ⟨?_, ?_, ?_, ?_, ?_, ?_, fun i => frozen_of_row w g i _ _ h, (Array.getElem?_eq_some_iff.1 h).1⟩ <;> (rw [cell_of_row _ g _ _ _ (0, 0) h]; rfl)
theorem heap_ext {w w' : World} {g : Nat} {o : Obj} (h : w.heap[g]? = some o) (x : Ext w w') : w'.heap[g]? = some o := (Below.block x g (Array.getElem?_eq_some_iff.1 h).1).trans h
theorem heap_grown {w w' : World} {g : Nat} {o : Obj} {row : Option Nat} (h : w.heap[g]? = some o) (x : w.grownBy w' row) (hne : some g ≠ row) : w'.heap[g]? = some o := (x.block g (Array.getElem?_eq_some_iff.1 h).1 hne).trans h
theorem heap_far {w : World} {g : Nat} {o : Obj} {a : Addr} (h : w.heap[g]? = some o) (hne : g ≠ a.block) (u : Value) : (w.setCell a u).heap[g]? = some o := (Below.heap_setCell w a u g hne).trans h

set_option maxRecDepth 100000 in
set_option maxHeartbeats 2000000 in
theorem impl_GridNew_no (w hh : Int) (W : World) (hno : ¬ newOk w hh) :
    Calls Tryd.prog 80 #[.int .i64 w, .int .i64 hh] W fun e w' => e = .returned (.tuple #[.agg #[.int .i64 0, .int .i64 0, .slice none 0 0, .int .i64 0, .int .i64 0, .bool false], .bool false]) ∧ Ext W w' := by
  cases h1 : inB w 2 200
  · clear hno
    go_enter Tryd.func80, Tryd.ntmps80
    go_wp2_with (go_at_call 97; refine (impl_in _ _ _ _).mono ?_; rintro e w' ⟨rfl, rfl⟩)
    refine bodyPost_ret (v := .tuple #[.agg #[.int .i64 0, .int .i64 0, .slice none 0 0, .int .i64 0, .int .i64 0, .bool false], .bool false]) (by simp [results, Tryd.results80, go_sem]) rfl ⟨rfl, (Ext.refl _).alloc _⟩
  cases h2 : inB hh 1 200
  · clear hno
    go_enter Tryd.func80, Tryd.ntmps80
    go_wp2_with (go_at_call 97; refine (impl_in _ _ _ _).mono ?_; rintro e w' ⟨rfl, rfl⟩)
    refine bodyPost_ret (v := .tuple #[.agg #[.int .i64 0, .int .i64 0, .slice none 0 0, .int .i64 0, .int .i64 0, .bool false], .bool false]) (by simp [results, Tryd.results80, go_sem]) rfl ⟨rfl, (Ext.refl _).alloc _⟩
  obtain ⟨a1, a2⟩ := inB_iff.1 h1
  obtain ⟨a3, a4⟩ := inB_iff.1 h2
  obtain ⟨p1, p2⟩ := prod_bounds a1 a2 a3 a4
  have h3 : 8000 < w * hh := by unfold newOk at hno; omega
  clear hno
  go_enter Tryd.func80, Tryd.ntmps80
  go_wp2_with (go_at_call 97; refine (impl_in _ _ _ _).mono ?_; rintro e w' ⟨rfl, rfl⟩)
  refine bodyPost_ret (v := .tuple #[.agg #[.int .i64 0, .int .i64 0, .slice none 0 0, .int .i64 0, .int .i64 0, .bool false], .bool false]) (by simp [results, Tryd.results80, go_sem]) rfl ⟨rfl, (Ext.refl _).alloc _⟩

set_option maxRecDepth 100000 in
set_option maxHeartbeats 4000000 in
theorem impl_GridNew_yes (w hh : Int) (m : Nat) (W : World) (hok : newOk w hh) (hm : (m : Int) = w * hh) :
    Calls Tryd.prog 80 #[.int .i64 w, .int .i64 hh] W fun e w' => ∃ v, e = .returned (.tuple #[.agg #[.int .i64 w, .int .i64 hh, v, .int .i64 0, .int .i64 0, .bool false], .bool true]) ∧ OwnI w' W.heap.size v (List.replicate m 32) ∧ Ext W w' := by
  obtain ⟨a1, a2, a3, a4, a5⟩ := hok
  obtain ⟨p1, p2⟩ := prod_bounds a1 a2 a3 a4
  have h1 : inB w 2 200 = true := inB_iff.2 ⟨a1, a2⟩
  have h2 : inB hh 1 200 = true := inB_iff.2 ⟨a3, a4⟩
  have Hm := Lib.hid hm; clear hm
  go_enter Tryd.func80, Tryd.ntmps80
  go_wp2_with (go_at_call 97; refine (impl_in _ _ _ _).mono ?_; rintro e w' ⟨rfl, rfl⟩)
  go_loopw [28] (fun vi wr => ∃ (k : Nat) (v : Value), k ≤ m ∧ vi = .int .i64 k ∧ wr.heap[W.heap.size]? = some (.cells #[.int .i64 0, .int .i64 0, .slice none 0 0, .int .i64 0, .int .i64 0, .bool false] 40 (0, 0)) ∧
    wr.heap[W.heap.size + 1]? = some (.cells #[.int .i64 w, .int .i64 hh, v, .int .i64 0, .int .i64 0, .bool false] 40 (0, 0)) ∧ OwnI wr (W.heap.size + 2) v (List.replicate k 32) ∧ Ext W wr) (fun vi _ => m - (intOf vi).toNat)
  case atStart =>
    refine ⟨0, .slice none 0 0, by omega, rfl, ?_, ?_, OwnI.nil _ _, ((Ext.refl W).alloc _).alloc _⟩
    · exact heap_ext (heap_alloc_new W _) ((Ext.refl _).alloc _)
    · have := heap_alloc_new (W.alloc (.cells #[.int .i64 0, .int .i64 0, .slice none 0 0, .int .i64 0, .int .i64 0, .bool false] 40)) (.cells #[.int .i64 w, .int .i64 hh, .slice none 0 0, .int .i64 0, .int .i64 0, .bool false] 40)
      rw [World.size_alloc] at this
      exact this
  case round =>
    obtain ⟨k, v, hk, rfl, hb0, hb1, hown, hx⟩ := hrel
    obtain ⟨z0, z1, z2, z3, z4, z5, zf, zl⟩ := row6 hb0
    obtain ⟨q0, q1, q2, q3, q4, q5, qf, ql⟩ := row6 hb1
    have Hb0 := Lib.hid hb0; have Hb1 := Lib.hid hb1; clear hb0 hb1
    have hmk : (m : Int) = w * hh := Hm.out
    by_cases hlt : k < m
    · have hlt' : (k : Int) < w * hh := by omega
      clear hmk
      go_wp2_with (at_builtin; refine wp_appI rfl _ _ rfl rfl (hown.alloc _) rfl (RI.new _ [32] (by simp)) (by simp; have := Hm.out; omega) (by simp; omega) ?_)
      intro v1 w1 own1 g1 _
      obtain ⟨A1, c1, rfl, -⟩ := own1.form
      have el : (List.replicate k (32 : Int) ++ [32] : List Int).length = k + 1 := by simp
      rw [el] at own1
      clear el
      have hg := fun (k : Nat) (hk : v.ownBlock = some k) => (hown.lt k hk).1
      have hb0' := heap_grown (heap_ext Hb0.out ((Ext.refl wr).alloc (.cells #[.int .i64 32] 3))) g1 (fun e => by have := hg _ e.symm; omega)
      have hb1' := heap_grown (heap_ext Hb1.out ((Ext.refl wr).alloc (.cells #[.int .i64 32] 3))) g1 (fun e => by have := hg _ e.symm; omega)
      have hx1 := Below.grown (hx.alloc (.cells #[.int .i64 32] 3)) g1 (by simp; omega) (fun k hk => by have := hg k hk; omega)
      clear z0 z1 z2 z3 z4 z5 zf q0 q1 q2 q3 q4 q5 qf
      obtain ⟨q0, q1, q2, q3, q4, q5, qf, ql1⟩ := row6 hb1'
      have Hb0 := Lib.hid hb0'; have Hb1 := Lib.hid hb1'; clear hb0' hb1'
      go_wp2_with fail
      go_roundw
      case rel =>
        refine ⟨k + 1, .slice A1 (k + 1) c1, by omega, by go_num, heap_far Hb0.out (by simp) _, ?_, ?_, Ext.set hx1 (by simp) _⟩
        · exact heap_setCell_same w1 (W.heap.size + 1) 2 _ _ _ Hb1.out
        · have e : List.replicate (k + 1) (32 : Int) = List.replicate k 32 ++ [32] := by rw [List.replicate_succ']
          rw [e]
          exact OwnI.off own1 (by simp) _
      case measure => simp [intOf]; have := Hm.out; omega
    · have hlt' : ¬ (k : Int) < w * hh := by omega
      obtain rfl : k = m := by omega
      clear hmk hlt
      obtain ⟨A1, c1, rfl, r1⟩ := hown.form
      rw [List.length_replicate] at hown
      go_wp2_with fail
      refine bodyPost_ret (v := .tuple #[.agg #[.int .i64 w, .int .i64 hh, .slice A1 k c1, .int .i64 0, .int .i64 0, .bool false], .bool true]) (by simp [results, Tryd.results80, go_sem, z0, z1, z2, z3, z4, z5]) rfl ⟨_, rfl, ?_, ?_⟩
      · refine OwnI.mono (B := W.heap.size + 2) ?_ (by omega)
        repeat (with_reducible refine OwnI.off ?_ (by dsimp only; omega) _)
        exact hown
      · repeat (with_reducible refine Ext.set ?_ (by dsimp only; omega) _)
        exact hx

set_option maxRecDepth 100000 in
set_option maxHeartbeats 2000000 in
theorem spec_GridNew_no (w hh : Int) (W : World) (hno : ¬ newOk w hh) :
    Calls Tryd.prog 66 #[.int .i64 w, .int .i64 hh] W fun e w' => e = .returned (.tuple #[.agg #[.int .i64 0, .int .i64 0, .slice none 0 0, .int .i64 0, .int .i64 0, .bool false], .bool false]) ∧ Ext W w' := by
  by_cases h1 : w < 2
  · clear hno
    go_enter Tryd.func66, Tryd.ntmps66
    go_wp2_with fail
    refine bodyPost_ret (v := .tuple #[.agg #[.int .i64 0, .int .i64 0, .slice none 0 0, .int .i64 0, .int .i64 0, .bool false], .bool false]) (by simp [results, Tryd.results66, go_sem]) rfl ⟨rfl, (Ext.refl _).alloc _⟩
  by_cases h2 : 200 < w
  · clear hno
    go_enter Tryd.func66, Tryd.ntmps66
    go_wp2_with fail
    refine bodyPost_ret (v := .tuple #[.agg #[.int .i64 0, .int .i64 0, .slice none 0 0, .int .i64 0, .int .i64 0, .bool false], .bool false]) (by simp [results, Tryd.results66, go_sem]) rfl ⟨rfl, (Ext.refl _).alloc _⟩
  by_cases h3 : hh < 1
  · clear hno
    go_enter Tryd.func66, Tryd.ntmps66
    go_wp2_with fail
    refine bodyPost_ret (v := .tuple #[.agg #[.int .i64 0, .int .i64 0, .slice none 0 0, .int .i64 0, .int .i64 0, .bool false], .bool false]) (by simp [results, Tryd.results66, go_sem]) rfl ⟨rfl, (Ext.refl _).alloc _⟩
  by_cases h4 : 200 < hh
  · clear hno
    go_enter Tryd.func66, Tryd.ntmps66
    go_wp2_with fail
    refine bodyPost_ret (v := .tuple #[.agg #[.int .i64 0, .int .i64 0, .slice none 0 0, .int .i64 0, .int .i64 0, .bool false], .bool false]) (by simp [results, Tryd.results66, go_sem]) rfl ⟨rfl, (Ext.refl _).alloc _⟩
  obtain ⟨p1, p2⟩ := prod_bounds (W := w) (H := hh) (by omega) (by omega) (by omega) (by omega)
  have h5 : 8000 < w * hh := by unfold newOk at hno; omega
  clear hno
  go_enter Tryd.func66, Tryd.ntmps66
  go_wp2_with fail
  refine bodyPost_ret (v := .tuple #[.agg #[.int .i64 0, .int .i64 0, .slice none 0 0, .int .i64 0, .int .i64 0, .bool false], .bool false]) (by simp [results, Tryd.results66, go_sem]) rfl ⟨rfl, (Ext.refl _).alloc _⟩

set_option maxRecDepth 100000 in
set_option maxHeartbeats 4000000 in
theorem spec_GridNew_yes (w hh : Int) (m : Nat) (W : World) (hok : newOk w hh) (hm : (m : Int) = w * hh) :
    Calls Tryd.prog 66 #[.int .i64 w, .int .i64 hh] W fun e w' => ∃ v, e = .returned (.tuple #[.agg #[.int .i64 w, .int .i64 hh, v, .int .i64 0, .int .i64 0, .bool false], .bool true]) ∧ OwnI w' W.heap.size v (List.replicate m 32) ∧ Ext W w' := by
  obtain ⟨a1, a2, a3, a4, a5⟩ := hok
  obtain ⟨p1, p2⟩ := prod_bounds a1 a2 a3 a4
  have Hm := Lib.hid hm; clear hm
  go_enter Tryd.func66, Tryd.ntmps66
  go_wp2_with fail
  go_loopw [7] (fun vi wr => ∃ (k : Nat) (v : Value), k ≤ m ∧ vi = .int .i64 k ∧ wr.heap[W.heap.size]? = some (.cells #[.int .i64 0, .int .i64 0, .slice none 0 0, .int .i64 0, .int .i64 0, .bool false] 40 (0, 0)) ∧
    wr.heap[W.heap.size + 1]? = some (.cells #[.int .i64 w, .int .i64 hh, v, .int .i64 0, .int .i64 0, .bool false] 40 (0, 0)) ∧ OwnI wr (W.heap.size + 2) v (List.replicate k 32) ∧ Ext W wr) (fun vi _ => m - (intOf vi).toNat)
  case atStart =>
    refine ⟨0, .slice none 0 0, by omega, rfl, ?_, ?_, OwnI.nil _ _, ((Ext.refl W).alloc _).alloc _⟩
    · exact heap_ext (heap_alloc_new W _) ((Ext.refl _).alloc _)
    · have := heap_alloc_new (W.alloc (.cells #[.int .i64 0, .int .i64 0, .slice none 0 0, .int .i64 0, .int .i64 0, .bool false] 40)) (.cells #[.int .i64 w, .int .i64 hh, .slice none 0 0, .int .i64 0, .int .i64 0, .bool false] 40)
      rw [World.size_alloc] at this
      exact this
  case round =>
    obtain ⟨k, v, hk, rfl, hb0, hb1, hown, hx⟩ := hrel
    obtain ⟨z0, z1, z2, z3, z4, z5, zf, zl⟩ := row6 hb0
    obtain ⟨q0, q1, q2, q3, q4, q5, qf, ql⟩ := row6 hb1
    have Hb0 := Lib.hid hb0; have Hb1 := Lib.hid hb1; clear hb0 hb1
    have hmk : (m : Int) = w * hh := Hm.out
    by_cases hlt : k < m
    · have hlt' : (k : Int) < w * hh := by omega
      clear hmk
      go_wp2_with (at_builtin; refine wp_appI rfl _ _ rfl rfl (hown.alloc _) rfl (RI.new _ [32] (by simp)) (by simp; have := Hm.out; omega) (by simp; omega) ?_)
      intro v1 w1 own1 g1 _
      obtain ⟨A1, c1, rfl, -⟩ := own1.form
      have el : (List.replicate k (32 : Int) ++ [32] : List Int).length = k + 1 := by simp
      rw [el] at own1
      clear el
      have hg := fun (k : Nat) (hk : v.ownBlock = some k) => (hown.lt k hk).1
      have hb0' := heap_grown (heap_ext Hb0.out ((Ext.refl wr).alloc (.cells #[.int .i64 32] 3))) g1 (fun e => by have := hg _ e.symm; omega)
      have hb1' := heap_grown (heap_ext Hb1.out ((Ext.refl wr).alloc (.cells #[.int .i64 32] 3))) g1 (fun e => by have := hg _ e.symm; omega)
      have hx1 := Below.grown (hx.alloc (.cells #[.int .i64 32] 3)) g1 (by simp; omega) (fun k hk => by have := hg k hk; omega)
      clear z0 z1 z2 z3 z4 z5 zf q0 q1 q2 q3 q4 q5 qf
      obtain ⟨q0, q1, q2, q3, q4, q5, qf, ql1⟩ := row6 hb1'
      have Hb0 := Lib.hid hb0'; have Hb1 := Lib.hid hb1'; clear hb0' hb1'
      go_wp2_with fail
      go_roundw
      case rel =>
        refine ⟨k + 1, .slice A1 (k + 1) c1, by omega, by go_num, heap_far Hb0.out (by simp) _, ?_, ?_, Ext.set hx1 (by simp) _⟩
        · exact heap_setCell_same w1 (W.heap.size + 1) 2 _ _ _ Hb1.out
        · have e : List.replicate (k + 1) (32 : Int) = List.replicate k 32 ++ [32] := by rw [List.replicate_succ']
          rw [e]
          exact OwnI.off own1 (by simp) _
      case measure => simp [intOf]; have := Hm.out; omega
    · have hlt' : ¬ (k : Int) < w * hh := by omega
      obtain rfl : k = m := by omega
      clear hmk hlt
      obtain ⟨A1, c1, rfl, r1⟩ := hown.form
      rw [List.length_replicate] at hown
      go_wp2_with fail
      refine bodyPost_ret (v := .tuple #[.agg #[.int .i64 w, .int .i64 hh, .slice A1 k c1, .int .i64 0, .int .i64 0, .bool false], .bool true]) (by simp [results, Tryd.results66, go_sem, z0, z1, z2, z3, z4, z5]) rfl ⟨_, rfl, ?_, ?_⟩
      · refine OwnI.mono (B := W.heap.size + 2) ?_ (by omega)
        repeat (with_reducible refine OwnI.off ?_ (by dsimp only; omega) _)
        exact hown
      · repeat (with_reducible refine Ext.set ?_ (by dsimp only; omega) _)
        exact hx
end Go.Proofs.YtohjjhoobikioaaDoor
/-! The laws' helpers on painters; sameInts, SameGrid. -/
namespace Go.Proofs.YtohjjhoobikioaaDoor
open Go.RowKit

set_option maxRecDepth 100000 in
set_option maxHeartbeats 1000000 in
theorem laws_szPaint (PW PH W H X Y : Int) (K R : Bool) (A : Option Addr) (n c : Nat) (left : Int) (w : World) (h0 : -1 ≤ left) (h1 : left ≤ 1048576) (hn : n ≤ 9223372036854775807) :
    Calls Tryd.prog 38 #[.agg #[.int .i64 PW, .int .i64 PH, .bool K, .int .i64 W, .int .i64 H, .slice A n c, .int .i64 X, .int .i64 Y, .bool R], .int .i64 left] w fun e w' => e = .returned (.int .i64 (szN left n)) ∧ Ext w w' := by
  go_enter Tryd.func38, Tryd.ntmps38
  go_wp2_with fail
  refine (laws_szGrid W H X Y R A n c left _ h0 h1 hn).mono ?_; rintro e w1 ⟨rfl, x1⟩
  rcases szN_cases left n with ⟨h, e⟩ | ⟨h, e⟩ <;> rw [e] <;> clear e
  · go_wp2_with fail
    go_ret
    exact ⟨ret_i (szN_neg h).symm, ((Ext.refl w).alloc _).trans x1⟩
  · go_wp2_with fail
    go_ret
    exact ⟨ret_i (szN_pos (by omega)).symm, ((Ext.refl w).alloc _).trans x1⟩

set_option maxRecDepth 100000 in
set_option maxHeartbeats 4000000 in
theorem laws_toPaint (PW PH W H X Y : Int) (K R : Bool) (C : List Int) (A : Option Addr) (n c : Nat) (w : World) (hC : RI w A n c C) (hs : n ≤ 4294967296) :
    Calls Tryd.prog 40 #[.agg #[.int .i64 PW, .int .i64 PH, .bool K, .int .i64 W, .int .i64 H, .slice A n c, .int .i64 X, .int .i64 Y, .bool R]] w fun e w' =>
      ∃ v, e = .returned (.agg #[.int .i64 PW, .int .i64 PH, .bool K, .int .i64 W, .int .i64 H, v, .int .i64 X, .int .i64 Y, .bool R]) ∧ OwnI w' w.heap.size v C ∧ Ext w w' := by
  go_enter Tryd.func40, Tryd.ntmps40
  go_wp2_with fail
  refine (laws_toGrid W H X Y R C A n c _ (hC.ext ((((Ext.refl w).alloc _).alloc _).alloc _)) hs).mono ?_; rintro e w1 ⟨v, rfl, own1, x1⟩
  have X1 := ((((Ext.refl w).alloc _).alloc _).alloc _).trans x1
  simp only [World.size_alloc] at own1
  obtain ⟨A1, c1, rfl, r1⟩ := own1.form
  have hb2 := row_ext (row_alloc (row_new (w.alloc _) _) _) x1
  have hb3 := row_ext (row_new ((w.alloc _).alloc _) _) x1
  simp only [World.size_alloc] at hb2 hb3
  obtain ⟨q3, f3, l3⟩ := rowAll hb3
  have Hb2 := Lib.hid hb2; have Hb3 := Lib.hid hb3; clear hb2 hb3
  go_wp2_with ((with_reducible refine wp_storeAt (off := 3) (v := .agg #[.int .i64 W, .int .i64 H, .slice A1 C.length c1, .int .i64 X, .int .i64 Y, .bool R]) #[.int .i64 PW, .int .i64 PH, .bool K, .int .i64 W, .int .i64 H, .slice A1 C.length c1, .int .i64 X, .int .i64 Y, .bool R] Hb3.out ?_ ?_ ?_ ?_ ?_ ?_ ?_); exact rfl; exact rfl; kernel_rfl; kernel_rfl; (exact Nat.le_of_ble_eq_true (by kernel_rfl)); kernel_rfl)
  intro w2 hb3 g2
  clear q3 f3 l3
  obtain ⟨q3, f3, l3⟩ := rowAll hb3
  have hb2 := row_grown Hb2.out g2 (by simp)
  have X2 := X1.row g2 (by omega)
  have own2 := own1.kept g2 (by
    rcases hv : Value.ownBlock _ with _ | b
    · exact .inl rfl
    · exact .inr (by have := (own1.lt b hv).1; simp; omega))
  have Hb2 := Lib.hid hb2; clear hb2 hb3
  go_wp2_with ((with_reducible refine wp_storeAt (off := 0) (v := .agg #[.int .i64 PW, .int .i64 PH, .bool K, .int .i64 W, .int .i64 H, .slice A1 C.length c1, .int .i64 X, .int .i64 Y, .bool R]) #[.int .i64 PW, .int .i64 PH, .bool K, .int .i64 W, .int .i64 H, .slice A1 C.length c1, .int .i64 X, .int .i64 Y, .bool R] Hb2.out ?_ ?_ ?_ ?_ ?_ ?_ ?_); exact rfl; exact rfl; kernel_rfl; kernel_rfl; (exact Nat.le_of_ble_eq_true (by kernel_rfl)); kernel_rfl)
  intro w3 hb2 g3
  have X3 := X2.row g3 (by omega)
  have own3 := own2.kept g3 (by
    rcases hv : Value.ownBlock _ with _ | b
    · exact .inl rfl
    · exact .inr (by have := (own2.lt b hv).1; simp; omega))
  obtain ⟨q2, -, -⟩ := rowAll hb2
  go_wp2_with fail
  refine bodyPost_ret (v := .agg #[.int .i64 PW, .int .i64 PH, .bool K, .int .i64 W, .int .i64 H, .slice A1 C.length c1, .int .i64 X, .int .i64 Y, .bool R]) (by simp [results, Tryd.results40, go_sem, q2]) rfl ⟨_, rfl, own3.mono (by omega), X3⟩

set_option maxRecDepth 100000 in
set_option maxHeartbeats 1000000 in
theorem laws_eqPaint (PW PH W H X Y : Int) (K R : Bool) (C : List Int) (A A' : Option Addr) (n c n' c' : Nat) (w : World) (hC : RI w A n c C) (hC' : RI w A' n' c' C) :
    Calls Tryd.prog 42 #[.agg #[.int .i64 PW, .int .i64 PH, .bool K, .int .i64 W, .int .i64 H, .slice A n c, .int .i64 X, .int .i64 Y, .bool R], .agg #[.int .i64 PW, .int .i64 PH, .bool K, .int .i64 W, .int .i64 H, .slice A' n' c', .int .i64 X, .int .i64 Y, .bool R]] w fun e w' =>
      e = .returned (.bool true) ∧ Ext w w' := by
  cases K
  all_goals
    go_enter Tryd.func42, Tryd.ntmps42
    go_wp2_with fail
    refine (laws_eqGrid W H X Y R C A A' n c n' c' _ (hC.ext (((Ext.refl w).alloc _).alloc _)) (hC'.ext (((Ext.refl w).alloc _).alloc _))).mono ?_; rintro e w1 ⟨rfl, x1⟩
    go_wp2_with fail
    go_ret
    exact ⟨rfl, (((Ext.refl w).alloc _).alloc _).trans x1⟩

set_option maxRecDepth 100000 in
set_option maxHeartbeats 1000000 in
theorem laws_markGrid (W H X Y : Int) (R : Bool) (C : List Int) (v : Value) (B : Nat) (q : Int) (w : World) (h : OwnI w B v C) (hq0 : 0 ≤ q) (hq : q ≤ 4611686018427387904) (hs : C.length ≤ 4294967296) :
    Calls Tryd.prog 31 #[.agg #[.int .i64 W, .int .i64 H, v, .int .i64 X, .int .i64 Y, .bool R], .int .i64 q] w fun e w' => e = .returned (.int .i64 (q + C.length)) ∧ OwnI w' B v (marks q C.length) ∧ w.grownBy w' v.ownBlock := by
  obtain ⟨A, c, rfl, r⟩ := h.form
  go_enter Tryd.func31, Tryd.ntmps31
  go_wp2_with fail
  refine (laws_markIntS _ C B q _ (h.alloc _) hq0 hq hs).mono ?_; rintro e w1 ⟨rfl, own1, g1⟩
  go_wp2_with fail
  go_ret
  exact ⟨rfl, own1, (World.grownBy_alloc _ _ _).trans g1⟩
set_option maxRecDepth 100000 in
set_option maxHeartbeats 1000000 in
theorem laws_heldGrid (W H X Y : Int) (R : Bool) (A : Option Addr) (n c : Nat) (q : Int) (w : World) (h : RI w A n c (marks q n)) (hq0 : 0 ≤ q) (hq : q ≤ 4611686018427387904) (hs : n ≤ 4294967296) :
    Calls Tryd.prog 87 #[.agg #[.int .i64 W, .int .i64 H, .slice A n c, .int .i64 X, .int .i64 Y, .bool R], .int .i64 q] w fun e w' => e = .returned (.int .i64 (q + n)) ∧ Ext w w' := by
  go_enter Tryd.func87, Tryd.ntmps87
  go_wp2_with fail
  refine (laws_heldIntS A n c q _ (h.ext ((Ext.refl w).alloc _)) hq0 hq hs).mono ?_; rintro e w1 ⟨rfl, x1⟩
  go_wp2_with fail
  go_ret
  exact ⟨rfl, ((Ext.refl w).alloc _).trans x1⟩
set_option maxRecDepth 100000 in
set_option maxHeartbeats 1000000 in
theorem laws_markPaint (PW PH W H X Y : Int) (K R : Bool) (C : List Int) (v : Value) (B : Nat) (q : Int) (w : World) (h : OwnI w B v C) (hq0 : 0 ≤ q) (hq : q ≤ 4611686018427387904) (hs : C.length ≤ 4294967296) :
    Calls Tryd.prog 43 #[.agg #[.int .i64 PW, .int .i64 PH, .bool K, .int .i64 W, .int .i64 H, v, .int .i64 X, .int .i64 Y, .bool R], .int .i64 q] w fun e w' => e = .returned (.int .i64 (q + C.length)) ∧ OwnI w' B v (marks q C.length) ∧ w.grownBy w' v.ownBlock := by
  obtain ⟨A, c, rfl, r⟩ := h.form
  go_enter Tryd.func43, Tryd.ntmps43
  go_wp2_with fail
  refine (laws_markGrid W H X Y R C _ B q _ (h.alloc _) hq0 hq hs).mono ?_; rintro e w1 ⟨rfl, own1, g1⟩
  go_wp2_with fail
  go_ret
  exact ⟨rfl, own1, (World.grownBy_alloc _ _ _).trans g1⟩
set_option maxRecDepth 100000 in
set_option maxHeartbeats 1000000 in
theorem laws_heldPaint (PW PH W H X Y : Int) (K R : Bool) (A : Option Addr) (n c : Nat) (q : Int) (w : World) (h : RI w A n c (marks q n)) (hq0 : 0 ≤ q) (hq : q ≤ 4611686018427387904) (hs : n ≤ 4294967296) :
    Calls Tryd.prog 44 #[.agg #[.int .i64 PW, .int .i64 PH, .bool K, .int .i64 W, .int .i64 H, .slice A n c, .int .i64 X, .int .i64 Y, .bool R], .int .i64 q] w fun e w' => e = .returned (.int .i64 (q + n)) ∧ Ext w w' := by
  go_enter Tryd.func44, Tryd.ntmps44
  go_wp2_with fail
  refine (laws_heldGrid W H X Y R A n c q _ (h.ext ((Ext.refl w).alloc _)) hq0 hq hs).mono ?_; rintro e w1 ⟨rfl, x1⟩
  go_wp2_with fail
  go_ret
  exact ⟨rfl, ((Ext.refl w).alloc _).trans x1⟩

theorem impl_sameInts (A : Option Addr) (n c : Nat) (l : List Int) (A' : Option Addr) (n' c' : Nat) (l' : List Int) (W : World) (h : RI W A n c l) (h' : RI W A' n' c' l') :
    Calls Tryd.prog 84 #[.slice A n c, .slice A' n' c'] W fun e w' => e = .returned (.bool (decide (l = l'))) ∧ Ext W w' := by
  have hn := h.nmax
  by_cases hnn : n = n'
  case neg =>
    have hb : ((n : Int) == (n' : Int)) = false := by simp; omega
    go_enter Tryd.func84, Tryd.ntmps84
    go_wp2_with fail
    go_ret
    exact ⟨ret_b (by rw [eq_comm, decide_eq_false_iff_not]; intro e; subst e; exact hnn (h.len.symm.trans h'.len)), Ext.refl _⟩
  subst hnn
  have hll : l.length = l'.length := by rw [h.len, h'.len]
  go_enter Tryd.func84, Tryd.ntmps84
  go_wp2_with fail
  go_loopw [13] (fun vi wr => ∃ k : Nat, k ≤ n ∧ vi = .int .i64 k ∧ (∀ i, i < k → l[i]?.getD 0 = l'[i]?.getD 0) ∧ Ext W wr) (fun vi _ => n - (intOf vi).toNat)
  case atStart => exact ⟨0, by omega, rfl, fun i hi => absurd hi (by omega), Ext.refl _⟩
  case round =>
    obtain ⟨k, hk, rfl, hp, hx⟩ := hrel
    have Hp := Lib.hid hp; clear hp
    by_cases hlt : k < n
    · obtain ⟨b, o, rfl, hcell⟩ := (h.ext hx).at1 hlt
      obtain ⟨b', o', rfl, hcell'⟩ := (h'.ext hx).at1 hlt
      by_cases hq : l[k]?.getD 0 = l'[k]?.getD 0
      · have hqb : (l[k]?.getD 0 == l'[k]?.getD 0) = true := by simp [hq]
        go_wp2_with fail
        go_quiet (fail)
        go_wp2_with fail
        go_roundw
        case rel =>
          refine ⟨k + 1, by omega, by go_num, fun i hi => ?_, hx.drewN _⟩
          rcases Nat.lt_or_ge i k with h1 | h1
          · exact Hp.out i h1
          · obtain rfl : i = k := by omega
            exact hq
        case measure => simp [intOf]; omega
      · go_wp2_with fail
        go_quiet (fail)
        go_wp2_with fail
        go_ret
        exact ⟨ret_b (by rw [eq_comm, decide_eq_false_iff_not]; intro e; subst e; exact hq rfl), hx.drewN _⟩
    · go_wp2_with fail
      go_ret
      exact ⟨ret_b (by rw [eq_comm, decide_eq_true_iff]; exact eq_of_getD hll fun i hi => Hp.out i (by rw [h.len] at hi; omega)), hx⟩
end Go.Proofs.YtohjjhoobikioaaDoor
/-! What the laws' walks share: boxes seen as facts, what a drawn region keeps. -/
namespace Go.Proofs.YtohjjhoobikioaaDoor
open Go.RowKit

theorem St.gb {W w : World} {L : List Pc} {b : Nat} {T : TypeId} {gW gH gX gY : Int} {gR : Bool} {v : Value} (S : St W w L) (i : Nat) (e : L[i]? = some (YtohjjhoobikioaaDoor.row b T #[.int .i64 gW, .int .i64 gH, v, .int .i64 gX, .int .i64 gY, .bool gR])) : GBox w b gW gH v gX gY gR := by
  obtain ⟨lc, -, -⟩ := S.cells i e
  exact ⟨lc 0, lc 1, lc 2, lc 3, lc 4, lc 5⟩
theorem keepS1 {W w' w1 : World} {L : List Pc} {b : Nat} {gW gH gX gY : Int} {gR : Bool} {v : Value} (h : GBox w' b gW gH v gX gY gR ∧ St W w' L) (x : Ext w' w1) : GBox w1 b gW gH v gX gY gR ∧ St W w1 L := ⟨h.1.ext x, h.2.call x⟩
theorem keepS2 {W w' w1 : World} {L : List Pc} {b b' : Nat} {gW gH gX gY gW' gH' gX' gY' : Int} {gR gR' : Bool} {v v' : Value} (h : GBox w' b gW gH v gX gY gR ∧ GBox w' b' gW' gH' v' gX' gY' gR' ∧ St W w' L) (x : Ext w' w1) :
    GBox w1 b gW gH v gX gY gR ∧ GBox w1 b' gW' gH' v' gX' gY' gR' ∧ St W w1 L := ⟨h.1.ext x, h.2.1.ext x, h.2.2.call x⟩
theorem St.markI {W w w' : World} {L : List Pc} {v : Value} {l l' : List Int} {B : Nat} (S : St W w L) (i : Nat) (e : L[i]? = some (YtohjjhoobikioaaDoor.ownI v l)) (h : OwnI w' B v l') (g : w.grownBy w' v.ownBlock) : St W w' (L.set i (YtohjjhoobikioaaDoor.ownI v l')) :=
  S.appI i e (h.mono (Nat.zero_le _)) g (.inl rfl)
theorem St.markB {W w w' : World} {L : List Pc} {v : Value} {l l' : List UInt8} {B : Nat} (S : St W w L) (i : Nat) (e : L[i]? = some (YtohjjhoobikioaaDoor.ownB v l)) (h : OwnB w' B v l') (g : w.grownBy w' v.ownBlock) : St W w' (L.set i (YtohjjhoobikioaaDoor.ownB v l')) :=
  S.appB i e (h.mono (Nat.zero_le _)) g (.inl rfl)
theorem OwnB.rb {w : World} {B : Nat} {l : List UInt8} {A : Option Addr} {n c : Nat} (h : OwnB w B (.slice A n c) l) : RB w A n c l := by
  obtain ⟨A', c', e, r⟩ := h.form
  injection e with e1 e2 e3
  subst e1; subst e2; subst e3
  exact r
theorem OwnB.form' {w : World} {B : Nat} {v : Value} {l : List UInt8} (h : OwnB w B v l) : ∃ A n c, v = .slice A n c := by
  obtain ⟨A, c, e, -⟩ := h.form
  exact ⟨A, _, c, e⟩
end Go.Proofs.YtohjjhoobikioaaDoor
