/-
  escape, EmitGoto, the moving of the cursor: impl.emitStep.
-/
import Derived.Test.YtohjjhoobikioaaDoorRows2
import Derived.Test.YtohjjhoobikioaaDoorSep
import Derived.Test.YtohjjhoobikioaaDoorGrid
import Derived.Deep.DeepCutAuto
namespace Go.Proofs.YtohjjhoobikioaaDoor
open Go.RowKit

def emitGoto (x y : Int) : List UInt8 := [27, 91] ++ (numText (y + 1) ++ [59] ++ numText (x + 1) ++ [72])
def csi (n : Int) (c : UInt8) : List UInt8 := [27, 91] ++ (numText n ++ [c])
def better (ok : Bool) (b best : List UInt8) : List UInt8 := if ok = true ∧ b.length ≤ best.length then b else best
def step1 (g : Gr) (x y : Int) : List UInt8 := better (decide (y = g.Y) && !g.R && decide (x < g.X)) (csi (g.X - x) 68) (emitGoto x y)
def step2 (g : Gr) (x y : Int) : List UInt8 := better (decide (y = g.Y) && !g.R && decide (g.X < x)) (csi (x - g.X) 67) (step1 g x y)
def step3 (g : Gr) (x y : Int) : List UInt8 := better (decide (y = g.Y) && !g.R && decide (1 ≤ g.X - x ∧ g.X - x ≤ 3)) (List.replicate (g.X - x).toNat 8) (step2 g x y)
def step4 (g : Gr) (x y : Int) : List UInt8 := better (decide (y = g.Y) && decide (x = 0)) [13] (step3 g x y)
def emitStep (g : Gr) (x y : Int) : List UInt8 := if y = g.Y ∧ g.R = false ∧ x = g.X then [] else step4 g x y

theorem emitGoto_len (x y : Int) : (emitGoto x y).length ≤ 24 := by
  have h1 := numText_len (x + 1); have h2 := numText_len (y + 1)
  simp [emitGoto]; omega
theorem csi_len (n : Int) (c : UInt8) : (csi n c).length ≤ 13 := by have := numText_len n; simp [csi]; omega
theorem better_len (ok : Bool) (b best : List UInt8) : (better ok b best).length ≤ best.length := by unfold better; split <;> omega
theorem better_no (b best : List UInt8) : better false b best = best := by simp [better]
theorem step4_len (g : Gr) (x y : Int) : (step4 g x y).length ≤ 24 :=
  Nat.le_trans (better_len _ _ _) (Nat.le_trans (better_len _ _ _) (Nat.le_trans (better_len _ _ _) (Nat.le_trans (better_len _ _ _) (emitGoto_len x y))))
theorem emitStep_len (g : Gr) (x y : Int) : (emitStep g x y).length ≤ 24 := by unfold emitStep; split; simp; exact step4_len g x y

theorem RB.pre {w : World} {A : Option Addr} {n c : Nat} {l : List UInt8} (h : RB w A n c l) {k : Nat} (hk : k ≤ n) : RB w A k c (l.take k) :=
  ⟨by rw [List.length_take, h.len]; omega, by have := h.cap; omega, h.cmax, h.none_, fun hn => by
    obtain ⟨b, o, rfl, hx⟩ := h.at_ (by omega)
    refine ⟨b, o, rfl, fun j hj => ?_⟩
    rw [hx j (by omega)]
    simp [hj]⟩

theorem OwnB.lit (w : World) (B : Nat) (hB : B ≤ w.heap.size) (l : List UInt8) (hl : l.length ≤ 16) : OwnB (w.alloc (.cells (l.map byteC).toArray 5)) B (.slice (some ⟨w.heap.size, 0, none⟩) l.length l.length) l := by
  unfold OwnB
  refine ⟨by simp, .inr ⟨w.heap.size, _, _, rfl, hB, heap_alloc_new w _, Nat.le_refl _, by unfold maxLen; omega, by simp, List.take_of_length_le (by simp)⟩⟩
theorem impl_escape (l : List UInt8) (w : World) (hl : l.length ≤ 1000) : Calls Tryd.prog 110 #[.string ⟨l.toArray⟩] w fun e w' => ∃ A n c, e = .returned (.slice A n c) ∧ RB w' A n c ([27, 91] ++ l) ∧ Ext w w' := by
  have own := OwnB.lit w w.heap.size (Nat.le_refl _) [27, 91] (by simp)
  go_enter Tryd.func110, Tryd.ntmps110
  go_wp2_with (at_builtin; refine wp_appStr rfl _ _ rfl rfl own rfl (by simp; omega) (by simp) ?_)
  intro v1 w1 own1 hg1 _
  obtain ⟨A1, c1, rfl, r1⟩ := own1.form
  go_wp2_with fail
  go_ret
  exact ⟨_, _, _, rfl, r1, ((Ext.refl w).alloc _).grownB own hg1⟩
set_option maxRecDepth 100000 in
set_option maxHeartbeats 1000000 in
theorem impl_EmitGoto (x y : Int) (w : World) (ht : Tab w) (hx0 : 0 ≤ x) (hx1 : x < 200) (hy0 : 0 ≤ y) (hy1 : y < 200) :
    Calls Tryd.prog 108 #[.int .i64 x, .int .i64 y] w fun e w' => ∃ A n c, e = .returned (.slice A n c) ∧ RB w' A n c (emitGoto x y) ∧ Ext w w' := by
  have ix : inB x 0 199 = true := inB_iff.2 (by omega)
  have iy : inB y 0 199 = true := inB_iff.2 (by omega)
  have h1 := numText_len (x + 1); have h2 := numText_len (y + 1)
  have E : Hid (emitGoto x y = [27, 91] ++ (numText (y + 1) ++ [59] ++ numText (x + 1) ++ [72])) := rfl
  have K1 := Lib.hid (fun w (h : Tab w) => impl_NumText (y + 1) (by omega) (by omega) w h)
  have K2 := Lib.hid (fun w (h : Tab w) => impl_NumText (x + 1) (by omega) (by omega) w h)
  generalize numText (y + 1) = s1 at *
  generalize numText (x + 1) = s2 at *
  go_enter Tryd.func108, Tryd.ntmps108
  go_wp2_with fail
  have k1 := impl_in x 0 199 w
  rw [ix] at k1
  refine (k1).mono ?_; rintro e w1 ⟨rfl, rfl⟩
  clear k1
  go_wp2_with fail
  have k1 := impl_in y 0 199 w
  rw [iy] at k1
  refine (k1).mono ?_; rintro e w1 ⟨rfl, rfl⟩
  clear k1 ix iy
  go_wp2_with fail
  refine (K1.out _ ht).mono ?_; rintro e w1 ⟨rfl, x1⟩
  go_wp2_with ((with_reducible refine wp_addS (x := .tmp 15) (l := s1) (m := [59]) ?_ ?_ ?_ ?_); exact rfl; exact rfl; go_must (simp; omega))
  refine (K2.out _ (ht.ext x1)).mono ?_; rintro e w2 ⟨rfl, x2⟩
  go_wp2_with (first
    | ((with_reducible refine wp_addS (x := .tmp 16) (y := .tmp 19) (l := s1 ++ [59]) (m := s2) ?_ ?_ ?_ ?_); exact rfl; exact rfl; go_must (simp; omega))
    | ((with_reducible refine wp_addS (x := .tmp 20) (l := s1 ++ [59] ++ s2) (m := [72]) ?_ ?_ ?_ ?_); exact rfl; exact rfl; go_must (simp; omega)))
  refine (impl_escape _ _ (by simp; omega)).mono ?_; rintro e w3 ⟨A3, n3, c3, rfl, r3, x3⟩
  go_wp2_with fail
  go_ret
  exact ⟨_, _, _, rfl, by rw [E.out]; simpa using r3, (x1.trans x2).trans x3⟩

theorem RB.keepRow {w : World} {A : Option Addr} {n c : Nat} {l : List UInt8} (h : RB w A n c l) {b : Nat} {T : TypeId} {cs : Array Value} (hr : w.heap[b]? = some (.cells cs T (0, 0))) (hno : ∀ v ∈ cs.toList, ∀ k, v ≠ .int .u8 k) (i : Nat) (u : Value) : RB (w.setCell ⟨b, i, none⟩ u) A n c l :=
  ⟨h.len, h.cap, h.cmax, h.none_, fun hn => by
    obtain ⟨b', o, rfl, hc⟩ := h.at_ hn
    refine ⟨b', o, rfl, fun j hj => ?_⟩
    have hj2 := hc j hj
    have hne : b' ≠ b := by
      intro e; subst e
      rw [cell_of_row w b' (o + j) cs T (0, 0) hr] at hj2
      exact hno _ (Array.mem_toList_iff.2 (Array.mem_of_getElem? hj2)) _ rfl
    rw [← hj2]
    unfold World.cell?
    rw [(grown_setCell w ⟨b, i, none⟩ u).block b' (World.block_lt_of_cell? _ _ hj2) (by simpa using hne)]⟩

/-- the closure that keeps the shorter one: 'best' lies in block b -/
theorem impl_try (A : Option Addr) (n c : Nat) (l : List UInt8) (A' : Option Addr) (n' c' : Nat) (l' : List UInt8) (b : Nat) (W w : World) (L : List Pc) (h : RB w A n c l) (h' : RB w A' n' c' l') (S : St W w (row b 38 #[.slice A' n' c'] :: L)) :
    Calls Tryd.prog 109 #[.slice A n c, .pointer (some ⟨b, 0, none⟩)] w fun e w' => e = .returned (.tuple #[]) ∧ ∃ A2 n2 c2, RB w' A2 n2 c2 (better true l l') ∧ St W w' (row b 38 #[.slice A2 n2 c2] :: L) := by
  obtain ⟨lc, lf, ls⟩ := S.cells 0 rfl
  have h1 := h.nmax; have h2 := h'.nmax
  have hl : l.length = n := h.len
  have hl' : l'.length = n' := h'.len
  by_cases hle : n ≤ n'
  · have E : Hid (better true l l' = l) := by show _ = _; unfold better; rw [if_pos ⟨rfl, by omega⟩]
    clear hl hl'
    go_enter Tryd.func109, Tryd.ntmps109
    go_wp2_with fail
    ((try simp only [Exit.inBlock, Exit.then]); first | refine bodyPost_ret (results_none rfl _ _ _) rfl ?_ | refine bodyPost_end (results_none rfl _ _ _) rfl ?_)
    exact ⟨rfl, A, n, c, by rw [E.out]; exact h.keepRow (S.row 0 rfl) (by simp) 0 (.slice A n c), S.setc 0 rfl 0 (.slice A n c)⟩
  · have E : Hid (better true l l' = l') := by show _ = _; unfold better; rw [if_neg (by rintro ⟨_, h⟩; omega)]
    clear hl hl'
    go_enter Tryd.func109, Tryd.ntmps109
    go_wp2_with fail
    ((try simp only [Exit.inBlock, Exit.then]); first | refine bodyPost_ret (results_none rfl _ _ _) rfl ?_ | refine bodyPost_end (results_none rfl _ _ _) rfl ?_)
    exact ⟨rfl, A', n', c', by rw [E.out]; exact h', S⟩
/-- what stands between two offers: the variable 'best' at block b, the grid's own variable at b0 -/
def EmSt (b0 b : Nat) (g : Gr) (v : Value) (W w : World) (l : List UInt8) : Prop := ∃ A n c, RB w A n c l ∧ St W w [row b 38 #[.slice A n c], row b0 40 #[.int .i64 g.W, .int .i64 g.H, v, .int .i64 g.X, .int .i64 g.Y, .bool g.R]]
set_option maxRecDepth 100000 in
set_option maxHeartbeats 3000000 in
theorem impl_emitStep_A (g : Gr) (v : Value) (x y : Int) (w : World) (ht : Tab w) (hg : gridOk g = true) (hx0 : 0 ≤ x) (hx1 : x < g.W) (hy0 : 0 ≤ y) (hy1 : y < g.H) (hyY : y = g.Y) (hR0 : ¬ g.R = true) :
    Calls Tryd.prog 70 #[.agg #[.int .i64 g.W, .int .i64 g.H, v, .int .i64 g.X, .int .i64 g.Y, .bool g.R], .int .i64 x, .int .i64 y] w fun e w' => ∃ A n c, e = .returned (.slice A n c) ∧ RB w' A n c (emitStep g x y) ∧ Ext w w' := by
  obtain ⟨d1, d2, d3, d4, -, -⟩ := gridOk_d hg
  obtain ⟨c1, c2, c3, c4, -⟩ := gridOk_c hg
  have S0 := (St.refl w).alloc #[.int .i64 g.W, .int .i64 g.H, v, .int .i64 g.X, .int .i64 g.Y, .bool g.R] 40
  by_cases hsame : y = g.Y ∧ g.R = false ∧ x = g.X
  · have E : Hid (emitStep g x y = []) := by show _ = _; unfold emitStep; rw [if_pos hsame]
    obtain ⟨rfl, hR, rfl⟩ := hsame
    rw [hR]
    go_enter Tryd.func70, Tryd.ntmps70
    go_wp2_with fail
    go_ret
    exact ⟨none, 0, 0, rfl, by rw [E.out]; exact RB.nil _, (Ext.refl w).alloc _⟩
  have E : Hid (emitStep g x y = step4 g x y) := by show _ = _; unfold emitStep; rw [if_neg hsame]
  have E1 : Hid (step1 g x y = better (decide (y = g.Y) && !g.R && decide (x < g.X)) (csi (g.X - x) 68) (emitGoto x y)) := rfl
  have E2 : Hid (step2 g x y = better (decide (y = g.Y) && !g.R && decide (g.X < x)) (csi (x - g.X) 67) (step1 g x y)) := rfl
  have E3 : Hid (step3 g x y = better (decide (y = g.Y) && !g.R && decide (1 ≤ g.X - x ∧ g.X - x ≤ 3)) (List.replicate (g.X - x).toNat 8) (step2 g x y)) := rfl
  have E4 : Hid (step4 g x y = better (decide (y = g.Y) && decide (x = 0)) [13] (step3 g x y)) := rfl
  by_cases hy : y = g.Y
  · cases hR : g.R
    · have hyb : (y == g.Y) = true := by simpa using hy
      have hxX : ¬ x = g.X := fun e => hsame ⟨hy, hR, e⟩
      have hxb : (x == g.X) = false := by simpa using hxX
      have HY := Lib.hid hy; have HR := Lib.hid hR
      rw [hR] at S0
      clear hsame hy hR hyY hR0
      by_cases hlt : x < g.X
      · have F1 : Hid (step1 g x y = better true (csi (g.X - x) 68) (emitGoto x y)) := by show _ = _; rw [E1.out]; congr 1; simp [HY.out, HR.out, hlt]
        have F2 : Hid (step2 g x y = step1 g x y) := by show _ = _; rw [E2.out, show decide (g.X < x) = false by simp; omega, Bool.and_false, better_no]
        clear hxX
        by_cases h3 : g.X - x ≤ 3
        · have F3 : Hid (step3 g x y = better true (List.replicate (g.X - x).toNat 8) (step2 g x y)) := by show _ = _; rw [E3.out]; congr 1; simp [HY.out, HR.out]; omega
          have i3 : inB (g.X - x) 1 3 = true := inB_iff.2 (by omega)
          have e8 : Hid (([8, 8, 8] : List UInt8).take (g.X - x).toNat = List.replicate (g.X - x).toNat 8) := by
            show _ = _
            obtain h | h | h : (g.X - x).toNat = 1 ∨ (g.X - x).toNat = 2 ∨ (g.X - x).toNat = 3 := by omega
            all_goals rw [h]; rfl
          by_cases h0 : x = 0
          · have F4 : Hid (step4 g x y = better true [13] (step3 g x y)) := by show _ = _; rw [E4.out]; congr 1; simp [HY.out, h0]
            have h0b : (x == 0) = true := by simpa using h0
            clear h0
            go_enter Tryd.func70, Tryd.ntmps70
            go_wp2_with fail
            refine (impl_EmitGoto x y _ (ht.ext S0.ext) hx0 (by omega) hy0 (by omega)).mono ?_; rintro e w1 ⟨A0, n0, c0, rfl, r, x1⟩
            have S := (S0.call x1).alloc #[.slice A0 n0 c0] 38
            have r := r.ext ((Ext.refl w1).alloc (.cells #[.slice A0 n0 c0] 38))
            obtain ⟨lc, lf, ls⟩ := S.cells 1 rfl
            have hl1 := numText_len (g.X - x)
            have hcs1 : Hid (csi (g.X - x) 68 = [27, 91] ++ (numText (g.X - x) ++ [68])) := rfl
            have K1 := Lib.hid (fun w (h : Tab w) => impl_NumText (g.X - x) (by omega) (by omega) w h)
            generalize numText (g.X - x) = s1 at *
            go_wp2_with fail
            refine (K1.out _ (ht.ext S.ext)).mono ?_; rintro e wa1 ⟨rfl, xa1⟩
            have S := S.call xa1
            have r := r.ext xa1
            clear lc lf ls
            go_wp2_with ((with_reducible refine wp_addS (x := .tmp 52) (l := s1) (m := [68]) ?_ ?_ ?_ ?_); exact rfl; exact rfl; go_must (simp; omega))
            refine (impl_escape _ _ (by simp; omega)).mono ?_; rintro e wb1 ⟨A1, n1, c1, rfl, rr1, xb1⟩
            have S := S.call xb1
            have r := r.ext xb1
            rw [← hcs1.out] at rr1
            go_wp2_with fail
            refine (impl_try _ _ _ _ _ _ _ _ _ _ _ _ rr1 r S).mono ?_; rintro e wc1 ⟨rfl, A1', n1', c1', r, S⟩
            obtain ⟨lc, lf, ls⟩ := S.cells 1 rfl
            go_wp2_with fail
            refine (impl_in _ _ _ _).mono ?_; rintro e w' ⟨rfl, rfl⟩
            rw [i3]
            obtain ⟨lc, lf, ls⟩ := S.cells 1 rfl
            go_wp2_with fail
            clear lc lf ls
            refine (impl_try _ _ _ _ _ _ _ _ _ _ _ _ (RB.pre (RB.lit _ [.int .u8 8, .int .u8 8, .int .u8 8] [8, 8, 8] rfl (by simp)) (k := (g.X - x).toNat) (by simp; omega)) (r.ext ((Ext.refl _).alloc _)) (S.skip _)).mono ?_; rintro e wc2 ⟨rfl, A2', n2', c2', r, S⟩
            rw [e8.out] at r
            obtain ⟨lc, lf, ls⟩ := S.cells 1 rfl
            go_wp2_with fail
            clear lc lf ls
            refine (impl_try _ _ _ _ _ _ _ _ _ _ _ _ (RB.lit _ [.int .u8 13] [13] rfl (by simp)) (r.ext ((Ext.refl _).alloc _)) (S.skip _)).mono ?_; rintro e wc3 ⟨rfl, A3', n3', c3', r, S⟩
            obtain ⟨lc, lf, ls⟩ := S.cells 1 rfl
            obtain ⟨lc2, lf2, ls2⟩ := S.cells 0 rfl
            go_wp2_with fail
            go_ret
            exact ⟨_, _, _, rfl, by rw [E.out, F4.out, F3.out, F2.out, F1.out]; exact r, S.ext⟩
          · have F4 : Hid (step4 g x y = step3 g x y) := by show _ = _; rw [E4.out, show decide (x = 0) = false by simp [h0], Bool.and_false, better_no]
            have h0b : (x == 0) = false := by simpa using h0
            clear h0
            go_enter Tryd.func70, Tryd.ntmps70
            go_wp2_with fail
            refine (impl_EmitGoto x y _ (ht.ext S0.ext) hx0 (by omega) hy0 (by omega)).mono ?_; rintro e w1 ⟨A0, n0, c0, rfl, r, x1⟩
            have S := (S0.call x1).alloc #[.slice A0 n0 c0] 38
            have r := r.ext ((Ext.refl w1).alloc (.cells #[.slice A0 n0 c0] 38))
            obtain ⟨lc, lf, ls⟩ := S.cells 1 rfl
            have hl4 := numText_len (g.X - x)
            have hcs4 : Hid (csi (g.X - x) 68 = [27, 91] ++ (numText (g.X - x) ++ [68])) := rfl
            have K4 := Lib.hid (fun w (h : Tab w) => impl_NumText (g.X - x) (by omega) (by omega) w h)
            generalize numText (g.X - x) = s4 at *
            go_wp2_with fail
            refine (K4.out _ (ht.ext S.ext)).mono ?_; rintro e wa4 ⟨rfl, xa4⟩
            have S := S.call xa4
            have r := r.ext xa4
            clear lc lf ls
            go_wp2_with ((with_reducible refine wp_addS (x := .tmp 52) (l := s4) (m := [68]) ?_ ?_ ?_ ?_); exact rfl; exact rfl; go_must (simp; omega))
            refine (impl_escape _ _ (by simp; omega)).mono ?_; rintro e wb4 ⟨A4, n4, c4, rfl, rr4, xb4⟩
            have S := S.call xb4
            have r := r.ext xb4
            rw [← hcs4.out] at rr4
            go_wp2_with fail
            refine (impl_try _ _ _ _ _ _ _ _ _ _ _ _ rr4 r S).mono ?_; rintro e wc4 ⟨rfl, A4', n4', c4', r, S⟩
            obtain ⟨lc, lf, ls⟩ := S.cells 1 rfl
            go_wp2_with fail
            refine (impl_in _ _ _ _).mono ?_; rintro e w' ⟨rfl, rfl⟩
            rw [i3]
            obtain ⟨lc, lf, ls⟩ := S.cells 1 rfl
            go_wp2_with fail
            clear lc lf ls
            refine (impl_try _ _ _ _ _ _ _ _ _ _ _ _ (RB.pre (RB.lit _ [.int .u8 8, .int .u8 8, .int .u8 8] [8, 8, 8] rfl (by simp)) (k := (g.X - x).toNat) (by simp; omega)) (r.ext ((Ext.refl _).alloc _)) (S.skip _)).mono ?_; rintro e wc5 ⟨rfl, A5', n5', c5', r, S⟩
            rw [e8.out] at r
            obtain ⟨lc, lf, ls⟩ := S.cells 1 rfl
            obtain ⟨lc2, lf2, ls2⟩ := S.cells 0 rfl
            go_wp2_with fail
            go_ret
            exact ⟨_, _, _, rfl, by rw [E.out, F4.out, F3.out, F2.out, F1.out]; exact r, S.ext⟩
        · have F3 : Hid (step3 g x y = step2 g x y) := by show _ = _; rw [E3.out, show decide (1 ≤ g.X - x ∧ g.X - x ≤ 3) = false by simp; omega, Bool.and_false, better_no]
          have i3 : inB (g.X - x) 1 3 = false := inB_not.2 (by omega)
          by_cases h0 : x = 0
          · have F4 : Hid (step4 g x y = better true [13] (step3 g x y)) := by show _ = _; rw [E4.out]; congr 1; simp [HY.out, h0]
            have h0b : (x == 0) = true := by simpa using h0
            clear h0
            go_enter Tryd.func70, Tryd.ntmps70
            go_wp2_with fail
            refine (impl_EmitGoto x y _ (ht.ext S0.ext) hx0 (by omega) hy0 (by omega)).mono ?_; rintro e w1 ⟨A0, n0, c0, rfl, r, x1⟩
            have S := (S0.call x1).alloc #[.slice A0 n0 c0] 38
            have r := r.ext ((Ext.refl w1).alloc (.cells #[.slice A0 n0 c0] 38))
            obtain ⟨lc, lf, ls⟩ := S.cells 1 rfl
            have hl6 := numText_len (g.X - x)
            have hcs6 : Hid (csi (g.X - x) 68 = [27, 91] ++ (numText (g.X - x) ++ [68])) := rfl
            have K6 := Lib.hid (fun w (h : Tab w) => impl_NumText (g.X - x) (by omega) (by omega) w h)
            generalize numText (g.X - x) = s6 at *
            go_wp2_with fail
            refine (K6.out _ (ht.ext S.ext)).mono ?_; rintro e wa6 ⟨rfl, xa6⟩
            have S := S.call xa6
            have r := r.ext xa6
            clear lc lf ls
            go_wp2_with ((with_reducible refine wp_addS (x := .tmp 52) (l := s6) (m := [68]) ?_ ?_ ?_ ?_); exact rfl; exact rfl; go_must (simp; omega))
            refine (impl_escape _ _ (by simp; omega)).mono ?_; rintro e wb6 ⟨A6, n6, c6, rfl, rr6, xb6⟩
            have S := S.call xb6
            have r := r.ext xb6
            rw [← hcs6.out] at rr6
            go_wp2_with fail
            refine (impl_try _ _ _ _ _ _ _ _ _ _ _ _ rr6 r S).mono ?_; rintro e wc6 ⟨rfl, A6', n6', c6', r, S⟩
            obtain ⟨lc, lf, ls⟩ := S.cells 1 rfl
            go_wp2_with fail
            refine (impl_in _ _ _ _).mono ?_; rintro e w' ⟨rfl, rfl⟩
            rw [i3]
            obtain ⟨lc, lf, ls⟩ := S.cells 1 rfl
            go_wp2_with fail
            clear lc lf ls
            refine (impl_try _ _ _ _ _ _ _ _ _ _ _ _ (RB.lit _ [.int .u8 13] [13] rfl (by simp)) (r.ext ((Ext.refl _).alloc _)) (S.skip _)).mono ?_; rintro e wc7 ⟨rfl, A7', n7', c7', r, S⟩
            obtain ⟨lc, lf, ls⟩ := S.cells 1 rfl
            obtain ⟨lc2, lf2, ls2⟩ := S.cells 0 rfl
            go_wp2_with fail
            go_ret
            exact ⟨_, _, _, rfl, by rw [E.out, F4.out, F3.out, F2.out, F1.out]; exact r, S.ext⟩
          · have F4 : Hid (step4 g x y = step3 g x y) := by show _ = _; rw [E4.out, show decide (x = 0) = false by simp [h0], Bool.and_false, better_no]
            have h0b : (x == 0) = false := by simpa using h0
            clear h0
            go_enter Tryd.func70, Tryd.ntmps70
            go_wp2_with fail
            refine (impl_EmitGoto x y _ (ht.ext S0.ext) hx0 (by omega) hy0 (by omega)).mono ?_; rintro e w1 ⟨A0, n0, c0, rfl, r, x1⟩
            have S := (S0.call x1).alloc #[.slice A0 n0 c0] 38
            have r := r.ext ((Ext.refl w1).alloc (.cells #[.slice A0 n0 c0] 38))
            obtain ⟨lc, lf, ls⟩ := S.cells 1 rfl
            have hl8 := numText_len (g.X - x)
            have hcs8 : Hid (csi (g.X - x) 68 = [27, 91] ++ (numText (g.X - x) ++ [68])) := rfl
            have K8 := Lib.hid (fun w (h : Tab w) => impl_NumText (g.X - x) (by omega) (by omega) w h)
            generalize numText (g.X - x) = s8 at *
            go_wp2_with fail
            refine (K8.out _ (ht.ext S.ext)).mono ?_; rintro e wa8 ⟨rfl, xa8⟩
            have S := S.call xa8
            have r := r.ext xa8
            clear lc lf ls
            go_wp2_with ((with_reducible refine wp_addS (x := .tmp 52) (l := s8) (m := [68]) ?_ ?_ ?_ ?_); exact rfl; exact rfl; go_must (simp; omega))
            refine (impl_escape _ _ (by simp; omega)).mono ?_; rintro e wb8 ⟨A8, n8, c8, rfl, rr8, xb8⟩
            have S := S.call xb8
            have r := r.ext xb8
            rw [← hcs8.out] at rr8
            go_wp2_with fail
            refine (impl_try _ _ _ _ _ _ _ _ _ _ _ _ rr8 r S).mono ?_; rintro e wc8 ⟨rfl, A8', n8', c8', r, S⟩
            obtain ⟨lc, lf, ls⟩ := S.cells 1 rfl
            go_wp2_with fail
            refine (impl_in _ _ _ _).mono ?_; rintro e w' ⟨rfl, rfl⟩
            rw [i3]
            obtain ⟨lc, lf, ls⟩ := S.cells 1 rfl
            obtain ⟨lc2, lf2, ls2⟩ := S.cells 0 rfl
            go_wp2_with fail
            go_ret
            exact ⟨_, _, _, rfl, by rw [E.out, F4.out, F3.out, F2.out, F1.out]; exact r, S.ext⟩
      · have F1 : Hid (step1 g x y = emitGoto x y) := by show _ = _; rw [E1.out, show decide (x < g.X) = false by simp; omega, Bool.and_false, better_no]
        have F2 : Hid (step2 g x y = better true (csi (x - g.X) 67) (step1 g x y)) := by show _ = _; rw [E2.out]; congr 1; simp [HY.out, HR.out]; omega
        have F3 : Hid (step3 g x y = step2 g x y) := by show _ = _; rw [E3.out, show decide (1 ≤ g.X - x ∧ g.X - x ≤ 3) = false by simp; omega, Bool.and_false, better_no]
        have i3 : inB (g.X - x) 1 3 = false := inB_not.2 (by omega)
        have h0 : ¬ x = 0 := by omega
        have F4 : Hid (step4 g x y = step3 g x y) := by show _ = _; rw [E4.out, show decide (x = 0) = false by simp [h0], Bool.and_false, better_no]
        have h0b : (x == 0) = false := by simpa using h0
        have hgt : g.X < x := by omega
        clear h0 hxX hlt
        go_enter Tryd.func70, Tryd.ntmps70
        go_wp2_with fail
        refine (impl_EmitGoto x y _ (ht.ext S0.ext) hx0 (by omega) hy0 (by omega)).mono ?_; rintro e w1 ⟨A0, n0, c0, rfl, r, x1⟩
        have S := (S0.call x1).alloc #[.slice A0 n0 c0] 38
        have r := r.ext ((Ext.refl w1).alloc (.cells #[.slice A0 n0 c0] 38))
        obtain ⟨lc, lf, ls⟩ := S.cells 1 rfl
        have hl9 := numText_len (x - g.X)
        have hcs9 : Hid (csi (x - g.X) 67 = [27, 91] ++ (numText (x - g.X) ++ [67])) := rfl
        have K9 := Lib.hid (fun w (h : Tab w) => impl_NumText (x - g.X) (by omega) (by omega) w h)
        generalize numText (x - g.X) = s9 at *
        go_wp2_with fail
        refine (K9.out _ (ht.ext S.ext)).mono ?_; rintro e wa9 ⟨rfl, xa9⟩
        have S := S.call xa9
        have r := r.ext xa9
        clear lc lf ls
        go_wp2_with ((with_reducible refine wp_addS (x := .tmp 67) (l := s9) (m := [67]) ?_ ?_ ?_ ?_); exact rfl; exact rfl; go_must (simp; omega))
        refine (impl_escape _ _ (by simp; omega)).mono ?_; rintro e wb9 ⟨A9, n9, c9, rfl, rr9, xb9⟩
        have S := S.call xb9
        have r := r.ext xb9
        rw [← hcs9.out] at rr9
        go_wp2_with fail
        refine (impl_try _ _ _ _ _ _ _ _ _ _ _ _ rr9 r S).mono ?_; rintro e wc9 ⟨rfl, A9', n9', c9', r, S⟩
        obtain ⟨lc, lf, ls⟩ := S.cells 1 rfl
        go_wp2_with fail
        refine (impl_in _ _ _ _).mono ?_; rintro e w' ⟨rfl, rfl⟩
        rw [i3]
        obtain ⟨lc, lf, ls⟩ := S.cells 1 rfl
        obtain ⟨lc2, lf2, ls2⟩ := S.cells 0 rfl
        go_wp2_with fail
        go_ret
        exact ⟨_, _, _, rfl, by rw [E.out, F4.out, F3.out, F2.out, F1.out]; exact r, S.ext⟩
    · exact absurd hR hR0
  · exact absurd hyY hy
end Go.Proofs.YtohjjhoobikioaaDoor
