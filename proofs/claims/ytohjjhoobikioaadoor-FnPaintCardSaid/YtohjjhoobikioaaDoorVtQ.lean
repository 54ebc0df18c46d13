/-
  The terminal, plainly: what the bytes of a difference do to it.
-/
import Derived.Test.YtohjjhoobikioaaDoorVtP
namespace Go.Proofs.YtohjjhoobikioaaDoor
open Go.RowKit

/-- a terminal in the midst of nothing -/
def T (g : Gr) (N : Int) : VtS := ⟨g, 0, [], [], N⟩
theorem printable_pos {r : Int} (h : width r ≠ 0) : printable r = true := by
  by_cases hp : printable r = true
  · exact hp
  · exact absurd (by unfold width; rw [if_neg hp]) h
theorem goG_goG (g : Gr) (a b c d : Int) : goG (goG g a b) c d = goG g c d := rfl

theorem feed_one (v : VtS) (b : UInt8) : feed v [b] = vtStep v b.toNat := rfl
theorem step_esc (g : Gr) (B : List UInt8) (N : Int) : vtStep ⟨g, 0, [], B, N⟩ 27 = ⟨g, 1, [], [], N⟩ := rfl
theorem step_open (g : Gr) (N : Int) : vtStep ⟨g, 1, [], [], N⟩ 91 = ⟨g, 2, [], [], N⟩ := rfl
theorem feed_esc (g : Gr) (B : List UInt8) (N : Int) (l : List UInt8) : feed ⟨g, 0, [], B, N⟩ ([27, 91] ++ l) = feed ⟨g, 2, [], [], N⟩ l := rfl
theorem step_dig {g : Gr} {P : List Int} {N : Int} {b : Nat} (h0 : 48 ≤ b) (h1 : b ≤ 57) : vtStep ⟨g, 2, P, [], N⟩ b = ⟨g, 2, digP P b, [], N⟩ := by
  simp only [vtStep, vtSeq, if_pos (And.intro h0 h1)]; rfl
theorem digP_last {P Q : List Int} {a : Int} {b : Nat} (h : P1 P = Q ++ [a]) : digP P b = Q ++ [min (10 * a + b - 48) 9999] := by
  unfold digP
  rw [h]
  simp

theorem feed_num {g : Gr} {N : Int} : ∀ (k : Nat) (n : Int) (P Q : List Int), n < k → 0 ≤ n → n ≤ 9999 → P1 P = Q ++ [0] → feed ⟨g, 2, P, [], N⟩ (numText n) = ⟨g, 2, Q ++ [n], [], N⟩ := by
  intro k
  induction k with
  | zero => intro n P Q h h0; omega
  | succ k ih =>
    intro n P Q h h0 h1 hP
    by_cases h10 : n < 10
    · rw [numText_small h0 h10]
      have e := by8_nat (x := 48 + n) (by omega) (by omega)
      rw [feed_one, step_dig (by omega) (by omega), digP_last hP, e]
      congr 3
      omega
    · rw [numText_step (by omega) (by omega), feed_append, ih (n / 10) P Q (by omega) (by omega) (by omega) hP]
      have e := by8_nat (x := 48 + n % 10) (by omega) (by omega)
      rw [feed_one, step_dig (by omega) (by omega), digP_last (Q := Q) (a := n / 10) (by unfold P1; rw [if_neg (by simp)]), e]
      congr 3
      omega
theorem feed_num0 {g : Gr} {N n : Int} (h0 : 0 ≤ n) (h1 : n ≤ 9999) : feed ⟨g, 2, [], [], N⟩ (numText n) = ⟨g, 2, [n], [], N⟩ :=
  feed_num (n + 1).toNat n [] [] (by omega) h0 h1 rfl
theorem step_ctl {g : Gr} {P : List Int} {N : Int} {b : Nat} (h0 : 64 ≤ b) (h1 : b ≤ 126) : vtStep ⟨g, 2, P, [], N⟩ b = T (ctlG g P b) N := by
  simp only [vtStep, vtSeq]
  rw [if_neg (by decide), if_neg (by decide), if_neg (by omega), if_neg (by omega), if_pos ⟨h0, h1⟩]; rfl
theorem argV_pos {l : List Int} {i : Nat} {n : Int} (h : l[i]?.getD 0 = n) (h0 : n ≠ 0) : argV l i = n := by
  unfold argV; rw [h, if_neg h0]

theorem feed_csi {g : Gr} {B : List UInt8} {N n : Int} {b : UInt8} (h0 : 0 ≤ n) (h1 : n ≤ 9999) (hb0 : 64 ≤ b.toNat) (hb1 : b.toNat ≤ 126) : feed ⟨g, 0, [], B, N⟩ (csi n b) = T (ctlG g [n] b.toNat) N := by
  unfold csi
  rw [feed_esc, feed_append, feed_num0 h0 h1]
  exact step_ctl hb0 hb1
theorem feed_goto {g : Gr} {B : List UInt8} {N x y : Int} (hx0 : 0 ≤ x) (hx1 : x < 9999) (hy0 : 0 ≤ y) (hy1 : y < 9999) : feed ⟨g, 0, [], B, N⟩ (emitGoto x y) = T (goG g x y) N := by
  unfold emitGoto
  rw [feed_esc, feed_append, feed_append, feed_append, feed_num0 (by omega) (by omega)]
  have e : feed ⟨g, 2, [y + 1], [], N⟩ [59] = ⟨g, 2, [y + 1, 0], [], N⟩ := by
    rw [feed_one, show (59 : UInt8).toNat = 59 from rfl]
    simp [vtStep, vtSeq, semP, P1]
  rw [e, feed_num (x + 1 + 1).toNat (x + 1) [y + 1, 0] [y + 1] (by omega) (by omega) (by omega) (by unfold P1; rw [if_neg (by simp)]; rfl)]
  rw [feed_one, show (72 : UInt8).toNat = 72 from rfl, step_ctl (by omega) (by omega)]
  congr 1
  show goG g (argV ([y + 1] ++ [x + 1]) 1 - 1) (argV ([y + 1] ++ [x + 1]) 0 - 1) = _
  rw [argV_pos (n := x + 1) (by simp) (by omega), argV_pos (n := y + 1) (by simp) (by omega)]
  congr 1 <;> omega

theorem step_back {g : Gr} {B : List UInt8} {N : Int} : vtStep ⟨g, 0, [], B, N⟩ 8 = T (goG g (g.X - 1) g.Y) N := rfl
theorem step_cr {g : Gr} {B : List UInt8} {N : Int} : vtStep ⟨g, 0, [], B, N⟩ 13 = T (goG g 0 g.Y) N := rfl
theorem goG_Y {g : Gr} (h : gridOk g = true) (x : Int) : (goG g x g.Y).Y = g.Y := by
  obtain ⟨c1, c2, c3, c4, -⟩ := gridOk_c h
  exact clampI_id c3 (by omega)
theorem goG_X {g : Gr} {x y : Int} (h0 : 0 ≤ x) (h1 : x < g.W) : (goG g x y).X = x := clampI_id h0 (by omega)
theorem feed_backs {g : Gr} {N : Int} (h : gridOk g = true) : ∀ (k : Nat), 1 ≤ k → (k : Int) ≤ g.X → feed (T g N) (List.replicate k 8) = T (goG g (g.X - k) g.Y) N := by
  obtain ⟨c1, c2, c3, c4, -⟩ := gridOk_c h
  intro k
  induction k with
  | zero => intro h; omega
  | succ k ih =>
    intro _ hk
    by_cases h0 : k = 0
    · subst h0; exact step_back
    · have e : List.replicate (k + 1) (8 : UInt8) = List.replicate k 8 ++ [8] := by rw [List.replicate_succ']
      rw [e, feed_append, ih (by omega) (by omega)]
      rw [feed_one, show (8 : UInt8).toNat = 8 from rfl]
      unfold T
      rw [step_back, goG_goG, goG_X (by omega) (by omega), goG_Y h]
      congr 2
      omega

theorem better_P {P : List UInt8 → Prop} {ok : Bool} {b best : List UInt8} (h1 : ok = true → P b) (h2 : P best) : P (better ok b best) := by
  unfold better; split
  · rename_i h; exact h1 h.1
  · exact h2
theorem feed_step {g : Gr} {N x y : Int} (h : gridOk g = true) (hx0 : 0 ≤ x) (hx1 : x < g.W) (hy0 : 0 ≤ y) (hy1 : y < g.H) : feed (T g N) (emitStep g x y) = T (goG g x y) N := by
  obtain ⟨d1, d2, d3, d4, d5, d6⟩ := gridOk_d h
  obtain ⟨c1, c2, c3, c4, -⟩ := gridOk_c h
  unfold emitStep
  split
  · rename_i he
    obtain ⟨e1, e2, e3⟩ := he
    subst e1 e3
    have eg : goG g g.X g.Y = g := by
      obtain ⟨W, H, C, X, Y, R⟩ := g
      simp only [goG] at *
      rw [clampI_id c1 (by omega), clampI_id c3 (by omega), e2]
    rw [eg]; rfl
  · refine better_P (P := fun l => feed (T g N) l = T (goG g x y) N) (fun ok => ?_) (better_P (P := fun l => feed (T g N) l = T (goG g x y) N) (fun ok => ?_) (better_P (P := fun l => feed (T g N) l = T (goG g x y) N) (fun ok => ?_) (better_P (P := fun l => feed (T g N) l = T (goG g x y) N) (fun ok => ?_) ?_)))
    · simp at ok
      obtain ⟨e1, e2⟩ := ok
      subst e1 e2
      exact step_cr
    · simp at ok
      obtain ⟨⟨e1, e2⟩, e3, e4⟩ := ok
      subst e1
      rw [feed_backs h _ (by omega) (by omega)]
      congr 2
      omega
    · simp at ok
      obtain ⟨⟨e1, e2⟩, e3⟩ := ok
      subst e1
      rw [T, feed_csi (by omega) (by omega) (by decide) (by decide)]
      show T (goG g (g.X + argV [x - g.X] 0) g.Y) N = _
      rw [argV_pos (n := x - g.X) (by simp) (by omega)]
      congr 2
      omega
    · simp at ok
      obtain ⟨⟨e1, e2⟩, e3⟩ := ok
      subst e1
      rw [T, feed_csi (by omega) (by omega) (by decide) (by decide)]
      show T (goG g (g.X - argV [g.X - x] 0) g.Y) N = _
      rw [argV_pos (n := g.X - x) (by simp) (by omega)]
      congr 2
      omega
    · exact feed_goto hx0 (by omega) hy0 (by omega)

theorem feed_tail (g : Gr) (N : Int) : feed (T g N) [27, 91, 75] = T (clearG g (g.Y * g.W + g.X) ((g.Y + 1) * g.W)) N := rfl
end Go.Proofs.YtohjjhoobikioaaDoor
