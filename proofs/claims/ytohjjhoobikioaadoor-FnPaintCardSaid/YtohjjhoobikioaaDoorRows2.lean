/-
  Of several texts: RowText, GridRow, GridText, Num.
-/
import Derived.Test.YtohjjhoobikioaaDoorGrid
import Derived.Test.YtohjjhoobikioaaDoorBase
import Derived.ShutString
import Derived.Laws.Concat
import Derived.Test.YtohjjhoobikioaaDoorShelf
/-! Rows of a grid as text, plainly: blanks at the end do not count, nor second halves. -/
namespace Go.Proofs.YtohjjhoobikioaaDoor
open Go.RowKit

/-- the length without the blanks at the end, of the first k -/
def trimLen (l : List Int) : Nat → Nat
  | 0 => 0
  | k + 1 => if l[k]?.getD 0 = 32 then trimLen l k else k + 1
def trimR (l : List Int) : List Int := l.take (trimLen l l.length)
theorem trimLen_succ (l : List Int) (k : Nat) : trimLen l (k + 1) = if l[k]?.getD 0 = 32 then trimLen l k else k + 1 := rfl
theorem trimLen_le (l : List Int) (k : Nat) : trimLen l k ≤ k := by
  induction k with
  | zero => simp [trimLen]
  | succ k ih => rw [trimLen_succ]; split <;> omega
theorem trimLen_congr {l m : List Int} : ∀ {k : Nat}, (∀ i, i < k → l[i]?.getD 0 = m[i]?.getD 0) → trimLen l k = trimLen m k
  | 0, _ => rfl
  | k + 1, h => by
    rw [trimLen_succ, trimLen_succ, h k (by omega), trimLen_congr (fun i hi => h i (by omega))]
theorem trimR_blank (p : List Int) : trimR (p ++ [32]) = trimR p := by
  unfold trimR
  rw [List.length_append, List.length_singleton]
  rw [trimLen_succ, if_pos (by simp), trimLen_congr (m := p) (fun i hi => by rw [List.getElem?_append_left hi])]
  rw [List.take_append_of_le_length]
  exact trimLen_le _ _
theorem trimR_keep (p : List Int) {x : Int} (hx : x ≠ 32) : trimR (p ++ [x]) = p ++ [x] := by
  unfold trimR
  rw [List.length_append, List.length_singleton]
  rw [trimLen_succ, if_neg (by simpa using hx)]
  exact List.take_of_length_le (by simp)

def noHalf (l : List Int) : List Int := l.filter (fun x => x != -1)
theorem textOf_append (a b : List Int) : textOf (a ++ b) = textOf a ++ textOf b := by simp [textOf]
theorem runeBytes_half : runeBytes (-1) = [] := by simp [runeBytes, runeOk, inB]
theorem textOf_noHalf (l : List Int) : textOf (noHalf l) = textOf l := by
  induction l with
  | nil => rfl
  | cons a t ih =>
    unfold noHalf at *
    by_cases h : a = -1
    · subst h
      simp only [List.filter_cons, bne_self_eq_false, Bool.false_eq_true, if_false]
      rw [ih]; simp [textOf, runeBytes_half]
    · rw [List.filter_cons_of_pos (by simpa using h)]
      simp only [textOf, List.flatMap_cons] at *
      rw [ih]
/-- a second half stands behind a wide rune -/
def halvesOk (l : List Int) : Prop := ∀ i, i < l.length → l[i]?.getD 0 = -1 → 0 < i ∧ l[i - 1]?.getD 0 ≠ 32 ∧ l[i - 1]?.getD 0 ≠ -1
theorem list_snoc (l : List Int) : l = [] ∨ ∃ p x, l = p ++ [x] := by
  rcases List.eq_nil_or_concat l with h | ⟨p, x, h⟩
  · exact .inl h
  · exact .inr ⟨p, x, by simpa using h⟩
theorem halvesOk_pre {p : List Int} {x : Int} (h : halvesOk (p ++ [x])) : halvesOk p := by
  intro i hi e
  have := h i (by simp; omega) (by rw [List.getElem?_append_left hi]; exact e)
  rw [List.getElem?_append_left (by omega)] at this
  exact this
theorem rowText_same : ∀ (n : Nat) (l : List Int), l.length = n → halvesOk l → textOf (trimR (noHalf l)) = textOf (trimR l)
  | 0, l, hn, _ => by
    obtain rfl := List.length_eq_zero_iff.1 hn
    rfl
  | n + 1, l, hn, h => by
    rcases list_snoc l with rfl | ⟨p, x, rfl⟩
    · simp at hn
    have ih := rowText_same n p (by simpa using hn) (halvesOk_pre h)
    by_cases hb : x = 32
    · subst hb
      have e : noHalf (p ++ [32]) = noHalf p ++ [32] := by simp [noHalf, List.filter_append]
      rw [e, trimR_blank, trimR_blank, ih]
    · rw [trimR_keep p hb]
      by_cases hh : x = -1
      · subst hh
        have e : noHalf (p ++ [-1]) = noHalf p := by simp [noHalf, List.filter_append]
        have h1 := h p.length (by simp) (by simp)
        rcases list_snoc p with rfl | ⟨q, z, rfl⟩
        · simp at h1
        have hz : z ≠ 32 ∧ z ≠ -1 := by
          have := h1.2
          simpa using this
        have e2 : noHalf (q ++ [z]) = noHalf q ++ [z] := by simp [noHalf, List.filter_append, hz.2]
        rw [e, e2, trimR_keep _ hz.1, ← e2, textOf_noHalf, textOf_append (q ++ [z]) [-1]]
        simp [textOf, runeBytes_half]
      · have e : noHalf (p ++ [x]) = noHalf p ++ [x] := by simp [noHalf, List.filter_append, hh]
        rw [e, trimR_keep _ hb, ← e, textOf_noHalf]

/-- the cells of row y -/
def rowOf (g : Gr) (y : Int) : List Int := (g.C.drop (y * g.W).toNat).take g.W.toNat
def gridRow (g : Gr) (y : Int) : List UInt8 := if gridOk g = true ∧ 0 ≤ y ∧ y < g.H then textOf (trimR (rowOf g y)) else []
theorem row_in {W H y : Int} {n : Nat} (hW : 2 ≤ W) (hn : (n : Int) = W * H) (h0 : 0 ≤ y) (h1 : y < H) : 0 ≤ y * W ∧ y * W + W ≤ n := by
  have a : 0 ≤ y * W := Int.mul_nonneg h0 (by omega)
  have b : W * (y + 1) ≤ W * H := Int.mul_le_mul_of_nonneg_left (by omega) (by omega)
  rw [Int.mul_add, Int.mul_comm W y] at b
  omega
theorem rowOf_len {g : Gr} {y : Int} (hg : gridOk g = true) (h0 : 0 ≤ y) (h1 : y < g.H) : (rowOf g y).length = g.W.toNat := by
  obtain ⟨⟨a1, a2, a3, a4, a5, a6⟩, -, -⟩ := gridOk_iff.1 hg
  have := row_in a1 a6 h0 h1
  unfold rowOf
  rw [List.length_take, List.length_drop]
  omega
theorem rowOf_get {g : Gr} {y : Int} {i : Nat} (hi : i < g.W.toNat) : (rowOf g y)[i]? = g.C[(y * g.W).toNat + i]? := by
  unfold rowOf
  rw [List.getElem?_take, if_pos hi, List.getElem?_drop]
theorem row_halves {g : Gr} {y : Int} (hg : gridOk g = true) (h0 : 0 ≤ y) (h1 : y < g.H) : halvesOk (rowOf g y) := by
  have hl := rowOf_len hg h0 h1
  obtain ⟨⟨a1, a2, a3, a4, a5, a6⟩, -, hc⟩ := gridOk_iff.1 hg
  have hr := row_in a1 a6 h0 h1
  intro i hi e
  rw [hl] at hi
  have hcell := hc ((y * g.W).toNat + i) (by omega)
  have hm : (((y * g.W).toNat + i : Nat) : Int) % g.W = i := by
    have : (((y * g.W).toNat + i : Nat) : Int) = i + g.W * y := by rw [Int.mul_comm g.W y]; omega
    rw [this, Int.add_mul_emod_self_left]
    exact Int.emod_eq_of_lt (by omega) (by omega)
  rw [rowOf_get hi] at e
  unfold cellB at hcell
  rw [if_pos e, hm] at hcell
  simp only [Bool.and_eq_true, decide_eq_true_eq] at hcell
  have hi0 : 0 < i := by omega
  refine ⟨hi0, ?_⟩
  rw [rowOf_get (by omega)]
  have e2 : (y * g.W).toNat + i - 1 = (y * g.W).toNat + (i - 1) := by omega
  rw [e2] at hcell
  constructor
  · intro h; rw [h] at hcell; exact absurd hcell.2 (by decide)
  · intro h; rw [h] at hcell; exact absurd hcell.2 (by decide)
theorem rowText_grid {g : Gr} {y : Int} (hg : gridOk g = true) (h0 : 0 ≤ y) (h1 : y < g.H) : textOf (trimR (noHalf (rowOf g y))) = gridRow g y := by
  rw [rowText_same _ _ rfl (row_halves hg h0 h1)]
  unfold gridRow; rw [if_pos ⟨hg, h0, h1⟩]
end Go.Proofs.YtohjjhoobikioaaDoor
/-! GridRow of both packages. -/
namespace Go.Proofs.YtohjjhoobikioaaDoor
open Go.RowKit

/-- x[lo:hi]: an arm of the walk -/
theorem wp_cutLH {ops : Array Oper} {rest : List Oper} {d : Option Tmp} {ty : TypeId} {pos : String} {af : Array Edge} {a : Act} {Q : Exit → Act → World → Prop} {w : World} {x lo hi : Operand}
    {A : Option Addr} {n c k m : Nat} (hx : a.eval x = .slice A n c) (hl : a.eval lo = .int .i64 k) (hh : a.eval hi = .int .i64 m) (hkm : k ≤ m) (hm : m ≤ c)
    (h : wpList Tryd.prog ops Q rest (a.put d (.slice (subA A c k) (m - k) (c - k))) w) :
    wpList Tryd.prog ops Q (⟨d, Op.slice 22 x (some lo) (some hi) none, ty, pos, af, none⟩ :: rest) a w := by
  refine wpList_plain rfl fun K hK => ?_
  have e := run_slice_lh (P := Tryd.prog) w 22 A n c elem_ints .i64 .i64 (k : Int) (m : Int) (by omega) (by omega) (by omega)
  have e1 : Tryd.prog.elem 22 = 3 := by kernel_rfl
  rw [e1, size_int] at e
  unfold Oper.wp execOp
  simp [hx, hl, hh, run_sliceAt_slice w _ _ _ _ _ elem_ints, e, sliced, Oper.upon, Result.andThen]
  exact hK _ _ (by simpa [subA] using h)


end Go.Proofs.YtohjjhoobikioaaDoor
/-! GridText, plainly; spec.GridText. -/
namespace Go.Proofs.YtohjjhoobikioaaDoor
open Go.RowKit

/-- s + t on strings: an arm of the walk -/
theorem wp_addS {ops : Array Oper} {rest : List Oper} {d : Option Tmp} {t1 t2 ty : TypeId} {pos : String} {af : Array Edge} {a : Act} {Q : Exit → Act → World → Prop} {w : World} {x y : Operand}
    {l m : List UInt8} (hx : a.eval x = .string ⟨l.toArray⟩) (hy : a.eval y = .string ⟨m.toArray⟩) (hlen : l.length + m.length ≤ 9223372036854775807)
    (h : wpList Tryd.prog ops Q rest (a.put d (.string ⟨(l ++ m).toArray⟩)) w) :
    wpList Tryd.prog ops Q (⟨d, Op.binOp .add t1 x y t2, ty, pos, af, none⟩ :: rest) a w := by
  refine wpList_plain rfl fun K hK => ?_
  have e := run_string_add_sum (P := Tryd.prog) (w := w) ⟨l.toArray⟩ ⟨m.toArray⟩ (by rw [size_of_list, size_of_list]; exact hlen)
  have e2 : (⟨l.toArray⟩ ++ ⟨m.toArray⟩ : ByteArray) = ⟨(l ++ m).toArray⟩ := by
    apply ByteArray.ext; simp
  rw [e2] at e
  unfold Oper.wp execOp
  simp only [hx, hy]
  simp [go_sem, e]
  exact hK _ _ h

theorem cat_bytes (a b : Array UInt8) : (⟨a⟩ ++ ⟨b⟩ : ByteArray) = ⟨a ++ b⟩ := by apply ByteArray.ext; simp

/-- what is out and what waits after k rows -/
def gtS (g : Gr) : Nat → List UInt8 × List UInt8
  | 0 => ([], [])
  | k + 1 => if gridRow g k = [] then ((gtS g k).1, (gtS g k).2 ++ gridRow g k ++ [10]) else ((gtS g k).1 ++ ((gtS g k).2 ++ gridRow g k ++ [10]), [])
def gridText (g : Gr) : List UInt8 := if gridOk g = true then (gtS g g.H.toNat).1 else []
theorem gtS_none (g : Gr) (k : Nat) (h : gridRow g k = []) : gtS g (k + 1) = ((gtS g k).1, (gtS g k).2 ++ gridRow g k ++ [10]) := by
  show (if _ then _ else _) = _; rw [if_pos h]
theorem gtS_some (g : Gr) (k : Nat) (h : gridRow g k ≠ []) : gtS g (k + 1) = ((gtS g k).1 ++ ((gtS g k).2 ++ gridRow g k ++ [10]), []) := by
  show (if _ then _ else _) = _; rw [if_neg h]

theorem gridRow_len (g : Gr) (y : Int) : (gridRow g y).length ≤ 800 := by
  unfold gridRow
  split
  · rename_i h
    have h1 := textOf_len (trimR (rowOf g y))
    have h2 : (trimR (rowOf g y)).length ≤ (rowOf g y).length := by unfold trimR; rw [List.length_take]; omega
    have h3 : (rowOf g y).length ≤ g.W.toNat := by unfold rowOf; rw [List.length_take]; omega
    obtain ⟨⟨-, a2, -⟩, -, -⟩ := gridOk_iff.1 h.1
    omega
  · simp
theorem gtS_len (g : Gr) (k : Nat) : (gtS g k).1.length + (gtS g k).2.length ≤ 801 * k := by
  induction k with
  | zero => simp [gtS]
  | succ k ih =>
    have h := gridRow_len g k
    by_cases hs : gridRow g k = []
    · rw [gtS_none g k hs]; simp; omega
    · rw [gtS_some g k hs]; simp; omega

end Go.Proofs.YtohjjhoobikioaaDoor
/-! NumText of both packages; escape; EmitGoto of both packages. -/
namespace Go.Proofs.YtohjjhoobikioaaDoor
open Go.RowKit

def numText (n : Int) : List UInt8 := if 0 ≤ n ∧ n ≤ 4294967295 then Lib.decDigits n.toNat else []
theorem numText_yes {n : Int} (h0 : 0 ≤ n) (h1 : n ≤ 4294967295) : numText n = Lib.decDigits n.toNat := by unfold numText; rw [if_pos ⟨h0, h1⟩]
theorem numText_no {n : Int} (h : ¬ (0 ≤ n ∧ n ≤ 4294967295)) : numText n = [] := by unfold numText; rw [if_neg h]
theorem decDigits_len (k : Nat) : ∀ u : Nat, u < 10 ^ (k + 1) → (Lib.decDigits u).length ≤ k + 1 := by
  induction k with
  | zero => intro u hu; rw [Lib.decDigits_one (by simpa using hu)]; simp
  | succ k ih =>
    intro u hu
    rw [Lib.decDigits]
    split
    · simp
    · have := ih (u / 10) (by rw [Nat.pow_succ] at hu; omega)
      simp; omega
theorem numText_len (n : Int) : (numText n).length ≤ 10 := by
  unfold numText
  split
  · exact decDigits_len 9 _ (by omega)
  · simp
theorem numText_small {n : Int} (h0 : 0 ≤ n) (h : n < 10) : numText n = [by8 (48 + n)] := by
  rw [numText_yes h0 (by omega), Lib.decDigits_one (by omega)]
  unfold by8; congr 2; omega
theorem numText_step {n : Int} (h0 : 10 ≤ n) (h : n ≤ 4294967295) : numText n = numText (n / 10) ++ [by8 (48 + n % 10)] := by
  rw [numText_yes (by omega) h, numText_yes (by omega) (by omega), Lib.decDigits, dif_neg (by omega)]
  unfold by8
  congr 2
  · congr 1; omega
  · congr 2; omega

theorem toArr_append (a b : List UInt8) : (a ++ b).toArray = a.toArray ++ b.toArray := by simp
theorem conv1 {x : Int} (h0 : 0 ≤ x) (h1 : x < 256) (W : World) (b : Nat) (hc : W.cell? ⟨b, 0, none⟩ = some (.int .u8 x)) :
    (convert 38 9 (.slice (some ⟨b, 0, none⟩) 1 1)).run Tryd.prog W = .ok (.string ⟨#[by8 x]⟩) W := by
  refine run_convert_bytes_back W 38 9 5 ⟨b, 0, none⟩ 1 [by8 x] Tryd.underlying38 Tryd.underlying5 Tryd.underlying9 (fun j hj => ?_)
  obtain rfl : j = 0 := by simp at hj; omega
  rw [Addr.add_lit]
  simpa [by8_nat h0 h1] using hc

theorem impl_isNumber (n : Int) (w : World) : Calls Tryd.prog 127 #[.int .i64 n] w fun e w' => e = .returned (.bool (inB n 0 4294967295)) ∧ w = w' := by
  go_enter Tryd.func127, Tryd.ntmps127
  go_wp2_with fail
  refine (impl_in _ _ _ _).mono ?_; rintro e w' ⟨rfl, rfl⟩
  go_wp2_with fail
  go_ret
  exact ⟨rfl, rfl⟩
theorem impl_NumText (n : Int) (h0 : -9223372036854775808 ≤ n) (h1 : n ≤ 9223372036854775807) (w : World) (ht : Tab w) :
    Calls Tryd.prog 111 #[.int .i64 n] w fun e w' => e = .returned (.string ⟨(numText n).toArray⟩) ∧ Ext w w' := by
  cases hb : inB n 0 4294967295
  · have E := Lib.hid (numText_no (inB_not.1 hb))
    go_enter Tryd.func111, Tryd.ntmps111
    go_wp2_with fail
    have k1 := impl_isNumber n w
    rw [hb] at k1
    refine (k1).mono ?_; rintro e w1 ⟨rfl, rfl⟩
    clear k1
    go_wp2_with fail
    go_ret
    exact ⟨by rw [E.out]; rfl, Ext.refl _⟩
  · obtain ⟨h2, h3⟩ := inB_iff.1 hb
    have E : Hid (Lib.itoa n = numText n) := by show _ = _; rw [numText_yes h2 h3]; unfold Lib.itoa; rw [if_neg (by omega)]
    go_enter Tryd.func111, Tryd.ntmps111
    go_wp2_with fail
    have k1 := impl_isNumber n w
    rw [hb] at k1
    refine (k1).mono ?_; rintro e w1 ⟨rfl, rfl⟩
    clear k1
    go_wp2_with fail
    refine (Tryd.strconv_Itoa n h0 h1 _ ht).mono ?_; rintro e w1 ⟨rfl, k, os, rfl⟩
    rw [E.out]
    go_wp2_with fail
    go_ret
    exact ⟨rfl, (Ext.refl w).grow k os⟩

theorem spec_l01Num (n : Int) (w : World) : Calls Tryd.prog 94 #[.int .i64 n] w fun e w' => e = .returned (.bool (inB n 0 4294967295)) ∧ w = w' := by
  by_cases h1 : 0 ≤ n <;> by_cases h2 : n ≤ 4294967295
  all_goals (try (exfalso; omega))
  all_goals
    have e1 : inB n 0 4294967295 = true ∨ inB n 0 4294967295 = false := by cases inB n 0 4294967295 <;> simp
    rcases e1 with e1 | e1 <;> rw [e1] <;> simp [inB] at e1 <;> (try (exfalso; omega)) <;> clear e1
    go_enter Tryd.func94, Tryd.ntmps94
    go_wp2
    all_goals go_ret
    all_goals simp_all
set_option maxRecDepth 100000 in
set_option maxHeartbeats 2000000 in
theorem spec_NumText_at (k : Nat) : ∀ (n : Int) (w : World), n < k → Calls Tryd.prog 95 #[.int .i64 n] w fun e w' => e = .returned (.string ⟨(numText n).toArray⟩) ∧ Ext w w' := by
  induction k with
  | zero =>
    intro n w hk
    have hb : inB n 0 4294967295 = false := inB_not.2 (by omega)
    have E := Lib.hid (numText_no (inB_not.1 hb))
    go_enter Tryd.func95, Tryd.ntmps95
    go_wp2_with fail
    have k1 := spec_l01Num n w
    rw [hb] at k1
    refine (k1).mono ?_; rintro e w1 ⟨rfl, rfl⟩
    clear k1
    go_wp2_with fail
    go_ret
    exact ⟨by rw [E.out]; rfl, Ext.refl _⟩
  | succ k ih =>
    intro n w hk
    cases hb : inB n 0 4294967295
    · have E := Lib.hid (numText_no (inB_not.1 hb))
      have Ih := Lib.hid ih; clear ih
      go_enter Tryd.func95, Tryd.ntmps95
      go_wp2_with fail
      have k1 := spec_l01Num n w
      rw [hb] at k1
      refine (k1).mono ?_; rintro e w1 ⟨rfl, rfl⟩
      clear k1
      go_wp2_with fail
      go_ret
      exact ⟨by rw [E.out]; rfl, Ext.refl _⟩
    obtain ⟨h2, h3⟩ := inB_iff.1 hb
    by_cases h4 : n < 10
    · have E := Lib.hid (numText_small h2 h4)
      have Ih := Lib.hid ih; clear ih
      have HB := Lib.hid (by8_nat (x := 48 + n) (by omega) (by omega))
      go_enter Tryd.func95, Tryd.ntmps95
      go_wp2_with fail
      have k1 := spec_l01Num n w
      rw [hb] at k1
      refine (k1).mono ?_; rintro e w1 ⟨rfl, rfl⟩
      clear k1
      have r1 := RB.lit w [.int .u8 (48 + n)] [by8 (48 + n)] (by simp [byteC, HB.out]) (by simp)
      go_wp2_with ((with_reducible refine wp_toStr (l := [by8 (48 + n)]) ?_ r1 ?_); go_must (exact rfl))
      go_wp2_with fail
      go_ret
      exact ⟨by rw [E.out]; rfl, (Ext.refl w).alloc _⟩
    · have E := Lib.hid (numText_step (by omega) h3)
      have Ih := Lib.hid ih; clear ih
      have HB := Lib.hid (by8_nat (x := 48 + n % 10) (by omega) (by omega))
      go_enter Tryd.func95, Tryd.ntmps95
      go_wp2_with fail
      have k1 := spec_l01Num n w
      rw [hb] at k1
      refine (k1).mono ?_; rintro e w1 ⟨rfl, rfl⟩
      clear k1
      go_wp2_with fail
      have e1 : n.tdiv 10 = n / 10 := Int.tdiv_eq_ediv_of_nonneg (by omega)
      have e2 : IntKind.i64.wrap (n / 10) = n / 10 := IntWalk.i64_in _ (by omega)
      have e3 : n.tmod 10 = n % 10 := Int.tmod_eq_emod_of_nonneg (by omega)
      have e4 : IntKind.i64.wrap (48 + n % 10) = 48 + n % 10 := IntWalk.i64_in _ (by omega)
      have e5 : IntKind.u8.wrap (48 + n % 10) = 48 + n % 10 := by rw [IntKind.wrap_u8]; omega
      have hk' : n / 10 < k := by omega
      have hl := numText_len (n / 10)
      have e6 := conv1 (x := 48 + n % 10) (by omega) (by omega)
      go_region_with (first
        | (go_at_call 95; refine (Ih.out _ _ hk').mono ?_; rintro e w1 ⟨rfl, x1⟩; obtain ⟨lc, lf, ls⟩ := x1.look))
      all_goals
        clear e1 e2 e3 e4 e5 e6 hl
        go_wp2_with fail
        go_ret
        exact ⟨by rw [E.out, toArr_append, ← cat_bytes]; rfl, by first | exact (((Ext.refl w).alloc _).drew).trans x1 | exact (((Ext.refl w).drew).trans x1).alloc _ | exact ((Ext.refl w).drew).trans x1⟩
theorem spec_NumText (n : Int) (w : World) : Calls Tryd.prog 95 #[.int .i64 n] w fun e w' => e = .returned (.string ⟨(numText n).toArray⟩) ∧ Ext w w' := spec_NumText_at (n + 1).toNat n w (by omega)
end Go.Proofs.YtohjjhoobikioaaDoor
