/-
  The terminal, plainly: runes, rows, differences.
-/
import Derived.Test.YtohjjhoobikioaaDoorVtQ
namespace Go.Proofs.YtohjjhoobikioaaDoor
open Go.RowKit

theorem spanOk_of {n : Nat} {lo hi r : Int} (h1 : lo ≤ r) (h2 : r ≤ hi) (h3 : leastOf n ≤ r) (h4 : runeOk r = true) : spanOk n (some (lo, hi)) = true := by
  have h5 : (0 ≤ r ∧ r ≤ 1114111) ∧ ¬ (55296 ≤ r ∧ r ≤ 57343) := by
    have := h4
    simp only [runeOk, Bool.and_eq_true, Bool.not_eq_true', inB_iff, inB_not] at this
    exact this
  simp only [spanOk, Bool.and_eq_true, decide_eq_true_eq, Bool.not_eq_true', Bool.and_eq_false_iff, decide_eq_false_iff_not]
  omega
theorem runeRead_short {x : UInt8} {t : List UInt8} (h0 : ¬ x.toNat < 128) (h : t.length + 1 < seqLen x.toNat) : runeRead (x :: t) = (0, 0) := by
  simp only [runeRead]; rw [if_neg h0, if_pos (.inr h)]
theorem runeRead_full {x : UInt8} {t : List UInt8} {r : Int} (h0 : ¬ x.toNat < 128) (h : seqLen x.toNat = t.length + 1) (hr : foldR (lead x.toNat (t.length + 1)) t = r) (hb : runeBytes r = x :: t) : runeRead (x :: t) = (r, (t.length : Int) + 1) := by
  simp only [runeRead]
  rw [if_neg h0, if_neg (by omega), h, Nat.add_sub_cancel, List.take_of_length_le (Nat.le_refl _), List.take_of_length_le (by simp), hr, if_pos hb]
  simp
theorem step_more {g : Gr} {N : Int} {B : List UInt8} {c : UInt8} (hc : 128 ≤ c.toNat) (h1 : runeRead (B ++ [c]) = (0, 0)) (h2 : runeBegin (B ++ [c]) = true) : vtStep ⟨g, 0, [], B, N⟩ c.toNat = ⟨g, 0, [], B ++ [c], N⟩ := by
  have e : UInt8.ofNat c.toNat = c := UInt8.ofNat_toNat
  simp only [vtStep, vtPlain, if_pos hc, e, h1, h2, if_true]
  rw [if_neg (by omega)]
theorem step_done {g : Gr} {N r : Int} {B : List UInt8} {c : UInt8} (hc : 128 ≤ c.toNat) (h1 : runeRead (B ++ [c]) = (r, (B.length : Int) + 1)) : vtStep ⟨g, 0, [], B, N⟩ c.toNat = T (putG g r) N := by
  have e : UInt8.ofNat c.toNat = c := UInt8.ofNat_toNat
  simp only [vtStep, vtPlain, if_pos hc, e, h1, if_true]
  rfl
theorem feed_rune {g : Gr} {N r : Int} (hp : printable r = true) : feed (T g N) (runeBytes r) = T (putG g r) N := by
  have hk : runeOk r = true := by
    have := hp
    simp only [printable, Bool.and_eq_true] at this
    exact this.1.1
  have h32 : 32 ≤ r ∧ ¬ (127 ≤ r ∧ r ≤ 159) := by
    have := hp
    simp only [printable, Bool.and_eq_true, decide_eq_true_eq, Bool.not_eq_true', inB_not] at this
    exact ⟨this.1.2, this.2⟩
  obtain ⟨-, r1⟩ := runeOk_range hk
  by_cases h1 : r < 128
  · have E : runeBytes r = [by8 r] := by simp [runeBytes, hk, h1]
    have e := by8_nat (x := r) (by omega) (by omega)
    rw [E, feed_one]
    have e2 : (by8 r).toNat = r.toNat := by omega
    rw [e2]
    simp only [vtStep, T, vtPlain, if_true]
    rw [if_neg (by omega), if_neg (by omega), if_neg (by omega), if_neg (by omega), if_neg (by omega), if_neg (by omega), if_pos (by omega), Int.toNat_of_nonneg (by omega)]
  by_cases h2 : r < 2048
  · have E : runeBytes r = [by8 (192 + r / 64), by8 (128 + r % 64)] := by simp [runeBytes, hk, h1, h2]
    have a0 := by8_nat (x := 192 + r / 64) (by omega) (by omega)
    have a1 := by8_nat (x := 128 + r % 64) (by omega) (by omega)
    generalize by8 (192 + r / 64) = c0 at *
    generalize by8 (128 + r % 64) = c1 at *
    have hs : seqLen c0.toNat = 2 := by unfold seqLen; rw [if_neg (by omega), if_pos (by omega)]
    rw [E, feed_cons, T, step_more (by omega) (runeRead_short (by omega) (by rw [hs]; simp)) ?_, feed_one]
    · refine step_done (by omega) ?_
      refine runeRead_full (t := [c1]) (by omega) hs ?_ E
      simp only [List.length_cons, List.length_nil, lead, foldR, List.foldl_cons, List.foldl_nil]
      rw [if_pos (by decide)]
      omega
    · show runeBegin [c0] = true
      simp only [runeBegin]
      rw [if_neg (by rw [hs]; simp; omega), hs]
      exact spanOk_of (r := r) (by simp only [lead]; rw [if_pos (by decide)]; omega) (by simp only [lead]; rw [if_pos (by decide)]; omega) (by show (128 : Int) ≤ r; omega) hk
  by_cases h3 : r < 65536
  · have E : runeBytes r = [by8 (224 + r / 4096), by8 (128 + r / 64 % 64), by8 (128 + r % 64)] := by simp [runeBytes, hk, h1, h2, h3]
    have a0 := by8_nat (x := 224 + r / 4096) (by omega) (by omega)
    have a1 := by8_nat (x := 128 + r / 64 % 64) (by omega) (by omega)
    have a2 := by8_nat (x := 128 + r % 64) (by omega) (by omega)
    generalize by8 (224 + r / 4096) = c0 at *
    generalize by8 (128 + r / 64 % 64) = c1 at *
    generalize by8 (128 + r % 64) = c2 at *
    have hs : seqLen c0.toNat = 3 := by unfold seqLen; rw [if_neg (by omega), if_neg (by omega), if_pos (by omega)]
    have hl : lead c0.toNat 3 = (c0.toNat : Int) - 224 := by unfold lead; rw [if_neg (by decide), if_pos rfl]
    have hc : (128 ≤ c1.toNat ∧ c1.toNat ≤ 191) := by omega
    rw [E, feed_cons, T, step_more (by omega) (runeRead_short (by omega) (by rw [hs]; simp)) ?_, feed_cons, step_more (by omega) (runeRead_short (by omega) (by rw [hs]; simp)) ?_, feed_one]
    · refine step_done (by omega) ?_
      refine runeRead_full (t := [c1, c2]) (by omega) hs ?_ E
      simp only [List.length_cons, List.length_nil, foldR, List.foldl_cons, List.foldl_nil, hl]
      omega
    · show runeBegin [c0, c1] = true
      simp only [runeBegin]
      rw [if_neg (by rw [hs]; simp; omega), hs]
      have e : spans [c0, c1] (lead c0.toNat 3, lead c0.toNat 3) 1 (3 - 1) = some (((lead c0.toNat 3) * 64 + c1.toNat - 128) * 64, ((lead c0.toNat 3) * 64 + c1.toNat - 128) * 64 + 63) := by simp [spans, span1, hc]
      rw [e, hl]
      exact spanOk_of (r := r) (by omega) (by omega) (by show (2048 : Int) ≤ r; omega) hk
    · show runeBegin [c0] = true
      simp only [runeBegin]
      rw [if_neg (by rw [hs]; simp; omega), hs]
      have e : spans [c0] (lead c0.toNat 3, lead c0.toNat 3) 1 (3 - 1) = some (((lead c0.toNat 3) * 64) * 64, ((lead c0.toNat 3) * 64 + 63) * 64 + 63) := by simp [spans, span1]
      rw [e, hl]
      exact spanOk_of (r := r) (by omega) (by omega) (by show (2048 : Int) ≤ r; omega) hk
  · have E : runeBytes r = [by8 (240 + r / 262144), by8 (128 + r / 4096 % 64), by8 (128 + r / 64 % 64), by8 (128 + r % 64)] := by simp [runeBytes, hk, h1, h2, h3]
    have a0 := by8_nat (x := 240 + r / 262144) (by omega) (by omega)
    have a1 := by8_nat (x := 128 + r / 4096 % 64) (by omega) (by omega)
    have a2 := by8_nat (x := 128 + r / 64 % 64) (by omega) (by omega)
    have a3 := by8_nat (x := 128 + r % 64) (by omega) (by omega)
    generalize by8 (240 + r / 262144) = c0 at *
    generalize by8 (128 + r / 4096 % 64) = c1 at *
    generalize by8 (128 + r / 64 % 64) = c2 at *
    generalize by8 (128 + r % 64) = c3 at *
    have hs : seqLen c0.toNat = 4 := by unfold seqLen; rw [if_neg (by omega), if_neg (by omega), if_neg (by omega), if_pos (by omega)]
    have hl : lead c0.toNat 4 = (c0.toNat : Int) - 240 := by unfold lead; rw [if_neg (by decide), if_neg (by decide)]
    have hc : (128 ≤ c1.toNat ∧ c1.toNat ≤ 191) := by omega
    have hc2 : (128 ≤ c2.toNat ∧ c2.toNat ≤ 191) := by omega
    rw [E, feed_cons, T, step_more (by omega) (runeRead_short (by omega) (by rw [hs]; simp)) ?_, feed_cons, step_more (by omega) (runeRead_short (by omega) (by rw [hs]; simp)) ?_, feed_cons, step_more (by omega) (runeRead_short (by omega) (by rw [hs]; simp)) ?_, feed_one]
    · refine step_done (by omega) ?_
      refine runeRead_full (t := [c1, c2, c3]) (by omega) hs ?_ E
      simp only [List.length_cons, List.length_nil, foldR, List.foldl_cons, List.foldl_nil, hl]
      omega
    · show runeBegin [c0, c1, c2] = true
      simp only [runeBegin]
      rw [if_neg (by rw [hs]; simp; omega), hs]
      have e : spans [c0, c1, c2] (lead c0.toNat 4, lead c0.toNat 4) 1 (4 - 1) = some ((((lead c0.toNat 4) * 64 + c1.toNat - 128) * 64 + c2.toNat - 128) * 64, (((lead c0.toNat 4) * 64 + c1.toNat - 128) * 64 + c2.toNat - 128) * 64 + 63) := by simp [spans, span1, hc, hc2]
      rw [e, hl]
      exact spanOk_of (r := r) (by omega) (by omega) (by show (65536 : Int) ≤ r; omega) hk
    · show runeBegin [c0, c1] = true
      simp only [runeBegin]
      rw [if_neg (by rw [hs]; simp; omega), hs]
      have e : spans [c0, c1] (lead c0.toNat 4, lead c0.toNat 4) 1 (4 - 1) = some ((((lead c0.toNat 4) * 64 + c1.toNat - 128) * 64) * 64, (((lead c0.toNat 4) * 64 + c1.toNat - 128) * 64 + 63) * 64 + 63) := by simp [spans, span1, hc]
      rw [e, hl]
      exact spanOk_of (r := r) (by omega) (by omega) (by show (65536 : Int) ≤ r; omega) hk
    · show runeBegin [c0] = true
      simp only [runeBegin]
      rw [if_neg (by rw [hs]; simp; omega), hs]
      have e : spans [c0] (lead c0.toNat 4, lead c0.toNat 4) 1 (4 - 1) = some ((((lead c0.toNat 4) * 64) * 64) * 64, (((lead c0.toNat 4) * 64 + 63) * 64 + 63) * 64 + 63) := by simp [spans, span1]
      rw [e, hl]
      exact spanOk_of (r := r) (by omega) (by omega) (by show (65536 : Int) ≤ r; omega) hk

/-! ### rows -/
theorem gt_clear_before {C : List Int} {i j e : Nat} (hv : ∀ k, k < C.length → width (gt C k) = 2 → gt C (k + 1) = -1) (hi : i < C.length) (hij : j < i) (hn : gt C i ≠ -1) : gt (clearC C i e) j = gt C j := by
  have hj : j < C.length := by omega
  have hh : hit C i e j = false := by
    unfold hit other
    by_cases h2 : width (gt C j) = 2
    · rw [if_pos h2]
      have h3 := hv j hj h2
      have : j + 1 ≠ i := by rintro rfl; exact hn h3
      simp; omega
    · rw [if_neg h2]
      split <;> (simp; omega)
  rw [gt_clear hj, hh]; rfl
/-- all cells before i are right -/
def Same0 (a g : Gr) (i : Nat) : Prop := ∀ j, j < i → gt g.C j = gt a.C j

theorem feed_rowDiff {a g0 : Gr} {N : Int} (ha : gridOk a = true) {s e : Nat} {y : Int} (hy0 : 0 ≤ y) (hy1 : y < a.H) (hsy : (s : Int) = y * a.W) (he : (e : Int) = s + a.W) : ∀ (m i : Nat) (g : Gr) (o : List UInt8), e - i ≤ m → s ≤ i → i ≤ e → DInv a g s i → Same0 a g i →
    feed (T g0 N) o = T g N → feed (T g0 N) (rowDiff a s e y i g o).2 = T (rowDiff a s e y i g o).1 N ∧ Same0 a (rowDiff a s e y i g o).1 e := by
  obtain ⟨d1, d2, d3, d4, d5, d6⟩ := gridOk_d ha
  have hel : e ≤ a.C.length := by
    have h1 : (y + 1) * a.W ≤ a.H * a.W := Int.mul_le_mul_of_nonneg_right (by omega) (by omega)
    rw [Int.add_mul, Int.one_mul, Int.mul_comm a.H] at h1
    omega
  have hsw : (s : Int) % a.W = 0 := by rw [hsy]; exact Int.mul_emod_left _ _
  intro m
  induction m with
  | zero =>
    intro i g o hm hs hie h h0 hf
    obtain rfl : i = e := by omega
    rw [rowDiff_end (by omega)]
    exact ⟨hf, h0⟩
  | succ m ih =>
    intro i g o hm hs hie h h0 hf
    by_cases hlt : i < e
    · by_cases hd : gt g.C i = gt a.C i
      · rw [rowDiff_same hlt hd]
        exact ih (i + 1) g o (by omega) (by omega) (by omega) (h.next hd) (fun j hj => by
          by_cases hj2 : j < i
          · exact h0 j hj2
          · obtain rfl : j = i := by omega
            exact hd) hf
      · have hl := h.len ha
        obtain ⟨n1, n2⟩ := h.whole ha hs hsw (by omega) hd
        have hst : feed (T g0 N) (o ++ emitStep g ((i : Int) - s) y) = T (goG g ((i : Int) - s) y) N := by
          rw [feed_append, hf, feed_step h.ok (by omega) (by rw [h.w]; omega) hy0 (by rw [h.h]; exact hy1)]
        cases hb : blanks ((a.C.drop i).take (e - i))
        · obtain ⟨hw, h'⟩ := h.put ha hs hy0 hy1 hsy (by omega) hd
          have hww := hw.imp id (fun x : _ ∧ _ => x.1)
          have hwe : i + (width (gt a.C i)).toNat ≤ e := by omega
          have hC : (putG (goG g ((i : Int) - s) y) (gt a.C i)).C = putC g.C i (gt a.C i) := h.cells ha hs hy0 hy1 hsy (by omega) hd
          rw [rowDiff_put hlt hd hb hww]
          refine ih _ _ _ (by omega) (by omega) hwe h' (fun j hj => ?_) ?_
          · by_cases hj2 : j < s
            · rw [hC, gt_put_before (fun k hk e => (vc_wide (gridOk_vc h.ok) hk e).2) (by omega) (by omega) n2]
              exact h0 j (by omega)
            · exact h'.same j (by omega) hj
          · rw [feed_append, hst, feed_rune (printable_pos (by omega))]
        · rw [rowDiff_tail hlt hd hb]
          refine ⟨?_, fun j hj => ?_⟩
          · have hX : (goG g ((i : Int) - s) y).X = (i : Int) - s := clampI_id (by omega) (by rw [h.w]; omega)
            have hY : (goG g ((i : Int) - s) y).Y = y := clampI_id hy0 (by rw [h.h]; omega)
            have hW : (goG g ((i : Int) - s) y).W = a.W := h.w
            show feed _ (o ++ emitStep g ((i : Int) - s) y ++ [27, 91, 75]) = _
            rw [feed_append, hst, feed_tail, hX, hY, hW]
            have e1 : y * a.W + ((i : Int) - s) = i := by rw [← hsy]; omega
            have e2 : (y + 1) * a.W = e := by rw [Int.add_mul, Int.one_mul]; omega
            rw [e1, e2]
          · show gt (clearC g.C i e) j = _
            by_cases hj2 : j < i
            · rw [gt_clear_before (fun k hk e => (vc_wide (gridOk_vc h.ok) hk e).2) (by omega) hj2 n2]
              exact h0 j hj2
            · rw [gt_clear (by omega)]
              have hh : hit g.C i e j = true := by unfold hit; simp; omega
              rw [if_pos hh]
              unfold blanks at hb
              rw [List.all_eq_true] at hb
              have hm2 : gt a.C j ∈ (a.C.drop i).take (e - i) := by
                have e1 : ((a.C.drop i).take (e - i))[j - i]? = some (gt a.C j) := by
                  rw [List.getElem?_take, if_pos (by omega), List.getElem?_drop, show i + (j - i) = j by omega, List.getElem?_eq_getElem (by omega)]
                  simp [gt, List.getElem?_eq_getElem (show j < a.C.length by omega)]
                exact List.mem_of_getElem? e1
              have := hb _ hm2
              exact (eq_of_beq this).symm
    · obtain rfl : i = e := by omega
      rw [rowDiff_end hlt]
      exact ⟨hf, h0⟩

theorem feed_rowsDiff {a g : Gr} {N : Int} (ha : gridOk a = true) (hg : gridOk g = true) (hw : g.W = a.W) (hh : g.H = a.H) : ∀ k : Nat, (k : Int) ≤ a.H →
    feed (T g N) (rowsDiff a g k).2 = T (rowsDiff a g k).1 N ∧ Same0 a (rowsDiff a g k).1 (k * a.W.toNat) := by
  obtain ⟨d1, d2, d3, d4, d5, d6⟩ := gridOk_d ha
  intro k
  induction k with
  | zero => intro _; exact ⟨rfl, fun j hj => absurd hj (by simp)⟩
  | succ k ih =>
    intro hk
    obtain ⟨q1, q2⟩ := ih (by omega)
    obtain ⟨p1, p2, p3, -⟩ := rowsDiff_ok ha hg hw hh k (by omega)
    have hs : ((k * a.W.toNat : Nat) : Int) = (k : Int) * a.W := by rw [Int.natCast_mul, Int.toNat_of_nonneg (by omega)]
    have r := feed_rowDiff ha (g0 := g) (N := N) (s := k * a.W.toNat) (e := k * a.W.toNat + a.W.toNat) (y := k) (by omega) (by omega) hs (by rw [Int.natCast_add, Int.toNat_of_nonneg (by omega)]) _ _ (rowsDiff a g k).1 (rowsDiff a g k).2 (Nat.le_refl _) (Nat.le_refl _) (by omega) (DInv.start _ p1 p2 p3) q2 q1
    have e : (k + 1) * a.W.toNat = k * a.W.toNat + a.W.toNat := Nat.succ_mul _ _
    rw [e]
    exact r
/-- the bytes of a difference make a terminal that shows the first grid show the second -/
theorem feed_diff {a g : Gr} {N : Int} (ha : gridOk a = true) (hg : gridOk g = true) (hw : g.W = a.W) (hh : g.H = a.H) (hR : a.R = false) : feed (T g N) (diffB g a) = T a N := by
  obtain ⟨d1, d2, d3, d4, d5, d6⟩ := gridOk_d ha
  obtain ⟨c1, c2, c3, c4, -⟩ := gridOk_c ha
  obtain ⟨f1, f2⟩ := feed_rowsDiff (N := N) ha hg hw hh a.H.toNat (by omega)
  obtain ⟨p1, p2, p3, -⟩ := rowsDiff_ok ha hg hw hh a.H.toNat (by omega)
  unfold diffB
  rw [feed_append, f1, feed_step p1 c1 (by rw [p2]; exact c2) c3 (by rw [p3]; exact c4)]
  congr 1
  obtain ⟨-, -, -, -, -, e6⟩ := gridOk_d p1
  generalize rowsDiff a g a.H.toNat = R at *
  have hlen : R.1.C.length = a.C.length := by
    have : (R.1.C.length : Int) = a.C.length := by rw [e6, d6, p2, p3]
    exact Int.ofNat_inj.1 this
  have hll : a.H.toNat * a.W.toNat = a.C.length := by
    have : ((a.H.toNat * a.W.toNat : Nat) : Int) = a.C.length := by
      rw [Int.natCast_mul, Int.toNat_of_nonneg (by omega), Int.toNat_of_nonneg (by omega), d6, Int.mul_comm]
    exact Int.ofNat_inj.1 this
  have hC : R.1.C = a.C := ext_gt hlen (fun i hi => f2 i (by rw [hll]; omega))
  obtain ⟨aW, aH, aC, aX, aY, aR⟩ := a
  simp only [goG] at *
  rw [hC, p2, p3, clampI_id c1 (by omega), clampI_id c3 (by omega), hR]
end Go.Proofs.YtohjjhoobikioaaDoor
