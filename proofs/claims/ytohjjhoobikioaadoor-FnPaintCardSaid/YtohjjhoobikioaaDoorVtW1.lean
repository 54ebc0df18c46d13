/-
  The terminal's leaves: copyBytes, isDigit, RuneRead.
-/
import Derived.Test.YtohjjhoobikioaaDoorVtI
import Derived.Test.YtohjjhoobikioaaDoorGM3
import Derived.Deep.RegionHeld3
namespace Go.Proofs.YtohjjhoobikioaaDoor
open Go.RowKit

theorem elem_bytes : Tryd.prog.underlying 38 = some (.slice (Tryd.prog.elem 38)) := by kernel_rfl
theorem size_byte (w : World) : (sizeOf 5).run Tryd.prog w = .ok 1 w := by kernel_rfl
theorem RB.sub {w : World} {A : Option Addr} {n c : Nat} {l : List UInt8} (h : RB w A n c l) {lo hi : Nat} (h1 : lo ≤ hi) (h2 : hi ≤ n) :
    RB w (subA A c lo) (hi - lo) (c - lo) ((l.drop lo).take (hi - lo)) := by
  have hc := h.cap
  unfold subA
  refine ⟨by rw [List.length_take, List.length_drop, h.len]; omega, by omega, by have := h.cmax; omega, ?_, fun hn => ?_⟩
  · intro e
    by_cases hcl : c = lo
    · omega
    · rw [if_neg hcl] at e
      cases A with
      | none => have := h.none_ rfl; omega
      | some a => cases e
  · obtain ⟨b, o, rfl, hx⟩ := h.at_ (by omega)
    rw [if_neg (by omega)]
    refine ⟨b, o + lo, by simp [Addr.add_lit], fun j hj => ?_⟩
    rw [Nat.add_assoc, hx (lo + j) (by omega)]
    simp [hj]
/-- x[lo:hi], x bytes: an arm of the walk -/
theorem wp_cutLHB {ops : Array Oper} {rest : List Oper} {d : Option Tmp} {ty : TypeId} {pos : String} {af : Array Edge} {a : Act} {Q : Exit → Act → World → Prop} {w : World} {x lo hi : Operand}
    {A : Option Addr} {n c k m : Nat} (hx : a.eval x = .slice A n c) (hl : a.eval lo = .int .i64 k) (hh : a.eval hi = .int .i64 m) (hkm : k ≤ m) (hm : m ≤ c)
    (h : wpList Tryd.prog ops Q rest (a.put d (.slice (subA A c k) (m - k) (c - k))) w) :
    wpList Tryd.prog ops Q (⟨d, Op.slice 38 x (some lo) (some hi) none, ty, pos, af, none⟩ :: rest) a w := by
  refine wpList_plain rfl fun K hK => ?_
  have e := run_slice_lh (P := Tryd.prog) w 38 A n c elem_bytes .i64 .i64 (k : Int) (m : Int) (by omega) (by omega) (by omega)
  have e1 : Tryd.prog.elem 38 = 5 := by kernel_rfl
  rw [e1, size_byte] at e
  unfold Oper.wp execOp
  simp [hx, hl, hh, run_sliceAt_slice w _ _ _ _ _ elem_bytes, e, sliced, Oper.upon, Result.andThen]
  exact hK _ _ (by simpa [subA] using h)

theorem impl_copyBytes (A : Option Addr) (n c : Nat) (l : List UInt8) (w : World) (h : RB w A n c l) (hs : n ≤ 4294967296) :
    Calls Tryd.prog 120 #[.slice A n c] w fun e w' => ∃ v, e = .returned v ∧ OwnB w' w.heap.size v l ∧ Ext w w' := by
  go_enter Tryd.func120, Tryd.ntmps120
  go_wp2_with (at_builtin; refine wp_appB rfl _ _ rfl rfl (OwnB.nil w w.heap.size) rfl h (by simp; omega) (Nat.le_refl _) ?_)
  intro v1 w1 own1 hg1 _
  go_wp2_with fail
  go_ret
  exact ⟨_, rfl, own1, (Ext.refl w).grownB (OwnB.nil w w.heap.size) hg1⟩
theorem impl_isDigit (r : Int) (w : World) : Calls Tryd.prog 133 #[.int .i64 r] w fun e w' => e = .returned (.bool (inB r 48 57)) ∧ w = w' := by
  go_enter Tryd.func133, Tryd.ntmps133
  go_wp2_with (go_at_call 97; refine (impl_in _ _ _ _).mono ?_; rintro e w' ⟨rfl, rfl⟩)
  go_ret
  exact ⟨rfl, rfl⟩

/-- string(b), as a rule -/
theorem conv_str {w : World} {A : Option Addr} {n c : Nat} {l : List UInt8} (hr : RB w A n c l) : (convert 38 9 (.slice A n c)).run Tryd.prog w = .ok (.string ⟨l.toArray⟩) w := by
  obtain rfl := hr.len
  cases A with
  | none =>
    obtain rfl := hr.none_ rfl
    have hl : l = [] := List.length_eq_zero_iff.1 (by have := hr.cap; omega)
    subst hl
    exact run_convert_bytes_nil w 38 5 Tryd.underlying38 Tryd.underlying5 0 0 9 Tryd.underlying9
  | some ad =>
    refine run_convert_bytes_back w 38 9 5 ad c l Tryd.underlying38 Tryd.underlying5 Tryd.underlying9 (fun j hj => ?_)
    obtain ⟨b, o, e, hc⟩ := hr.at_ (by omega)
    obtain rfl := Option.some.inj e
    rw [Addr.add_lit, hc j hj]
    simp [hj]
theorem bytes_ne {a b : List UInt8} : ((⟨a.toArray⟩ : ByteArray) != ⟨b.toArray⟩) = !decide (a = b) := by
  unfold bne
  congr 1
  have h : ((⟨a.toArray⟩ : ByteArray) == ⟨b.toArray⟩) = true ↔ a = b := by
    rw [show ((⟨a.toArray⟩ : ByteArray) == ⟨b.toArray⟩) = (a.toArray == b.toArray) from rfl, beq_iff_eq]
    exact Array.toList_inj.symm
  by_cases e : a = b
  · rw [h.2 e]; simp [e]
  · rw [decide_eq_false e]
    cases h2 : ((⟨a.toArray⟩ : ByteArray) == ⟨b.toArray⟩)
    · rfl
    · exact absurd (h.1 h2) e

theorem keepCv {P : World → Prop} {wb w' w1 : World} (cv : ∀ w', Ext wb w' → P w') (h : P w' ∧ Ext wb w') (x : Ext w' w1) : P w1 ∧ Ext wb w1 := ⟨cv _ (h.2.trans x), h.2.trans x⟩
theorem foldR_snoc {r : Int} {t : List UInt8} {k : Nat} (hk : k < t.length) : foldR r (t.take (k + 1)) = foldR r (t.take k) * 64 + (t.getD k 0).toNat - 128 := by
  have e : t.take (k + 1) = t.take k ++ [t.getD k 0] := by
    rw [List.take_add_one, List.getElem?_eq_getElem hk]; simp [List.getD, List.getElem?_eq_getElem hk]
  unfold foldR
  rw [e, List.foldl_append]; rfl
theorem foldR_in {r : Int} {t : List UInt8} (h0 : -64 ≤ r) (h1 : r ≤ 64) (h : t.length ≤ 3) : -17309824 ≤ foldR r t ∧ foldR r t ≤ 17309824 := by
  match t, h with
  | [], _ => simp [foldR]; omega
  | [a], _ => have := a.toNat_lt; simp [foldR]; omega
  | [a, b], _ => have := a.toNat_lt; have := b.toNat_lt; simp [foldR]; omega
  | [a, b, c], _ => have := a.toNat_lt; have := b.toNat_lt; have := c.toNat_lt; simp [foldR]; omega
theorem drop_get {l : List UInt8} {k : Nat} (h : k < l.length) : l.drop k = l.getD k 0 :: l.drop (k + 1) := by
  rw [List.drop_eq_getElem_cons h]; simp [List.getD, List.getElem?_eq_getElem h]
theorem seq_cases (x : Nat) : (x < 128) ∨ (128 ≤ x ∧ seqLen x = 0 ∧ ¬ (192 ≤ x ∧ x ≤ 247)) ∨ (192 ≤ x ∧ x ≤ 223 ∧ seqLen x = 2) ∨ (224 ≤ x ∧ x ≤ 239 ∧ seqLen x = 3) ∨ (240 ≤ x ∧ x ≤ 247 ∧ seqLen x = 4) := by
  unfold seqLen
  (repeat' split) <;> omega
theorem runeRead_one {l : List UInt8} {k : Nat} (h : k < l.length) (hx : (l.getD k 0).toNat < 128) : runeRead (l.drop k) = (((l.getD k 0).toNat : Int), 1) := by
  rw [drop_get h]; simp only [runeRead]; rw [if_pos hx]
theorem runeRead_bad {l : List UInt8} {k : Nat} (h : k < l.length) (hx : 128 ≤ (l.getD k 0).toNat) (hb : seqLen (l.getD k 0).toNat = 0 ∨ l.length < k + seqLen (l.getD k 0).toNat) : runeRead (l.drop k) = (0, 0) := by
  rw [drop_get h]; simp only [runeRead]; rw [if_neg (by omega), if_pos (by rw [List.length_drop]; omega)]
theorem runeRead_m {l : List UInt8} {k m : Nat} (h : k < l.length) (hx : 128 ≤ (l.getD k 0).toNat) (hm : seqLen (l.getD k 0).toNat = m) (h0 : 0 < m) (hb : k + m ≤ l.length) {r : Int} (hr : r = foldR (lead (l.getD k 0).toNat m) ((l.drop (k + 1)).take (m - 1))) :
    runeRead (l.drop k) = if runeBytes r = (l.drop k).take m then (r, (m : Int)) else (0, 0) := by
  subst hr
  rw [drop_get h]; simp only [runeRead]; rw [if_neg (by omega), if_neg (by rw [List.length_drop]; omega), hm]

theorem ret_ii2 {p : Int × Int} {a b : Int} (h : p = (a, b)) : Ending.returned (.tuple #[.int .i64 a, .int .i64 b]) = .returned (.tuple #[.int .i64 p.1, .int .i64 p.2]) := by rw [h]

set_option maxRecDepth 100000 in
set_option maxHeartbeats 4000000 in
theorem impl_RuneRead (A : Option Addr) (n c : Nat) (l : List UInt8) (k : Nat) (w : World) (h : RB w A n c l) (hk : k ≤ 1099511627776) (hn : n ≤ 1099511627776) :
    Calls Tryd.prog 132 #[.slice A n c, .int .i64 k] w fun e w' => e = .returned (.tuple #[.int .i64 (runeRead (l.drop k)).1, .int .i64 (runeRead (l.drop k)).2]) ∧ Ext w w' := by
  by_cases hkn : n ≤ k
  · have e : runeRead (l.drop k) = (0, 0) := by rw [List.drop_eq_nil_of_le (by rw [h.len]; exact hkn)]; rfl
    rw [e]
    clear e
    go_enter Tryd.func132, Tryd.ntmps132
    go_wp2_with fail
    go_ret2
    exact ⟨rfl, Ext.refl _⟩
  have hkl : k < l.length := by rw [h.len]; omega
  obtain ⟨b, o, rfl, hcell⟩ := h.at1 (k := k) (by omega)
  obtain ⟨x, hx⟩ : ∃ x : UInt8, x = l.getD k 0 := ⟨_, rfl⟩
  have hx8 := x.toNat_lt
  have R1 := Lib.hid (fun e => runeRead_one (l := l) (k := k) hkl e)
  have RB0 := Lib.hid (fun e f => runeRead_bad (l := l) (k := k) hkl e f)
  have RM := Lib.hid (fun m e f g q (r : Int) s => runeRead_m (l := l) (k := k) (m := m) hkl e f g q (r := r) s)
  rw [← hx] at hcell R1 RB0 RM
  have HR := Lib.hid h
  have Hl := Lib.hid h.len
  have Hcap := h.cap
  clear hx h hkl
  rcases seq_cases x.toNat with h1 | ⟨h1, h2, h3⟩ | hcl
  · have E := Lib.hid (R1.out h1)
    go_enter Tryd.func132, Tryd.ntmps132
    go_wp2_with fail
    go_ret2
    exact ⟨ret_ii2 E.out, Ext.refl _⟩
  · have E := Lib.hid (RB0.out h1 (.inl h2))
    have i1 : inB (x.toNat : Int) 192 223 = false := by rw [inB_not]; omega
    have i2 : inB (x.toNat : Int) 224 239 = false := by rw [inB_not]; omega
    have i3 : inB (x.toNat : Int) 240 247 = false := by rw [inB_not]; omega
    clear h2 R1 RB0 RM
    go_enter Tryd.func132, Tryd.ntmps132
    go_wp2_with (go_at_call 97; refine (impl_in _ _ _ _).mono ?_; rintro e w' ⟨rfl, rfl⟩)
    go_ret2
    exact ⟨ret_ii2 E.out, Ext.refl _⟩
  have key : ∀ m : Nat, (m = 2 ∨ m = 3 ∨ m = 4) → 192 ≤ x.toNat → inB (x.toNat : Int) 192 223 = decide (m = 2) → inB (x.toNat : Int) 224 239 = decide (m = 3) → inB (x.toNat : Int) 240 247 = decide (m = 4) → seqLen x.toNat = m → -64 ≤ lead x.toNat m → lead x.toNat m ≤ 64 →
      Calls Tryd.prog 132 #[.slice (some ⟨b, o, none⟩) n c, .int .i64 k] w fun e w' => e = .returned (.tuple #[.int .i64 (runeRead (l.drop k)).1, .int .i64 (runeRead (l.drop k)).2]) ∧ Ext w w' := by
    intro m hm hx1 i1 i2 i3 hsl hl0 hl1
    have Hi := Lib.hid (And.intro i1 (And.intro i2 i3))
    clear i1 i2 i3
    by_cases hfit : k + m ≤ n
    · obtain ⟨r0, hr0⟩ : ∃ r0, r0 = lead x.toNat m := ⟨_, rfl⟩
      obtain ⟨t, ht⟩ : ∃ t, t = (l.drop (k + 1)).take (m - 1) := ⟨_, rfl⟩
      have RT := HR.out.sub (lo := k + 1) (hi := k + m) (by omega) hfit
      rw [show k + m - (k + 1) = m - 1 by omega, ← ht] at RT
      have htl := RT.len
      have hA1 : subA (some ⟨b, o, none⟩) c (k + 1) = some ⟨b, o + (k + 1), none⟩ := by unfold subA; rw [if_neg (by omega)]; simp [Addr.add_lit]
      rw [hA1] at RT
      have RC := HR.out.sub (lo := k) (hi := k + m) (by omega) hfit
      have hA2 : subA (some ⟨b, o, none⟩) c k = some ⟨b, o + k, none⟩ := by unfold subA; rw [if_neg (by omega)]; simp [Addr.add_lit]
      rw [hA2, show k + m - k = m by omega] at RC
      have RM2 := Lib.hid (RM.out m (by omega) hsl (by omega) (by rw [Hl.out]; exact hfit) (foldR r0 t) (by rw [hr0, ht]))
      rw [← hr0] at hl0 hl1
      obtain ⟨q, hq⟩ : ∃ q, q = (l.drop k).take m := ⟨_, rfl⟩
      rw [← hq] at RC RM2
      have hc1 : ¬ c = k + 1 := by omega
      have hc2 : ¬ c = k := by omega
      have HRT := Lib.hid RT; have HRC := Lib.hid RC; have HT := Lib.hid htl
      have L0 : Hid (∀ m', m' = m → (x.toNat : Int) - (if m' = 2 then 192 else if m' = 3 then 224 else 240) = r0) := by
        intro m' e
        rw [hr0, e]; unfold lead
        (repeat' split) <;> rfl
      clear hA1 hA2 RT RC ht htl hq hr0 RM RB0 R1 hsl
      rcases hm with rfl | rfl | rfl
      · obtain ⟨i1, i2, i3⟩ := Hi.out
        have e0 := L0.out _ rfl
        simp at i1 i2 i3 e0
        go_enter Tryd.func132, Tryd.ntmps132
        go_wp2_with (first
          | (go_at_call 97; refine (impl_in _ _ _ _).mono ?_; rintro e w' ⟨rfl, rfl⟩))
        try rw [e0]
        clear e0
        go_loopw [8, 57] (fun vr vi wr => ∃ j : Nat, j ≤ t.length ∧ vi = .int .i64 j ∧ vr = .int .i64 (foldR r0 (t.take j)) ∧ wr = w) (fun _ vi _ => t.length - (intOf vi).toNat)
        case atStart => exact ⟨0, by omega, rfl, rfl, rfl⟩
        case round =>
          obtain ⟨j, hj, rfl, rfl, hw⟩ := hrel
          have hw := hw.symm
          subst hw
          have hT := HT.out
          have hb := foldR_in (t := t.take j) hl0 hl1 (by rw [List.length_take]; omega)
          by_cases hlt : j < t.length
          · obtain ⟨b', o', e', hc'⟩ := HRT.out.at1 (k := j) (by omega)
            injection e' with e'; injection e' with e1 e2; subst e1; subst e2
            have hs := Lib.hid (foldR_snoc (r := r0) hlt)
            obtain ⟨y, hy⟩ : ∃ y, y = t.getD j 0 := ⟨_, rfl⟩
            rw [← hy] at hs hc'
            have hy8 := y.toNat_lt
            obtain ⟨r, hr⟩ : ∃ r, r = foldR r0 (t.take j) := ⟨_, rfl⟩
            rw [← hr] at hs hb ⊢
            clear hy hr
            go_wp2_with fail
            go_roundw
            case rel => exact ⟨j + 1, by omega, by go_num, by rw [hs.out], by first | exact rfl | trivial⟩
            case measure => simp [intOf]; omega
          · have et : t.take j = t := List.take_of_length_le (by omega)
            rw [et] at hb ⊢
            obtain ⟨r, hr⟩ : ∃ r, r = foldR r0 t := ⟨_, rfl⟩
            rw [← hr] at hb RM2 ⊢
            clear hr et
            have hj2 : j = t.length := by omega
            have cv := Lib.hid (fun w' (x : Ext w w') => conv_str (HRC.out.ext x))
            have cv0 := cv.out w (Ext.refl w)
            go_wp2_with fail
            clear cv0
            have hne : ((⟨(runeBytes r).toArray⟩ : ByteArray) != ⟨q.toArray⟩) = !decide (runeBytes r = q) := bytes_ne
            obtain ⟨d, hd⟩ : ∃ d, d = decide (runeBytes r = q) := ⟨_, rfl⟩
            rw [← hd] at hne
            have HD := Lib.hid hd
            have hne2 : (runeBytes r == q) = d := by rw [hd]; exact Bool.beq_eq_decide_eq _ _
            have g0 : (0 : Int) ≤ (k : Int) := by omega
            have g1 : (k : Int) ≤ (k : Int) + 2 := by omega
            have g2 : (k : Int) + 2 ≤ (c : Int) := by omega
            have g3 : IntKind.i64.wrap ((k : Int) + 2) = (k : Int) + 2 := IntWalk.i64_in _ (by omega)
            have g4 : ((k : Int) + 2).toNat = k + 2 := by omega
            clear hd hb hcell hj2 HRT HRC L0 hj hlt hT hw
            cases d
            all_goals
              have Bn := fun m => cv.out _ ((Ext.refl w).drewN m)
              have Bd := cv.out _ (Ext.refl w).drew
              go_region_with (go_at_call 105; (refine (impl_RuneBytes _ _).mono ?_); rintro e w2 ⟨A2, n2, c2, rfl, r2, x2⟩; have y2 : Ext w w2 := (by first | exact (Ext.refl w).drew.trans x2 | exact ((Ext.refl w).drewN _).trans x2); have cv2 := conv_str r2; have S2 := cv.out _ y2)
              all_goals
                go_wp2_with fail
                go_ret2
                exact ⟨ret_ii2 (by rw [RM2.out]; have := HD.out; simp at this; first | (rw [if_pos this]; rfl) | rw [if_neg this]), y2⟩
      · obtain ⟨i1, i2, i3⟩ := Hi.out
        have e0 := L0.out _ rfl
        simp at i1 i2 i3 e0
        go_enter Tryd.func132, Tryd.ntmps132
        go_wp2_with (first
          | (go_at_call 97; refine (impl_in _ _ _ _).mono ?_; rintro e w' ⟨rfl, rfl⟩))
        try rw [e0]
        clear e0
        go_loopw [8, 57] (fun vr vi wr => ∃ j : Nat, j ≤ t.length ∧ vi = .int .i64 j ∧ vr = .int .i64 (foldR r0 (t.take j)) ∧ wr = w) (fun _ vi _ => t.length - (intOf vi).toNat)
        case atStart => exact ⟨0, by omega, rfl, rfl, rfl⟩
        case round =>
          obtain ⟨j, hj, rfl, rfl, hw⟩ := hrel
          have hw := hw.symm
          subst hw
          have hT := HT.out
          have hb := foldR_in (t := t.take j) hl0 hl1 (by rw [List.length_take]; omega)
          by_cases hlt : j < t.length
          · obtain ⟨b', o', e', hc'⟩ := HRT.out.at1 (k := j) (by omega)
            injection e' with e'; injection e' with e1 e2; subst e1; subst e2
            have hs := Lib.hid (foldR_snoc (r := r0) hlt)
            obtain ⟨y, hy⟩ : ∃ y, y = t.getD j 0 := ⟨_, rfl⟩
            rw [← hy] at hs hc'
            have hy8 := y.toNat_lt
            obtain ⟨r, hr⟩ : ∃ r, r = foldR r0 (t.take j) := ⟨_, rfl⟩
            rw [← hr] at hs hb ⊢
            clear hy hr
            go_wp2_with fail
            go_roundw
            case rel => exact ⟨j + 1, by omega, by go_num, by rw [hs.out], by first | exact rfl | trivial⟩
            case measure => simp [intOf]; omega
          · have et : t.take j = t := List.take_of_length_le (by omega)
            rw [et] at hb ⊢
            obtain ⟨r, hr⟩ : ∃ r, r = foldR r0 t := ⟨_, rfl⟩
            rw [← hr] at hb RM2 ⊢
            clear hr et
            have hj2 : j = t.length := by omega
            have cv := Lib.hid (fun w' (x : Ext w w') => conv_str (HRC.out.ext x))
            have cv0 := cv.out w (Ext.refl w)
            go_wp2_with fail
            clear cv0
            have hne : ((⟨(runeBytes r).toArray⟩ : ByteArray) != ⟨q.toArray⟩) = !decide (runeBytes r = q) := bytes_ne
            obtain ⟨d, hd⟩ : ∃ d, d = decide (runeBytes r = q) := ⟨_, rfl⟩
            rw [← hd] at hne
            have HD := Lib.hid hd
            have hne2 : (runeBytes r == q) = d := by rw [hd]; exact Bool.beq_eq_decide_eq _ _
            have g0 : (0 : Int) ≤ (k : Int) := by omega
            have g1 : (k : Int) ≤ (k : Int) + 3 := by omega
            have g2 : (k : Int) + 3 ≤ (c : Int) := by omega
            have g3 : IntKind.i64.wrap ((k : Int) + 3) = (k : Int) + 3 := IntWalk.i64_in _ (by omega)
            have g4 : ((k : Int) + 3).toNat = k + 3 := by omega
            clear hd hb hcell hj2 HRT HRC L0 hj hlt hT hw
            cases d
            all_goals
              have Bn := fun m => cv.out _ ((Ext.refl w).drewN m)
              have Bd := cv.out _ (Ext.refl w).drew
              go_region_with (go_at_call 105; (refine (impl_RuneBytes _ _).mono ?_); rintro e w2 ⟨A2, n2, c2, rfl, r2, x2⟩; have y2 : Ext w w2 := (by first | exact (Ext.refl w).drew.trans x2 | exact ((Ext.refl w).drewN _).trans x2); have cv2 := conv_str r2; have S2 := cv.out _ y2)
              all_goals
                go_wp2_with fail
                go_ret2
                exact ⟨ret_ii2 (by rw [RM2.out]; have := HD.out; simp at this; first | (rw [if_pos this]; rfl) | rw [if_neg this]), y2⟩
      · obtain ⟨i1, i2, i3⟩ := Hi.out
        have e0 := L0.out _ rfl
        simp at i1 i2 i3 e0
        go_enter Tryd.func132, Tryd.ntmps132
        go_wp2_with (first
          | (go_at_call 97; refine (impl_in _ _ _ _).mono ?_; rintro e w' ⟨rfl, rfl⟩))
        try rw [e0]
        clear e0
        go_loopw [8, 57] (fun vr vi wr => ∃ j : Nat, j ≤ t.length ∧ vi = .int .i64 j ∧ vr = .int .i64 (foldR r0 (t.take j)) ∧ wr = w) (fun _ vi _ => t.length - (intOf vi).toNat)
        case atStart => exact ⟨0, by omega, rfl, rfl, rfl⟩
        case round =>
          obtain ⟨j, hj, rfl, rfl, hw⟩ := hrel
          have hw := hw.symm
          subst hw
          have hT := HT.out
          have hb := foldR_in (t := t.take j) hl0 hl1 (by rw [List.length_take]; omega)
          by_cases hlt : j < t.length
          · obtain ⟨b', o', e', hc'⟩ := HRT.out.at1 (k := j) (by omega)
            injection e' with e'; injection e' with e1 e2; subst e1; subst e2
            have hs := Lib.hid (foldR_snoc (r := r0) hlt)
            obtain ⟨y, hy⟩ : ∃ y, y = t.getD j 0 := ⟨_, rfl⟩
            rw [← hy] at hs hc'
            have hy8 := y.toNat_lt
            obtain ⟨r, hr⟩ : ∃ r, r = foldR r0 (t.take j) := ⟨_, rfl⟩
            rw [← hr] at hs hb ⊢
            clear hy hr
            go_wp2_with fail
            go_roundw
            case rel => exact ⟨j + 1, by omega, by go_num, by rw [hs.out], by first | exact rfl | trivial⟩
            case measure => simp [intOf]; omega
          · have et : t.take j = t := List.take_of_length_le (by omega)
            rw [et] at hb ⊢
            obtain ⟨r, hr⟩ : ∃ r, r = foldR r0 t := ⟨_, rfl⟩
            rw [← hr] at hb RM2 ⊢
            clear hr et
            have hj2 : j = t.length := by omega
            have cv := Lib.hid (fun w' (x : Ext w w') => conv_str (HRC.out.ext x))
            have cv0 := cv.out w (Ext.refl w)
            go_wp2_with fail
            clear cv0
            have hne : ((⟨(runeBytes r).toArray⟩ : ByteArray) != ⟨q.toArray⟩) = !decide (runeBytes r = q) := bytes_ne
            obtain ⟨d, hd⟩ : ∃ d, d = decide (runeBytes r = q) := ⟨_, rfl⟩
            rw [← hd] at hne
            have HD := Lib.hid hd
            have hne2 : (runeBytes r == q) = d := by rw [hd]; exact Bool.beq_eq_decide_eq _ _
            have g0 : (0 : Int) ≤ (k : Int) := by omega
            have g1 : (k : Int) ≤ (k : Int) + 4 := by omega
            have g2 : (k : Int) + 4 ≤ (c : Int) := by omega
            have g3 : IntKind.i64.wrap ((k : Int) + 4) = (k : Int) + 4 := IntWalk.i64_in _ (by omega)
            have g4 : ((k : Int) + 4).toNat = k + 4 := by omega
            clear hd hb hcell hj2 HRT HRC L0 hj hlt hT hw
            cases d
            all_goals
              have Bn := fun m => cv.out _ ((Ext.refl w).drewN m)
              have Bd := cv.out _ (Ext.refl w).drew
              go_region_with (go_at_call 105; (refine (impl_RuneBytes _ _).mono ?_); rintro e w2 ⟨A2, n2, c2, rfl, r2, x2⟩; have y2 : Ext w w2 := (by first | exact (Ext.refl w).drew.trans x2 | exact ((Ext.refl w).drewN _).trans x2); have cv2 := conv_str r2; have S2 := cv.out _ y2)
              all_goals
                go_wp2_with fail
                go_ret2
                exact ⟨ret_ii2 (by rw [RM2.out]; have := HD.out; simp at this; first | (rw [if_pos this]; rfl) | rw [if_neg this]), y2⟩
    · have E := Lib.hid (RB0.out (by omega) (.inr (by rw [hsl, Hl.out]; omega)))
      clear hsl RM RB0 R1
      rcases hm with rfl | rfl | rfl
      all_goals
        obtain ⟨i1, i2, i3⟩ := Hi.out
        simp at i1 i2 i3
        go_enter Tryd.func132, Tryd.ntmps132
        go_wp2_with (go_at_call 97; refine (impl_in _ _ _ _).mono ?_; rintro e w' ⟨rfl, rfl⟩)
        go_ret2
        exact ⟨ret_ii2 E.out, Ext.refl _⟩
  rcases hcl with ⟨h1, h2, h3⟩ | ⟨h1, h2, h3⟩ | ⟨h1, h2, h3⟩
  · exact key 2 (by omega) (by omega) (by simp [inB]; omega) (by simp [inB]; omega) (by simp [inB]; omega) h3 (by unfold lead; simp; omega) (by unfold lead; simp; omega)
  · exact key 3 (by omega) (by omega) (by simp [inB]; omega) (by simp [inB]; omega) (by simp [inB]; omega) h3 (by unfold lead; simp; omega) (by unfold lead; simp; omega)
  · exact key 4 (by omega) (by omega) (by simp [inB]; omega) (by simp [inB]; omega) (by simp [inB]; omega) h3 (by unfold lead; simp; omega) (by unfold lead; simp; omega)
end Go.Proofs.YtohjjhoobikioaaDoor
