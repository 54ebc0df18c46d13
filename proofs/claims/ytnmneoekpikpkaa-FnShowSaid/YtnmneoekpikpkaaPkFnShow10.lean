/- The statement of this claim is proved in the last of these texts: by an abstract evaluator that is sound, and by what the functions compute. -/
import Derived.Test.YtnmneoekpikpkaaPkFnShow9
import Derived.Test.YtnmneoekpikpkaaRows
import Derived.Test.YtnmneoekpikpkaaChecked
import Derived.ProofKit
import Derived.OpenShut
import Derived.Handy
import Derived.ShutString
import Derived.ChangeOld
import Derived.Deep.Slices
namespace Go.Proofs.Ytnmneoekpikpkaa
open Go.RowKit
set_option linter.unusedSimpArgs false
set_option linter.unusedVariables false
set_option maxHeartbeats 4000000
set_option maxRecDepth 10000
def cellT (C : List Int) (W i : Nat) : Bool :=
  if C[i]? = some (-1) then decide (0 < i % W) && (wd (C[i - 1]?.getD 0) == 2)
  else if wd (C[i]?.getD 0) = 2 then decide (i % W + 1 < W) && (C[i + 1]?.getD 0 == -1)
  else (wd (C[i]?.getD 0) == 1)
theorem E_icellOk (C : List Int) (W i : Nat) (H X Y : Int) (R : Bool) (hi : i < C.length) (hW : 0 < W) (hl : C.length ≤ 100000 ∧ W ≤ 1000) (hn : i % W + 1 < W → i + 1 < C.length) :
    M_icellOk [vGrid W H (.lst (some 0) (ints C)) X Y R, V.v (.int .i64 ((i : Int)))] [] [] = some ⟨V.v (.bool (cellT C W i)), [], []⟩ := by
  have hm : (i : Int).tmod W = ((i % W : Nat) : Int) := by rw [Int.tmod_eq_emod_of_nonneg (by omega)]; rfl
  have hW0 : ¬ (W : Int) = 0 := by omega
  have hW1 : ¬ W = 0 := by omega
  have hlt : i % W < W := Nat.mod_lt _ hW
  generalize hx : i % W = x at *
  generalize hE : M_icellOk _ _ _ = R
  unfold M_icellOk vGrid at hE
  unfold cellT
  rw [hx]
  by_cases h1 : C[i] = -1
  · have h2 : C[i]? = some (-1) := by rw [List.getElem?_eq_getElem hi, h1]
    by_cases h3 : 0 < x
    · have hi0 : 0 < i := by
        rcases Nat.eq_zero_or_pos i with h | h
        · subst h; simp at hx; omega
        · exact h
      have w := w64 ((i : Int) - 1) (by omega)
      have hj : i - 1 < C.length := by omega
      have g1 : 1 ≤ (i : Int) := by omega
      have g2 : (i : Int) - 1 < C.length := by omega
      simp [Try.func23, Try.f23, hi, hW0, hW1, hm, h1, h3, w, hj, g1, g2, E_iWidth] at hE
      rw [if_pos h2, ← hE, List.getElem?_eq_getElem hj]
      simp [h3]
    · have h4 : x = 0 := by omega
      simp [Try.func23, Try.f23, hi, hW0, hW1, hm, h1, h4] at hE
      simp [h2, h4, ← hE]
  · have h2 : ¬ C[i]? = some (-1) := by rw [List.getElem?_eq_getElem hi]; intro h; injection h with h; exact h1 h
    rw [if_neg h2, List.getElem?_eq_getElem hi]
    by_cases h3 : wd C[i] = 2
    · have w := w64 ((x : Int) + 1) (by omega)
      by_cases h4 : x + 1 < W
      · have hj := hn h4
        have h5 : (x : Int) + 1 < W := by omega
        have w2 := w64 ((i : Int) + 1) (by omega)
        have g1 : 0 ≤ (i : Int) + 1 := by omega
        have g2 : (i : Int) + 1 < C.length := by omega
        simp [Try.func23, Try.f23, hi, hW0, hW1, hm, h1, h3, w, w2, h5, hj, g1, g2, E_iWidth] at hE
        rw [← hE]; simp [h3, h4, hj]
      · have h5 : ¬ (x : Int) + 1 < W := by omega
        simp [Try.func23, Try.f23, hi, hW0, hW1, hm, h1, h3, w, h5, E_iWidth] at hE
        rw [← hE]; simp [h3, h4]
    · simp [Try.func23, Try.f23, hi, hW0, hW1, hm, h1, h3, E_iWidth] at hE
      rw [← hE]; simp [h3]
theorem next_in {W H i : Nat} (hi : i < W * H) (h : i % W + 1 < W) : i + 1 < W * H := by
  have h1 := Nat.div_add_mod i W
  have h2 : i / W < H := Nat.div_lt_of_lt_mul hi
  have h3 := Nat.mul_le_mul_left W (show i / W + 1 ≤ H by omega)
  rw [Nat.mul_add, Nat.mul_one] at h3
  omega
theorem E_iGridOk (C : List Int) (W H X Y : Nat) (hW : 2 ≤ W ∧ W ≤ 200) (hH : 1 ≤ H ∧ H ≤ 200) (hS : W * H ≤ 8000) (hl : C.length = W * H) (hX : X < W) (hY : Y < H) (hc : ∀ i, i < C.length → cellT C W i = true) :
    M_iGridOk [vGrid W H (.lst (some 0) (ints C)) X Y false] [] [] = some ⟨V.v (.bool true), [], []⟩ := by
  have q1 : inR (W : Int) 2 200 = true := inR_iff.2 (by omega)
  have q2 : inR (H : Int) 1 200 = true := inR_iff.2 (by omega)
  have q3 : inR (X : Int) 0 ((W : Int) - 1) = true := inR_iff.2 (by omega)
  have q4 : inR (Y : Int) 0 ((H : Int) - 1) = true := inR_iff.2 (by omega)
  have q5 : (W : Int) * H = ((W * H : Nat) : Int) := by rw [Int.natCast_mul]
  have w1 := w64 ((W * H : Nat) : Int) (by omega)
  have w2 := w64 ((W : Int) - 1) (by omega)
  have w3 := w64 ((H : Int) - 1) (by omega)
  have q6 : ¬ (8000 : Int) < ((W * H : Nat) : Int) := by omega
  generalize hz : W * H = Z at *
  unfold M_iGridOk vGrid
  simp [Try.func6, Try.f6, E_iin, q1, q2, q3, q4, q5, q6, w1, w2, w3, hl]
  rw [loopV_go (fun j => .on ⟨[(64, V.v (.int .i64 ((j : Int)))), (63, V.v (.int .i64 ((Z : Int)))), (1, .ref 1 0)], [(1, [V.v (.int .i64 ((W : Int))), V.v (.int .i64 ((H : Int))), .lst (some 0) (ints C), V.v (.int .i64 ((X : Int))), V.v (.int .i64 ((Y : Int))), V.v (.bool false)])], [], []⟩) Z ?_ ?_]
  · simp
  · simp
  · intro j hj
    have hw := w64 ((j : Int) + 1) (by omega)
    have e := E_icellOk C W j H X Y false (by omega) (by omega) (by omega) (fun h => by rw [hl, ← hz]; exact next_in (by omega) h)
    rw [hc j (by omega)] at e
    unfold vGrid at e
    simp [hj, hw, e]
theorem trim_ex (l : List Int) : ∃ k, k ≤ l.length ∧ (∀ j, j < k → l[l.length - 1 - j]? = some 32) ∧ (k = l.length ∨ l[l.length - 1 - k]? ≠ some 32) := by
  have key : ∀ n, n ≤ l.length → (∃ k, k ≤ l.length ∧ (∀ j, j < k → l[l.length - 1 - j]? = some 32) ∧ (k = l.length ∨ l[l.length - 1 - k]? ≠ some 32)) ∨ ∀ j, j < n → l[l.length - 1 - j]? = some 32 := by
    intro n
    induction n with
    | zero => intro _; exact .inr fun j h => by omega
    | succ n ih =>
      intro hn
      rcases ih (by omega) with h | h
      · exact .inl h
      · by_cases e : l[l.length - 1 - n]? = some 32
        · right; intro j hj
          by_cases hjn : j = n
          · subst hjn; exact e
          · exact h j (by omega)
        · exact .inl ⟨n, by omega, h, .inr e⟩
  rcases key l.length (Nat.le_refl _) with h | h
  · exact h
  · exact ⟨l.length, Nat.le_refl _, h, .inl rfl⟩
noncomputable def trimK (l : List Int) : Nat := (trim_ex l).choose
theorem trim_spec (l : List Int) : trimK l ≤ l.length ∧ (∀ j, j < trimK l → l[l.length - 1 - j]? = some 32) ∧ (trimK l = l.length ∨ l[l.length - 1 - trimK l]? ≠ some 32) := (trim_ex l).choose_spec
def rowOf (C : List Int) (W y : Nat) : List Int := (C.drop (y * W)).take W
noncomputable def rowTxt (l : List Int) : ByteArray := ⟨(textOf (l.take (l.length - trimK l))).toArray⟩
theorem E_iGridRow (C : List Int) (W H X Y y : Nat) (hy : y < H) (hW : 2 ≤ W ∧ W ≤ 200) (hH : 1 ≤ H ∧ H ≤ 200) (hS : W * H ≤ 8000) (hl : C.length = W * H) (hX : X < W) (hY : Y < H) (hc : ∀ i, i < C.length → cellT C W i = true) :
    M_iGridRow [vGrid W H (.lst (some 0) (ints C)) X Y false, V.v (.int .i64 ((y : Int)))] [] [] = some ⟨V.v (.string (rowTxt (rowOf C W y))), [], []⟩ := by
  have e0 := E_iGridOk C W H X Y hW hH hS hl hX hY hc
  have q1 : inR (y : Int) 0 ((H : Int) - 1) = true := inR_iff.2 (by omega)
  have w1 := w64 ((H : Int) - 1) (by omega)
  have h1 : y * W + W ≤ W * H := by
    have := Nat.mul_le_mul_left W (show y + 1 ≤ H by omega)
    rw [Nat.mul_add, Nat.mul_one, Nat.mul_comm] at this; exact this
  have c1 : (y : Int) * W = ((y * W : Nat) : Int) := by rw [Int.natCast_mul]
  have c2 : ((y : Int) + 1) * W = ((y * W + W : Nat) : Int) := by rw [Int.add_mul, c1]; omega
  generalize hz : W * H = Z at *
  generalize ha : y * W = a at *
  have w2 := w64 (a : Int) (by omega)
  have w3 := w64 ((a : Int) + W) (by omega)
  have w4 := w64 ((y : Int) + 1) (by omega)
  obtain ⟨k1, k2, k3⟩ := trim_spec (rowOf C W y)
  have hrl : (rowOf C W y).length = W := by unfold rowOf; rw [List.length_take, List.length_drop, ha]; omega
  have g1 : (a : Int) ≤ (a : Int) + W := by omega
  have g2 : (a : Int) + W ≤ (Z : Int) := by omega
  have g3 : ((a : Int) + W).toNat = a + W := by omega
  have g4 : a + W - a = W := by omega
  have hrow : (C.drop a).take W = rowOf C W y := by unfold rowOf; rw [ha]
  unfold rowTxt
  generalize hr : rowOf C W y = row at *
  generalize hK : trimK row = K at *
  rw [hrl] at k1 k2 k3
  rw [hrl]
  unfold M_iGridRow vGrid
  unfold vGrid at e0
  have et : ∀ n : Nat, M_iTextOf [.lst (some 0) (ints (row.take n))] [] [] = some ⟨V.v (.string (⟨(textOf (row.take n)).toArray⟩)), [], []⟩ := fun n => E_iTextOf _ (by rw [List.length_take]; omega)
  simp [Try.func7, Try.f7, e0, E_iin, q1, w1, w2, w3, w4, c1, c2, hl, g1, g2, g3, g4, hrow, hrl]
  rw [loopV_go (fun j => .on ⟨[(6, V.v (.int .i64 ((W : Int) - j))), (5, .lst none (ints row))], [], [], []⟩) K ?_ ?_]
  · have e1 : ((W : Int) - K).toNat = W - K := by omega
    have g5 : 0 ≤ (W : Int) - K := by omega
    have g6 : (W : Int) - K ≤ W := by omega
    by_cases h : K = W
    · have et0 : M_iTextOf [.lst (some 0) []] [] [] = some ⟨V.v (.string (⟨(textOf ([] : List Int)).toArray⟩)), [], []⟩ := et 0
      simp [h, hrl, et0]
    · have hKW : K < W := by omega
      have w5 := w64 ((W : Int) - K - 1) (by omega)
      have g9 : K ≤ W := by omega
      have g7 : 1 ≤ (W : Int) - K := by omega
      have g8 : (W : Int) - K - 1 < W := by omega
      have hin : W - K - 1 < row.length := by omega
      have hv : ¬ row[W - K - 1] = 32 := fun e => by
        rcases k3 with k3 | k3
        · exact h k3
        · rw [show W - 1 - K = W - K - 1 by omega, List.getElem?_eq_getElem hin, e] at k3; exact k3 rfl
      simp [h, hrl, et, w5, hKW, g5, g6, g7, g8, g9, ints_get hin, hv, e1]
  · simp
  · intro j hj
    have hjW : j < W := by omega
    have w5 := w64 ((W : Int) - j - 1) (by omega)
    have g7 : 1 ≤ (W : Int) - j := by omega
    have g8 : (W : Int) - j - 1 < W := by omega
    have hin : W - j - 1 < row.length := by omega
    have hv : row[W - j - 1] = 32 := by
      have := k2 j hj
      rw [show W - 1 - j = W - j - 1 by omega, List.getElem?_eq_getElem hin] at this
      injection this
    have e2 : (W : Int) - j - 1 = (W : Int) - ((j : Int) + 1) := by omega
    simp [w5, hrl, hjW, g7, g8, ints_get hin, hv]
    exact e2
end Go.Proofs.Ytnmneoekpikpkaa
namespace Go.Proofs.Ytnmneoekpikpkaa
open Go.RowKit
set_option linter.unusedSimpArgs false
set_option linter.unusedVariables false
set_option maxHeartbeats 4000000
set_option maxRecDepth 10000
theorem wd_blank : wd 32 = 1 := by decide
theorem wd_half : wd (-1) = 0 := by decide
structure Cv (W : Nat) (c : Nat → Int) (m : Nat) : Prop where
  rest : ∀ i, m ≤ i → c i = 32
  half : ∀ i, c i = -1 → 0 < i % W ∧ wd (c (i - 1)) = 2
  wide : ∀ i, wd (c i) = 2 → i % W + 1 < W ∧ c (i + 1) = -1
  one : ∀ i, c i ≠ -1 → wd (c i) ≠ 2 → wd (c i) = 1
theorem Cv.blank (W : Nat) : Cv W (fun _ => 32) 0 where
  rest := fun _ _ => rfl
  half := fun i h => by simp at h
  wide := fun i h => by rw [wd_blank] at h; omega
  one := fun i _ _ => wd_blank
theorem Cv.up {W m m' : Nat} {c : Nat → Int} (h : Cv W c m) (hm : m ≤ m') : Cv W c m' := ⟨fun i hi => h.rest i (by omega), h.half, h.wide, h.one⟩
theorem Cv.put1 {W m a : Nat} {c : Nat → Int} (h : Cv W c m) (ha : m ≤ a) {r : Int} (hr : wd r = 1) : Cv W (upd1 c a r) (a + 1) := by
  have ca := h.rest a ha
  have hn : r ≠ -1 := fun e => by rw [e, wd_half] at hr; omega
  refine ⟨fun i hi => ?_, fun i hi => ?_, fun i hi => ?_, fun i h1 h2 => ?_⟩
  · unfold upd1; rw [if_neg (by omega)]; exact h.rest i (by omega)
  · unfold upd1 at hi ⊢
    by_cases e : i = a
    · rw [if_pos e] at hi; exact absurd hi hn
    rw [if_neg e] at hi
    obtain ⟨p, q⟩ := h.half i hi
    have : ¬ i - 1 = a := fun e2 => by rw [e2, ca, wd_blank] at q; omega
    rw [if_neg this]; exact ⟨p, q⟩
  · unfold upd1 at hi ⊢
    by_cases e : i = a
    · rw [if_pos e] at hi; omega
    rw [if_neg e] at hi
    obtain ⟨p, q⟩ := h.wide i hi
    have : ¬ i + 1 = a := fun e2 => by rw [e2, ca] at q; omega
    rw [if_neg this]; exact ⟨p, q⟩
  · unfold upd1 at h1 h2 ⊢
    by_cases e : i = a
    · rw [if_pos e]; exact hr
    · rw [if_neg e] at h1 h2 ⊢; exact h.one i h1 h2
theorem Cv.put2 {W m a : Nat} {c : Nat → Int} (h : Cv W c m) (ha : m ≤ a) {r : Int} (hr : wd r = 2) (hx : a % W + 1 < W) : Cv W (upd1 (upd1 c a r) (a + 1) (-1)) (a + 2) := by
  have ca := h.rest a ha
  have cb := h.rest (a + 1) (by omega)
  have hn : r ≠ -1 := fun e => by rw [e, wd_half] at hr; omega
  have hmod : (a + 1) % W = a % W + 1 := by
    rw [Nat.add_mod, Nat.mod_eq_of_lt (show 1 < W by omega), Nat.mod_eq_of_lt hx]
  refine ⟨fun i hi => ?_, fun i hi => ?_, fun i hi => ?_, fun i h1 h2 => ?_⟩
  · unfold upd1; rw [if_neg (by omega), if_neg (by omega)]; exact h.rest i (by omega)
  · unfold upd1 at hi ⊢
    by_cases e : i = a + 1
    · subst e
      rw [hmod, if_neg (by omega), if_pos (by omega)]
      exact ⟨by omega, hr⟩
    rw [if_neg e] at hi
    by_cases e2 : i = a
    · rw [if_pos e2] at hi; exact absurd hi hn
    rw [if_neg e2] at hi
    obtain ⟨p, q⟩ := h.half i hi
    have n1 : ¬ i - 1 = a := fun e2 => by rw [e2, ca, wd_blank] at q; omega
    have n2 : ¬ i - 1 = a + 1 := fun e2 => by rw [e2, cb, wd_blank] at q; omega
    rw [if_neg n2, if_neg n1]; exact ⟨p, q⟩
  · unfold upd1 at hi ⊢
    by_cases e : i = a + 1
    · rw [if_pos e, wd_half] at hi; omega
    rw [if_neg e] at hi
    by_cases e2 : i = a
    · subst e2; exact ⟨hx, by rw [if_pos rfl]⟩
    rw [if_neg e2] at hi
    obtain ⟨p, q⟩ := h.wide i hi
    have n1 : ¬ i + 1 = a := fun e2 => by rw [e2, ca] at q; omega
    rw [if_neg (show ¬ i + 1 = a + 1 by omega), if_neg n1]; exact ⟨p, q⟩
  · unfold upd1 at h1 h2 ⊢
    by_cases e : i = a + 1
    · rw [if_pos e] at h1; exact absurd rfl h1
    rw [if_neg e] at h1 h2 ⊢
    by_cases e2 : i = a
    · rw [if_pos e2] at h2; exact absurd hr h2
    · rw [if_neg e2] at h1 h2 ⊢; exact h.one i h1 h2
theorem Cv.inkS {W : Nat} (hW : 2 ≤ W) {c : Nat → Int} {p : Int × Int} (hx : 0 ≤ p.1 ∧ p.1 ≤ W) (hy : 0 ≤ p.2) (h : Cv W c (atp W p)) {r : Int} (hr : printable r = true) : Cv W (inkS W (c, p) r).1 (atp W (inkS W (c, p) r).2) := by
  have h1 := plc_in (w := W) (by omega) hx r
  have hle : atp W p ≤ atp W (plc W p r) := by
    unfold plc
    split
    · unfold atp
      have e : (p.2 + 1).toNat = p.2.toNat + 1 := by omega
      simp only [e, Nat.add_mul, Nat.one_mul]
      omega
    · exact Nat.le_refl _
  unfold Go.Proofs.Ytnmneoekpikpkaa.inkS
  simp only
  generalize plc W p r = q at *
  have hq : atp W (q.1 + wd r, q.2) = atp W q + (wd r).toNat := by
    unfold atp
    have := wd_range r
    simp only
    omega
  rw [hq]
  have hm : atp W q % W = q.1.toNat ∨ wd r = 1 := by
    rcases wd_print hr with e | e
    · exact .inr e
    · left
      unfold atp
      rw [Nat.add_comm, Nat.add_mul_mod_self_right, Nat.mod_eq_of_lt (by omega)]
  unfold ink1
  rcases wd_print hr with e | e
  · rw [if_neg (by omega), e]
    exact h.put1 hle e
  · rw [if_pos e, e]
    exact h.put2 hle e (by omega)
theorem Cv.inks {W : Nat} (hW : 2 ≤ W) : ∀ (t : List Int) (c : Nat → Int) (p : Int × Int), 0 ≤ p.1 ∧ p.1 ≤ W → 0 ≤ p.2 → t.all printable = true → Cv W c (atp W p) → Cv W (inks W t (c, p)).1 (atp W (flow W t p))
  | [], c, p, _, _, _, h => h
  | r :: t, c, p, hx, hy, ht, h => by
    simp only [List.all_cons, Bool.and_eq_true] at ht
    have e1 : Go.Proofs.Ytnmneoekpikpkaa.inks W (r :: t) (c, p) = Go.Proofs.Ytnmneoekpikpkaa.inks W t (Go.Proofs.Ytnmneoekpikpkaa.inkS W (c, p) r) := rfl
    have e2 : flow W (r :: t) p = flow W t (flowS W p r) := rfl
    have e3 : flowS W p r = (Go.Proofs.Ytnmneoekpikpkaa.inkS W (c, p) r).2 := by unfold flowS; rw [if_pos ht.1]; rfl
    have h1 := flowS_in (w := W) (by omega) hx r
    have h2 := Cv.inkS hW hx hy h ht.1
    have h3 := Cv.inks hW t _ _ h1.1 (by omega) ht.2 (by rw [← e3] at h2; exact h2)
    rw [e1, e2]
    rw [e3] at h3 ⊢
    exact h3
theorem shC_right {W : Nat} (hW : 2 ≤ W) {n p bf rs : List Int} (hn : n.all printable = true) (hp : p.all printable = true) (hb : bf.all printable = true) (hr : rs.all printable = true) : ∃ m, Cv W (shC W n p bf rs) m := by
  unfold shC
  have hx0 : (0 : Int) ≤ ((0, 0) : Int × Int).1 ∧ ((0, 0) : Int × Int).1 ≤ W := ⟨Int.le_refl _, by simp⟩
  have hz : atp W (0, 0) = 0 := by simp [atp]
  have h1 := Cv.inks hW n (fun _ => 32) (0, 0) hx0 (Int.le_refl _) hn (by rw [hz]; exact Cv.blank W)
  have f1 := flow_in (w := W) (by omega) n (0, 0) hx0
  simp only at f1
  have hy0 : 0 ≤ shY0 W n := by unfold shY0; split <;> omega
  have h2 : Cv W (Go.Proofs.Ytnmneoekpikpkaa.inks W n (fun _ => 32, (0, 0))).1 (atp W (0, shY0 W n)) := by
    refine h1.up ?_
    unfold shY0
    cases hne : n.isEmpty
    · simp only [Bool.false_eq_true, if_false]
      unfold atp
      have e : ((flow W n (0, 0)).2 + 1).toNat = (flow W n (0, 0)).2.toNat + 1 := by omega
      simp only [e, Nat.add_mul, Nat.one_mul]
      omega
    · have : n = [] := by simpa using hne
      subst this
      exact Nat.le_refl _
  have hx1 : (0 : Int) ≤ ((0, shY0 W n) : Int × Int).1 ∧ ((0, shY0 W n) : Int × Int).1 ≤ W := ⟨Int.le_refl _, by simp⟩
  have h3 := Cv.inks hW p _ (0, shY0 W n) hx1 hy0 hp h2
  have f2 := flow_in (w := W) (by omega) p (0, shY0 W n) hx1
  simp only at f2
  have hall : (bf ++ rs).all printable = true := by rw [List.all_append, hb, hr]; rfl
  exact ⟨_, Cv.inks hW (bf ++ rs) _ (shP1 W n p) f2.1 (by unfold shP1; omega) hall h3⟩
theorem win_right {W : Nat} (hW : 2 ≤ W) {c : Nat → Int} {m : Nat} (h : Cv W c m) (top H : Nat) : ∀ i, i < (win c W top H).length → cellT (win c W top H) W i = true := by
  intro i hi
  rw [win_len] at hi
  have g : ∀ j, j < H * W → (win c W top H)[j]? = some (c (top * W + j)) := fun j hj => by
    unfold win; rw [List.getElem?_map, List.getElem?_range hj]; rfl
  have hm : (top * W + i) % W = i % W := by rw [Nat.add_comm, Nat.add_mul_mod_self_right]
  unfold cellT
  rw [g i hi]
  by_cases h1 : c (top * W + i) = -1
  · rw [h1, if_pos rfl]
    obtain ⟨p, q⟩ := h.half _ h1
    rw [hm] at p
    have hi0 : 0 < i := by
      rcases Nat.eq_zero_or_pos i with e | e
      · subst e; simp at p
      · exact e
    rw [g (i - 1) (by omega)]
    rw [show top * W + i - 1 = top * W + (i - 1) by omega] at q
    simp [p, q]
  · rw [if_neg (fun e => h1 (by injection e))]
    simp only [Option.getD_some]
    by_cases h2 : wd (c (top * W + i)) = 2
    · rw [if_pos h2]
      obtain ⟨p, q⟩ := h.wide _ h2
      rw [hm] at p
      have hn : i + 1 < H * W := by
        have := next_in (W := W) (H := H) (i := i) (by rw [Nat.mul_comm]; exact hi) p
        rw [Nat.mul_comm]; exact this
      rw [g (i + 1) hn]
      rw [Nat.add_assoc] at q
      simp [p, q]
    · rw [if_neg h2]
      simp [h.one _ h1 h2]
theorem win_row {W : Nat} (c : Nat → Int) (top H y : Nat) (hy : y < H) : rowOf (win c W top H) W y = rowAt c W (top + y) := by
  have hm : y * W + W ≤ H * W := by
    have := Nat.mul_le_mul_right W (show y + 1 ≤ H by omega)
    rw [Nat.add_mul, Nat.one_mul] at this; exact this
  unfold rowOf
  apply List.ext_getElem
  · simp; omega
  · intro i h1 h2
    simp only [rowAt_len] at h2
    simp only [win, rowAt, List.getElem_take, List.getElem_drop, List.getElem_map, List.getElem_range, Nat.add_mul, Nat.add_assoc]
end Go.Proofs.Ytnmneoekpikpkaa
namespace Go.Proofs.Ytnmneoekpikpkaa
open Go.ChangeShapes Go.WideShapes Go.ChangeAt Go.RowKit Go.Deep
theorem ownKnob_none : ownKnob Try.prog.godebug = none := by kernel_rfl
theorem laidOut_prog : laidOutB Try.prog = true := by kernel_rfl
theorem int_range {x : Int} (w : (Lit.int .i64 x).wf = true) : -9223372036854775808 ≤ x ∧ x ≤ 9223372036854775807 := by
  simpa [Lit.wf, IntKind.min, IntKind.max, IntKind.signed, IntKind.bits] using w
end Go.Proofs.Ytnmneoekpikpkaa
namespace Go.Proofs.Ytnmneoekpikpkaa
open Go.ChangeShapes Go.WideShapes Go.ChangeAt Go.RowKit Go.Deep
set_option linter.unusedSimpArgs false
set_option linter.unusedVariables false
def wfV : Value → Bool
  | .int k n => (Lit.int k n).wf
  | .string s => decide (s.size ≤ 9223372036854775807)
  | _ => true
mutual
def okD : D → Bool
  | .a v => wfV v
  | .l rows => decide (rows.length ≤ 9223372036854775807) && okT rows
  | .gone => false
def okR : List D → Bool
  | [] => true
  | d :: r => okD d && okR r
def okT : List (List D) → Bool
  | [] => true
  | r :: rows => okR r && okT rows
end
mutual
theorem okD_bn : ∀ (d : D), okD d = true → bnD 9223372036854775807 d = true
  | .a _, _ => rfl
  | .l rows, h => by
    have h : (decide (rows.length ≤ 9223372036854775807) && okT rows) = true := h
    rw [Bool.and_eq_true] at h
    show (decide (rows.length ≤ 9223372036854775807) && bnT 9223372036854775807 rows) = true
    rw [h.1, okT_bn rows h.2]; rfl
  | .gone, h => by cases h
theorem okR_bn : ∀ (r : List D), okR r = true → bnR 9223372036854775807 r = true
  | [], _ => rfl
  | d :: r, h => by
    have h : (okD d && okR r) = true := h
    rw [Bool.and_eq_true] at h
    show (bnD _ d && bnR _ r) = true
    rw [okD_bn d h.1, okR_bn r h.2]; rfl
theorem okT_bn : ∀ (rows : List (List D)), okT rows = true → bnT 9223372036854775807 rows = true
  | [], _ => rfl
  | r :: rows, h => by
    have h : (okR r && okT rows) = true := h
    rw [Bool.and_eq_true] at h
    show (bnR _ r && bnT _ rows) = true
    rw [okR_bn r h.1, okT_bn rows h.2]; rfl
end
theorem okR_app : ∀ {r q : List D}, okR r = true → okR q = true → okR (r ++ q) = true
  | [], q, _, k => k
  | d :: r, q, h, k => by
    have h : (okD d && okR r) = true := h
    rw [Bool.and_eq_true] at h
    show (okD d && okR (r ++ q)) = true
    rw [h.1, okR_app h.2 k]; rfl
theorem okR_cons {d : D} {r : List D} (h : okR (d :: r) = true) : okD d = true ∧ okR r = true := by
  have h : (okD d && okR r) = true := h
  rwa [Bool.and_eq_true] at h
theorem okD_lg {rows : List (List D)} (h : okD (.l rows) = true) : lgL rows = true := okD_bn _ h
theorem okD_int {n : Int} (h : okD (.a (.int .i64 n)) = true) : R64 n := int_range h
theorem okD_str {s : ByteArray} (h : okD (.a (.string s)) = true) : s.size ≤ 9223372036854775807 := of_decide_eq_true h
theorem okT_of : ∀ {rows : List (List D)}, (∀ r ∈ rows, okR r = true) → okT rows = true
  | [], _ => rfl
  | r :: rows, h => by
    show (okR r && okT rows) = true
    rw [h r (by simp), okT_of fun q hq => h q (by simp [hq])]; rfl
inductive RdR (G : Nat → Obj → Prop) : List Value → List D → Prop
  | nil : RdR G [] []
  | cons {v : Value} {d : D} {vs : List Value} {ds : List D} : RdD G d v → RdR G vs ds → RdR G (v :: vs) (d :: ds)
theorem RdR.app {G : Nat → Obj → Prop} : ∀ {us vs : List Value} {ds es : List D}, RdR G us ds → RdR G vs es → RdR G (us ++ vs) (ds ++ es)
  | _, _, _, _, .nil, h => h
  | _, _, _, _, .cons a b, h => .cons a (b.app h)
theorem RdR.part {G : Nat → Obj → Prop} {cs : List Value} (o c : Nat) {ds es : List D} (h : RdR G ((cs.drop o).take c) ds) (k : RdR G (cs.drop (o + c)) es) : RdR G (cs.drop o) (ds ++ es) := by
  have := h.app k
  rwa [← List.drop_drop, List.take_append_drop] at this
theorem RdR.one {G : Nat → Obj → Prop} {v : Value} {d : D} (h : RdR G [v] [d]) : RdD G d v := by cases h; assumption
theorem RdR.uncons {G : Nat → Obj → Prop} {cs : List Value} {d : D} {ds : List D} (h : RdR G cs (d :: ds)) : ∃ v vs, cs = v :: vs ∧ RdD G d v ∧ RdR G vs ds := by cases h with | cons a b => exact ⟨_, _, rfl, a, b⟩
theorem RdR.unnil {G : Nat → Obj → Prop} {cs : List Value} (h : RdR G cs []) : cs = [] := by cases h; rfl
theorem RdR.get {G : Nat → Obj → Prop} : ∀ {vs : List Value} {ds : List D} {i : Nat} {d : D}, RdR G vs ds → ds[i]? = some d → ∃ u, vs[i]? = some u ∧ RdD G d u
  | _, _, i, d, .nil, e => by simp at e
  | _, _, 0, d, .cons a _, e => by simp at e; subst e; exact ⟨_, rfl, a⟩
  | _, _, i + 1, d, .cons _ b, e => by simpa using b.get (i := i) (by simpa using e)
theorem cell_heap {W : World} {b o : Nat} {u : Value} (h : W.cell? ⟨b, o, none⟩ = some u) : ∃ cs T fr, W.heap[b]? = some (.cells cs T fr) ∧ cs[o]? = some u := by
  unfold World.cell? at h
  split at h
  · rename_i cs T fr e
    exact ⟨cs, T, fr, e, by simpa using h⟩
  · cases h
theorem rows_len_flat {α : Type} (C : Codec α) (l : List α) : (C.rows l).flatten.length = l.length * C.k := by
  have := flat_len (k := C.k) (C.rows l) (fun r hr => by obtain ⟨x, _, rfl⟩ := List.mem_map.1 hr; exact C.len x)
  rw [this, C.rows_len]
section
variable {H : Type} {enc : TypeId × Value → H} {W : World} {fuel : Nat} {cs : List Value} {x : DataW H × List MemPlace}
set_option maxRecDepth 100000 in
theorem opn_slice {t e : TypeId} {α : Type} [Inhabited α] (C : Codec α) (h0 : 0 < C.k) (ht : Try.prog.underlying t = some (.slice e)) (hc : Try.prog.cellsOf e = C.k)
    (he : ∀ {fuel cs x}, DataW.trod enc Try.prog W 0 (fun _ => true) true fuel e cs = some x → ∃ a : α, okR (C.enc a) = true ∧ RdR (heapOf W) cs (C.enc a))
    (h : DataW.trod enc Try.prog W 0 (fun _ => true) true fuel t cs = some x) : ∃ l : List α, okD (.l (C.rows l)) = true ∧ RdR (heapOf W) cs [.l (C.rows l)] := by
  rcases open_slice ht h with ⟨rfl, _⟩ | ⟨a, len, cap, m, n, D', Pl, rfl, hb, hl, hm, hmm, rfl, hx⟩
  · exact ⟨[], rfl, .cons (.nil none 0 (by omega) (fun _ => rfl)) .nil⟩
  have hlm : len ≤ m := by rw [hmm]; split <;> omega
  rw [hc] at hx
  obtain ⟨g, hg⟩ := choose_lt (α := α) (p := fun i y => okR (C.enc y) = true ∧ ∀ j d, (C.enc y)[j]? = some d → ∃ u, W.cell? (a.add (i * C.k + j)) = some u ∧ RdD (heapOf W) d u) (n := m) (fun i hi => by
    obtain ⟨cs', h1, h2⟩ := hx i hi
    obtain ⟨_, hlen, hcell⟩ := World.cells?_some h1
    obtain ⟨y, hp, hy⟩ := he h2
    refine ⟨y, hp, fun j d e => ?_⟩
    obtain ⟨u, e1, e2⟩ := hy.get e
    have hj : j < C.k := by rw [← C.len y]; exact (List.getElem?_eq_some_iff.1 e).1
    refine ⟨u, ?_, e2⟩
    rw [← e1, ← hcell j hj, add_add])
  have hlen : (C.rows ((List.range len).map g)).length = len := by rw [C.rows_len]; simp
  unfold maxLen at hm
  refine ⟨(List.range len).map g, ?_, .cons ?_ .nil⟩
  · show (decide _ && okT _) = true
    rw [hlen, decide_eq_true (by omega), Bool.true_and]
    refine okT_of fun r hr => ?_
    obtain ⟨z, hz, rfl⟩ := List.mem_map.1 hr
    obtain ⟨i, hi, rfl⟩ := List.mem_map.1 hz
    exact (hg i (by have := List.mem_range.1 hi; omega)).1
  have hu : ∀ r ∈ C.rows ((List.range len).map g), r.length = C.k := fun r hr => by obtain ⟨z, _, rfl⟩ := List.mem_map.1 hr; exact C.len z
  have key : ∀ i d, (C.rows ((List.range len).map g)).flatten[i]? = some d → ∃ u, W.cell? (a.add i) = some u ∧ RdD (heapOf W) d u := by
    intro i d e
    have hi : i < len * C.k := by
      have := (List.getElem?_eq_some_iff.1 e).1
      rw [rows_len_flat, List.length_map, List.length_range] at this; exact this
    have e1 : i / C.k * C.k + i % C.k = i := by rw [Nat.mul_comm]; exact Nat.div_add_mod i C.k
    have h1 : i / C.k < len := Nat.div_lt_of_lt_mul (by rw [Nat.mul_comm]; exact hi)
    have hlt : i % C.k < (C.enc (g (i / C.k))).length := by rw [C.len]; exact Nat.mod_lt _ h0
    have e2 := flat_get (k := C.k) (C.rows ((List.range len).map g)) (i / C.k) (i % C.k) (C.enc (g (i / C.k))) _ hu (by
      unfold Codec.rows
      rw [List.getElem?_map, List.getElem?_map, List.getElem?_range h1]; rfl) (List.getElem?_eq_getElem hlt)
    rw [e1, e] at e2
    obtain ⟨u, h2, h3⟩ := (hg (i / C.k) (by omega)).2 (i % C.k) d (by rw [List.getElem?_eq_getElem hlt]; exact e2.symm)
    rw [e1] at h2
    exact ⟨u, h2, h3⟩
  rcases Nat.eq_zero_or_pos len with h1 | h1
  · subst h1
    exact .nil _ _ (by omega) (fun h => nomatch h)
  have hpos : 0 < (C.rows ((List.range len).map g)).flatten.length := by rw [rows_len_flat, List.length_map, List.length_range]; exact Nat.mul_pos h1 h0
  obtain ⟨b, o, spot⟩ := a
  obtain ⟨u0, h2, -⟩ := key 0 _ (List.getElem?_eq_getElem hpos)
  have hs : spot = none := by simpa [Addr.add] using World.cell?_spot h2
  subst hs
  rw [Addr.add_lit] at h2
  obtain ⟨hcs, T, fr, hh, -⟩ := cell_heap h2
  refine .l _ len cap b o C.k T fr hcs (fun i => (W.cell? ⟨b, o + i, none⟩).getD undef) hlen h1 hl (by omega) h0 hu hh (fun i d e => ?_) (fun i d e => ?_)
  · obtain ⟨u, h3, -⟩ := key i d e
    rw [Addr.add_lit] at h3
    rw [h3]
    obtain ⟨cs2, T2, fr2, hh2, h4⟩ := cell_heap h3
    rw [hh] at hh2
    injection hh2 with hh2; injection hh2 with q1 q2 q3
    rw [q1]; exact h4
  · obtain ⟨u, h3, h4⟩ := key i d e
    rw [Addr.add_lit] at h3
    rw [h3]; exact h4
set_option maxRecDepth 100000 in
theorem opn_int (h : DataW.trod enc Try.prog W 0 (fun _ => true) true fuel 3 cs = some x) : ∃ a : Int, okR [.a (.int .i64 a)] = true ∧ RdR (heapOf W) cs [.a (.int .i64 a)] := by
  obtain ⟨n, rfl, _, wf⟩ := DataW.trod_int Try.underlying3 h
  exact ⟨n, by show (_ && true) = true; rw [Bool.and_true]; exact wf, .cons (.a _) .nil⟩
set_option maxRecDepth 100000 in
theorem opn_bool (h : DataW.trod enc Try.prog W 0 (fun _ => true) true fuel 4 cs = some x) : ∃ a : Bool, okR [.a (.bool a)] = true ∧ RdR (heapOf W) cs [.a (.bool a)] := by
  obtain ⟨n, rfl, _⟩ := DataW.trod_bool Try.underlying4 h
  exact ⟨n, rfl, .cons (.a _) .nil⟩
set_option maxRecDepth 100000 in
theorem opn_string (h : DataW.trod enc Try.prog W 0 (fun _ => true) true fuel 9 cs = some x) : ∃ a : ByteArray, okR [.a (.string a)] = true ∧ RdR (heapOf W) cs [.a (.string a)] := by
  obtain ⟨s, rfl, _, wf⟩ := DataW.trod_string Try.underlying9 h
  exact ⟨s, by show (decide _ && true) = true; rw [Bool.and_true]; unfold maxLen at wf; exact decide_eq_true (by omega), .cons (.a _) .nil⟩
theorem cop_int : Try.prog.cellsOf 3 = 1 := by kernel_rfl
theorem cop_bool : Try.prog.cellsOf 4 = 1 := by kernel_rfl
theorem cop_string : Try.prog.cellsOf 9 = 1 := by kernel_rfl
theorem cop_ints : Try.prog.cellsOf 23 = 1 := by kernel_rfl
theorem opn_ints (h : DataW.trod enc Try.prog W 0 (fun _ => true) true fuel 23 cs = some x) : ∃ l : List Int, okR [.l (ints l)] = true ∧ RdR (heapOf W) cs [.l (ints l)] := by
  obtain ⟨l, a, b⟩ := opn_slice c_ints (by decide) Try.underlying23 cop_int opn_int h
  exact ⟨l, by show (_ && true) = true; rw [Bool.and_true]; exact a, b⟩
set_option maxRecDepth 100000 in
theorem open_ints_top {base : Nat} {v : Value} {d : DataW H} {ps : List MemPlace} (hv : Value.okWide Try.prog W .any base 23 v) (h : DataW.Trod enc Try.prog W 0 (fun _ => true) true 23 v d ps) :
    ∃ l : List Int, okR [.l (ints l)] = true ∧ RdD (heapOf W) (.l (ints l)) v := by
  obtain ⟨a0, len, cap, rfl⟩ := okWide_slice Try.underlying23 hv
  obtain ⟨f, hf⟩ := h
  obtain ⟨l, g, r⟩ := opn_ints hf
  exact ⟨l, g, r.one⟩
theorem cop_u8 : Try.prog.cellsOf 5 = 1 := by kernel_rfl
theorem cop_bytes : Try.prog.cellsOf 22 = 1 := by kernel_rfl
theorem u8_rng {x : Int} (w : (Lit.int .u8 x).wf = true) : 0 ≤ x ∧ x ≤ 255 := by
  simpa [Lit.wf, IntKind.min, IntKind.max, IntKind.signed, IntKind.bits] using w
set_option maxRecDepth 100000 in
theorem opn_byte (h : DataW.trod enc Try.prog W 0 (fun _ => true) true fuel 5 cs = some x) : ∃ a : UInt8, okR (c_byts.enc a) = true ∧ RdR (heapOf W) cs (c_byts.enc a) := by
  obtain ⟨n, rfl, _, wf⟩ := DataW.trod_int Try.underlying5 h
  obtain ⟨h0, h1⟩ := u8_rng wf
  have e : c_byts.enc (UInt8.ofNat n.toNat) = [.a (.int .u8 n)] := by
    show [D.a (.int .u8 ((UInt8.ofNat n.toNat).toNat : Int))] = _
    congr 3; simp; omega
  refine ⟨UInt8.ofNat n.toNat, ?_, ?_⟩
  · rw [e]; show (_ && true) = true; rw [Bool.and_true]; exact wf
  · rw [e]; exact .cons (.a _) .nil
theorem opn_bytes (h : DataW.trod enc Try.prog W 0 (fun _ => true) true fuel 22 cs = some x) : ∃ l : List UInt8, okR [.l (byts l)] = true ∧ RdR (heapOf W) cs [.l (byts l)] := by
  obtain ⟨l, a, b⟩ := opn_slice c_byts (by decide) Try.underlying22 cop_u8 opn_byte h
  exact ⟨l, by show (_ && true) = true; rw [Bool.and_true]; exact a, b⟩
set_option maxRecDepth 100000 in
theorem open_bytes_top {base : Nat} {v : Value} {d : DataW H} {ps : List MemPlace} (hv : Value.okWide Try.prog W .any base 22 v) (h : DataW.Trod enc Try.prog W 0 (fun _ => true) true 22 v d ps) :
    ∃ l : List UInt8, okR [.l (byts l)] = true ∧ RdD (heapOf W) (.l (byts l)) v := by
  obtain ⟨a0, len, cap, rfl⟩ := okWide_slice Try.underlying22 hv
  obtain ⟨f, hf⟩ := h
  obtain ⟨l, g, r⟩ := opn_bytes hf
  exact ⟨l, g, r.one⟩
theorem cop_strs : Try.prog.cellsOf 66 = 1 := by kernel_rfl
theorem opn_strs (h : DataW.trod enc Try.prog W 0 (fun _ => true) true fuel 66 cs = some x) : ∃ l : List ByteArray, okR [.l (strs l)] = true ∧ RdR (heapOf W) cs [.l (strs l)] := by
  obtain ⟨l, a, b⟩ := opn_slice c_strs (by decide) Try.underlying66 cop_string opn_string h
  exact ⟨l, by show (_ && true) = true; rw [Bool.and_true]; exact a, b⟩
set_option maxRecDepth 100000 in
theorem open_strs_top {base : Nat} {v : Value} {d : DataW H} {ps : List MemPlace} (hv : Value.okWide Try.prog W .any base 66 v) (h : DataW.Trod enc Try.prog W 0 (fun _ => true) true 66 v d ps) :
    ∃ l : List ByteArray, okR [.l (strs l)] = true ∧ RdD (heapOf W) (.l (strs l)) v := by
  obtain ⟨a0, len, cap, rfl⟩ := okWide_slice Try.underlying66 hv
  obtain ⟨f, hf⟩ := h
  obtain ⟨l, g, r⟩ := opn_strs hf
  exact ⟨l, g, r.one⟩
end
end Go.Proofs.Ytnmneoekpikpkaa
namespace Go.Proofs.Ytnmneoekpikpkaa
open Go.ChangeShapes Go.WideShapes Go.ChangeAt Go.RowKit Go.Deep
set_option linter.unusedSimpArgs false
set_option linter.unusedVariables false
section
variable {H : Type} {enc : TypeId × Value → H} {W : World} {fuel : Nat} {cs : List Value} {x : DataW H × List MemPlace}
end
end Go.Proofs.Ytnmneoekpikpkaa
namespace Go.Proofs.Ytnmneoekpikpkaa
open Go.RowKit
set_option linter.unusedSimpArgs false
set_option linter.unusedVariables false
set_option maxHeartbeats 16000000
set_option maxRecDepth 100000
theorem M_sMakeShow_eq : M_sMakeShow = M_sMakeShowN := rfl
theorem prompt_fair {e : TEd} (ok : e.ok = true) {lp : List Int} (hp : lp.all printable = true) (hl : lp.length ≤ 60) : (promptRunes e.Mode e.Query lp).all printable = true ∧ (promptRunes e.Mode e.Query lp).length ≤ 60 := by
  simp only [TEd.ok, edOk, Bool.and_eq_true, decide_eq_true_eq] at ok
  obtain ⟨a1, a2, a3, a4, a5, a6, a7, a8, a9, a10, a11, a12, a13, a14, a15, a16⟩ := ok
  exact ⟨prompt_print (by assumption) hp, prompt_len (by omega) hl⟩
theorem show_two (e : TEd) (note ps : ByteArray) (w h : Int) (fn : Fair note) (fp : Fair ps) (ok : e.ok = true) (hw : 2 ≤ w ∧ w ≤ 15) (hh : 1 ≤ h ∧ h ≤ 4) : ∃ (W H X Y Y2 : Nat) (c : Nat → Int) (T T2 : Nat), w = W ∧ h = H ∧ (2 ≤ W ∧ W ≤ 15) ∧ (1 ≤ H ∧ H ≤ 4) ∧ X < W ∧ Y < H ∧ (Y2 < H → Y = Y2 ∧ T = 0 ∧ T2 = 0) ∧ (H ≤ Y2 → Y + 1 = H) ∧ Y2 < H + 20 ∧
    (∀ i, i < (win c W T H).length → cellT (win c W T H) W i = true) ∧ (∀ i, i < (win c W T2 (H + 20)).length → cellT (win c W T2 (H + 20)) W i = true) ∧
    M_iShow [V.v (.string note), V.v (.string ps), .agg [V.v (.bool e.Vi), V.v (.int .i64 e.Mode), .lst (some 0) (ints e.Line.Text), V.v (.int .i64 e.Line.At), V.v (.int .i64 e.Count), V.v (.int .i64 e.Op), V.v (.int .i64 e.OpCount), V.v (.int .i64 e.Wait), V.v (.int .i64 e.FindR), V.v (.int .i64 e.FindHow), V.v (.int .i64 e.Last), .lst (some 1) (dPieces e.Ring.Pieces), .lst (some 2) (dLines e.Undo.Lines), V.v (.int .i64 e.Nav), .lst (some 3) (ints e.Own.Text), V.v (.int .i64 e.Own.At), .lst (some 4) (ints e.Query), V.v (.int .i64 e.Hit), .lst (some 5) (ints e.Back.Text), V.v (.int .i64 e.Back.At)], V.v (.int .i64 ((W : Int))), V.v (.int .i64 ((H : Int)))] [] [] = some ⟨.tup [vGrid W H (.own 0) X Y false, V.v (.bool true)], [], [(0, ints (win c W T H))]⟩ ∧
    M_iShow [V.v (.string note), V.v (.string ps), .agg [V.v (.bool e.Vi), V.v (.int .i64 e.Mode), .lst (some 0) (ints e.Line.Text), V.v (.int .i64 e.Line.At), V.v (.int .i64 e.Count), V.v (.int .i64 e.Op), V.v (.int .i64 e.OpCount), V.v (.int .i64 e.Wait), V.v (.int .i64 e.FindR), V.v (.int .i64 e.FindHow), V.v (.int .i64 e.Last), .lst (some 1) (dPieces e.Ring.Pieces), .lst (some 2) (dLines e.Undo.Lines), V.v (.int .i64 e.Nav), .lst (some 3) (ints e.Own.Text), V.v (.int .i64 e.Own.At), .lst (some 4) (ints e.Query), V.v (.int .i64 e.Hit), .lst (some 5) (ints e.Back.Text), V.v (.int .i64 e.Back.At)], V.v (.int .i64 ((W : Int))), V.v (.int .i64 (((H : Int) + 20)))] [] [] = some ⟨.tup [vGrid W ((H : Int) + 20) (.own 0) X Y2 false, V.v (.bool true)], [], [(0, ints (win c W T2 (H + 20)))]⟩ := by
  obtain ⟨ln, hn, f1⟩ := fn
  obtain ⟨lp, hp, f2⟩ := fp
  obtain ⟨W, rfl⟩ := Int.eq_ofNat_of_zero_le (show 0 ≤ w by omega)
  obtain ⟨H, rfl⟩ := Int.eq_ofNat_of_zero_le (show 0 ≤ h by omega)
  have hsm := TEd.sm_of ok
  obtain ⟨lt, ty, A, hA, hAl⟩ := lineOk_of (TEd.ok_of ok).1
  have b1 : W * H ≤ 15 * 4 := Nat.mul_le_mul (by omega) (by omega)
  have b2 : W * (H + 20) ≤ 15 * 24 := Nat.mul_le_mul (by omega) (by omega)
  have g1 : gridNewOk (W : Int) (H : Int) = true := by
    unfold gridNewOk
    have e1 : (W : Int) * H = ((W * H : Nat) : Int) := by rw [Int.natCast_mul]
    rw [e1, inR_iff.2 (show (2 : Int) ≤ W ∧ (W : Int) ≤ 200 by omega), inR_iff.2 (show (1 : Int) ≤ H ∧ (H : Int) ≤ 200 by omega)]
    simp; omega
  have g2 : gridNewOk (W : Int) ((H + 20 : Nat) : Int) = true := by
    unfold gridNewOk
    have e1 : (W : Int) * ((H + 20 : Nat) : Int) = ((W * (H + 20) : Nat) : Int) := by rw [Int.natCast_mul]
    rw [e1, inR_iff.2 (show (2 : Int) ≤ W ∧ (W : Int) ≤ 200 by omega), inR_iff.2 (show (1 : Int) ≤ ((H + 20 : Nat) : Int) ∧ ((H + 20 : Nat) : Int) ≤ 200 by omega)]
    simp only [Bool.true_and, Bool.and_true, decide_eq_true_eq]; omega
  have s1 := E_iShow e hsm note ps ln lp hn hp W H g1 ok f1 f2 A hA
  have s2 := E_iShow e hsm note ps ln lp hn hp W (H + 20) g2 ok f1 f2 A hA
  obtain ⟨-, -, nl, np⟩ := fair_of f1
  obtain ⟨-, -, pl, pp⟩ := fair_of f2
  obtain ⟨qp, ql⟩ := prompt_fair ok pp pl
  have bp := shown_print (e.Line.Text.take A)
  have rp := shown_print (e.Line.Text.drop A)
  have bl := shown_len (e.Line.Text.take A)
  have bl2 : (e.Line.Text.take A).length ≤ 400 := by rw [List.length_take]; omega
  generalize promptRunes e.Mode e.Query lp = P at *
  generalize shown (e.Line.Text.take A) = bf at *
  generalize shown (e.Line.Text.drop A) = rs at *
  have B := shB (W := W) (by omega) (n := ln) (p := P) (bf := bf) (rs := rs) nl ql (by omega) rp
  obtain ⟨m, hC⟩ := shC_right (W := W) (by omega) np qp bp rp
  obtain ⟨x1, x2⟩ := B.x3
  obtain ⟨y1, y2⟩ := B.y3
  have y0 := B.y2.1
  have t1 : shTop W H ln P bf rs = ((shCur W ln P bf rs).2 - H + 1).toNat := rfl
  have t2 : shTop W (H + 20) ln P bf rs = ((shCur W ln P bf rs).2 - ((H + 20 : Nat) : Int) + 1).toNat := rfl
  generalize shTop W H ln P bf rs = T at *
  generalize shTop W (H + 20) ln P bf rs = T2 at *
  generalize shCur W ln P bf rs = cur at *
  generalize shC W ln P bf rs = c at *
  obtain ⟨X, hX⟩ := Int.eq_ofNat_of_zero_le x1
  obtain ⟨Y, hY⟩ := Int.eq_ofNat_of_zero_le (show 0 ≤ cur.2 - T by omega)
  obtain ⟨Y2, hY2⟩ := Int.eq_ofNat_of_zero_le (show 0 ≤ cur.2 - T2 by omega)
  rw [hX, hY] at s1
  rw [hX, hY2] at s2
  refine ⟨W, H, X, Y, Y2, c, T, T2, rfl, rfl, by omega, by omega, by omega, by omega, by omega, by omega, by omega, win_right (by omega) hC T H, win_right (by omega) hC T2 (H + 20), s1, ?_⟩
  have e20 : ((H + 20 : Nat) : Int) = (H : Int) + 20 := by omega
  rw [e20] at s2
  exact s2
theorem E_lFnShow (l : List UInt8) (hok : okR [.l (byts l)] = true) : M_lFnShow [.lst (some 0) (byts l)] [] [] = some ⟨V.v (.bool true), [], []⟩ := by
  by_cases h1 : 1048576 < l.length
  · have h1' : (1048576 : Int) < l.length := by omega
    unfold M_lFnShow
    simp [Try.func3, Try.f3, h1, h1']
  have h1' : ¬ (1048576 : Int) < l.length := by omega
  obtain ⟨note, ps, e, w, h, hM, fn, fp, ok, hw, hh1, hh2⟩ := EX_sMakeShow l (by omega)
  rw [← M_sMakeShow_eq] at hM
  obtain ⟨W, H, X, Y, Y2, c, T, T2, rfl, rfl, hW, hH, hX, hY, hlo, hhi, hY2, c1, c2, s1, s2⟩ := show_two e note ps w h fn fp ok hw ⟨hh1, hh2⟩
  have b1 : W * H ≤ 15 * 4 := Nat.mul_le_mul (by omega) (by omega)
  have b2 : W * (H + 20) ≤ 15 * 24 := Nat.mul_le_mul (by omega) (by omega)
  have l1 : (win c W T H).length = W * H := by rw [win_len, Nat.mul_comm]
  have l2 : (win c W T2 (H + 20)).length = W * (H + 20) := by rw [win_len, Nat.mul_comm]
  have k1 := E_iGridOk (win c W T H) W H X Y (by omega) (by omega) (by omega) l1 hX hY c1
  have w1 := w64 ((H : Int) + 20) (by omega)
  have w2 := w64 ((H : Int) - 1) (by omega)
  have r1 : ∀ y : Nat, y < H → _ := fun y hy => E_iGridRow (win c W T H) W H X Y y hy (by omega) (by omega) (by omega) l1 hX hY c1
  have r2 : ∀ y : Nat, y < H → _ := fun y hy => E_iGridRow (win c W T2 (H + 20)) W (H + 20) X Y2 y (by omega) (by omega) (by omega) (by omega) l2 hX hY2 c2
  unfold vGrid at s1 s2 k1 r1 r2
  have e20 : ((H + 20 : Nat) : Int) = (H : Int) + 20 := by omega
  simp only [e20] at r2
  unfold M_lFnShow
  by_cases h2 : Y2 < H
  · obtain ⟨rfl, rfl, rfl⟩ := hlo h2
    have h2' : (Y : Int) < H := by omega
    simp [Try.func3, Try.f3, h1, h1', hM, s1, s2, k1, w1, w2, h2, h2']
    rw [loopV_go (fun j => .on ⟨[(12, V.v (.int .i64 ((j : Int)))), (10, .ref 10 0), (8, .ref 8 0), (7, V.v (.int .i64 ((H : Int))))], [(10, [V.v (.int .i64 ((W : Int))), V.v (.int .i64 ((H : Int) + 20)), .own 2000000000, V.v (.int .i64 ((X : Int))), V.v (.int .i64 ((Y : Int))), V.v (.bool false)]), (8, [V.v (.int .i64 ((W : Int))), V.v (.int .i64 ((H : Int))), .own 2000000001, V.v (.int .i64 ((X : Int))), V.v (.int .i64 ((Y : Int))), V.v (.bool false)])], [(2000000001, ints (win c W 0 H)), (2000000000, ints (win c W 0 (H + 20)))], []⟩) H ?_ ?_]
    · simp
    · simp
    · intro j hj
      have hw := w64 ((j : Int) + 1) (by omega)
      have q1 := win_row (W := W) c 0 H j hj
      have q2 := win_row (W := W) c 0 (H + 20) j (by omega)
      simp [hj, hw, r1 j hj, r2 j hj, q1, q2]
  · have h3 := hhi (by omega)
    have h2' : ¬ (Y2 : Int) < H := by omega
    have h3' : (Y : Int) = (H : Int) - 1 := by omega
    simp [Try.func3, Try.f3, h1, h1', hM, s1, s2, k1, w1, w2, h2, h2']
    exact h3'
end Go.Proofs.Ytnmneoekpikpkaa
namespace Go.Proofs.Ytnmneoekpikpkaa.fnShow
open Go.ChangeShapes Go.WideShapes Go.ChangeAt Go.RowKit
open Go.ChangeMaps (open_string shut_string)
set_option linter.unusedVariables false
theorem law_FnShow (l0 : List UInt8) (p0 : Value) (W : World) (g0 : okR [.l (byts l0)] = true) (z0 : RdD (heapOf W) (.l (byts l0)) p0) :
    Calls Try.prog 3 #[p0] W fun e W' => e = .returned (.bool true) ∧ Ext W W' :=
  S_lFnShow.top_v (us := [p0]) (ls := [p0]) (E_lFnShow l0 g0)
    ⟨_, _, rfl, top_arg_l rfl z0, rfl⟩
set_option maxRecDepth 100000 in
theorem lifted (os : Os) (started : os.Started) (H : Type) (enc : TypeId × Value → H) :
    ReturnsInHanded {} Try.checked os 3 .any (Rows.fnShowSpec.pre6 enc Try.prog Try.f3 Rows.fnShowRow.domain false) (Rows.fnShowSpec.post enc Try.prog Try.f3 false true false false) := by
  refine returnsInHanded_of_change (C := Try.checked) ownKnob_none started (by kernel_rfl) Try.func3
    (ChangeSpec.witness6 (enc := enc) (C := Try.checked) false ⟨#[], #[.slice none 0 0], []⟩ 8 (by kernel_rfl) (by kernel_rfl) (by kernel_rfl) (by kernel_rfl)) ?_
  intro W base args ds gs before hval0 hW hcnd _
  have hval : ∀ (j : Nat) t v, Try.f3.params[j]? = some t → args[j]? = some v → Value.okWide Try.prog W .any base t v := hval0
  have hW' := hW
  obtain ⟨p, q, hA0, hV, rfl, hfz, hnd⟩ := hW
  have hA : DataW.TrodAll enc Try.prog W 0 (fun _ => true) true Try.f3.params.toList args.toList ds p := hA0
  rw [Try.params3] at hA hval
  obtain ⟨v0, vs0, d0, ds0, pp0, q0, hargs, rfl, rfl, h0, r0⟩ := trodAll_cons hA
  obtain ⟨rfl, rfl, rfl⟩ := trodAll_nil r0
  obtain rfl : args = #[v0] := by cases args; simp_all
  obtain ⟨rfl, rfl⟩ := trodVars_none hV
  have k0 := h0
  have lt0 : ∀ x ∈ pp0, x.block < W.heap.size := by obtain ⟨m, hm⟩ := k0; exact DataW.trod_lt m _ _ _ hm
  obtain ⟨l0, g0, z0⟩ := open_bytes_top (hval 0 22 v0 rfl rfl) h0
  clear hA0 hval0
  refine (law_FnShow l0 v0 W g0 z0).mono fun e W' ⟨he, bel⟩ => ?_
  subst he
  exact ⟨_, rfl, _, _, _, [], _, [], hW', trodAll_mk1 (shut_bool Try.underlying4 _), (trodAll_cons_mk (Below.trod laidOut_prog (by kernel_rfl) (of_decide_eq_true (by kernel_rfl)) k0 bel lt0) trodAll_mk0), rfl, Below.frame bel _, fun h => by cases h⟩
theorem proved : Rows.FnShowSaid :=
  OpenClaim.holds_of_wide 3 Try.f3 rfl rfl rfl rfl rfl rfl rfl ⟨rfl, rfl, rfl, rfl, rfl⟩ rfl rfl rfl rfl rfl (by kernel_rfl) Try.func3 (by kernel_rfl)
    (of_decide_eq_true (by kernel_rfl)) (by unfold Func.isWrapper; first | (rw [if_pos (by decide +kernel)]; kernel_rfl) | (rw [if_neg (by decide +kernel)]; exact ⟨rfl, rfl⟩))
    (fun os started H enc _ => lifted os started H enc)
#print axioms proved
end Go.Proofs.Ytnmneoekpikpkaa.fnShow
