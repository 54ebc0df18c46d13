/- Part 9 of a proof in several texts (an abstract evaluator, what the functions compute). -/
import Derived.Test.YtnmneoekpikpkaaPkFnShow8
namespace Go.Proofs.Ytnmneoekpikpkaa
open Go.RowKit
set_option linter.unusedSimpArgs false
set_option linter.unusedVariables false
set_option maxHeartbeats 4000000
set_option maxRecDepth 10000
def wideR (r : Int) : Bool := inR r 4352 4447 || inR r 11904 42191 || inR r 44032 55203 || inR r 63744 64255 || inR r 65280 65376 || inR r 65504 65510 || inR r 127744 129791 || inR r 131072 262141
def wd (r : Int) : Int := if printable r then (if wideR r then 2 else 1) else 0
theorem wd_range (r : Int) : 0 ≤ wd r ∧ wd r ≤ 2 := by unfold wd; split <;> (try split) <;> omega
theorem wd_print {r : Int} (h : printable r = true) : wd r = 1 ∨ wd r = 2 := by unfold wd; rw [if_pos h]; split <;> simp
def plc (w : Int) (p : Int × Int) (r : Int) : Int × Int := if p.1 + wd r > w then (0, p.2 + 1) else p
def flowS (w : Int) (p : Int × Int) (r : Int) : Int × Int := if printable r then ((plc w p r).1 + wd r, (plc w p r).2) else p
def flow (w : Int) (t : List Int) (p : Int × Int) : Int × Int := t.foldl (flowS w) p
theorem flow_take {w : Int} {t : List Int} {p : Int × Int} {j : Nat} (h : j < t.length) : flow w (t.take (j + 1)) p = flowS w (flow w (t.take j) p) t[j] := by
  unfold flow; rw [List.take_add_one, List.getElem?_eq_getElem h, List.foldl_append]; rfl
theorem flow_append (w : Int) (s t : List Int) (p : Int × Int) : flow w (s ++ t) p = flow w t (flow w s p) := List.foldl_append ..
theorem plc_in {w : Int} (hw : 2 ≤ w) {p : Int × Int} (h : 0 ≤ p.1 ∧ p.1 ≤ w) (r : Int) : 0 ≤ (plc w p r).1 ∧ (plc w p r).1 + wd r ≤ w ∧ p.2 ≤ (plc w p r).2 ∧ (plc w p r).2 ≤ p.2 + 1 := by
  have := wd_range r
  unfold plc; split <;> (try simp only) <;> omega
theorem flowS_in {w : Int} (hw : 2 ≤ w) {p : Int × Int} (h : 0 ≤ p.1 ∧ p.1 ≤ w) (r : Int) : (0 ≤ (flowS w p r).1 ∧ (flowS w p r).1 ≤ w) ∧ p.2 ≤ (flowS w p r).2 ∧ (flowS w p r).2 ≤ p.2 + 1 := by
  have := wd_range r
  have := plc_in hw h r
  unfold flowS; split <;> (try simp only) <;> omega
theorem flow_in {w : Int} (hw : 2 ≤ w) : ∀ (t : List Int) (p : Int × Int), 0 ≤ p.1 ∧ p.1 ≤ w → (0 ≤ (flow w t p).1 ∧ (flow w t p).1 ≤ w) ∧ p.2 ≤ (flow w t p).2 ∧ (flow w t p).2 ≤ p.2 + t.length
  | [], p, h => ⟨h, Int.le_refl _, by simp [flow]⟩
  | r :: t, p, h => by
    obtain ⟨a, b, c⟩ := flowS_in hw h r
    obtain ⟨d, e, f⟩ := flow_in hw t (flowS w p r) a
    have : flow w (r :: t) p = flow w t (flowS w p r) := rfl
    rw [this]
    simp only [List.length_cons]
    refine ⟨d, ?_, ?_⟩ <;> omega
def upd1 (c : Nat → Int) (i : Nat) (r : Int) : Nat → Int := fun j => if j = i then r else c j
def atp (w : Nat) (p : Int × Int) : Nat := p.2.toNat * w + p.1.toNat
def ink1 (w : Nat) (c : Nat → Int) (p : Int × Int) (r : Int) : Nat → Int :=
  if wd r = 2 then upd1 (upd1 c (atp w p) r) (atp w p + 1) (-1) else upd1 c (atp w p) r
def inkS (w : Nat) (s : (Nat → Int) × (Int × Int)) (r : Int) : (Nat → Int) × (Int × Int) := (ink1 w s.1 (plc w s.2 r) r, ((plc w s.2 r).1 + wd r, (plc w s.2 r).2))
def inks (w : Nat) (t : List Int) (s : (Nat → Int) × (Int × Int)) : (Nat → Int) × (Int × Int) := t.foldl (inkS w) s
theorem inks_take {w : Nat} {t : List Int} {s : (Nat → Int) × (Int × Int)} {j : Nat} (h : j < t.length) : inks w (t.take (j + 1)) s = inkS w (inks w (t.take j) s) t[j] := by
  unfold inks; rw [List.take_add_one, List.getElem?_eq_getElem h, List.foldl_append]; rfl
theorem inks_append (w : Nat) (s t : List Int) (p : (Nat → Int) × (Int × Int)) : inks w (s ++ t) p = inks w t (inks w s p) := List.foldl_append ..
theorem inks_flow {w : Nat} : ∀ (t : List Int) (s : (Nat → Int) × (Int × Int)), t.all printable = true → (inks w t s).2 = flow w t s.2
  | [], s, _ => rfl
  | r :: t, s, h => by
    simp only [List.all_cons, Bool.and_eq_true] at h
    have e1 : inks w (r :: t) s = inks w t (inkS w s r) := rfl
    have e2 : flow w (r :: t) s.2 = flow w t (flowS w s.2 r) := rfl
    rw [e1, e2, inks_flow t _ h.2]
    simp only [inkS, flowS, h.1, if_true]
def rowAt (c : Nat → Int) (w y : Nat) : List Int := (List.range w).map fun x => c (y * w + x)
def sheet (c : Nat → Int) (w k : Nat) : List (List Int) := (List.range k).map (rowAt c w)
def win (c : Nat → Int) (w top h : Nat) : List Int := (List.range (h * w)).map fun i => c (top * w + i)
@[simp] theorem rowAt_len (c : Nat → Int) (w y : Nat) : (rowAt c w y).length = w := by simp [rowAt]
@[simp] theorem sheet_len (c : Nat → Int) (w k : Nat) : (sheet c w k).length = k := by simp [sheet]
@[simp] theorem win_len (c : Nat → Int) (w top h : Nat) : (win c w top h).length = h * w := by simp [win]
theorem sheet_get {c : Nat → Int} {w k y : Nat} (h : y < k) : (sheet c w k)[y]? = some (rowAt c w y) := by simp [sheet, h]
theorem rowAt_set {c : Nat → Int} {w y x : Nat} (h : x < w) (r : Int) : (rowAt c w y).set x r = rowAt (upd1 c (y * w + x) r) w y := by
  apply List.ext_getElem (by simp)
  intro i h1 h2
  simp only [List.getElem_set, rowAt, List.getElem_map, List.getElem_range, upd1]
  by_cases e : x = i
  · subst e; simp
  · have : ¬ (y * w + i = y * w + x) := by omega
    rw [if_neg e, if_neg this]
theorem rowAt_other {c : Nat → Int} {w y y' x : Nat} (h : x < w) (hy : y' ≠ y) (r : Int) : rowAt (upd1 c (y * w + x) r) w y' = rowAt c w y' := by
  apply List.ext_getElem (by simp)
  intro i h1 h2
  simp only [rowAt, List.getElem_map, List.getElem_range, upd1]
  simp only [rowAt_len] at h1
  have : ¬ (y' * w + i = y * w + x) := by
    intro e
    rcases Nat.lt_or_gt_of_ne hy with g | g
    · have := Nat.mul_le_mul_right w (show y' + 1 ≤ y from g)
      rw [Nat.add_mul] at this; omega
    · have := Nat.mul_le_mul_right w (show y + 1 ≤ y' from g)
      rw [Nat.add_mul] at this; omega
  simp [this]
theorem sheet_set {c : Nat → Int} {w k y x : Nat} (h : x < w) (hy : y < k) (r : Int) : (sheet c w k).set y ((rowAt c w y).set x r) = sheet (upd1 c (y * w + x) r) w k := by
  rw [rowAt_set h]
  apply List.ext_getElem (by simp)
  intro i h1 h2
  simp only [List.getElem_set, sheet, List.getElem_map, List.getElem_range]
  by_cases e : y = i
  · subst e; simp
  · rw [if_neg e, rowAt_other h (Ne.symm e)]
theorem sheet_grow {c : Nat → Int} {w k : Nat} (h : ∀ i, k * w ≤ i → c i = 32) : sheet c w k ++ [List.replicate w 32] = sheet c w (k + 1) := by
  unfold sheet
  rw [List.range_succ, List.map_append, List.map_singleton]
  congr 2
  apply List.ext_getElem (by simp)
  intro i h1 h2
  simp only [rowAt, List.getElem_map, List.getElem_range, List.getElem_replicate]
  rw [h _ (by omega)]
theorem win_set {c : Nat → Int} {w top h i : Nat} (hi : i < h * w) (r : Int) : (win c w top h).set i r = win (upd1 c (top * w + i) r) w top h := by
  apply List.ext_getElem (by simp)
  intro j h1 h2
  simp only [List.getElem_set, win, List.getElem_map, List.getElem_range, upd1]
  by_cases e : i = j
  · subst e; simp
  · have : ¬ (top * w + j = top * w + i) := by omega
    rw [if_neg e, if_neg this]
theorem win_out {c : Nat → Int} {w top h i : Nat} (hi : i < top * w ∨ (top + h) * w ≤ i) (r : Int) : win (upd1 c i r) w top h = win c w top h := by
  apply List.ext_getElem (by simp)
  intro j h1 h2
  simp only [win_len] at h1
  simp only [win, List.getElem_map, List.getElem_range, upd1]
  rw [Nat.add_mul] at hi
  have : ¬ (top * w + j = i) := by omega
  simp [this]
theorem win_rows (c : Nat → Int) (w top : Nat) : ∀ h, ((List.range h).map fun y => rowAt c w (top + y)).flatten = win c w top h
  | 0 => by simp [win]
  | h + 1 => by
    rw [List.range_succ, List.map_append, List.flatten_append, win_rows c w top h]
    unfold win
    rw [Nat.add_mul, Nat.one_mul, List.range_add, List.map_append]
    congr 1
    simp only [List.map_singleton, List.flatten_singleton, rowAt, List.map_map]
    apply List.map_congr_left
    intro x hx
    simp only [Function.comp, Nat.add_mul, Nat.add_assoc]
theorem sheet_cut {c : Nat → Int} {w k top h : Nat} (hk : top + h ≤ k) : ((sheet c w k).drop top).take h = (List.range h).map fun y => rowAt c w (top + y) := by
  apply List.ext_getElem (by simp; omega)
  intro i h1 h2
  simp [sheet]
theorem win_blank (w h : Nat) : win (fun _ => 32) w 0 h = blanks (h * w) := by
  unfold win blanks
  apply List.ext_getElem (by simp)
  intro i h1 h2; simp
end Go.Proofs.Ytnmneoekpikpkaa
namespace Go.Proofs.Ytnmneoekpikpkaa
open Go.RowKit
set_option linter.unusedSimpArgs false
set_option linter.unusedVariables false
set_option maxHeartbeats 8000000
set_option maxRecDepth 10000
def wideRs : List (Int × Int) := [(4352, 4447), (11904, 42191), (44032, 55203), (63744, 64255), (65280, 65376), (65504, 65510), (127744, 129791), (131072, 262141)]
theorem wide_first (r : Int) : ∃ N, N ≤ 8 ∧ (∀ j, j < N → ∀ p, wideRs[j]? = some p → inR r p.1 p.2 = false) ∧ ((N = 8 ∧ wideR r = false) ∨ (N < 8 ∧ wideR r = true ∧ ∀ p, wideRs[N]? = some p → inR r p.1 p.2 = true)) := by
  have hw : wideR r = !(wideRs.all fun p => !inR r p.1 p.2) := by simp [wideR, wideRs, Bool.or_assoc]
  rcases firstBad (fun p => !inR r p.1 p.2) wideRs with h | ⟨h, N, hN, h1, h2⟩
  · refine ⟨8, Nat.le_refl _, fun j hj p hp => ?_, .inl ⟨rfl, by rw [hw, h]; rfl⟩⟩
    have := List.all_eq_true.1 h p (List.mem_of_getElem? hp)
    simpa using this
  · have hl : wideRs.length = 8 := rfl
    refine ⟨N, by omega, fun j hj p hp => ?_, .inr ⟨by omega, by rw [hw, h]; rfl, fun p hp => ?_⟩⟩
    · have := h2 j (by omega) hj
      rw [List.getElem?_eq_getElem (by omega : j < wideRs.length)] at hp
      injection hp with hp; rw [← hp]; simpa using this
    · rw [List.getElem?_eq_getElem hN] at hp
      injection hp with hp; rw [← hp]; simpa using h1
theorem E_iWidth (r : Int) : M_iWidth [V.v (.int .i64 r)] [] [] = some ⟨V.v (.int .i64 (wd r)), [], []⟩ := by
  unfold M_iWidth
  cases hp : printable r
  · simp [Try.func39, Try.f39, E_iPrintable, hp, wd]
  obtain ⟨N, hN8, hbad, hend⟩ := wide_first r
  simp [Try.func39, Try.f39, E_iPrintable, hp]
  rw [loopV_go (fun j => .on ⟨[(18, V.v (.int .i64 ((j : Int)))), (17, V.v (.int .i64 8)), (16, .own 2000000000), (0, V.v (.int .i64 r))], [], [(2000000000, [[D.a (.int .i64 4352), D.a (.int .i64 4447)], [D.a (.int .i64 11904), D.a (.int .i64 42191)], [D.a (.int .i64 44032), D.a (.int .i64 55203)], [D.a (.int .i64 63744), D.a (.int .i64 64255)], [D.a (.int .i64 65280), D.a (.int .i64 65376)], [D.a (.int .i64 65504), D.a (.int .i64 65510)], [D.a (.int .i64 127744), D.a (.int .i64 129791)], [D.a (.int .i64 131072), D.a (.int .i64 262141)]])], []⟩) N ?_ ?_]
  · rcases hend with ⟨rfl, e⟩ | ⟨h8, e, hg⟩
    · simp [wd, hp, e]
    · rcases (by omega : N = 0 ∨ N = 1 ∨ N = 2 ∨ N = 3 ∨ N = 4 ∨ N = 5 ∨ N = 6 ∨ N = 7) with rfl | rfl | rfl | rfl | rfl | rfl | rfl | rfl
      · have g : inR r 4352 4447 = true := hg (4352, 4447) rfl
        simp [E_iin, g, wd, hp, e]
      · have g : inR r 11904 42191 = true := hg (11904, 42191) rfl
        simp [E_iin, g, wd, hp, e]
      · have g : inR r 44032 55203 = true := hg (44032, 55203) rfl
        simp [E_iin, g, wd, hp, e]
      · have g : inR r 63744 64255 = true := hg (63744, 64255) rfl
        simp [E_iin, g, wd, hp, e]
      · have g : inR r 65280 65376 = true := hg (65280, 65376) rfl
        simp [E_iin, g, wd, hp, e]
      · have g : inR r 65504 65510 = true := hg (65504, 65510) rfl
        simp [E_iin, g, wd, hp, e]
      · have g : inR r 127744 129791 = true := hg (127744, 129791) rfl
        simp [E_iin, g, wd, hp, e]
      · have g : inR r 131072 262141 = true := hg (131072, 262141) rfl
        simp [E_iin, g, wd, hp, e]
  · simp
  · intro j hj
    have hb := hbad j hj
    rcases (by omega : j = 0 ∨ j = 1 ∨ j = 2 ∨ j = 3 ∨ j = 4 ∨ j = 5 ∨ j = 6 ∨ j = 7) with rfl | rfl | rfl | rfl | rfl | rfl | rfl | rfl
    · have g : inR r 4352 4447 = false := hb (4352, 4447) rfl
      simp [E_iin, g]
    · have g : inR r 11904 42191 = false := hb (11904, 42191) rfl
      simp [E_iin, g]
    · have g : inR r 44032 55203 = false := hb (44032, 55203) rfl
      simp [E_iin, g]
    · have g : inR r 63744 64255 = false := hb (63744, 64255) rfl
      simp [E_iin, g]
    · have g : inR r 65280 65376 = false := hb (65280, 65376) rfl
      simp [E_iin, g]
    · have g : inR r 65504 65510 = false := hb (65504, 65510) rfl
      simp [E_iin, g]
    · have g : inR r 127744 129791 = false := hb (127744, 129791) rfl
      simp [E_iin, g]
    · have g : inR r 131072 262141 = false := hb (131072, 262141) rfl
      simp [E_iin, g]
end Go.Proofs.Ytnmneoekpikpkaa
namespace Go.Proofs.Ytnmneoekpikpkaa
open Go.RowKit
set_option linter.unusedSimpArgs false
set_option linter.unusedVariables false
set_option maxHeartbeats 4000000
set_option maxRecDepth 10000
theorem by8_nat {x : Int} (h : 0 ≤ x ∧ x ≤ 255) : ((by8 x).toNat : Int) = x := by
  rw [← u8_by8 x h, u8_in x h]
theorem by8_of (c : UInt8) : by8 (c.toNat : Int) = c := by simp [by8]
def nat8 (b : List UInt8) (i : Nat) : Int := ((b[i]?.getD 0).toNat : Int)
theorem nat8_range (b : List UInt8) (i : Nat) : 0 ≤ nat8 b i ∧ nat8 b i ≤ 255 := by
  have := (b[i]?.getD 0).toNat_lt
  unfold nat8; omega
def val (b : List UInt8) : Nat → Int
  | 1 => nat8 b 0
  | 2 => (nat8 b 0 - 192) * 64 + nat8 b 1 - 128
  | 3 => ((nat8 b 0 - 224) * 64 + nat8 b 1 - 128) * 64 + nat8 b 2 - 128
  | 4 => (((nat8 b 0 - 240) * 64 + nat8 b 1 - 128) * 64 + nat8 b 2 - 128) * 64 + nat8 b 3 - 128
  | _ => 0
def cls (c : Int) : Nat := if c < 128 then 1 else if inR c 192 223 then 2 else if inR c 224 239 then 3 else if inR c 240 247 then 4 else 0
def dec : List UInt8 → Option (Int × Nat)
  | [] => none
  | c :: l => if cls (nat8 (c :: l) 0) ≠ 0 ∧ cls (nat8 (c :: l) 0) ≤ (c :: l).length ∧ runeBytes (val (c :: l) (cls (nat8 (c :: l) 0))) = (c :: l).take (cls (nat8 (c :: l) 0)) then some (val (c :: l) (cls (nat8 (c :: l) 0)), cls (nat8 (c :: l) 0)) else none
theorem dec_cons (c : UInt8) (l : List UInt8) : dec (c :: l) = if cls (nat8 (c :: l) 0) ≠ 0 ∧ cls (nat8 (c :: l) 0) ≤ (c :: l).length ∧ runeBytes (val (c :: l) (cls (nat8 (c :: l) 0))) = (c :: l).take (cls (nat8 (c :: l) 0)) then some (val (c :: l) (cls (nat8 (c :: l) 0)), cls (nat8 (c :: l) 0)) else none := rfl
theorem runeBytes_cases {r : Int} (h : runeOk r = true) :
    (0 ≤ r ∧ r < 128 ∧ runeBytes r = [by8 r]) ∨ (128 ≤ r ∧ r < 2048 ∧ runeBytes r = [by8 (192 + r / 64), by8 (128 + r % 64)]) ∨
    (2048 ≤ r ∧ r < 65536 ∧ runeBytes r = [by8 (224 + r / 4096), by8 (128 + r / 64 % 64), by8 (128 + r % 64)]) ∨
    (65536 ≤ r ∧ r ≤ 1114111 ∧ runeBytes r = [by8 (240 + r / 262144), by8 (128 + r / 4096 % 64), by8 (128 + r / 64 % 64), by8 (128 + r % 64)]) := by
  obtain ⟨a, b⟩ := runeOk_range h
  by_cases h1 : r < 128
  · exact .inl ⟨a, h1, by simp [runeBytes, h, h1]⟩
  by_cases h2 : r < 2048
  · exact .inr (.inl ⟨by omega, h2, by simp [runeBytes, h, h1, h2]⟩)
  by_cases h3 : r < 65536
  · exact .inr (.inr (.inl ⟨by omega, h3, by simp [runeBytes, h, h1, h2, h3]⟩))
  · exact .inr (.inr (.inr ⟨by omega, b, by simp [runeBytes, h, h1, h2, h3]⟩))
theorem dec_rune {r : Int} (h : runeOk r = true) (t : List UInt8) : dec (runeBytes r ++ t) = some (r, (runeBytes r).length) := by
  rcases runeBytes_cases h with ⟨a, b, e⟩ | ⟨a, b, e⟩ | ⟨a, b, e⟩ | ⟨a, b, e⟩
  · have h0 := by8_nat (x := r) (by omega)
    have hc : cls r = 1 := by simp [cls, b]
    rw [e]
    simp [dec, nat8, h0, hc, val, e]
  · have h0 := by8_nat (x := 192 + r / 64) (by omega)
    have h1 := by8_nat (x := 128 + r % 64) (by omega)
    have hc : cls (192 + r / 64) = 2 := by
      have : ¬ 192 + r / 64 < 128 := by omega
      have i1 : inR (192 + r / 64) 192 223 = true := inR_iff.2 (by omega)
      simp [cls, this, i1]
    have hv : (192 + r / 64 - 192) * 64 + (128 + r % 64) - 128 = r := by omega
    rw [e]
    simp [dec, nat8, h0, h1, hc, val, hv, e]
  · have h0 := by8_nat (x := 224 + r / 4096) (by omega)
    have h1 := by8_nat (x := 128 + r / 64 % 64) (by omega)
    have h2 := by8_nat (x := 128 + r % 64) (by omega)
    have hc : cls (224 + r / 4096) = 3 := by
      have : ¬ 224 + r / 4096 < 128 := by omega
      have i1 : inR (224 + r / 4096) 192 223 = false := inR_no (by rw [inR_iff]; omega)
      have i2 : inR (224 + r / 4096) 224 239 = true := inR_iff.2 (by omega)
      simp [cls, this, i1, i2]
    have hv : ((224 + r / 4096 - 224) * 64 + (128 + r / 64 % 64) - 128) * 64 + (128 + r % 64) - 128 = r := by omega
    rw [e]
    simp [dec, nat8, h0, h1, h2, hc, val, hv, e]
  · have h0 := by8_nat (x := 240 + r / 262144) (by omega)
    have h1 := by8_nat (x := 128 + r / 4096 % 64) (by omega)
    have h2 := by8_nat (x := 128 + r / 64 % 64) (by omega)
    have h3 := by8_nat (x := 128 + r % 64) (by omega)
    have hc : cls (240 + r / 262144) = 4 := by
      have : ¬ 240 + r / 262144 < 128 := by omega
      have i1 : inR (240 + r / 262144) 192 223 = false := inR_no (by rw [inR_iff]; omega)
      have i2 : inR (240 + r / 262144) 224 239 = false := inR_no (by rw [inR_iff]; omega)
      have i3 : inR (240 + r / 262144) 240 247 = true := inR_iff.2 (by omega)
      simp [cls, this, i1, i2, i3]
    have hv : (((240 + r / 262144 - 240) * 64 + (128 + r / 4096 % 64) - 128) * 64 + (128 + r / 64 % 64) - 128) * 64 + (128 + r % 64) - 128 = r := by omega
    rw [e]
    simp [dec, nat8, h0, h1, h2, h3, hc, val, hv, e]
theorem runeBytes_ok {r : Int} (h : runeBytes r ≠ []) : runeOk r = true := by
  cases e : runeOk r
  · exact absurd (by simp [runeBytes, e]) h
  · rfl
theorem dec_some {b : List UInt8} {r : Int} {n : Nat} (h : dec b = some (r, n)) : runeOk r = true ∧ runeBytes r = b.take n ∧ n ≤ b.length ∧ n = (runeBytes r).length ∧ 1 ≤ n := by
  cases b with
  | nil => cases h
  | cons c l =>
    rw [dec_cons] at h
    by_cases hc : cls (nat8 (c :: l) 0) ≠ 0 ∧ cls (nat8 (c :: l) 0) ≤ (c :: l).length ∧ runeBytes (val (c :: l) (cls (nat8 (c :: l) 0))) = (c :: l).take (cls (nat8 (c :: l) 0))
    · rw [if_pos hc] at h
      obtain ⟨h1, h2, h3⟩ := hc
      simp only [Option.some.injEq, Prod.mk.injEq] at h
      obtain ⟨e1, e2⟩ := h
      rw [e1, e2] at h3
      rw [e2] at h1 h2
      have hlen : (runeBytes r).length = n := by rw [h3]; simp only [List.length_take]; omega
      exact ⟨runeBytes_ok (fun e => by rw [e] at hlen; simp at hlen; omega), h3, h2, hlen.symm, by omega⟩
    · rw [if_neg hc] at h; cases h
theorem cls_of {b : List UInt8} {n : Nat} (h1 : 1 ≤ n) (h2 : n ≤ b.length) (h3 : runeBytes (val b n) = b.take n) : cls (nat8 b 0) = n ∧ dec b = some (val b n, n) := by
  have hn : b.take n ≠ [] := fun e => by
    have : (b.take n).length = 0 := by rw [e]; rfl
    simp only [List.length_take] at this
    omega
  have ok := runeBytes_ok (r := val b n) (by rw [h3]; exact hn)
  have hd := dec_rune ok (b.drop n)
  rw [h3, List.take_append_drop] at hd
  have hl : (b.take n).length = n := by simp only [List.length_take]; omega
  rw [hl] at hd
  refine ⟨?_, hd⟩
  cases b with
  | nil => cases hd
  | cons c l =>
    rw [dec_cons] at hd
    by_cases hc : cls (nat8 (c :: l) 0) ≠ 0 ∧ cls (nat8 (c :: l) 0) ≤ (c :: l).length ∧ runeBytes (val (c :: l) (cls (nat8 (c :: l) 0))) = (c :: l).take (cls (nat8 (c :: l) 0))
    · rw [if_pos hc] at hd
      simp only [Option.some.injEq, Prod.mk.injEq] at hd; exact hd.2
    · rw [if_neg hc] at hd; cases hd
theorem dec_none {b : List UInt8} (h : dec b = none) (n : Nat) (h1 : 1 ≤ n) (h2 : n ≤ b.length) : runeBytes (val b n) ≠ b.take n := fun h3 => by
  rw [(cls_of h1 h2 h3).2] at h; cases h
def Reads (b : List UInt8) (l : List Int) (rest : List UInt8) : Prop := b = textOf l ++ rest ∧ (∀ r ∈ l, runeOk r = true) ∧ dec rest = none
theorem reads_ex : ∀ (n : Nat) (b : List UInt8), b.length ≤ n → ∃ l rest, Reads b l rest
  | 0, b, h => ⟨[], [], by cases b with
    | nil => exact ⟨rfl, by simp, rfl⟩
    | cons c l => simp at h⟩
  | n + 1, b, h => by
    cases e : dec b with
    | none => exact ⟨[], b, rfl, by simp, e⟩
    | some x =>
      obtain ⟨r, k⟩ := x
      obtain ⟨a1, a2, a3, a4, a5⟩ := dec_some e
      obtain ⟨l, rest, h1, h2, h3⟩ := reads_ex n (b.drop k) (by simp only [List.length_drop]; omega)
      refine ⟨r :: l, rest, ?_, ?_, h3⟩
      · rw [textOf, List.flatMap_cons, a2, List.append_assoc, ← textOf, ← h1, List.take_append_drop]
      · intro x hx
        rcases List.mem_cons.1 hx with rfl | hx
        · exact a1
        · exact h2 x hx
theorem Reads.at {b : List UInt8} {l : List Int} {rest : List UInt8} (h : Reads b l rest) {j : Nat} (hj : j < l.length) :
    (textOf (l.take j)).length < b.length ∧ dec (b.drop (textOf (l.take j)).length) = some (l[j], (runeBytes l[j]).length) ∧ (textOf (l.take j)).length + (runeBytes l[j]).length = (textOf (l.take (j + 1))).length := by
  obtain ⟨h1, h2, h3⟩ := h
  have ok := h2 l[j] (List.getElem_mem hj)
  have e : l = l.take j ++ l[j] :: l.drop (j + 1) := by
    rw [List.getElem_cons_drop, List.take_append_drop]
  have e2 : textOf l = textOf (l.take j) ++ (runeBytes l[j] ++ textOf (l.drop (j + 1))) := by
    conv => lhs; rw [e]
    unfold textOf
    rw [List.flatMap_append, List.flatMap_cons]
  have e3 : b.drop (textOf (l.take j)).length = runeBytes l[j] ++ (textOf (l.drop (j + 1)) ++ rest) := by
    rw [h1, e2, List.append_assoc, List.drop_left, List.append_assoc]
  have hpos : 1 ≤ (runeBytes l[j]).length := by
    rcases runeBytes_cases ok with ⟨_, _, e⟩ | ⟨_, _, e⟩ | ⟨_, _, e⟩ | ⟨_, _, e⟩ <;> rw [e] <;> simp
  refine ⟨?_, ?_, ?_⟩
  · rw [h1, e2]; simp only [List.length_append]; omega
  · rw [e3]; exact dec_rune ok _
  · rw [textOf_take hj, List.length_append]
theorem Reads.end {b : List UInt8} {l : List Int} {rest : List UInt8} (h : Reads b l rest) : b.drop (textOf l).length = rest ∧ (textOf l).length + rest.length = b.length := by
  obtain ⟨h1, h2, h3⟩ := h
  subst h1
  exact ⟨List.drop_left, by simp⟩
theorem Reads.len {b : List UInt8} {l : List Int} {rest : List UInt8} (h : Reads b l rest) : l.length ≤ b.length := by
  obtain ⟨h1, h2, h3⟩ := h
  subst h1
  have : ∀ l : List Int, (∀ r ∈ l, runeOk r = true) → l.length ≤ (textOf l).length := by
    intro l; induction l with
    | nil => intro _; simp
    | cons r l ih =>
      intro hl
      have := ih fun x hx => hl x (List.mem_cons_of_mem _ hx)
      have hpos : 1 ≤ (runeBytes r).length := by
        rcases runeBytes_cases (hl r (List.mem_cons_self ..)) with ⟨_, _, e⟩ | ⟨_, _, e⟩ | ⟨_, _, e⟩ | ⟨_, _, e⟩ <;> rw [e] <;> simp
      simp only [textOf, List.flatMap_cons, List.length_append, List.length_cons] at this ⊢; omega
  have := this l h2
  simp only [List.length_append]; omega
end Go.Proofs.Ytnmneoekpikpkaa
namespace Go.Proofs.Ytnmneoekpikpkaa
open Go.RowKit
set_option linter.unusedSimpArgs false
set_option linter.unusedVariables false
set_option maxHeartbeats 8000000
set_option maxRecDepth 10000
theorem nat8_drop {b : List UInt8} {k i : Nat} (h : k + i < b.length) : nat8 (b.drop k) i = (b[k + i].toNat : Int) := by
  unfold nat8
  rw [List.getElem?_drop, List.getElem?_eq_getElem h]; rfl
theorem nat8_drop0 {b : List UInt8} {k : Nat} (h : k < b.length) : nat8 (b.drop k) 0 = (b[k].toNat : Int) := nat8_drop (i := 0) h
theorem dec_at {b : List UInt8} {k : Nat} (h : k < b.length) : dec (b.drop k) = if cls (b[k].toNat : Int) ≠ 0 ∧ k + cls (b[k].toNat : Int) ≤ b.length ∧ runeBytes (val (b.drop k) (cls (b[k].toNat : Int))) = (b.drop k).take (cls (b[k].toNat : Int)) then some (val (b.drop k) (cls (b[k].toNat : Int)), cls (b[k].toNat : Int)) else none := by
  have e : b.drop k = b[k] :: b.drop (k + 1) := (List.drop_eq_getElem_cons h)
  have hn := nat8_drop0 h
  rw [e] at hn ⊢
  rw [dec_cons, hn]
  have hl : (b[k] :: b.drop (k + 1)).length = b.length - k := by rw [← e, List.length_drop]
  rw [hl]
  congr 1
  simp only [eq_iff_iff]
  constructor
  · rintro ⟨a, b, c⟩; exact ⟨a, by omega, c⟩
  · rintro ⟨a, b, c⟩; exact ⟨a, by omega, c⟩
theorem cut1 {b : List UInt8} {k : Nat} (h : k < b.length) : (b.drop k).take 1 = [b[k]] := by
  rw [List.drop_eq_getElem_cons h]; rfl
theorem cut2 {b : List UInt8} {k : Nat} (h : k + 1 < b.length) : (b.drop k).take 2 = [b[k], b[k + 1]] := by
  rw [List.drop_eq_getElem_cons (by omega : k < b.length), List.take_succ_cons, cut1 h]
theorem cut3 {b : List UInt8} {k : Nat} (h : k + 2 < b.length) : (b.drop k).take 3 = [b[k], b[k + 1], b[k + 2]] := by
  rw [List.drop_eq_getElem_cons (by omega : k < b.length), List.take_succ_cons, cut2 (by omega)]
theorem cut4 {b : List UInt8} {k : Nat} (h : k + 3 < b.length) : (b.drop k).take 4 = [b[k], b[k + 1], b[k + 2], b[k + 3]] := by
  rw [List.drop_eq_getElem_cons (by omega : k < b.length), List.take_succ_cons, cut3 (by omega)]
def decR : Option (Int × Nat) → Int
  | some x => x.1
  | none => 0
def decN : Option (Int × Nat) → Int
  | some x => x.2
  | none => 0
theorem toList_arr (l : List UInt8) : (ByteArray.mk l.toArray).toList = l := by simp
theorem E_iRuneRead (b : List UInt8) (k : Nat) (hk : k < b.length) (hb : b.length ≤ 1000000000) : M_iRuneRead [.lst (some 0) (byts b), V.v (.int .i64 ((k : Int)))] [] [] = some ⟨.tup [V.v (.int .i64 (decR (dec (b.drop k)))), V.v (.int .i64 (decN (dec (b.drop k))))], [], []⟩ := by
  unfold M_iRuneRead
  have hc := b[k].toNat_lt
  have h1 : ¬ ((b.length : Int) ≤ k) := by omega
  have h0 : ¬ ((k : Int) < 0) := by omega
  have w0 := w64 (b[k].toNat : Int) (by omega)
  rw [dec_at hk]
  generalize hx : (b[k].toNat : Int) = x at w0
  have hx0 : 0 ≤ x ∧ x ≤ 255 := by omega
  have hxo : UInt8.ofNat x.toNat = b[k] := by rw [← hx]; simp
  by_cases c1 : x < 128
  · have e1 : cls x = 1 := by simp [cls, c1]
    have hok : runeOk x = true := by
      have i1 : inR x 0 1114111 = true := inR_iff.2 (by omega)
      have i2 : inR x 55296 57343 = false := inR_no (by rw [inR_iff]; omega)
      simp [runeOk, i1, i2]
    have e2 : val (b.drop k) 1 = x := by rw [val, nat8_drop0 hk, hx]
    have e3 : runeBytes x = (b.drop k).take 1 := by
      rw [cut1 hk]; simp [runeBytes, hok, c1]; rw [← hx, by8_of]
    have e4 : k + 1 ≤ b.length := hk
    simp [Try.func40, Try.f40, h0, h1, hk, byts_get hk, hx, w0, c1, e1, e2, e3, e4, decR, decN]
  by_cases c2 : inR x 192 223 = true
  · have e1 : cls x = 2 := by simp [cls, c1, c2]
    obtain ⟨a1, a2⟩ := inR_of c2
    have w1 := w64 (x - 192) (by omega)
    have w2 := w64 ((b.length : Int) - 2) (by omega)
    by_cases e4 : k + 2 ≤ b.length
    · have e5 : ¬ ((b.length : Int) - 2 < k) := by omega
      have w3 := w64 ((k : Int) + 1) (by omega)
      have w4 := w64 ((k : Int) + 2) (by omega)
      have f1 : (0 : Int) ≤ (k : Int) + 1 := by omega
      have f2 : (k : Int) + 2 ≤ b.length := by omega
      have f3 : ((k : Int) + 2).toNat = k + 2 := by omega
      have f4 : k + 2 - (k + 1) = 1 := by omega
      have f5 : k + 2 - k = 2 := by omega
      have f7 : (k : Int) ≤ (k : Int) + 2 := by omega
      have f8 : (k : Int) + 1 ≤ (k : Int) + 2 := by omega
      have g1 : k + 1 < b.length := by omega
      have r1 := b[k + 1].toNat_lt
      have p1 := w64 (b[k + 1].toNat : Int) (by omega)
      have q10 := w64 ((x - 192) * 64) (by omega)
      have q11 := w64 ((x - 192) * 64 + (b[k + 1].toNat : Int)) (by omega)
      have q12 := w64 ((x - 192) * 64 + (b[k + 1].toNat : Int) - 128) (by omega)
      have v1 : val (b.drop k) 2 = (x - 192) * 64 + (b[k + 1].toNat : Int) - 128 := by rw [val, nat8_drop0 hk, nat8_drop g1, hx]
      have z0 : runeBytes ((x - 192) * 64 + (b[k + 1].toNat : Int) - 128) = [b[k], b[k + 1]] ∨ runeBytes ((x - 192) * 64 + (b[k + 1].toNat : Int) - 128) ≠ [b[k], b[k + 1]] := Decidable.em _
      rcases z0 with z | z
      · simp [Try.func40, Try.f40, h0, h1, hk, byts_get hk, hx, w0, c1, c2, e1, e4, e5, w1, w2, w3, w4, decR, decN, E_iin, f1, f2, f3, f4, f5, f7, f8, cut1 (k := k + 1) g1, cut2 g1, byts_cons, byts_nil, loopV_unf, p1, q10, q11, q12, E_iRuneBytes, bytes_of_byts, v1, z, hxo]
      · simp [Try.func40, Try.f40, h0, h1, hk, byts_get hk, hx, w0, c1, c2, e1, e4, e5, w1, w2, w3, w4, decR, decN, E_iin, f1, f2, f3, f4, f5, f7, f8, cut1 (k := k + 1) g1, cut2 g1, byts_cons, byts_nil, loopV_unf, p1, q10, q11, q12, E_iRuneBytes, bytes_of_byts, v1, z, hxo]
    · have e5 : (b.length : Int) - 2 < k := by omega
      simp [Try.func40, Try.f40, h0, h1, hk, byts_get hk, hx, w0, c1, c2, e1, e4, e5, w1, w2, decR, decN, E_iin]
  by_cases c3 : inR x 224 239 = true
  · have e1 : cls x = 3 := by simp [cls, c1, c2, c3]
    obtain ⟨a1, a2⟩ := inR_of c3
    have w1 := w64 (x - 224) (by omega)
    have w2 := w64 ((b.length : Int) - 3) (by omega)
    by_cases e4 : k + 3 ≤ b.length
    · have e5 : ¬ ((b.length : Int) - 3 < k) := by omega
      have w3 := w64 ((k : Int) + 1) (by omega)
      have w4 := w64 ((k : Int) + 3) (by omega)
      have f1 : (0 : Int) ≤ (k : Int) + 1 := by omega
      have f2 : (k : Int) + 3 ≤ b.length := by omega
      have f3 : ((k : Int) + 3).toNat = k + 3 := by omega
      have f4 : k + 3 - (k + 1) = 2 := by omega
      have f5 : k + 3 - k = 3 := by omega
      have f7 : (k : Int) ≤ (k : Int) + 3 := by omega
      have f8 : (k : Int) + 1 ≤ (k : Int) + 3 := by omega
      have g1 : k + 1 < b.length := by omega
      have r1 := b[k + 1].toNat_lt
      have p1 := w64 (b[k + 1].toNat : Int) (by omega)
      have g2 : k + 2 < b.length := by omega
      have r2 := b[k + 2].toNat_lt
      have p2 := w64 (b[k + 2].toNat : Int) (by omega)
      have q10 := w64 ((x - 224) * 64) (by omega)
      have q11 := w64 ((x - 224) * 64 + (b[k + 1].toNat : Int)) (by omega)
      have q12 := w64 ((x - 224) * 64 + (b[k + 1].toNat : Int) - 128) (by omega)
      have q20 := w64 (((x - 224) * 64 + (b[k + 1].toNat : Int) - 128) * 64) (by omega)
      have q21 := w64 (((x - 224) * 64 + (b[k + 1].toNat : Int) - 128) * 64 + (b[k + 2].toNat : Int)) (by omega)
      have q22 := w64 (((x - 224) * 64 + (b[k + 1].toNat : Int) - 128) * 64 + (b[k + 2].toNat : Int) - 128) (by omega)
      have v1 : val (b.drop k) 3 = ((x - 224) * 64 + (b[k + 1].toNat : Int) - 128) * 64 + (b[k + 2].toNat : Int) - 128 := by rw [val, nat8_drop0 hk, nat8_drop g1, nat8_drop g2, hx]
      have z0 : runeBytes (((x - 224) * 64 + (b[k + 1].toNat : Int) - 128) * 64 + (b[k + 2].toNat : Int) - 128) = [b[k], b[k + 1], b[k + 2]] ∨ runeBytes (((x - 224) * 64 + (b[k + 1].toNat : Int) - 128) * 64 + (b[k + 2].toNat : Int) - 128) ≠ [b[k], b[k + 1], b[k + 2]] := Decidable.em _
      rcases z0 with z | z
      · simp [Try.func40, Try.f40, h0, h1, hk, byts_get hk, hx, w0, c1, c2, c3, e1, e4, e5, w1, w2, w3, w4, decR, decN, E_iin, f1, f2, f3, f4, f5, f7, f8, cut2 (k := k + 1) g2, cut3 g2, byts_cons, byts_nil, loopV_unf, p1, p2, q10, q11, q12, q20, q21, q22, E_iRuneBytes, bytes_of_byts, v1, z, hxo]
      · simp [Try.func40, Try.f40, h0, h1, hk, byts_get hk, hx, w0, c1, c2, c3, e1, e4, e5, w1, w2, w3, w4, decR, decN, E_iin, f1, f2, f3, f4, f5, f7, f8, cut2 (k := k + 1) g2, cut3 g2, byts_cons, byts_nil, loopV_unf, p1, p2, q10, q11, q12, q20, q21, q22, E_iRuneBytes, bytes_of_byts, v1, z, hxo]
    · have e5 : (b.length : Int) - 3 < k := by omega
      simp [Try.func40, Try.f40, h0, h1, hk, byts_get hk, hx, w0, c1, c2, c3, e1, e4, e5, w1, w2, decR, decN, E_iin]
  by_cases c4 : inR x 240 247 = true
  · have e1 : cls x = 4 := by simp [cls, c1, c2, c3, c4]
    obtain ⟨a1, a2⟩ := inR_of c4
    have w1 := w64 (x - 240) (by omega)
    have w2 := w64 ((b.length : Int) - 4) (by omega)
    by_cases e4 : k + 4 ≤ b.length
    · have e5 : ¬ ((b.length : Int) - 4 < k) := by omega
      have w3 := w64 ((k : Int) + 1) (by omega)
      have w4 := w64 ((k : Int) + 4) (by omega)
      have f1 : (0 : Int) ≤ (k : Int) + 1 := by omega
      have f2 : (k : Int) + 4 ≤ b.length := by omega
      have f3 : ((k : Int) + 4).toNat = k + 4 := by omega
      have f4 : k + 4 - (k + 1) = 3 := by omega
      have f5 : k + 4 - k = 4 := by omega
      have f7 : (k : Int) ≤ (k : Int) + 4 := by omega
      have f8 : (k : Int) + 1 ≤ (k : Int) + 4 := by omega
      have g1 : k + 1 < b.length := by omega
      have r1 := b[k + 1].toNat_lt
      have p1 := w64 (b[k + 1].toNat : Int) (by omega)
      have g2 : k + 2 < b.length := by omega
      have r2 := b[k + 2].toNat_lt
      have p2 := w64 (b[k + 2].toNat : Int) (by omega)
      have g3 : k + 3 < b.length := by omega
      have r3 := b[k + 3].toNat_lt
      have p3 := w64 (b[k + 3].toNat : Int) (by omega)
      have q10 := w64 ((x - 240) * 64) (by omega)
      have q11 := w64 ((x - 240) * 64 + (b[k + 1].toNat : Int)) (by omega)
      have q12 := w64 ((x - 240) * 64 + (b[k + 1].toNat : Int) - 128) (by omega)
      have q20 := w64 (((x - 240) * 64 + (b[k + 1].toNat : Int) - 128) * 64) (by omega)
      have q21 := w64 (((x - 240) * 64 + (b[k + 1].toNat : Int) - 128) * 64 + (b[k + 2].toNat : Int)) (by omega)
      have q22 := w64 (((x - 240) * 64 + (b[k + 1].toNat : Int) - 128) * 64 + (b[k + 2].toNat : Int) - 128) (by omega)
      have q30 := w64 ((((x - 240) * 64 + (b[k + 1].toNat : Int) - 128) * 64 + (b[k + 2].toNat : Int) - 128) * 64) (by omega)
      have q31 := w64 ((((x - 240) * 64 + (b[k + 1].toNat : Int) - 128) * 64 + (b[k + 2].toNat : Int) - 128) * 64 + (b[k + 3].toNat : Int)) (by omega)
      have q32 := w64 ((((x - 240) * 64 + (b[k + 1].toNat : Int) - 128) * 64 + (b[k + 2].toNat : Int) - 128) * 64 + (b[k + 3].toNat : Int) - 128) (by omega)
      have v1 : val (b.drop k) 4 = (((x - 240) * 64 + (b[k + 1].toNat : Int) - 128) * 64 + (b[k + 2].toNat : Int) - 128) * 64 + (b[k + 3].toNat : Int) - 128 := by rw [val, nat8_drop0 hk, nat8_drop g1, nat8_drop g2, nat8_drop g3, hx]
      have z0 : runeBytes ((((x - 240) * 64 + (b[k + 1].toNat : Int) - 128) * 64 + (b[k + 2].toNat : Int) - 128) * 64 + (b[k + 3].toNat : Int) - 128) = [b[k], b[k + 1], b[k + 2], b[k + 3]] ∨ runeBytes ((((x - 240) * 64 + (b[k + 1].toNat : Int) - 128) * 64 + (b[k + 2].toNat : Int) - 128) * 64 + (b[k + 3].toNat : Int) - 128) ≠ [b[k], b[k + 1], b[k + 2], b[k + 3]] := Decidable.em _
      rcases z0 with z | z
      · simp [Try.func40, Try.f40, h0, h1, hk, byts_get hk, hx, w0, c1, c2, c3, c4, e1, e4, e5, w1, w2, w3, w4, decR, decN, E_iin, f1, f2, f3, f4, f5, f7, f8, cut3 (k := k + 1) g3, cut4 g3, byts_cons, byts_nil, loopV_unf, p1, p2, p3, q10, q11, q12, q20, q21, q22, q30, q31, q32, E_iRuneBytes, bytes_of_byts, v1, z, hxo]
      · simp [Try.func40, Try.f40, h0, h1, hk, byts_get hk, hx, w0, c1, c2, c3, c4, e1, e4, e5, w1, w2, w3, w4, decR, decN, E_iin, f1, f2, f3, f4, f5, f7, f8, cut3 (k := k + 1) g3, cut4 g3, byts_cons, byts_nil, loopV_unf, p1, p2, p3, q10, q11, q12, q20, q21, q22, q30, q31, q32, E_iRuneBytes, bytes_of_byts, v1, z, hxo]
    · have e5 : (b.length : Int) - 4 < k := by omega
      simp [Try.func40, Try.f40, h0, h1, hk, byts_get hk, hx, w0, c1, c2, c3, c4, e1, e4, e5, w1, w2, decR, decN, E_iin]
  have e1 : cls x = 0 := by simp [cls, c1, c2, c3, c4]
  simp [Try.func40, Try.f40, h0, h1, hk, byts_get hk, hx, w0, c1, c2, c3, c4, e1, decR, decN, E_iin]
theorem dec_val {b : List UInt8} {r : Int} {n : Nat} (h : dec b = some (r, n)) : r = val b n ∧ n ≤ 4 := by
  cases b with
  | nil => cases h
  | cons c l =>
    rw [dec_cons] at h
    by_cases hc : cls (nat8 (c :: l) 0) ≠ 0 ∧ cls (nat8 (c :: l) 0) ≤ (c :: l).length ∧ runeBytes (val (c :: l) (cls (nat8 (c :: l) 0))) = (c :: l).take (cls (nat8 (c :: l) 0))
    · rw [if_pos hc] at h
      simp only [Option.some.injEq, Prod.mk.injEq] at h
      refine ⟨by rw [← h.1, h.2], ?_⟩
      rw [← h.2]
      unfold cls
      split
      · omega
      split
      · omega
      split
      · omega
      split <;> omega
    · rw [if_neg hc] at h; cases h
theorem dec_find (b : List UInt8) : ∃ N, N ≤ 4 ∧ (∀ j, j < N → j + 1 ≤ b.length ∧ runeBytes (val b (j + 1)) ≠ b.take (j + 1)) ∧ ((N < 4 ∧ N + 1 ≤ b.length ∧ runeBytes (val b (N + 1)) = b.take (N + 1) ∧ dec b = some (val b (N + 1), N + 1)) ∨ ((N = 4 ∨ b.length < N + 1) ∧ dec b = none)) := by
  have step : ∀ n, n ≤ 4 → (∀ j, j < n → j + 1 ≤ b.length ∧ runeBytes (val b (j + 1)) ≠ b.take (j + 1)) → ∃ N, N ≤ 4 ∧ (∀ j, j < N → j + 1 ≤ b.length ∧ runeBytes (val b (j + 1)) ≠ b.take (j + 1)) ∧ ((N < 4 ∧ N + 1 ≤ b.length ∧ runeBytes (val b (N + 1)) = b.take (N + 1) ∧ dec b = some (val b (N + 1), N + 1)) ∨ ((N = 4 ∨ b.length < N + 1) ∧ dec b = none)) := by
    intro n
    induction h : 4 - n generalizing n with
    | zero =>
      intro hn hall
      refine ⟨n, hn, hall, .inr ⟨.inl (by omega), ?_⟩⟩
      cases e : dec b with
      | none => rfl
      | some x =>
        obtain ⟨r, m⟩ := x
        obtain ⟨a1, a2, a3, a4, a5⟩ := dec_some e
        obtain ⟨v1, v2⟩ := dec_val e
        have := (hall (m - 1) (by omega)).2
        rw [show m - 1 + 1 = m by omega, ← v1] at this
        exact absurd a2 this
    | succ d ih =>
      intro hn hall
      by_cases hl : n + 1 ≤ b.length
      · by_cases ht : runeBytes (val b (n + 1)) = b.take (n + 1)
        · exact ⟨n, hn, hall, .inl ⟨by omega, hl, ht, (cls_of (by omega) hl ht).2⟩⟩
        · refine ih (n + 1) (by omega) (by omega) fun j hj => ?_
          rcases Nat.lt_or_ge j n with h1 | h1
          · exact hall j h1
          · obtain rfl : j = n := by omega
            exact ⟨hl, ht⟩
      · refine ⟨n, hn, hall, .inr ⟨.inr (by omega), ?_⟩⟩
        cases e : dec b with
        | none => rfl
        | some x =>
          obtain ⟨r, m⟩ := x
          obtain ⟨a1, a2, a3, a4, a5⟩ := dec_some e
          obtain ⟨v1, v2⟩ := dec_val e
          have := (hall (m - 1) (by omega)).2
          rw [show m - 1 + 1 = m by omega, ← v1] at this
          exact absurd a2 this
  exact step 0 (by omega) fun j hj => by omega
end Go.Proofs.Ytnmneoekpikpkaa
namespace Go.Proofs.Ytnmneoekpikpkaa
open Go.RowKit
set_option linter.unusedSimpArgs false
set_option linter.unusedVariables false
set_option maxHeartbeats 8000000
set_option maxRecDepth 10000
theorem rowsOfStr_byts (s : ByteArray) : rowsOfStr s = byts s.data.toList := rfl
theorem textOf_pos {r : Int} (h : runeOk r = true) : 1 ≤ (runeBytes r).length := by
  rcases runeBytes_cases h with ⟨_, _, e⟩ | ⟨_, _, e⟩ | ⟨_, _, e⟩ | ⟨_, _, e⟩ <;> rw [e] <;> simp
theorem E_iRunesOf (s : ByteArray) (l : List Int) (rest : List UInt8) (h : Reads s.data.toList l rest) (hs : s.size ≤ 65536) : M_iRunesOf [V.v (.string s)] [] [] = some ⟨.tup [.own 0, V.v (.bool rest.isEmpty)], [], [(0, if rest.isEmpty then ints l else [])]⟩ := by
  unfold M_iRunesOf
  have h1 : ¬ (65536 < (s.size : Int)) := by omega
  have h2 : s.size ≤ 4611686018427387904 := by omega
  have hsz : s.data.toList.length = s.size := by simp
  have hds : s.data.toList.length = s.data.size := Array.length_toList
  have hl := h.len
  simp [Try.func17, Try.f17, h1, h2, rowsOfStr_byts]
  rw [loopV_go (fun j => .on ⟨[(6, V.v (.int .i64 (((textOf (l.take j)).length : Int)))), (5, .fz (byts s.data.toList)), (4, .own 2000001000)], [], [(2000001000, ints (l.take j))], [(13, [])]⟩) l.length ?_ ?_]
  · obtain ⟨e1, e2⟩ := h.end
    have e3 := h.2.2
    cases rest with
    | nil =>
      have e4 : ¬ ((textOf l).length < s.size) := by rw [List.length_nil] at e2; omega
      simp [e4]
    | cons c rest =>
      have e4 : (textOf l).length < s.data.toList.length := by rw [List.length_cons] at e2; omega
      have e5 : (textOf l).length < s.size := by omega
      have e5b : (textOf l).length < s.data.size := by omega
      have e6 := E_iRuneRead s.data.toList (textOf l).length e4 (by omega)
      rw [e1, e3] at e6
      simp [e5, e5b, e6, decR, decN]
  · simp [textOf, ints_nil]
  · intro j hj
    obtain ⟨a1, a2, a3⟩ := h.at hj
    have a4 : (textOf (l.take (j + 1))).length ≤ 65536 := by
      have := textOf_take hj
      have e : (textOf (l.take (j + 1))).length ≤ s.data.toList.length := by
        conv => rhs; rw [h.1]
        rw [List.length_append]
        have : l = l.take (j + 1) ++ l.drop (j + 1) := (List.take_append_drop _ _).symm
        conv => rhs; rw [this]
        unfold textOf
        rw [List.flatMap_append, List.length_append]; omega
      omega
    have w1 := w64 ((textOf (l.take (j + 1))).length : Int) (by omega)
    have e5 : (textOf (l.take j)).length < s.size := by omega
    have e5b : (textOf (l.take j)).length < s.data.size := by omega
    have e6 := E_iRuneRead s.data.toList _ a1 (by omega)
    rw [a2] at e6
    have e7 := textOf_pos (h.2.1 l[j] (List.getElem_mem hj))
    have e8 : ¬ (runeBytes l[j] = []) := fun e => by rw [e] at e7; simp at e7
    have e9 : ((textOf (l.take j)).length : Int) + ((runeBytes l[j]).length : Int) = ((textOf (l.take (j + 1))).length : Int) := by omega
    have e10 : (l.take j).length ≤ 65536 := by simp; omega
    have e11 : ints (l.take j) ++ [[D.a (.int .i64 (l[j]))]] = ints (l.take (j + 1)) := by rw [ints_snoc, List.take_add_one, List.getElem?_eq_getElem hj]; rfl
    simp [e5, e5b, e6, decR, decN, e8]
    simp (disch := omega) only [grd_pos]
    simp [e9, w1, e11]
theorem E_iRunesOf_big (s : ByteArray) (hs : 65536 < s.size) : M_iRunesOf [V.v (.string s)] [] [] = some ⟨.tup [.own 0, V.v (.bool false)], [], [(0, [])]⟩ := by
  unfold M_iRunesOf
  have h1 : 65536 < (s.size : Int) := by omega
  simp [Try.func17, Try.f17, h1]
end Go.Proofs.Ytnmneoekpikpkaa
namespace Go.Proofs.Ytnmneoekpikpkaa
open Go.RowKit
set_option linter.unusedSimpArgs false
set_option linter.unusedVariables false
set_option maxHeartbeats 8000000
set_option maxRecDepth 10000
theorem E_iplaced (r w x y : Int) (hx : 0 ≤ x ∧ x ≤ 1000000000) (hy : 0 ≤ y ∧ y ≤ 10000000000) : M_iplaced [V.v (.int .i64 r), V.v (.int .i64 w), V.v (.int .i64 x), V.v (.int .i64 y)] [] [] = some ⟨.tup [V.v (.int .i64 ((plc w (x, y) r).1)), V.v (.int .i64 ((plc w (x, y) r).2))], [], []⟩ := by
  unfold M_iplaced
  have hr := wd_range r
  have w1 := w64 (x + wd r) (by omega)
  have w2 := w64 (y + 1) (by omega)
  by_cases h : w < x + wd r <;> simp [Try.func20, Try.f20, E_iWidth, plc, w1, w2, h]
def shown1 (r : Int) : List Int := if r = 9 then [94, 73] else if r = 10 then [94, 74] else if printable r then [r] else []
def shown (t : List Int) : List Int := t.flatMap shown1
theorem shown1_len (r : Int) : (shown1 r).length ≤ 2 := by
  unfold shown1; split <;> (try split) <;> (try split) <;> simp
theorem shown_len (t : List Int) : (shown t).length ≤ 2 * t.length := by
  induction t with
  | nil => simp [shown]
  | cons x r ih =>
    have := shown1_len x
    simp only [shown, List.flatMap_cons, List.length_append, List.length_cons] at ih ⊢; omega
theorem shown_take {t : List Int} {j : Nat} (h : j < t.length) : shown (t.take (j + 1)) = shown (t.take j) ++ shown1 t[j] := by
  unfold shown; rw [List.take_add_one, List.getElem?_eq_getElem h, List.flatMap_append]; simp
theorem shown_append (s t : List Int) : shown (s ++ t) = shown s ++ shown t := List.flatMap_append ..
theorem shown_print (t : List Int) : (shown t).all printable = true := by
  have h1 : printable 94 = true := by decide
  have h2 : printable 73 = true := by decide
  have h3 : printable 74 = true := by decide
  induction t with
  | nil => rfl
  | cons x r ih =>
    simp only [shown, List.flatMap_cons, List.all_append] at ih ⊢
    rw [ih, Bool.and_true]
    unfold shown1
    split
    · simp [h1, h2]
    split
    · simp [h1, h3]
    split
    · simp [*]
    · rfl
theorem E_iShown (t : List Int) (ht : t.length ≤ 1000000000) : M_iShown [.lst (some 0) (ints t)] [] [] = some ⟨.own 0, [], [(0, ints (shown t))]⟩ := by
  unfold M_iShown
  simp [Try.func19, Try.f19]
  rw [loopV_go (fun j => .on ⟨[(8, V.v (.int .i64 ((j : Int)))), (7, V.v (.int .i64 ((t.length : Int)))), (6, .lst (some 0) (ints t)), (3, .own 2000000000)], [], [(2000000000, ints (shown (t.take j)))], []⟩) t.length ?_ ?_]
  · simp
  · simp [shown, ints_nil]
  · intro j hj
    have hw := w64 (j + 1) (by omega)
    have hs := shown_take hj
    have hl : (shown (t.take j)).length ≤ 2000000000 := by
      have := shown_len (t.take j)
      have e : (t.take j).length ≤ t.length := by simp; omega
      omega
    by_cases h9 : t[j] = 9
    · simp [hj, hw, ints_get hj, h9]
      simp (disch := omega) only [grd_pos]
      simp [hw, hs, shown1, h9, ints_cons, ints_nil]
    by_cases h10 : t[j] = 10
    · simp [hj, hw, ints_get hj, h10]
      simp (disch := omega) only [grd_pos]
      simp [hw, hs, shown1, h10, ints_cons, ints_nil]
    cases hp : printable t[j]
    · simp [hj, hw, ints_get hj, h9, h10, E_iPrintable, hp, hs, shown1]
    · simp [hj, hw, ints_get hj, h9, h10, E_iPrintable, hp]
      simp (disch := omega) only [grd_pos]
      simp [hw, hs, shown1, h9, h10, hp, ints_cons, ints_nil]
def fairB (s : ByteArray) (l : List Int) (rest : List UInt8) : Bool := decide (s.size ≤ 65536) && rest.isEmpty && decide (l.length ≤ 60) && l.all printable
theorem E_ishortRunes (s : ByteArray) (l : List Int) (rest : List UInt8) (h : Reads s.data.toList l rest) : M_ishortRunes [V.v (.string s)] [] [] = some ⟨.tup [.own 0, V.v (.bool (fairB s l rest))], [], [(0, if fairB s l rest then ints l else [])]⟩ := by
  unfold M_ishortRunes
  by_cases hs : s.size ≤ 65536
  · have hds : s.data.toList.length = s.size := by simp
    have hll := h.len
    cases hr : rest.isEmpty
    · simp [Try.func14, Try.f14, E_iRunesOf s l rest h hs, hr, fairB]
    · by_cases hl : l.length ≤ 60
      · have hl' : ¬ (60 < (l.length : Int)) := by omega
        simp [Try.func14, Try.f14, E_iRunesOf s l rest h hs, hr, hl']
        rcases firstBad printable l with g | ⟨g, N, hN, g1, g2⟩
        · rw [loopV_go (fun j => .on ⟨[(22, V.v (.int .i64 ((j : Int)))), (21, V.v (.int .i64 ((l.length : Int)))), (20, .own 2000000000), (4, .own 2000000000)], [], [(2000000000, ints l)], []⟩) l.length ?_ ?_]
          · simp [fairB, hs, hr, hl, g]
          · simp
          · intro j hj
            have hw := w64 (j + 1) (by omega)
            have := List.all_eq_true.1 g l[j] (List.getElem_mem hj)
            simp [hj, hw, ints_get hj, E_iPrintable, this]
        · rw [loopV_go (fun j => .on ⟨[(22, V.v (.int .i64 ((j : Int)))), (21, V.v (.int .i64 ((l.length : Int)))), (20, .own 2000000000), (4, .own 2000000000)], [], [(2000000000, ints l)], []⟩) N ?_ ?_]
          · simp [hN, ints_get hN, E_iPrintable, g1, g, fairB]
          · simp
          · intro j hj
            have hj' : j < l.length := by omega
            have hw := w64 (j + 1) (by omega)
            simp [hj', hw, ints_get hj', E_iPrintable, g2 j hj' hj]
      · have hl' : 60 < (l.length : Int) := by omega
        simp [Try.func14, Try.f14, E_iRunesOf s l rest h hs, hr, hl', fairB, hl]
  · have hs' : 65536 < s.size := by omega
    simp [Try.func14, Try.f14, E_iRunesOf_big s hs', fairB, hs]
def promptOf (mode : Int) (q : List Int) (ps : ByteArray) : ByteArray := if mode = 3 then ⟨#[40, 115, 101, 97, 114, 99, 104, 41, 96]⟩ ++ ⟨(textOf q).toArray⟩ ++ ⟨#[39, 58, 32]⟩ else ps
def edV (vi : Bool) (mode : Int) (lt : List Int) (la cnt op opc wt fr fh last : Int) (rp : List TPiece) (ul : List TLine) (nav : Int) (ot : List Int) (oa : Int) (q : List Int) (hit : Int) (bt : List Int) (ba : Int) : V := .agg [V.v (.bool vi), V.v (.int .i64 mode), .lst (some 0) (ints lt), V.v (.int .i64 la), V.v (.int .i64 cnt), V.v (.int .i64 op), V.v (.int .i64 opc), V.v (.int .i64 wt), V.v (.int .i64 fr), V.v (.int .i64 fh), V.v (.int .i64 last), .lst (some 1) (dPieces rp), .lst (some 2) (dLines ul), V.v (.int .i64 nav), .lst (some 3) (ints ot), V.v (.int .i64 oa), .lst (some 4) (ints q), V.v (.int .i64 hit), .lst (some 5) (ints bt), V.v (.int .i64 ba)]
end Go.Proofs.Ytnmneoekpikpkaa
namespace Go.Proofs.Ytnmneoekpikpkaa
open Go.RowKit
set_option linter.unusedSimpArgs false
set_option linter.unusedVariables false
set_option maxHeartbeats 8000000
set_option maxRecDepth 100000
def TEd.ok (e : TEd) : Bool := edOk e.Vi e.Mode e.Line.Text e.Line.At e.Count e.Op e.OpCount e.Wait e.FindR e.FindHow e.Last e.Ring.Pieces e.Undo.Lines e.Nav e.Own.Text e.Own.At e.Query e.Hit e.Back.Text e.Back.At
structure TEd.sm (e : TEd) : Prop where
  h1 : e.Line.Text.length ≤ 1000000000
  h2 : e.Own.Text.length ≤ 1000000000
  h3 : e.Back.Text.length ≤ 1000000000
  h4 : e.Query.length ≤ 1000000000
  h5 : smL (dPieces e.Ring.Pieces) = true
  h6 : smL (dLines e.Undo.Lines) = true
theorem TEd.ok_of {e : TEd} (h : e.ok = true) : lineOk e.Line.Text e.Line.At = true ∧ e.Query.length ≤ 40 ∧ e.Query.all printable = true := by
  simp only [TEd.ok, edOk, Bool.and_eq_true, decide_eq_true_eq] at h
  exact ⟨h.1, h.2.2.2.2.2.2.2.2.2.2.2.2.2.1, h.2.2.2.2.2.2.2.2.2.2.2.2.2.2.1⟩
theorem bsize (l : List UInt8) : (ByteArray.mk l.toArray).size = l.length := by simp [ByteArray.size]
theorem E_iPromptOf (e : TEd) (ps : ByteArray) (hq : e.Query.length ≤ 1000000000) : M_iPromptOf [.agg [V.v (.bool e.Vi), V.v (.int .i64 e.Mode), .lst (some 0) (ints e.Line.Text), V.v (.int .i64 e.Line.At), V.v (.int .i64 e.Count), V.v (.int .i64 e.Op), V.v (.int .i64 e.OpCount), V.v (.int .i64 e.Wait), V.v (.int .i64 e.FindR), V.v (.int .i64 e.FindHow), V.v (.int .i64 e.Last), .lst (some 1) (dPieces e.Ring.Pieces), .lst (some 2) (dLines e.Undo.Lines), V.v (.int .i64 e.Nav), .lst (some 3) (ints e.Own.Text), V.v (.int .i64 e.Own.At), .lst (some 4) (ints e.Query), V.v (.int .i64 e.Hit), .lst (some 5) (ints e.Back.Text), V.v (.int .i64 e.Back.At)], V.v (.string ps)] [] [] = some ⟨V.v (.string (promptOf e.Mode e.Query ps)), [], []⟩ := by
  unfold M_iPromptOf
  have hl := textOf_len e.Query
  by_cases hm : e.Mode = 3
  · have s1 : (ByteArray.mk #[40, 115, 101, 97, 114, 99, 104, 41, 96]).size + (ByteArray.mk (textOf e.Query).toArray).size ≤ 9223372036854775807 := by
      rw [bsize (textOf e.Query), show (ByteArray.mk #[40, 115, 101, 97, 114, 99, 104, 41, 96]).size = 9 from rfl]; omega
    have s2 : (ByteArray.mk #[40, 115, 101, 97, 114, 99, 104, 41, 96]).size + (ByteArray.mk (textOf e.Query).toArray).size + (ByteArray.mk #[39, 58, 32]).size ≤ 9223372036854775807 := by
      rw [bsize (textOf e.Query), show (ByteArray.mk #[40, 115, 101, 97, 114, 99, 104, 41, 96]).size = 9 from rfl, show (ByteArray.mk #[39, 58, 32]).size = 3 from rfl]; omega
    simp [Try.func18, Try.f18, hm, E_iTextOf e.Query hq, promptOf, s1, s2]
  · simp [Try.func18, Try.f18, hm, promptOf]
def promptRunes (mode : Int) (q l : List Int) : List Int := if mode = 3 then [40, 115, 101, 97, 114, 99, 104, 41, 96] ++ q ++ [39, 58, 32] else l
theorem textOf_append (s t : List Int) : textOf (s ++ t) = textOf s ++ textOf t := List.flatMap_append ..
theorem print_ok {r : Int} (h : printable r = true) : runeOk r = true := by
  simp only [printable, Bool.and_eq_true] at h; exact h.1.1
theorem reads_prompt {e : TEd} {ps : ByteArray} {l : List Int} (hq : e.Query.all printable = true) (h : Reads ps.data.toList l []) : Reads (promptOf e.Mode e.Query ps).data.toList (promptRunes e.Mode e.Query l) [] := by
  unfold promptOf promptRunes
  by_cases hm : e.Mode = 3
  · rw [if_pos hm, if_pos hm]
    refine ⟨?_, fun r hr => ?_, rfl⟩
    · rw [textOf_append, textOf_append, List.append_nil]
      have h1 : textOf [40, 115, 101, 97, 114, 99, 104, 41, 96] = [40, 115, 101, 97, 114, 99, 104, 41, 96] := by decide
      have h2 : textOf [39, 58, 32] = [39, 58, 32] := by decide
      rw [h1, h2]
      simp
    · rcases List.mem_append.1 hr with hr | hr
      · rcases List.mem_append.1 hr with hr | hr
        · have : ([40, 115, 101, 97, 114, 99, 104, 41, 96] : List Int).all runeOk = true := by decide
          exact List.all_eq_true.1 this r hr
        · exact print_ok (List.all_eq_true.1 hq r hr)
      · have : ([39, 58, 32] : List Int).all runeOk = true := by decide
        exact List.all_eq_true.1 this r hr
  · rw [if_neg hm, if_neg hm]; exact h
theorem prompt_print {e : TEd} {l : List Int} (hq : e.Query.all printable = true) (hl : l.all printable = true) : (promptRunes e.Mode e.Query l).all printable = true := by
  unfold promptRunes
  split
  · rw [List.all_append, List.all_append, hq]; decide
  · exact hl
theorem prompt_len {e : TEd} {l : List Int} (hq : e.Query.length ≤ 40) (hl : l.length ≤ 60) : (promptRunes e.Mode e.Query l).length ≤ 60 := by
  unfold promptRunes
  split
  · simp; omega
  · exact hl
theorem prompt_size {e : TEd} {ps : ByteArray} (hq : e.Query.length ≤ 40) (hp : ps.size ≤ 65536) : (promptOf e.Mode e.Query ps).size ≤ 65536 := by
  have := textOf_len e.Query
  unfold promptOf
  split
  · rw [ByteArray.size_append, ByteArray.size_append, bsize (textOf e.Query), show (ByteArray.mk #[40, 115, 101, 97, 114, 99, 104, 41, 96]).size = 9 from rfl, show (ByteArray.mk #[39, 58, 32]).size = 3 from rfl]; omega
  · exact hp
end Go.Proofs.Ytnmneoekpikpkaa
namespace Go.Proofs.Ytnmneoekpikpkaa
open Go.RowKit
set_option linter.unusedSimpArgs false
set_option linter.unusedVariables false
set_option maxHeartbeats 8000000
set_option maxRecDepth 10000
noncomputable def G21 : List (FuncId × Bool × Mean) := [(12, false, M_sl01Below), (25, false, M_sEdNew), (26, false, M_sl13Draw), (27, false, M_sl15Ring), (28, false, M_sUndoPut), (29, false, M_sl02Rune), (30, false, M_sl21Clip), (31, false, M_sl02Runes)]
def gh21 : Ghost := ⟨[], [], [(5, [], [(3, [0, 1]), (9, [7])])], [(6, [3, 2, 0], [1000000000, 3, 2]), (9, [3, 2, 0], [1000000000, 3, 2]), (12, [3, 2, 0], [1000000000, 3, 2]), (15, [3, 2, 0], [1000000000, 3, 2]), (18, [3, 2, 0], [1000000000, 3, 2]), (22, [3, 2, 0], [1000000000, 3, 2]), (29, [3, 2, 0], [1000000000, 3, 2])]⟩
def edC (e : TEd) : List V := [V.v (.bool e.Vi), V.v (.int .i64 e.Mode), .own 2000000000, V.v (.int .i64 e.Line.At), V.v (.int .i64 e.Count), V.v (.int .i64 e.Op), V.v (.int .i64 e.OpCount), V.v (.int .i64 e.Wait), V.v (.int .i64 e.FindR), V.v (.int .i64 e.FindHow), V.v (.int .i64 e.Last), .own 2000000001, .own 2000000002, V.v (.int .i64 e.Nav), .own 2000000003, V.v (.int .i64 e.Own.At), .own 2000000004, V.v (.int .i64 e.Hit), .own 2000000005, V.v (.int .i64 e.Back.At)]
def edQ (t : List (Nat × V)) (b : List UInt8) (i h : Int) (e : TEd) : Q :=
  .on ⟨t ++ [(3, .ref 3 0), (2, .ref 2 0), (0, .ref 1000000000 0)], [(1000000000, [.lst (some 0) (byts b), V.v (.int .i64 i), V.v (.int .i64 h)]), (3, edC e), (2, [V.v (.bool false), V.v (.int .i64 0), .own 2000000006, V.v (.int .i64 0), V.v (.int .i64 0), V.v (.int .i64 0), V.v (.int .i64 0), V.v (.int .i64 0), V.v (.int .i64 0), V.v (.int .i64 0), V.v (.int .i64 0), .own 2000000007, .own 2000000008, V.v (.int .i64 0), .own 2000000009, V.v (.int .i64 0), .own 2000000010, V.v (.int .i64 0), .own 2000000011, V.v (.int .i64 0)])],
    [(2000000011, []), (2000000010, []), (2000000009, []), (2000000008, []), (2000000007, []), (2000000006, []), (2000000005, ints e.Back.Text), (2000000004, ints e.Query), (2000000003, ints e.Own.Text), (2000000002, dLines e.Undo.Lines), (2000000001, dPieces e.Ring.Pieces), (2000000000, ints e.Line.Text)], []⟩
structure EdI (e : TEd) : Prop where
  line : lineOk e.Line.Text e.Line.At = true
  ring : ringOk e.Ring.Pieces = true
  undo : undoOk e.Undo.Lines = true
  last : 0 ≤ e.Last ∧ e.Last < 4
  mode : e.Mode = if e.Vi then 1 else 0
  op : e.Op = 0 ∧ e.OpCount = 0 ∧ e.Wait = 0
  seek : e.Query = [] ∧ e.Hit = 0 ∧ e.Back = ⟨[], 0⟩
  cnt : 0 ≤ e.Count ∧ e.Count ≤ 4
  find : findB e.FindR e.FindHow = true
  own : (e.Nav = 0 ∧ e.Own = ⟨[], 0⟩) ∨ (0 < e.Nav ∧ e.Nav ≤ 6 ∧ lineOk e.Own.Text e.Own.At = true)
theorem lineOk_mk {l : List Int} {a : Nat} (h1 : l.all typed = true) (h2 : l.length ≤ 16) (h3 : a ≤ l.length) : lineOk l a = true := by
  have q1 : inR (a : Int) 0 (l.length : Int) = true := inR_iff.2 (by omega)
  simp [lineOk, textOk, h1, q1]; omega
theorem st21_1 (b : List UInt8) (i h : Int) (hb : b.length ≤ 1048576) (hi : 0 ≤ i ∧ i ≤ b.length) : ∃ (z : Int) (e : TEd) (i' h' : Int), evL Try.prog G21 gh21 (((partsOf Try.prog 11).drop 0).take 7) (.on ⟨[(0, .ref 1000000000 0)], [(1000000000, curV b i h)], [], []⟩) = some (.normal, edQ [(29, .ref 3 10), (28, V.v (.int .i64 z)), (27, .ref 1000000000 0)] b i' h' e) ∧ EdI e ∧ 0 ≤ i' ∧ i' ≤ b.length := by
  obtain ⟨x, i1, h1, e1, r1, j1⟩ := EX_sl01Below b i h 2 hb hi (by omega)
  obtain ⟨l, a, i2, h2, e2, r2, r3, r4, j2⟩ := EX_sl13Draw b i1 h1 hb j1
  obtain ⟨rg, i3, h3, e3, r5, j3⟩ := EX_sl15Ring b i2 h2 hb j2
  obtain ⟨y, i4, h4, e4, r6, j4⟩ := EX_sl01Below b i3 h3 2 hb j3 (by omega)
  obtain ⟨l', a', i5, h5, e5, r7, r8, r9, j5⟩ := EX_sl13Draw b i4 h4 hb j4
  have hlo : lineOk l' a' = true := lineOk_mk r7 r8 r9
  have hl0 : lineOk l a = true := lineOk_mk r2 r3 r4
  have e6 := EX_sUndoPut0 l' a' hlo
  unfold curV at e1 e2 e3 e4 e5
  generalize hE : evL _ _ _ _ _ = R
  unfold curV at hE
  have hm : (if x = 0 then 1 else 0 : Int) = if (x == 0) = true then 1 else 0 := by by_cases h : x = 0 <;> simp [h]
  by_cases hy : y = 0
  · subst hy
    obtain ⟨z, i6, h6, e7, r10, j6⟩ := EX_sl01Below b i5 h5 4 hb j5 (by omega)
    unfold curV at e7
    simp [partsOf, Try.func11, Try.f11, flatC, G21, gh21, e1, e2, e3, e4, e5, e6, e7, E_sEdNew] at hE
    refine ⟨z, { zEd with Vi := x == 0, Mode := if x = 0 then 1 else 0, Line := ⟨l, a⟩, Last := z, Ring := ⟨rg⟩, Undo := ⟨[⟨l', a'⟩]⟩ }, i6, h6, hE.symm, ⟨hl0, r5, by simp [undoOk, lineB, hlo], r10, hm, ⟨rfl, rfl, rfl⟩, ⟨rfl, rfl, rfl⟩, ⟨by simp [zEd], by simp [zEd]⟩, by simp [zEd, findB], .inl ⟨rfl, rfl⟩⟩, j6⟩
  · obtain ⟨z, i6, h6, e7, r10, j6⟩ := EX_sl01Below b i4 h4 4 hb j4 (by omega)
    unfold curV at e7
    simp [partsOf, Try.func11, Try.f11, flatC, G21, gh21, e1, e2, e3, e4, hy, e7, E_sEdNew] at hE
    refine ⟨z, { zEd with Vi := x == 0, Mode := if x = 0 then 1 else 0, Line := ⟨l, a⟩, Last := z, Ring := ⟨rg⟩ }, i6, h6, hE.symm, ⟨hl0, r5, rfl, r10, hm, ⟨rfl, rfl, rfl⟩, ⟨rfl, rfl, rfl⟩, ⟨by simp [zEd], by simp [zEd]⟩, by simp [zEd, findB], .inl ⟨rfl, rfl⟩⟩, j6⟩
theorem st21_2 (b : List UInt8) (i h z : Int) (e : TEd) (he : EdI e) (hb : b.length ≤ 1048576) (hi : 0 ≤ i ∧ i ≤ b.length) : ∃ (z' : Int) (e' : TEd) (i' h' : Int), evL Try.prog G21 gh21 (((partsOf Try.prog 11).drop 7).take 3) (edQ [(29, .ref 3 10), (28, V.v (.int .i64 z)), (27, .ref 1000000000 0)] b i h e) = some (.normal, edQ [(39, V.v (.bool (z' == 0))), (38, V.v (.int .i64 z')), (37, .ref 1000000000 0)] b i' h' e') ∧ EdI e' ∧ 0 ≤ i' ∧ i' ≤ b.length := by
  obtain ⟨x, i1, h1, e1, r1, j1⟩ := EX_sl01Below b i h 3 hb hi (by omega)
  unfold curV at e1
  generalize hE : evL _ _ _ _ _ = R
  by_cases hx : x = 0
  · subst hx
    obtain ⟨y, i2, h2, e2, r2, j2⟩ := EX_sl01Below b i1 h1 4 hb j1 (by omega)
    obtain ⟨z', i3, h3, e3, r3, j3⟩ := EX_sl01Below b i2 h2 3 hb j2 (by omega)
    unfold curV at e2 e3
    have w := w64 (1 + y) (by omega)
    simp [partsOf, Try.func11, Try.f11, flatC, G21, gh21, edQ, edC, e1, e2, e3, w] at hE
    exact ⟨z', { e with Count := 1 + y }, i3, h3, hE.symm, { he with cnt := by simp only; omega }, j3⟩
  · obtain ⟨z', i3, h3, e3, r3, j3⟩ := EX_sl01Below b i1 h1 3 hb j1 (by omega)
    unfold curV at e3
    simp [partsOf, Try.func11, Try.f11, flatC, G21, gh21, edQ, edC, e1, hx, e3] at hE
    exact ⟨z', e, i3, h3, hE.symm, he, j3⟩
theorem st21_3 (b : List UInt8) (i h z : Int) (e : TEd) (he : EdI e) (hb : b.length ≤ 1048576) (hi : 0 ≤ i ∧ i ≤ b.length) : ∃ (z' : Int) (e' : TEd) (i' h' : Int), evL Try.prog G21 gh21 (((partsOf Try.prog 11).drop 10).take 2) (edQ [(39, V.v (.bool (z == 0))), (38, V.v (.int .i64 z)), (37, .ref 1000000000 0)] b i h e) = some (.normal, edQ [(48, V.v (.bool (z' == 0))), (47, V.v (.int .i64 z')), (46, .ref 1000000000 0)] b i' h' e') ∧ EdI e' ∧ 0 ≤ i' ∧ i' ≤ b.length := by
  generalize hE : evL _ _ _ _ _ = R
  by_cases hx : z = 0
  · subst hx
    obtain ⟨x, i1, h1, e1, r1, j1⟩ := EX_sl02Rune b i h hb hi
    obtain ⟨y, i2, h2, e2, r2, j2⟩ := EX_sl01Below b i1 h1 4 hb j1 (by omega)
    obtain ⟨z', i3, h3, e3, r3, j3⟩ := EX_sl01Below b i2 h2 4 hb j2 (by omega)
    unfold curV at e1 e2 e3
    simp [partsOf, Try.func11, Try.f11, flatC, G21, gh21, edQ, edC, e1, e2, e3] at hE
    refine ⟨z', { e with FindR := x, FindHow := y }, i3, h3, hE.symm, { he with find := ?_ }, j3⟩
    have q1 : inR y 0 3 = true := inR_iff.2 (by omega)
    have q2 : x ≠ 0 := fun e => by rw [e] at r1; revert r1; decide
    simp [findB, q1, q2, r1]
  · obtain ⟨z', i3, h3, e3, r3, j3⟩ := EX_sl01Below b i h 4 hb hi (by omega)
    unfold curV at e3
    simp [partsOf, Try.func11, Try.f11, flatC, G21, gh21, edQ, edC, hx, e3] at hE
    exact ⟨z', e, i3, h3, hE.symm, he, j3⟩
def T1 (x : Int) : List (Nat × V) := [(62, V.v (.bool (decide (0 < x)))), (61, V.v (.bool (decide (0 < x)))), (60, V.v (.int .i64 x)), (59, .ref 1000000000 0), (58, V.v (.bool true)), (57, V.v (.bool true)), (56, .ref 3 0)]
def T0 : List (Nat × V) := [(62, V.v (.bool false)), (61, .tup []), (60, .tup []), (59, .tup []), (58, V.v (.bool false)), (57, V.v (.bool false)), (56, .ref 3 0)]
theorem st21_4 (b : List UInt8) (i h z : Int) (e : TEd) (he : EdI e) (hb : b.length ≤ 1048576) (hi : 0 ≤ i ∧ i ≤ b.length) : ∃ (t : List (Nat × V)) (e' : TEd) (i' h' : Int), evL Try.prog G21 gh21 (((partsOf Try.prog 11).drop 12).take 2) (edQ [(48, V.v (.bool (z == 0))), (47, V.v (.int .i64 z)), (46, .ref 1000000000 0)] b i h e) = some (.normal, edQ t b i' h' e') ∧ ((e'.Vi = true ∧ ∃ x, 0 ≤ x ∧ x < 3 ∧ t = T1 x) ∨ (e'.Vi = false ∧ t = T0)) ∧ EdI e' ∧ 0 ≤ i' ∧ i' ≤ b.length := by
  generalize hE : evL _ _ _ _ _ = R
  by_cases hx : z = 0
  · subst hx
    obtain ⟨x, i1, h1, e1, r1, j1⟩ := EX_sl01Below b i h 6 hb hi (by omega)
    obtain ⟨l, a, i2, h2, e2, r2, r3, r4, j2⟩ := EX_sl13Draw b i1 h1 hb j1
    obtain ⟨z', i3, h3, e3, r5, j3⟩ := EX_sl01Below b i2 h2 3 hb j2 (by omega)
    unfold curV at e1 e2 e3
    have w := w64 (1 + x) (by omega)
    have hown : EdI { e with Nav := 1 + x, Own := ⟨l, a⟩ } := { he with own := .inr ⟨by simp only; omega, by simp only; omega, lineOk_mk r2 r3 r4⟩ }
    cases hv : e.Vi with
    | true =>
      simp [partsOf, Try.func11, Try.f11, flatC, G21, gh21, edQ, edC, e1, e2, e3, w, hv] at hE
      exact ⟨T1 z', { e with Nav := 1 + x, Own := ⟨l, a⟩ }, i3, h3, by rw [← hE]; simp [edQ, edC, T1, hv], .inl ⟨hv, z', r5.1, r5.2, rfl⟩, hown, j3⟩
    | false =>
      simp [partsOf, Try.func11, Try.f11, flatC, G21, gh21, edQ, edC, e1, e2, w, hv] at hE
      exact ⟨T0, { e with Nav := 1 + x, Own := ⟨l, a⟩ }, i2, h2, by rw [← hE]; simp [edQ, edC, T0, hv], .inr ⟨hv, rfl⟩, hown, j2⟩
  · obtain ⟨z', i3, h3, e3, r5, j3⟩ := EX_sl01Below b i h 3 hb hi (by omega)
    unfold curV at e3
    cases hv : e.Vi with
    | true =>
      simp [partsOf, Try.func11, Try.f11, flatC, G21, gh21, edQ, edC, e3, hx, hv] at hE
      exact ⟨T1 z', e, i3, h3, by rw [← hE]; simp [edQ, edC, T1, hv], .inl ⟨hv, z', r5.1, r5.2, rfl⟩, he, j3⟩
    | false =>
      simp [partsOf, Try.func11, Try.f11, flatC, G21, gh21, edQ, edC, hx, hv] at hE
      exact ⟨T0, e, i, h, by rw [← hE]; simp [edQ, edC, T0, hv], .inr ⟨hv, rfl⟩, he, hi⟩
theorem E_sl21Clip (e : TEd) (hl : e.Line.Text.length ≤ 400) : ∃ a', M_sl21Clip [.agg [V.v (.bool e.Vi), V.v (.int .i64 e.Mode), .lst (some 0) (ints e.Line.Text), V.v (.int .i64 e.Line.At), V.v (.int .i64 e.Count), V.v (.int .i64 e.Op), V.v (.int .i64 e.OpCount), V.v (.int .i64 e.Wait), V.v (.int .i64 e.FindR), V.v (.int .i64 e.FindHow), V.v (.int .i64 e.Last), .lst (some 1) (dPieces e.Ring.Pieces), .lst (some 2) (dLines e.Undo.Lines), V.v (.int .i64 e.Nav), .lst (some 3) (ints e.Own.Text), V.v (.int .i64 e.Own.At), .lst (some 4) (ints e.Query), V.v (.int .i64 e.Hit), .lst (some 5) (ints e.Back.Text), V.v (.int .i64 e.Back.At)]] [] [] = some ⟨.agg [V.v (.bool e.Vi), V.v (.int .i64 e.Mode), .lst (some 0) (ints e.Line.Text), V.v (.int .i64 a'), V.v (.int .i64 e.Count), V.v (.int .i64 e.Op), V.v (.int .i64 e.OpCount), V.v (.int .i64 e.Wait), V.v (.int .i64 e.FindR), V.v (.int .i64 e.FindHow), V.v (.int .i64 e.Last), .lst (some 1) (dPieces e.Ring.Pieces), .lst (some 2) (dLines e.Undo.Lines), V.v (.int .i64 e.Nav), .lst (some 3) (ints e.Own.Text), V.v (.int .i64 e.Own.At), .lst (some 4) (ints e.Query), V.v (.int .i64 e.Hit), .lst (some 5) (ints e.Back.Text), V.v (.int .i64 e.Back.At)], [], []⟩ ∧ a' = if e.Mode = 2 ∧ e.Line.At = e.Line.Text.length ∧ 0 < e.Line.At then e.Line.At - 1 else e.Line.At := by
  refine ⟨_, ?_, rfl⟩
  unfold M_sl21Clip
  by_cases h1 : e.Mode = 2
  · by_cases h2 : e.Line.At = e.Line.Text.length
    · by_cases h3 : e.Line.Text = []
      · simp [Try.func30, Try.f30, h1, h2, h3]
      · have h4 : 0 < e.Line.Text.length := List.length_pos_iff.2 h3
        have w := w64 ((e.Line.Text.length : Int) - 1) (by omega)
        simp [Try.func30, Try.f30, h1, h2, h3, h4, w]
    · simp [Try.func30, Try.f30, h1, h2]
  · simp [Try.func30, Try.f30, h1]
theorem ok_of (e : TEd) (line : lineOk e.Line.Text e.Line.At = true) (ring : ringOk e.Ring.Pieces = true) (undo : undoOk e.Undo.Lines = true) (last : 0 ≤ e.Last ∧ e.Last < 4) (cnt : 0 ≤ e.Count ∧ e.Count ≤ 4) (find : findB e.FindR e.FindHow = true)
    (own : (e.Nav = 0 ∧ e.Own = ⟨[], 0⟩) ∨ (0 < e.Nav ∧ e.Nav ≤ 6 ∧ lineOk e.Own.Text e.Own.At = true)) (opc : 0 ≤ e.OpCount ∧ e.OpCount ≤ 4) (md : modeB e.Vi e.Mode e.Line.Text e.Line.At e.Op e.OpCount e.Wait = true) (q1 : e.Query.length ≤ 40) (q2 : e.Query.all printable = true) (hit : 0 ≤ e.Hit ∧ e.Hit ≤ 6)
    (bk : lineOk e.Back.Text e.Back.At = true) (sk : seekB e.Mode e.Query e.Hit e.Back.Text e.Back.At = true) : e.ok = true := by
  have a1 : inR e.Count 0 999 = true := inR_iff.2 (by omega)
  have a2 : inR e.OpCount 0 999 = true := inR_iff.2 (by omega)
  have a3 : inR e.Last 0 3 = true := inR_iff.2 (by omega)
  have a4 : inR e.Hit 0 1000000060 = true := inR_iff.2 (by omega)
  have a5 : inR e.Nav 0 1000000060 = true := inR_iff.2 (by rcases own with ⟨h, _⟩ | ⟨h1, h2, _⟩ <;> omega)
  have a6 : lineOk e.Own.Text e.Own.At = true := by
    rcases own with ⟨_, h⟩ | ⟨_, _, h⟩
    · rw [h]; decide
    · exact h
  have a7 : (e.Nav != 0 || emptyL e.Own.Text e.Own.At) = true := by
    rcases own with ⟨_, h⟩ | ⟨h, _, _⟩
    · rw [h]; simp [emptyL]
    · have : e.Nav ≠ 0 := by omega
      simp [this]
  simp only [TEd.ok, edOk, line, a6, bk, a1, a2, md, find, a3, ring, undo, a5, a4, a7, q2, sk, decide_eq_true q1, Bool.and_self]
noncomputable def M_sl21DrawN : Mean := evFun Try.prog G21 gh21 11
theorem EX_sl21Draw (b : List UInt8) (i h : Int) (hb : b.length ≤ 1048576) (hi : 0 ≤ i ∧ i ≤ b.length) : ∃ (e : TEd) (i' h' : Int), M_sl21DrawN [.ref 0 0] [curV b i h] [] = some ⟨.agg [V.v (.bool e.Vi), V.v (.int .i64 e.Mode), .own 0, V.v (.int .i64 e.Line.At), V.v (.int .i64 e.Count), V.v (.int .i64 e.Op), V.v (.int .i64 e.OpCount), V.v (.int .i64 e.Wait), V.v (.int .i64 e.FindR), V.v (.int .i64 e.FindHow), V.v (.int .i64 e.Last), .own 1, .own 2, V.v (.int .i64 e.Nav), .own 3, V.v (.int .i64 e.Own.At), .own 4, V.v (.int .i64 e.Hit), .own 5, V.v (.int .i64 e.Back.At)], [curV b i' h'], [(0, ints e.Line.Text), (1, dPieces e.Ring.Pieces), (2, dLines e.Undo.Lines), (3, ints e.Own.Text), (4, ints e.Query), (5, ints e.Back.Text)]⟩ ∧ e.ok = true ∧ 0 ≤ i' ∧ i' ≤ b.length := by
  obtain ⟨z1, e1, i1, h1, s1, p1, j1⟩ := st21_1 b i h hb hi
  obtain ⟨z2, e2, i2, h2, s2, p2, j2⟩ := st21_2 b i1 h1 z1 e1 p1 hb j1
  obtain ⟨z3, e3, i3, h3, s3, p3, j3⟩ := st21_3 b i2 h2 z2 e2 p2 hb j2
  obtain ⟨t, e, i4, h4, s4, ht, p4, j4⟩ := st21_4 b i3 h3 z3 e3 p3 hb j3
  generalize hE : M_sl21DrawN _ _ _ = R
  unfold M_sl21DrawN at hE
  rw [evFun_parts'] at hE
  have hq : (Q.on { env := (withIdx 0 (List.map enterV [V.ref 0 0])).reverse, box := (withIdx parBase (List.map enterL [curV b i h])).reverse, tree := (withIdx parBase []).reverse, fro := [] }) = .on ⟨[(0, .ref 1000000000 0)], [(1000000000, curV b i h)], [], []⟩ := rfl
  rw [hq, evL_stage _ _ _ s1, evL_stage _ _ _ s2, evL_stage _ _ _ s3, evL_stage _ _ _ s4] at hE
  clear s1 s2 s3 s4 hq
  have els : (e.Vi = true ∧ t = T1 0) ∨ (e.Vi = false ∧ t = T0) → ∃ (e : TEd) (i' h' : Int), R = some ⟨.agg [V.v (.bool e.Vi), V.v (.int .i64 e.Mode), .own 0, V.v (.int .i64 e.Line.At), V.v (.int .i64 e.Count), V.v (.int .i64 e.Op), V.v (.int .i64 e.OpCount), V.v (.int .i64 e.Wait), V.v (.int .i64 e.FindR), V.v (.int .i64 e.FindHow), V.v (.int .i64 e.Last), .own 1, .own 2, V.v (.int .i64 e.Nav), .own 3, V.v (.int .i64 e.Own.At), .own 4, V.v (.int .i64 e.Hit), .own 5, V.v (.int .i64 e.Back.At)], [curV b i' h'], [(0, ints e.Line.Text), (1, dPieces e.Ring.Pieces), (2, dLines e.Undo.Lines), (3, ints e.Own.Text), (4, ints e.Query), (5, ints e.Back.Text)]⟩ ∧ e.ok = true ∧ 0 ≤ i' ∧ i' ≤ b.length := by
    intro hh
    obtain ⟨y, i5, h5, d1, r1, j5⟩ := EX_sl01Below b i4 h4 4 hb j4 (by omega)
    unfold curV at d1
    by_cases hy : y = 0
    · subst hy
      obtain ⟨q, i6, h6, d2, r2, r3, j6⟩ := EX_sl02Runes b i5 h5 2 hb j5 (by omega)
      obtain ⟨x, i7, h7, d3, r4, j7⟩ := EX_sl01Below b i6 h6 6 hb j6 (by omega)
      obtain ⟨l, a, i8, h8, d4, r5, r6, r7, j8⟩ := EX_sl13Draw b i7 h7 hb j7
      unfold curV at d2 d3 d4
      rcases hh with ⟨hv, rfl⟩ | ⟨hv, rfl⟩
      · simp [partsOf, Try.func11, Try.f11, flatC, G21, gh21, edQ, edC, T1, d1, d2, d3, d4] at hE
        refine ⟨{ e with Mode := 3, Query := q, Hit := x, Back := ⟨l, a⟩ }, i8, h8, hE.symm, ok_of _ p4.line p4.ring p4.undo p4.last p4.cnt p4.find p4.own ?_ ?_ ?_ ?_ ?_ ?_ ?_, j8⟩
        · simp only [p4.op.2.1]; omega
        · simp [modeB, p4.op.1, p4.op.2.1, p4.op.2.2]
        · simp only; omega
        · exact r2
        · simp only; omega
        · exact lineOk_mk r5 r6 r7
        · simp [seekB]
      · simp [partsOf, Try.func11, Try.f11, flatC, G21, gh21, edQ, edC, T0, d1, d2, d3, d4] at hE
        refine ⟨{ e with Mode := 3, Query := q, Hit := x, Back := ⟨l, a⟩ }, i8, h8, hE.symm, ok_of _ p4.line p4.ring p4.undo p4.last p4.cnt p4.find p4.own ?_ ?_ ?_ ?_ ?_ ?_ ?_, j8⟩
        · simp only [p4.op.2.1]; omega
        · simp [modeB, p4.op.1, p4.op.2.1, p4.op.2.2]
        · simp only; omega
        · exact r2
        · simp only; omega
        · exact lineOk_mk r5 r6 r7
        · simp [seekB]
    · rcases hh with ⟨hv, rfl⟩ | ⟨hv, rfl⟩
      · simp [partsOf, Try.func11, Try.f11, flatC, G21, gh21, edQ, edC, T1, d1, hy] at hE
        refine ⟨e, i5, h5, hE.symm, ok_of _ p4.line p4.ring p4.undo p4.last p4.cnt p4.find p4.own ?_ ?_ ?_ ?_ ?_ ?_ ?_, j5⟩
        · simp only [p4.op.2.1]; omega
        · simp [modeB, p4.op.1, p4.op.2.1, p4.op.2.2, p4.mode, hv]
        · simp [p4.seek.1]
        · simp [p4.seek.1]
        · simp only [p4.seek.2.1]; omega
        · rw [p4.seek.2.2]; decide
        · simp [seekB, p4.seek.1, p4.seek.2.1, p4.seek.2.2, emptyL]
      · simp [partsOf, Try.func11, Try.f11, flatC, G21, gh21, edQ, edC, T0, d1, hy] at hE
        refine ⟨e, i5, h5, hE.symm, ok_of _ p4.line p4.ring p4.undo p4.last p4.cnt p4.find p4.own ?_ ?_ ?_ ?_ ?_ ?_ ?_, j5⟩
        · simp only [p4.op.2.1]; omega
        · simp [modeB, p4.op.1, p4.op.2.1, p4.op.2.2, p4.mode, hv]
        · simp [p4.seek.1]
        · simp [p4.seek.1]
        · simp only [p4.seek.2.1]; omega
        · rw [p4.seek.2.2]; decide
        · simp [seekB, p4.seek.1, p4.seek.2.1, p4.seek.2.2, emptyL]
  rcases ht with ⟨hv, x, hx0, hx1, rfl⟩ | ⟨hv, rfl⟩
  rotate_left
  · exact els (.inr ⟨hv, rfl⟩)
  by_cases hx : x = 0
  · subst hx; exact els (.inl ⟨hv, rfl⟩)
  clear els
  have hx2 : 0 < x := by omega
  have hll : e.Line.Text.length ≤ 400 ∧ 0 ≤ e.Line.At ∧ e.Line.At ≤ e.Line.Text.length := by
    have := p4.line
    simp only [lineOk, textOk, Bool.and_eq_true, decide_eq_true_eq] at this
    have := inR_of this.2
    omega
  obtain ⟨a', c1, c2⟩ := E_sl21Clip { e with Mode := 2 } hll.1
  simp only at c1 c2
  have hcl : (0 ≤ a' ∧ a' ≤ e.Line.Text.length) ∧ (a' ≠ e.Line.Text.length ∨ e.Line.Text.length = 0) := by
    rw [c2]
    by_cases q1 : e.Line.At = e.Line.Text.length ∧ 0 < e.Line.At
    · rw [if_pos ⟨trivial, q1⟩]; exact ⟨⟨by omega, by omega⟩, .inl (by omega)⟩
    · rw [if_neg (fun h => q1 h.2)]
      refine ⟨⟨by omega, by omega⟩, ?_⟩
      by_cases q2 : e.Line.At = e.Line.Text.length
      · right; have : ¬ 0 < e.Line.At := fun h => q1 ⟨q2, h⟩
        omega
      · left; exact q2
  have hat : atEnd e.Line.Text a' = false := by
    rcases hcl.2 with h | h
    · simp [atEnd, h]
    · simp [atEnd, h]
  have hli : lineOk e.Line.Text a' = true := by
    have := p4.line
    simp only [lineOk, Bool.and_eq_true] at this ⊢
    exact ⟨this.1, inR_iff.2 hcl.1⟩
  obtain ⟨k, i5, h5, d1, r1, j5⟩ := EX_sl01Below b i4 h4 8 hb j4 (by omega)
  unfold curV at d1
  have fin : ∀ (op opc wt i h : Int), (op == 0 || opC op) = true → (wt == 0 || waitC wt) = true → 0 ≤ opc ∧ opc ≤ 4 → (op = 0 → opc = 0) → 0 ≤ i ∧ i ≤ b.length → R = some ⟨.agg [V.v (.bool e.Vi), V.v (.int .i64 2), .own 0, V.v (.int .i64 a'), V.v (.int .i64 e.Count), V.v (.int .i64 op), V.v (.int .i64 opc), V.v (.int .i64 wt), V.v (.int .i64 e.FindR), V.v (.int .i64 e.FindHow), V.v (.int .i64 e.Last), .own 1, .own 2, V.v (.int .i64 e.Nav), .own 3, V.v (.int .i64 e.Own.At), .own 4, V.v (.int .i64 e.Hit), .own 5, V.v (.int .i64 e.Back.At)], [curV b i h], [(0, ints e.Line.Text), (1, dPieces e.Ring.Pieces), (2, dLines e.Undo.Lines), (3, ints e.Own.Text), (4, ints e.Query), (5, ints e.Back.Text)]⟩ → ∃ (e : TEd) (i' h' : Int), R = some ⟨.agg [V.v (.bool e.Vi), V.v (.int .i64 e.Mode), .own 0, V.v (.int .i64 e.Line.At), V.v (.int .i64 e.Count), V.v (.int .i64 e.Op), V.v (.int .i64 e.OpCount), V.v (.int .i64 e.Wait), V.v (.int .i64 e.FindR), V.v (.int .i64 e.FindHow), V.v (.int .i64 e.Last), .own 1, .own 2, V.v (.int .i64 e.Nav), .own 3, V.v (.int .i64 e.Own.At), .own 4, V.v (.int .i64 e.Hit), .own 5, V.v (.int .i64 e.Back.At)], [curV b i' h'], [(0, ints e.Line.Text), (1, dPieces e.Ring.Pieces), (2, dLines e.Undo.Lines), (3, ints e.Own.Text), (4, ints e.Query), (5, ints e.Back.Text)]⟩ ∧ e.ok = true ∧ 0 ≤ i' ∧ i' ≤ b.length := by
    intro op opc wt i h o1 o2 o3 o4 ji hR
    refine ⟨{ e with Mode := 2, Line := ⟨e.Line.Text, a'⟩, Op := op, OpCount := opc, Wait := wt }, i, h, hR, ok_of _ hli p4.ring p4.undo p4.last p4.cnt p4.find p4.own o3 ?_ ?_ ?_ ?_ ?_ ?_, ji⟩
    · have : (op != 0 || opc == 0) = true := by by_cases h : op = 0 <;> simp [h, o4]
      simp [modeB, hv, hat, o1, o2, this]
    · simp [p4.seek.1]
    · simp [p4.seek.1]
    · simp only [p4.seek.2.1]; omega
    · rw [p4.seek.2.2]; decide
    · simp [seekB, p4.seek.1, p4.seek.2.1, p4.seek.2.2, emptyL]
  have ko : k = 0 ∨ k = 1 ∨ k = 2 ∨ 3 ≤ k := by omega
  by_cases k3 : 3 ≤ k
  · have k4 : ¬ k < 3 := by omega
    obtain ⟨u, i6, h6, d2, r2, j6⟩ := EX_sl01Below b i5 h5 4 hb j5 (by omega)
    unfold curV at d2
    by_cases hu : u = 0
    · subst hu
      obtain ⟨v, i7, h7, d3, r3, j7⟩ := EX_sl01Below b i6 h6 5 hb j6 (by omega)
      unfold curV at d3
      have vo : v = 0 ∨ v = 1 ∨ v = 2 ∨ v = 3 ∨ v = 4 := by omega
      rcases vo with rfl | rfl | rfl | rfl | rfl <;>
        (simp [partsOf, Try.func11, Try.f11, flatC, G21, gh21, edQ, edC, T1, hx2, c1, d1, d2, d3, k4] at hE
         exact fin _ _ _ _ _ (by rw [p4.op.1]; rfl) (by decide) (by rw [p4.op.2.1]; decide) (fun _ => p4.op.2.1) j7 hE.symm)
    · simp [partsOf, Try.func11, Try.f11, flatC, G21, gh21, edQ, edC, T1, hx2, c1, d1, d2, hu, k4] at hE
      exact fin _ _ _ _ _ (by rw [p4.op.1]; rfl) (by rw [p4.op.2.2]; rfl) (by rw [p4.op.2.1]; decide) (fun _ => p4.op.2.1) j6 hE.symm
  · have k4 : k = 0 ∨ k = 1 ∨ k = 2 := by omega
    obtain ⟨n, i6, h6, d2, r2, j6⟩ := EX_sl01Below b i5 h5 4 hb j5 (by omega)
    obtain ⟨u, i7, h7, d3, r3, j7⟩ := EX_sl01Below b i6 h6 4 hb j6 (by omega)
    unfold curV at d2 d3
    by_cases hu : u = 0
    · subst hu
      obtain ⟨v, i8, h8, d4, r4, j8⟩ := EX_sl01Below b i7 h7 5 hb j7 (by omega)
      unfold curV at d4
      have vo : v = 0 ∨ v = 1 ∨ v = 2 ∨ v = 3 ∨ v = 4 := by omega
      rcases k4 with rfl | rfl | rfl <;> rcases vo with rfl | rfl | rfl | rfl | rfl <;>
        (simp [partsOf, Try.func11, Try.f11, flatC, G21, gh21, edQ, edC, T1, hx2, c1, d1, d2, d3, d4] at hE
         exact fin _ _ _ _ _ (by decide) (by decide) (by omega) (fun h => absurd h (by decide)) j8 hE.symm)
    · rcases k4 with rfl | rfl | rfl <;>
        (simp [partsOf, Try.func11, Try.f11, flatC, G21, gh21, edQ, edC, T1, hx2, c1, d1, d2, d3, hu] at hE
         exact fin _ _ _ _ _ (by decide) (by rw [p4.op.2.2]; rfl) (by omega) (fun h => absurd h (by decide)) j7 hE.symm)
end Go.Proofs.Ytnmneoekpikpkaa
namespace Go.Proofs.Ytnmneoekpikpkaa
open Go.RowKit
set_option linter.unusedSimpArgs false
set_option linter.unusedVariables false
set_option maxHeartbeats 8000000
set_option maxRecDepth 10000
def Fair (s : ByteArray) : Prop := ∃ ln, Reads s.data.toList ln [] ∧ fairB s ln [] = true
def asc (s : ByteArray) : List Int := s.data.toList.map fun b => (b.toNat : Int)
theorem fair_asc {s : ByteArray} (h1 : s.data.toList = textOf (asc s)) (h2 : (asc s).all printable = true) (h3 : s.size ≤ 60) : Fair s := by
  refine ⟨asc s, ⟨by rw [List.append_nil]; exact h1, fun r hr => ?_, rfl⟩, ?_⟩
  · have := List.all_eq_true.1 h2 r hr
    simp only [printable, Bool.and_eq_true] at this
    exact this.1.1
  · have hl : (asc s).length = s.size := by unfold asc; rw [List.length_map, Array.length_toList]; rfl
    unfold fairB
    rw [h2, decide_eq_true (show s.size ≤ 65536 by omega), decide_eq_true (show (asc s).length ≤ 60 by omega)]; rfl
theorem fair_run {s : ByteArray} (l : List Int) (h1 : s.data.toList = textOf l) (h2 : l.all printable = true) (h3 : s.size ≤ 60) (h4 : l.length ≤ 60) : Fair s := by
  refine ⟨l, ⟨by rw [List.append_nil]; exact h1, fun r hr => ?_, rfl⟩, ?_⟩
  · have := List.all_eq_true.1 h2 r hr
    simp only [printable, Bool.and_eq_true] at this
    exact this.1.1
  · unfold fairB
    rw [h2, decide_eq_true (show s.size ≤ 65536 by omega), decide_eq_true h4]; rfl
theorem EX_sl27Note (b : List UInt8) (i h : Int) (hb : b.length ≤ 1048576) (hi : 0 ≤ i ∧ i ≤ b.length) : ∃ (s : ByteArray) (i' h' : Int), M_sl27Note [.ref 0 0] [curV b i h] [] = some ⟨V.v (.string s), [curV b i' h'], []⟩ ∧ Fair s ∧ 0 ≤ i' ∧ i' ≤ b.length := by
  obtain ⟨k, i1, h1, e1, r1, j1⟩ := EX_sl01Below b i h 7 hb hi (by omega)
  unfold curV at e1
  generalize hE : M_sl27Note [.ref 0 0] [curV b i h] [] = R
  unfold M_sl27Note curV at hE
  have ko : k = 0 ∨ k = 1 ∨ k = 2 ∨ k = 3 ∨ k = 4 ∨ k = 5 ∨ k = 6 := by omega
  rcases ko with rfl | rfl | rfl | rfl | rfl | rfl | rfl <;>
    (simp [Try.func9, Try.f9, e1] at hE; first | exact ⟨_, _, _, hE.symm, fair_asc (by decide) (by decide) (by decide), j1⟩ | exact ⟨_, _, _, hE.symm, fair_run [233] (by decide) (by decide) (by decide) (by decide), j1⟩ | exact ⟨_, _, _, hE.symm, fair_run [20013] (by decide) (by decide) (by decide) (by decide), j1⟩ | exact ⟨_, _, _, hE.symm, fair_run [20013, 25991, 23383] (by decide) (by decide) (by decide) (by decide), j1⟩)
theorem EX_sl27Ps (b : List UInt8) (i h : Int) (hb : b.length ≤ 1048576) (hi : 0 ≤ i ∧ i ≤ b.length) : ∃ (s : ByteArray) (i' h' : Int), M_sl27Ps [.ref 0 0] [curV b i h] [] = some ⟨V.v (.string s), [curV b i' h'], []⟩ ∧ Fair s ∧ 0 ≤ i' ∧ i' ≤ b.length := by
  obtain ⟨k, i1, h1, e1, r1, j1⟩ := EX_sl01Below b i h 5 hb hi (by omega)
  unfold curV at e1
  generalize hE : M_sl27Ps [.ref 0 0] [curV b i h] [] = R
  unfold M_sl27Ps curV at hE
  have ko : k = 0 ∨ k = 1 ∨ k = 2 ∨ k = 3 ∨ k = 4 := by omega
  rcases ko with rfl | rfl | rfl | rfl | rfl <;>
    (simp [Try.func10, Try.f10, e1] at hE; first | exact ⟨_, _, _, hE.symm, fair_asc (by decide) (by decide) (by decide), j1⟩ | exact ⟨_, _, _, hE.symm, fair_run [233] (by decide) (by decide) (by decide) (by decide), j1⟩ | exact ⟨_, _, _, hE.symm, fair_run [20013] (by decide) (by decide) (by decide) (by decide), j1⟩ | exact ⟨_, _, _, hE.symm, fair_run [20013, 25991, 23383] (by decide) (by decide) (by decide) (by decide), j1⟩)
noncomputable def M_sMakeShowN : Mean := evFun Try.prog [(8, false, M_sl01New), (9, false, M_sl27Note), (10, false, M_sl27Ps), (11, false, M_sl21DrawN), (12, false, M_sl01Below)] ⟨[], [], [(5, [0, 1, 2, 3, 6, 4, 5, 7, 8, 9, 10, 11, 12, 13], [(4, [0, 1, 2, 6]), (7, [0, 1, 2, 5]), (11, [5, 8])])], []⟩ 4
theorem EX_sMakeShow (b : List UInt8) (hb : b.length ≤ 1048576) : ∃ (note ps : ByteArray) (e : TEd) (w h : Int), M_sMakeShowN [.lst (some 0) (byts b)] [] [] = some ⟨.tup [V.v (.string note), V.v (.string ps), .agg [V.v (.bool e.Vi), V.v (.int .i64 e.Mode), .own 0, V.v (.int .i64 e.Line.At), V.v (.int .i64 e.Count), V.v (.int .i64 e.Op), V.v (.int .i64 e.OpCount), V.v (.int .i64 e.Wait), V.v (.int .i64 e.FindR), V.v (.int .i64 e.FindHow), V.v (.int .i64 e.Last), .own 1, .own 2, V.v (.int .i64 e.Nav), .own 3, V.v (.int .i64 e.Own.At), .own 4, V.v (.int .i64 e.Hit), .own 5, V.v (.int .i64 e.Back.At)], V.v (.int .i64 w), V.v (.int .i64 h)], [], [(0, ints e.Line.Text), (1, dPieces e.Ring.Pieces), (2, dLines e.Undo.Lines), (3, ints e.Own.Text), (4, ints e.Query), (5, ints e.Back.Text)]⟩ ∧ Fair note ∧ Fair ps ∧ e.ok = true ∧ (2 ≤ w ∧ w ≤ 15) ∧ 1 ≤ h ∧ h ≤ 4 := by
  obtain ⟨h0, e0⟩ := EX_sl01New b hb
  obtain ⟨note, i1, h1, e1, r1, j1⟩ := EX_sl27Note b 0 h0 hb (by omega)
  obtain ⟨ps, i2, h2, e2, r2, j2⟩ := EX_sl27Ps b i1 h1 hb j1
  obtain ⟨e, i3, h3, e3, r3, j3⟩ := EX_sl21Draw b i2 h2 hb j2
  obtain ⟨x, i4, h4, e4, r4, j4⟩ := EX_sl01Below b i3 h3 14 hb j3 (by omega)
  obtain ⟨y, i5, h5, e5, r5, j5⟩ := EX_sl01Below b i4 h4 4 hb j4 (by omega)
  unfold curV at e0 e1 e2 e3 e4 e5
  have w1 := w64 (2 + x) (by omega)
  have w2 := w64 (1 + y) (by omega)
  generalize hE : M_sMakeShowN _ _ _ = R
  unfold M_sMakeShowN at hE
  simp [Try.func4, Try.f4, e0, e1, e2, e3, e4, e5, w1, w2] at hE
  exact ⟨note, ps, e, 2 + x, 1 + y, hE.symm, r1, r2, r3, by omega, by omega, by omega⟩
theorem sm_pieces {l : List TPiece} (h : ringOk l = true) : smL (dPieces l) = true := by
  simp only [ringOk, Bool.and_eq_true, decide_eq_true_eq] at h
  refine bnL_of (by simp; omega) fun j r e => ?_
  have hj : j < l.length := by have := (List.getElem?_eq_some_iff.1 e).1; simpa using this
  rw [dPieces_get hj] at e
  injection e with e; subst e
  have := List.all_eq_true.1 h.1 l[j] (List.getElem_mem hj)
  simp only [pieceB, textOk, Bool.and_eq_true, decide_eq_true_eq] at this
  simp only [bnR_cons, bnR_nil, bnD_l, Bool.and_true]
  exact bnL_ints (by omega)
theorem sm_lines {l : List TLine} (h : undoOk l = true) : smL (dLines l) = true := by
  simp only [undoOk, Bool.and_eq_true, decide_eq_true_eq] at h
  refine bnL_of (by simp; omega) fun j r e => ?_
  have hj : j < l.length := by have := (List.getElem?_eq_some_iff.1 e).1; simpa using this
  rw [dLines_get hj] at e
  injection e with e; subst e
  have := List.all_eq_true.1 h.1 l[j] (List.getElem_mem hj)
  simp only [lineB, lineOk, textOk, Bool.and_eq_true, decide_eq_true_eq] at this
  simp only [bnR_cons, bnR_nil, bnD_l, bnD_a, Bool.and_true]
  exact bnL_ints (by omega)
theorem TEd.sm_of {e : TEd} (h : e.ok = true) : e.sm := by
  simp only [TEd.ok, edOk, Bool.and_eq_true, decide_eq_true_eq] at h
  obtain ⟨a1, a2, a3, a4, a5, a6, a7, a8, a9, a10, a11, a12, a13, a14, a15, a16⟩ := h
  have len : ∀ {l : List Int} {a : Int}, lineOk l a = true → l.length ≤ 1000000000 := fun h => by
    simp only [lineOk, textOk, Bool.and_eq_true, decide_eq_true_eq] at h; omega
  exact ⟨len a1, len a2, len a3, by omega, sm_pieces a9, sm_lines a10⟩
end Go.Proofs.Ytnmneoekpikpkaa
namespace Go.Proofs.Ytnmneoekpikpkaa
open Go.RowKit
set_option linter.unusedSimpArgs false
set_option linter.unusedVariables false
set_option maxHeartbeats 8000000
set_option maxRecDepth 10000
theorem intss_one (l : List Int) : [[D.l (ints l)]] = intss [l] := rfl
theorem E_ireach_no (w x y Y : Int) (rows : List (List Int)) (h : Y < (rows.length : Int)) : M_i_sheet_reach [.ref 0 0, V.v (.int .i64 Y)] [[V.v (.int .i64 w), V.v (.int .i64 x), V.v (.int .i64 y), .own 0]] [intss rows] = some ⟨.tup [], [[V.v (.int .i64 w), V.v (.int .i64 x), V.v (.int .i64 y), .own 0]], [(0, intss rows)]⟩ := by
  unfold M_i_sheet_reach
  have h1 : ¬ ((rows.length : Int) ≤ Y) := by omega
  simp [Try.func21, Try.f21]
  rw [loopV_unf]
  simp [h1]
theorem E_ireach (w x y Y : Int) (c : Nat → Int) (W k n : Nat) (hw : w = W) (hW : W ≤ 200) (hn : Y = (k : Int) + n) (hk : (k : Int) + n ≤ 100000) (hc : ∀ i, k * W ≤ i → c i = 32) : M_i_sheet_reach [.ref 0 0, V.v (.int .i64 Y)] [[V.v (.int .i64 w), V.v (.int .i64 x), V.v (.int .i64 y), .own 0]] [intss (sheet c W k)] = some ⟨.tup [], [[V.v (.int .i64 w), V.v (.int .i64 x), V.v (.int .i64 y), .own 1]], [(1, intss (sheet c W (k + n + 1)))]⟩ := by
  unfold M_i_sheet_reach
  subst hw; subst hn
  simp [Try.func21, Try.f21]
  rw [loopV_go (fun j => .on ⟨[(1, V.v (.int .i64 ((k : Int) + (n : Int)))), (0, .ref 1000000000 0)], [(1000000000, [V.v (.int .i64 ((W : Int))), V.v (.int .i64 x), V.v (.int .i64 y), .own (if j = 0 then 1000000000 else 2000000000)])], [(if j = 0 then 1000000000 else 2000000000, intss (sheet c W (k + j)))], []⟩) (n + 1) ?_ ?_]
  · have h1 : ¬ ((n : Int) + 1 ≤ n) := by omega
    simp [h1]
    rw [Nat.add_assoc]
  · simp
  · intro j hj
    have hg := sheet_grow (c := c) (w := W) (k := k + j) (fun i hi => hc i (by have := Nat.mul_le_mul_right W (show k ≤ k + j by omega); omega))
    cases j with
    | zero =>
      have hg' : sheet c W (k + 1) = sheet c W k ++ [List.replicate W 32] := hg.symm
      have h1 : (k : Int) ≤ (k : Int) + n := by omega
      simp [h1]
      rw [loopV_go (fun i => .on ⟨[(16, V.v (.int .i64 ((i : Int)))), (15, V.v (.int .i64 ((W : Int)))), (4, .own 2000000000), (1, V.v (.int .i64 ((k : Int) + (n : Int)))), (0, .ref 1000000000 0)], [(1000000000, [V.v (.int .i64 ((W : Int))), V.v (.int .i64 x), V.v (.int .i64 y), .own 1000000000])], [(1000000000, intss (sheet c W (k))), (2000000000, ints (blanks i))], []⟩) W ?_ ?_]
      · simp
        simp (disch := omega) only [grd_pos]
        simp [hg', blanks, intss_one]
      · simp [blanks, ints_nil]
      · intro i hi
        have hw := w64 (i + 1) (by omega)
        have hb := blanks_len i
        simp [hi, hw, hb]
        simp (disch := omega) only [grd_pos]
        simp [hw, ← blanks_snoc]
    | succ j =>
      have hg' : sheet c W (k + (j + 1 + 1)) = sheet c W (k + (j + 1)) ++ [List.replicate W 32] := hg.symm
      have h1 : (j : Int) + 1 ≤ n := by omega
      simp [h1]
      rw [loopV_go (fun i => .on ⟨[(16, V.v (.int .i64 ((i : Int)))), (15, V.v (.int .i64 ((W : Int)))), (4, .own 2000000000), (1, V.v (.int .i64 ((k : Int) + (n : Int)))), (0, .ref 1000000000 0)], [(1000000000, [V.v (.int .i64 ((W : Int))), V.v (.int .i64 x), V.v (.int .i64 y), .own 2000000001])], [(2000000001, intss (sheet c W (k + (j + 1)))), (2000000000, ints (blanks i))], []⟩) W ?_ ?_]
      · simp
        simp (disch := omega) only [grd_pos]
        simp [hg', blanks, intss_one]
      · simp [blanks, ints_nil]
      · intro i hi
        have hw := w64 (i + 1) (by omega)
        have hb := blanks_len i
        simp [hi, hw, hb]
        simp (disch := omega) only [grd_pos]
        simp [hw, ← blanks_snoc]
end Go.Proofs.Ytnmneoekpikpkaa
namespace Go.Proofs.Ytnmneoekpikpkaa
open Go.RowKit
def upTo (z : List D) (rows : List (List D)) (j : Nat) : List (List D) := rows.take j ++ List.replicate (rows.length - j) z
theorem upTo_zero (z : List D) (rows : List (List D)) : List.replicate rows.length z = upTo z rows 0 := by simp [upTo]
theorem upTo_end (z : List D) (rows : List (List D)) : upTo z rows rows.length = rows := by simp [upTo]
@[simp] theorem upTo_len {z : List D} {rows : List (List D)} {j : Nat} (h : j ≤ rows.length) : (upTo z rows j).length = rows.length := by simp [upTo]; omega
theorem upTo_get {z : List D} {rows : List (List D)} {j : Nat} (h : j < rows.length) : (upTo z rows j)[j]? = some z := by
  unfold upTo
  rw [List.getElem?_append_right (by simp; omega), List.getElem?_replicate, if_pos (by simp; omega)]
theorem upTo_at {z : List D} {rows : List (List D)} {j : Nat} (h : j < rows.length) (h' : j < (upTo z rows j).length) : (upTo z rows j)[j] = z := by
  have := upTo_get (z := z) h
  rw [List.getElem?_eq_getElem h'] at this
  injection this
theorem upTo_set {z r : List D} {rows : List (List D)} {j : Nat} (h : rows[j]? = some r) : (upTo z rows j).set j r = upTo z rows (j + 1) := by
  have hj : j < rows.length := (List.getElem?_eq_some_iff.1 h).1
  unfold upTo
  rw [List.set_append_right _ _ (by simp; omega)]
  rw [show rows.length - j = (rows.length - (j + 1)) + 1 by omega, List.replicate_succ, List.take_add_one, h]
  have : j - (List.take j rows).length = 0 := by simp; omega
  rw [this, List.set_cons_zero]
  simp
theorem runs (n : Nat) (x0 : Int) (hx0 : 0 ≤ x0) (Pm : Nat → Int → Int → Prop) (H : ∀ j x, j < n → 0 ≤ x → x ≤ x0 → ∃ m, Pm j x m ∧ -1 ≤ m ∧ m ≤ x) :
    ∃ xs : Nat → Int, xs 0 = x0 ∧ (((∀ j, j ≤ n → 0 ≤ xs j ∧ xs j ≤ x0) ∧ ∀ j, j < n → Pm j (xs j) (xs (j + 1))) ∨ ∃ N, N < n ∧ (∀ j, j ≤ N → 0 ≤ xs j ∧ xs j ≤ x0) ∧ (∀ j, j ≤ N → Pm j (xs j) (xs (j + 1))) ∧ xs (N + 1) = -1) := by
  have H' : ∀ j x, ∃ m, j < n → 0 ≤ x → x ≤ x0 → Pm j x m ∧ -1 ≤ m ∧ m ≤ x := fun j x => by
    by_cases h : j < n ∧ 0 ≤ x ∧ x ≤ x0
    · obtain ⟨m, hm⟩ := H j x h.1 h.2.1 h.2.2; exact ⟨m, fun _ _ _ => hm⟩
    · exact ⟨0, fun a b c => absurd ⟨a, b, c⟩ h⟩
  let xs : Nat → Int := fun j => Nat.rec x0 (fun j x => Classical.choose (H' j x)) j
  have hs : ∀ j, xs (j + 1) = Classical.choose (H' j (xs j)) := fun j => rfl
  have hp : ∀ j, j < n → 0 ≤ xs j → xs j ≤ x0 → Pm j (xs j) (xs (j + 1)) ∧ -1 ≤ xs (j + 1) ∧ xs (j + 1) ≤ xs j := fun j a b c => by
    rw [hs]; exact Classical.choose_spec (H' j (xs j)) a b c
  refine ⟨xs, rfl, ?_⟩
  have all : ∀ k, k ≤ n → ((∀ j, j ≤ k → 0 ≤ xs j ∧ xs j ≤ x0) ∧ ∀ j, j < k → Pm j (xs j) (xs (j + 1))) ∨ ∃ N, N < n ∧ (∀ j, j ≤ N → 0 ≤ xs j ∧ xs j ≤ x0) ∧ (∀ j, j ≤ N → Pm j (xs j) (xs (j + 1))) ∧ xs (N + 1) = -1 := by
    intro k
    induction k with
    | zero =>
      intro _
      refine .inl ⟨fun j hj => ?_, fun j hj => by omega⟩
      have : j = 0 := by omega
      subst this
      exact ⟨hx0, Int.le_refl _⟩
    | succ k ih =>
      intro hk
      rcases ih (by omega) with ⟨h1, h2⟩ | h
      · obtain ⟨a, b, c⟩ := hp k (by omega) (h1 k (Nat.le_refl _)).1 (h1 k (Nat.le_refl _)).2
        have hpm : ∀ j, j < k + 1 → Pm j (xs j) (xs (j + 1)) := fun j hj => by
          rcases Nat.lt_or_ge j k with h | h
          · exact h2 j h
          · obtain rfl : j = k := by omega
            exact a
        by_cases hn : xs (k + 1) < 0
        · exact .inr ⟨k, by omega, h1, fun j hj => hpm j (by omega), by omega⟩
        · refine .inl ⟨fun j hj => ?_, hpm⟩
          rcases Nat.lt_or_ge j (k + 1) with h | h
          · exact h1 j (by omega)
          · obtain rfl : j = k + 1 := by omega
            have := (h1 k (Nat.le_refl _)).2
            omega
      · exact .inr h
  exact all n (Nat.le_refl _)
theorem Codec.rows_set {α : Type} (C : Codec α) (l : List α) (j : Nat) (x : α) : (C.rows l).set j (C.enc x) = C.rows (l.set j x) := by
  show (l.map C.enc).set j (C.enc x) = (l.set j x).map C.enc
  rw [List.map_set]
theorem runsG {α : Type} (n : Nat) (I : Nat → α → Prop) (a0 : α) (h0 : I 0 a0) (Pm : Nat → α → α → Prop) (H : ∀ j a, j < n → I j a → ∃ b, Pm j a b ∧ I (j + 1) b) :
    ∃ xs : Nat → α, xs 0 = a0 ∧ (∀ j, j ≤ n → I j (xs j)) ∧ ∀ j, j < n → Pm j (xs j) (xs (j + 1)) := by
  have H' : ∀ j a, ∃ b, j < n → I j a → Pm j a b ∧ I (j + 1) b := fun j a => by
    by_cases h : j < n ∧ I j a
    · obtain ⟨b, hb⟩ := H j a h.1 h.2; exact ⟨b, fun _ _ => hb⟩
    · exact ⟨a0, fun x y => absurd ⟨x, y⟩ h⟩
  let xs : Nat → α := fun j => Nat.rec a0 (fun j x => Classical.choose (H' j x)) j
  have hs : ∀ j, xs (j + 1) = Classical.choose (H' j (xs j)) := fun j => rfl
  have hI : ∀ j, j ≤ n → I j (xs j) := by
    intro j
    induction j with
    | zero => intro _; exact h0
    | succ j ih => intro hj; rw [hs]; exact (Classical.choose_spec (H' j (xs j)) (by omega) (ih (by omega))).2
  exact ⟨xs, rfl, hI, fun j hj => by rw [hs]; exact (Classical.choose_spec (H' j (xs j)) hj (hI j (by omega))).1⟩
end Go.Proofs.Ytnmneoekpikpkaa
namespace Go.Proofs.Ytnmneoekpikpkaa
open Go.RowKit
set_option linter.unusedSimpArgs false
set_option linter.unusedVariables false
set_option maxHeartbeats 8000000
set_option maxRecDepth 10000
def rise (W : Nat) (p : Int × Int) (t : List Int) (k : Nat) : Nat := if t.isEmpty then k else max k ((flow W t p).2.toNat + 1)
theorem rise_take {W : Nat} (hW : 2 ≤ W) {p : Int × Int} (hp : 0 ≤ p.1 ∧ p.1 ≤ W) (hy : 0 ≤ p.2) {t : List Int} {k j : Nat} (h : j < t.length) : rise W p (t.take (j + 1)) k = max (rise W p (t.take j) k) ((flow W (t.take (j + 1)) p).2.toNat + 1) := by
  have e1 : (t.take (j + 1)).isEmpty = false := by
    cases t with
    | nil => simp at h
    | cons => rfl
  obtain ⟨a, b, c⟩ := flow_in (w := W) (by omega) (t.take j) p hp
  obtain ⟨a', b', c'⟩ := flowS_in (w := W) (by omega) a t[j]
  rw [← flow_take h] at b' c'
  unfold rise
  rw [e1]
  cases j with
  | zero => simp
  | succ j =>
    have e2 : (t.take (j + 1)).isEmpty = false := by
      cases t with
      | nil => simp at h
      | cons => rfl
    rw [e2]
    simp only [if_false, Bool.false_eq_true]
    omega
theorem upd1_blank {c : Nat → Int} {m i : Nat} (h : ∀ i, m ≤ i → c i = 32) (hi : i < m) (r : Int) : ∀ j, m ≤ j → upd1 c i r j = 32 := fun j hj => by
  unfold upd1
  rw [if_neg (by omega), h j hj]
theorem at_lt {W k : Nat} {p : Int × Int} (h1 : p.1.toNat < W) (h2 : p.2.toNat < k) : atp W p < k * W := by
  unfold atp
  have := Nat.mul_le_mul_right W (show p.2.toNat + 1 ≤ k from h2)
  rw [Nat.add_mul] at this
  omega
theorem ink1_blank {W : Nat} {c : Nat → Int} {k : Nat} {p : Int × Int} {r : Int} (hr : 0 < wd r) (h0 : 0 ≤ p.1) (h1 : p.1 + wd r ≤ W) (h2 : p.2.toNat < k) (h : ∀ i, k * W ≤ i → c i = 32) : ∀ i, k * W ≤ i → ink1 W c p r i = 32 := by
  unfold ink1
  split
  · rename_i h3
    refine upd1_blank (upd1_blank h (at_lt (by omega) h2) r) ?_ _
    have := at_lt (W := W) (k := k) (p := (p.1 + 1, p.2)) (by simp only; omega) h2
    unfold atp at this ⊢
    simp only at this
    omega
  · exact upd1_blank h (at_lt (by omega) h2) r
theorem inks_blank {W : Nat} (hW : 2 ≤ W) {p : Int × Int} (hp : 0 ≤ p.1 ∧ p.1 ≤ W) (hy : 0 ≤ p.2) {t : List Int} (ht : t.all printable = true) {c : Nat → Int} {k : Nat} (hc : ∀ i, k * W ≤ i → c i = 32) : ∀ j, j ≤ t.length → ∀ i, rise W p (t.take j) k * W ≤ i → (inks W (t.take j) (c, p)).1 i = 32
  | 0, _ => by simpa [rise, inks] using hc
  | j + 1, h => by
    have ih := inks_blank hW hp hy ht hc j (by omega)
    have hj : j < t.length := h
    have hall : (t.take j).all printable = true := List.all_eq_true.2 fun x hx => List.all_eq_true.1 ht x (List.mem_of_mem_take hx)
    have hpr := List.all_eq_true.1 ht t[j] (List.getElem_mem hj)
    have e1 := inks_flow (w := W) (t.take j) (c, p) hall
    rw [inks_take hj, rise_take hW hp hy hj]
    obtain ⟨a, b, d⟩ := flow_in (w := W) (by omega) (t.take j) p hp
    have e2 := flow_take (w := W) (p := p) hj
    generalize hq : inks W (t.take j) (c, p) = s at *
    obtain ⟨cs, q⟩ := s
    simp only at e1 ih
    rw [← e1] at a b d e2
    have pl := plc_in (w := W) (by omega) a t[j]
    have e3 : (flow W (t.take (j + 1)) p).2 = (plc W q t[j]).2 := by rw [e2]; simp only [flowS, hpr, if_true]
    have hw : 0 < wd t[j] := by rcases wd_print hpr with e | e <;> omega
    rw [e3]
    show ∀ i, _ → ink1 W cs (plc W q t[j]) t[j] i = 32
    refine ink1_blank hw pl.1 pl.2.1 (by omega) fun i hi => ih i ?_
    exact Nat.le_trans (Nat.mul_le_mul_right W (Nat.le_max_left _ _)) hi
theorem ints_set (l : List Int) (i : Nat) (x : Int) : (ints l).set i [D.a (.int .i64 x)] = ints (l.set i x) := Codec.rows_set c_ints l i x
theorem intss_set (l : List (List Int)) (i : Nat) (x : List Int) : (intss l).set i [D.l (ints x)] = intss (l.set i x) := Codec.rows_set c_intss l i x
theorem sheet_row {c : Nat → Int} {W K Y : Nat} (h : Y < K) : (intss (sheet c W K))[Y]? = some [D.l (ints (rowAt c W Y))] := by
  rw [intss_get (by simpa using h)]
  have := sheet_get (c := c) (w := W) h
  rw [List.getElem?_eq_getElem (by simpa using h)] at this
  injection this with this
  rw [this]
@[simp] theorem sheet_at {c : Nat → Int} {W K Y : Nat} (h : Y < (sheet c W K).length) : (sheet c W K)[Y] = rowAt c W Y := by simp [sheet]
theorem sheet_put {c : Nat → Int} {W K X Y : Nat} (hx : X < W) (h : Y < K) (r : Int) : (intss (sheet c W K)).set Y [D.l ((ints (rowAt c W Y)).set X [D.a (.int .i64 r)])] = intss (sheet (upd1 c (Y * W + X) r) W K) := by
  rw [ints_set, intss_set, sheet_set hx h]
theorem E_iwrite (t : List Int) (W k : Nat) (hW : 2 ≤ W ∧ W ≤ 200) (c : Nat → Int) (x y : Int) (hx : 0 ≤ x ∧ x ≤ W) (hy : 0 ≤ y ∧ y ≤ 10000) (ht : t.all printable = true) (hl : t.length ≤ 10000) (hk : k ≤ 20000) (hc : ∀ i, k * W ≤ i → c i = 32) :
    M_i_sheet_write [.ref 0 0, .lst (some 0) (ints t)] [[V.v (.int .i64 ((W : Int))), V.v (.int .i64 x), V.v (.int .i64 y), .own 0]] [intss (sheet c W k)] =
      if rise W (x, y) t k = k then some ⟨.tup [], [[V.v (.int .i64 ((W : Int))), V.v (.int .i64 ((flow W t (x, y)).1)), V.v (.int .i64 ((flow W t (x, y)).2)), .own 0]], [(0, intss (sheet (inks W t (c, (x, y))).1 W (rise W (x, y) t k)))]⟩
      else some ⟨.tup [], [[V.v (.int .i64 ((W : Int))), V.v (.int .i64 ((flow W t (x, y)).1)), V.v (.int .i64 ((flow W t (x, y)).2)), .own 1]], [(1, intss (sheet (inks W t (c, (x, y))).1 W (rise W (x, y) t k)))]⟩ := by
  unfold M_i_sheet_write
  simp [Try.func16, Try.f16]
  rw [loopV_go (fun j => .on ⟨[(8, V.v (.int .i64 ((j : Int)))), (7, V.v (.int .i64 ((t.length : Int)))), (6, .lst (some 0) (ints t)), (0, .ref 1000000000 0)], [(1000000000, [V.v (.int .i64 ((W : Int))), V.v (.int .i64 ((flow W (t.take j) (x, y)).1)), V.v (.int .i64 ((flow W (t.take j) (x, y)).2)), .own (if rise W (x, y) (t.take j) k = k then 1000000000 else 2000000000)])], [(if rise W (x, y) (t.take j) k = k then 1000000000 else 2000000000, intss (sheet (inks W (t.take j) (c, (x, y))).1 W (rise W (x, y) (t.take j) k)))], []⟩) t.length ?_ ?_]
  · by_cases hr : rise W (x, y) t k = k <;> simp [hr]
  · simp [rise, flow, inks]
  · intro j hj
    have hw := w64 (j + 1) (by omega)
    have hbl := inks_blank hW.1 (p := (x, y)) hx hy.1 ht hc j (by omega)
    have hpr := List.all_eq_true.1 ht t[j] (List.getElem_mem hj)
    have hall : (t.take j).all printable = true := List.all_eq_true.2 fun x hx => List.all_eq_true.1 ht x (List.mem_of_mem_take hx)
    have e1 := inks_flow (w := W) (t.take j) (c, (x, y)) hall
    have e2 := flow_take (w := W) (p := (x, y)) hj
    have e3 := rise_take hW.1 (p := (x, y)) hx hy.1 (k := k) hj
    have e4 := inks_take (w := W) (s := (c, (x, y))) hj
    obtain ⟨a, b, d⟩ := flow_in (w := W) (by omega) (t.take j) (x, y) hx
    have a5 : (t.take j).length ≤ j := by simp; omega
    have hK : rise W (x, y) (t.take j) k ≤ 40000 := by unfold rise; split <;> omega
    have hK2 : k ≤ rise W (x, y) (t.take j) k := by unfold rise; split <;> omega
    generalize hq : flow W (t.take j) (x, y) = q at *
    generalize hs : inks W (t.take j) (c, (x, y)) = s at *
    generalize hKK : rise W (x, y) (t.take j) k = K at *
    obtain ⟨cs, q'⟩ := s
    simp only at e1 hbl
    subst e1
    have pl := plc_in (w := W) (by omega) a t[j]
    have hwd := wd_print hpr
    rw [e2] at e3
    simp only [flowS, hpr, if_true] at e2 e3
    have E := E_iplaced t[j] W q'.1 q'.2 (by omega) (by omega)
    rw [show ((q'.1, q'.2) : Int × Int) = q' from rfl] at E
    simp only [inkS] at e4
    generalize plc W q' t[j] = n at *
    obtain ⟨X, hX⟩ := Int.eq_ofNat_of_zero_le pl.1
    obtain ⟨Y, hY⟩ := Int.eq_ofNat_of_zero_le (show 0 ≤ n.2 by simp only at b; omega)
    obtain ⟨n1, n2⟩ := n
    simp only at hX hY
    subst hX; subst hY
    simp only at *
    have hXW : X < W := by omega
    have hX1 : (0 : Int) ≤ (X : Int) + 1 := by omega
    have hY1 : (Y : Int) < (Y : Int) + 1 := by omega
    have g1 : (X : Int) < W := by omega
    have w2 : IntKind.i64.wrap ((X : Int) + wd t[j]) = (X : Int) + wd t[j] := w64 _ (by omega)
    have w3 : IntKind.i64.wrap ((X : Int) + 1) = (X : Int) + 1 := w64 _ (by omega)
    by_cases hA : K = k
    · subst hA
      by_cases hg : Y < K
      · skip
        have E' := E_ireach_no W X Y Y (sheet cs W K) (by simp; omega)
        have hm : max K (Y + 1) = K := by omega
        have hg' : Y < K := hg
        have r1 := sheet_row (c := cs) (W := W) hg'
        rcases hwd with hd | hd
        · simp [hX1, hY1, hj, hw, ints_get hj, E, E', E_iWidth, hd, hg', hXW, g1, r1, sheet_put hXW hg', e2, e3, e4, ink1, atp, w3, hm]
        · have g2 : X + 1 < W := by omega
          have g3 : (X : Int) + 1 < W := by omega
          have w4 := w64 ((X : Int) + 2) (by omega)
          have r2 := sheet_row (c := upd1 cs (Y * W + X) t[j]) (W := W) hg'
          simp [hX1, hY1, hj, hw, ints_get hj, E, E', E_iWidth, hd, hg', hXW, g1, r1, r2, sheet_put hXW hg', sheet_put g2 hg', g2, g3, e2, e3, e4, ink1, atp, w3, w4, Nat.add_assoc, hm]
      · skip
        have E' := E_ireach W X Y Y cs W K (Y - K) rfl hW.2 (by omega) (by omega) hbl
        rw [show K + (Y - K) + 1 = Y + 1 by omega] at E'
        have hm : max K (Y + 1) = Y + 1 := by omega
        have hg' : Y < Y + 1 := by omega
        have hn1 : ¬ (Y + 1 = K) := by omega
        have r1 := sheet_row (c := cs) (W := W) hg'
        rcases hwd with hd | hd
        · simp [hX1, hY1, hj, hw, ints_get hj, E, E', E_iWidth, hd, hg', hXW, g1, r1, sheet_put hXW hg', e2, e3, e4, ink1, atp, w3, hm, hn1]
        · have g2 : X + 1 < W := by omega
          have g3 : (X : Int) + 1 < W := by omega
          have w4 := w64 ((X : Int) + 2) (by omega)
          have r2 := sheet_row (c := upd1 cs (Y * W + X) t[j]) (W := W) hg'
          simp [hX1, hY1, hj, hw, ints_get hj, E, E', E_iWidth, hd, hg', hXW, g1, r1, r2, sheet_put hXW hg', sheet_put g2 hg', g2, g3, e2, e3, e4, ink1, atp, w3, w4, Nat.add_assoc, hm, hn1]
    · by_cases hg : Y < K
      · skip
        have E' := E_ireach_no W X Y Y (sheet cs W K) (by simp; omega)
        have hm : max K (Y + 1) = K := by omega
        have hg' : Y < K := hg
        have r1 := sheet_row (c := cs) (W := W) hg'
        rcases hwd with hd | hd
        · simp [hX1, hY1, hj, hw, ints_get hj, E, E', E_iWidth, hd, hg', hXW, g1, r1, sheet_put hXW hg', e2, e3, e4, ink1, atp, w3, hm, hA]
        · have g2 : X + 1 < W := by omega
          have g3 : (X : Int) + 1 < W := by omega
          have w4 := w64 ((X : Int) + 2) (by omega)
          have r2 := sheet_row (c := upd1 cs (Y * W + X) t[j]) (W := W) hg'
          simp [hX1, hY1, hj, hw, ints_get hj, E, E', E_iWidth, hd, hg', hXW, g1, r1, r2, sheet_put hXW hg', sheet_put g2 hg', g2, g3, e2, e3, e4, ink1, atp, w3, w4, Nat.add_assoc, hm, hA]
      · skip
        have E' := E_ireach W X Y Y cs W K (Y - K) rfl hW.2 (by omega) (by omega) hbl
        rw [show K + (Y - K) + 1 = Y + 1 by omega] at E'
        have hm : max K (Y + 1) = Y + 1 := by omega
        have hg' : Y < Y + 1 := by omega
        have hn1 : ¬ (Y + 1 = k) := by omega
        have r1 := sheet_row (c := cs) (W := W) hg'
        rcases hwd with hd | hd
        · simp [hX1, hY1, hj, hw, ints_get hj, E, E', E_iWidth, hd, hg', hXW, g1, r1, sheet_put hXW hg', e2, e3, e4, ink1, atp, w3, hm, hn1, hA]
        · have g2 : X + 1 < W := by omega
          have g3 : (X : Int) + 1 < W := by omega
          have w4 := w64 ((X : Int) + 2) (by omega)
          have r2 := sheet_row (c := upd1 cs (Y * W + X) t[j]) (W := W) hg'
          simp [hX1, hY1, hj, hw, ints_get hj, E, E', E_iWidth, hd, hg', hXW, g1, r1, r2, sheet_put hXW hg', sheet_put g2 hg', g2, g3, e2, e3, e4, ink1, atp, w3, w4, Nat.add_assoc, hm, hn1, hA]
end Go.Proofs.Ytnmneoekpikpkaa
namespace Go.Proofs.Ytnmneoekpikpkaa
open Go.RowKit
set_option linter.unusedSimpArgs false
set_option linter.unusedVariables false
set_option maxHeartbeats 8000000
set_option maxRecDepth 10000
theorem win_in {c : Nat → Int} {W top h D X : Nat} (hD : D < h) (hX : X < W) (r : Int) : (win c W top h).set (D * W + X) r = win (upd1 c ((top + D) * W + X) r) W top h := by
  rw [win_set]
  · rw [Nat.add_mul, Nat.add_assoc]
  · have := Nat.mul_le_mul_right W (show D + 1 ≤ h from hD)
    rw [Nat.add_mul] at this; omega
theorem win_ink_out {c : Nat → Int} {W top h X Y : Nat} (hY : Y < top ∨ top + h ≤ Y) {r : Int} (hX : (X : Int) + wd r ≤ W) (hw : 0 < wd r) : win (ink1 W c ((X : Int), (Y : Int)) r) W top h = win c W top h := by
  have key : ∀ i, X + i < W → Y * W + X + i < top * W ∨ (top + h) * W ≤ Y * W + X + i := by
    intro i hi
    rcases hY with h1 | h1
    · have := Nat.mul_le_mul_right W (show Y + 1 ≤ top from h1)
      rw [Nat.add_mul] at this; omega
    · have := Nat.mul_le_mul_right W h1
      omega
  unfold ink1 atp
  simp only [Int.toNat_natCast]
  split
  · rename_i h2
    rw [win_out (key 1 (by omega)), win_out (i := Y * W + X) (key 0 (by omega))]
  · exact win_out (key 0 (by omega)) r
end Go.Proofs.Ytnmneoekpikpkaa
namespace Go.Proofs.Ytnmneoekpikpkaa
open Go.RowKit
set_option linter.unusedSimpArgs false
set_option linter.unusedVariables false
set_option maxHeartbeats 16000000
set_option maxRecDepth 100000
theorem atEnd_no {l : List Int} {a : Int} (h : atEnd l a = false) : l = [] ∨ (l ≠ [] ∧ ¬ a = l.length) := by
  cases l with
  | nil => exact .inl rfl
  | cons x l => exact .inr ⟨by simp, by simpa [atEnd] using h⟩
theorem atEnd_yes {l : List Int} {a : Int} (h : atEnd l a = true) : 0 < l.length ∧ a = l.length := by
  simpa [atEnd, List.length_pos_iff] using h
end Go.Proofs.Ytnmneoekpikpkaa
namespace Go.Proofs.Ytnmneoekpikpkaa
open Go.RowKit
set_option linter.unusedSimpArgs false
set_option linter.unusedVariables false
set_option maxHeartbeats 16000000
set_option maxRecDepth 100000
end Go.Proofs.Ytnmneoekpikpkaa
namespace Go.Proofs.Ytnmneoekpikpkaa
open Go.RowKit
set_option linter.unusedSimpArgs false
set_option linter.unusedVariables false
set_option maxHeartbeats 8000000
set_option maxRecDepth 100000
end Go.Proofs.Ytnmneoekpikpkaa
namespace Go.Proofs.Ytnmneoekpikpkaa
open Go.RowKit
set_option linter.unusedSimpArgs false
set_option linter.unusedVariables false
set_option maxHeartbeats 16000000
set_option maxRecDepth 100000
def shY0 (W : Nat) (n : List Int) : Int := if n.isEmpty then 0 else (flow W n (0, 0)).2 + 1
def shP1 (W : Nat) (n p : List Int) : Int × Int := flow W p (0, shY0 W n)
def shP2 (W : Nat) (n p bf : List Int) : Int × Int := flow W bf (shP1 W n p)
def shCur (W : Nat) (n p bf rs : List Int) : Int × Int := plc W (shP2 W n p bf) (rs.head?.getD 32)
def shTop (W H : Nat) (n p bf rs : List Int) : Nat := ((shCur W n p bf rs).2 - H + 1).toNat
def shC (W : Nat) (n p bf rs : List Int) : Nat → Int := (inks W (bf ++ rs) ((inks W p ((inks W n (fun _ => 32, (0, 0))).1, (0, shY0 W n))).1, shP1 W n p)).1
theorem fair_of {s : ByteArray} {l : List Int} {r : List UInt8} (h : fairB s l r = true) : s.size ≤ 65536 ∧ r = [] ∧ l.length ≤ 60 ∧ l.all printable = true := by
  simp only [fairB, Bool.and_eq_true, decide_eq_true_eq] at h
  obtain ⟨⟨⟨a, b⟩, c⟩, d⟩ := h
  exact ⟨a, by simpa using b, c, d⟩
theorem grid_nat {w h : Int} (hg : gridNewOk w h = true) : ∃ W H : Nat, w = W ∧ h = H ∧ (2 ≤ W ∧ W ≤ 200) ∧ (1 ≤ H ∧ H ≤ 200) := by
  obtain ⟨a, b, -, -⟩ := gridNewOk_of hg
  obtain ⟨W, hW⟩ := Int.eq_ofNat_of_zero_le (show 0 ≤ w by omega)
  obtain ⟨H, hH⟩ := Int.eq_ofNat_of_zero_le (show 0 ≤ h by omega)
  exact ⟨W, H, hW, hH, by omega, by omega⟩
theorem lineOk_of {t : List Int} {a : Int} (h : lineOk t a = true) : t.length ≤ 400 ∧ t.all typed = true ∧ ∃ A : Nat, a = A ∧ A ≤ t.length := by
  simp only [lineOk, textOk, Bool.and_eq_true, decide_eq_true_eq] at h
  obtain ⟨⟨h1, h2⟩, h3⟩ := h
  obtain ⟨a1, a2⟩ := inR_of h3
  obtain ⟨A, hA⟩ := Int.eq_ofNat_of_zero_le a1
  exact ⟨h1, h2, A, hA, by omega⟩
structure ShB (W : Nat) (n p bf rs : List Int) : Prop where
  y0 : 0 ≤ shY0 W n ∧ shY0 W n ≤ 61
  x1 : 0 ≤ (shP1 W n p).1 ∧ (shP1 W n p).1 ≤ W
  y1 : 0 ≤ (shP1 W n p).2 ∧ (shP1 W n p).2 ≤ 121
  x2 : 0 ≤ (shP2 W n p bf).1 ∧ (shP2 W n p bf).1 ≤ W
  y2 : 0 ≤ (shP2 W n p bf).2 ∧ (shP2 W n p bf).2 ≤ 921
  x3 : 0 ≤ (shCur W n p bf rs).1 ∧ (shCur W n p bf rs).1 < W
  y3 : (shP2 W n p bf).2 ≤ (shCur W n p bf rs).2 ∧ (shCur W n p bf rs).2 ≤ 922
theorem shB {W : Nat} (hW : 2 ≤ W) {n p bf rs : List Int} (hn : n.length ≤ 60) (hp : p.length ≤ 60) (hb : bf.length ≤ 800) (hr : rs.all printable = true) : ShB W n p bf rs := by
  have hW' : (2 : Int) ≤ W := by omega
  obtain ⟨-, a2, a3⟩ := flow_in hW' n (0, 0) ⟨Int.le_refl _, by omega⟩
  simp only at a2 a3
  have y0 : 0 ≤ shY0 W n ∧ shY0 W n ≤ 61 := by unfold shY0; split <;> omega
  obtain ⟨b1, b2, b3⟩ := flow_in hW' p (0, shY0 W n) ⟨Int.le_refl _, by simp only; omega⟩
  simp only at b2 b3
  obtain ⟨c1, c2, c3⟩ := flow_in hW' bf (shP1 W n p) b1
  have d := plc_in hW' c1 (rs.head?.getD 32)
  have hwd : 0 < wd (rs.head?.getD 32) := by
    have : printable (rs.head?.getD 32) = true := by
      cases rs with
      | nil => decide
      | cons r rs => exact List.all_eq_true.1 hr r (by simp)
    rcases wd_print this with e | e <;> omega
  refine ⟨y0, b1, ⟨?_, ?_⟩, c1, ⟨?_, ?_⟩, ⟨d.1, ?_⟩, ⟨d.2.2.1, ?_⟩⟩
  · show 0 ≤ (flow W p _).2; omega
  · show (flow W p _).2 ≤ 121; omega
  · have : (shP1 W n p).2 = (flow W p (0, shY0 W n)).2 := rfl
    show 0 ≤ (flow W bf _).2; omega
  · have : (shP1 W n p).2 = (flow W p (0, shY0 W n)).2 := rfl
    show (flow W bf _).2 ≤ 921; omega
  · show (plc W (flow W bf (shP1 W n p)) _).1 < W; omega
  · have : (shP1 W n p).2 = (flow W p (0, shY0 W n)).2 := rfl
    show (plc W (flow W bf (shP1 W n p)) _).2 ≤ 922; omega
theorem blanks_win (W H T : Nat) : blanks ((W : Int) * (H : Int)).toNat = win (fun _ => 32) W T H := by
  rw [← Int.natCast_mul, Int.toNat_natCast, Nat.mul_comm]
  unfold win blanks
  apply List.ext_getElem (by simp)
  intro i h1 h2; simp
theorem i32_in (n : Int) (h : 0 ≤ n ∧ n ≤ 2147483647) : IntKind.i32.wrap n = n := by
  simp [IntKind.wrap, IntKind.bits, IntKind.signed]; omega
end Go.Proofs.Ytnmneoekpikpkaa
namespace Go.Proofs.Ytnmneoekpikpkaa
open Go.RowKit
set_option linter.unusedSimpArgs false
set_option linter.unusedVariables false
set_option maxHeartbeats 16000000
set_option maxRecDepth 100000
theorem bnd_ite {α β : Type} {c : Prop} [Decidable c] (a b : Option α) (f : α → Option β) : bnd (if c then a else b) f = if c then bnd a f else bnd b f := by split <;> rfl
theorem onQ_ite {c : Prop} [Decidable c] (a b : Option S) : onQ (if c then a else b) = if c then onQ a else onQ b := by split <;> rfl
theorem seqV_ite {c : Prop} [Decidable c] (a b : Option (Ex × Q)) (f : Q → Option (Ex × Q)) : seqV (if c then a else b) f = if c then seqV a f else seqV b f := by split <;> rfl
theorem E_ireach_if (w x y : Int) (c : Nat → Int) (W k Y : Nat) (hw : w = W) (hW : W ≤ 200) (hk : k ≤ 50000) (hY : Y ≤ 50000) (hc : ∀ i, k * W ≤ i → c i = 32) : M_i_sheet_reach [.ref 0 0, V.v (.int .i64 ((Y : Int)))] [[V.v (.int .i64 w), V.v (.int .i64 x), V.v (.int .i64 y), .own 0]] [intss (sheet c W k)] =
    if Y < k then some ⟨.tup [], [[V.v (.int .i64 w), V.v (.int .i64 x), V.v (.int .i64 y), .own 0]], [(0, intss (sheet c W (max k (Y + 1))))]⟩ else some ⟨.tup [], [[V.v (.int .i64 w), V.v (.int .i64 x), V.v (.int .i64 y), .own 1]], [(1, intss (sheet c W (max k (Y + 1))))]⟩ := by
  by_cases h : Y < k
  · rw [if_pos h, E_ireach_no w x y Y (sheet c W k) (by simp; omega), show max k (Y + 1) = k by omega]
  · rw [if_neg h, E_ireach w x y Y c W k (Y - k) hw hW (by omega) (by omega) hc, show max k (Y + 1) = k + (Y - k) + 1 by omega]
theorem E_iShow_no (e : TEd) (hsm : e.sm) (note ps : ByteArray) (ln lp : List Int) (rn rp : List UInt8) (hn : Reads note.data.toList ln rn) (hp : Reads ps.data.toList lp rp) (w h : Int) (hno : (gridNewOk w h && (e.ok && (fairB note ln rn && fairB ps lp rp))) = false) :
    M_iShow [V.v (.string note), V.v (.string ps), .agg [V.v (.bool e.Vi), V.v (.int .i64 e.Mode), .lst (some 0) (ints e.Line.Text), V.v (.int .i64 e.Line.At), V.v (.int .i64 e.Count), V.v (.int .i64 e.Op), V.v (.int .i64 e.OpCount), V.v (.int .i64 e.Wait), V.v (.int .i64 e.FindR), V.v (.int .i64 e.FindHow), V.v (.int .i64 e.Last), .lst (some 1) (dPieces e.Ring.Pieces), .lst (some 2) (dLines e.Undo.Lines), V.v (.int .i64 e.Nav), .lst (some 3) (ints e.Own.Text), V.v (.int .i64 e.Own.At), .lst (some 4) (ints e.Query), V.v (.int .i64 e.Hit), .lst (some 5) (ints e.Back.Text), V.v (.int .i64 e.Back.At)], V.v (.int .i64 w), V.v (.int .i64 h)] [] [] = some ⟨.tup [vGrid 0 0 (.own 0) 0 0 false, V.v (.bool false)], [], [(0, [])]⟩ := by
  unfold M_iShow
  have hE := E_iEdOk e.Vi e.Mode e.Line.Text e.Line.At e.Count e.Op e.OpCount e.Wait e.FindR e.FindHow e.Last e.Ring.Pieces e.Undo.Lines e.Nav e.Own.Text e.Own.At e.Query e.Hit e.Back.Text e.Back.At hsm.h1 hsm.h2 hsm.h3 hsm.h4 hsm.h5 hsm.h6
  have h0 : edOk e.Vi e.Mode e.Line.Text e.Line.At e.Count e.Op e.OpCount e.Wait e.FindR e.FindHow e.Last e.Ring.Pieces e.Undo.Lines e.Nav e.Own.Text e.Own.At e.Query e.Hit e.Back.Text e.Back.At = e.ok := rfl
  rw [h0] at hE
  have b1 := E_ishortRunes note ln rn hn
  have b2 := E_ishortRunes ps lp rp hp
  have hg : (∃ v : V, ∃ tr : List (List D), M_iGridNew [V.v (.int .i64 w), V.v (.int .i64 h)] [] [] = some ⟨.tup [.agg [V.v (.int .i64 w), V.v (.int .i64 h), .own 0, V.v (.int .i64 0), V.v (.int .i64 0), V.v (.bool false)], V.v (.bool true)], [], [(0, tr)]⟩ ∧ gridNewOk w h = true) ∨ (M_iGridNew [V.v (.int .i64 w), V.v (.int .i64 h)] [] [] = some ⟨.tup [.agg [V.v (.int .i64 0), V.v (.int .i64 0), .own 0, V.v (.int .i64 0), V.v (.int .i64 0), V.v (.bool false)], V.v (.bool false)], [], [(0, [])]⟩ ∧ gridNewOk w h = false) := by
    cases hg : gridNewOk w h
    · exact .inr ⟨E_iGridNew_no w h hg, rfl⟩
    · exact .inl ⟨.nil, _, E_iGridNew w h hg, rfl⟩
  generalize fairB note ln rn = fn at *
  generalize fairB ps lp rp = fp at *
  generalize e.ok = eo at *
  rcases hg with ⟨-, tr, g1, hg⟩ | ⟨g1, hg⟩
  · cases eo
    · simp [Try.func5, Try.f5, g1, hE, b1, b2, vGrid]
    cases fn
    · simp [Try.func5, Try.f5, g1, hE, b1, b2, vGrid]
    cases fp
    · simp [Try.func5, Try.f5, g1, hE, b1, b2, vGrid]
    rw [hg] at hno
    cases hno
  · cases eo
    · simp [Try.func5, Try.f5, g1, hE, b1, b2, vGrid]
    · simp [Try.func5, Try.f5, g1, hE, b1, b2, vGrid]
theorem wr (t : List Int) (W k : Nat) (hW : 2 ≤ W ∧ W ≤ 200) (c c' : Nat → Int) (x y : Int) (p' : Int × Int) (hx : 0 ≤ x ∧ x ≤ W) (hy : 0 ≤ y ∧ y ≤ 9000) (ht : t.all printable = true) (hl : t.length ≤ 1000) (hk : k ≤ 20000) (hc : ∀ i, k * W ≤ i → c i = 32) (hp : flow W t (x, y) = p') (hc' : (inks W t (c, (x, y))).1 = c') :
    ∃ k', k' ≤ max k 11000 ∧ (∀ i, k' * W ≤ i → c' i = 32) ∧ M_i_sheet_write [.ref 0 0, .lst (some 0) (ints t)] [[V.v (.int .i64 ((W : Int))), V.v (.int .i64 x), V.v (.int .i64 y), .own 0]] [intss (sheet c W k)] =
      if k' = k then some ⟨.tup [], [[V.v (.int .i64 ((W : Int))), V.v (.int .i64 p'.1), V.v (.int .i64 p'.2), .own 0]], [(0, intss (sheet c' W k'))]⟩ else some ⟨.tup [], [[V.v (.int .i64 ((W : Int))), V.v (.int .i64 p'.1), V.v (.int .i64 p'.2), .own 1]], [(1, intss (sheet c' W k'))]⟩ := by
  have h := E_iwrite t W k hW c x y hx (by omega) ht (by omega) hk hc
  have hb := inks_blank hW.1 (p := (x, y)) hx hy.1 ht hc t.length (Nat.le_refl _)
  rw [List.take_length] at hb
  have hf := flow_in (w := W) (by omega) t (x, y) hx
  rw [hp] at h hf
  rw [hc'] at h hb
  refine ⟨rise W (x, y) t k, ?_, hb, h⟩
  unfold rise
  split
  · omega
  · rw [hp]; simp only at hf; omega
theorem flow_nil (w : Int) (p : Int × Int) : flow w [] p = p := rfl
theorem inks_nil (w : Nat) (s : (Nat → Int) × (Int × Int)) : inks w [] s = s := rfl
theorem E_iShow (e : TEd) (hsm : e.sm) (note ps : ByteArray) (ln lp : List Int) (hn : Reads note.data.toList ln []) (hp : Reads ps.data.toList lp []) (W H : Nat) (hg : gridNewOk W H = true) (hok : e.ok = true) (f1 : fairB note ln [] = true) (f2 : fairB ps lp [] = true) (A : Nat) (hA : e.Line.At = A) :
    M_iShow [V.v (.string note), V.v (.string ps), .agg [V.v (.bool e.Vi), V.v (.int .i64 e.Mode), .lst (some 0) (ints e.Line.Text), V.v (.int .i64 e.Line.At), V.v (.int .i64 e.Count), V.v (.int .i64 e.Op), V.v (.int .i64 e.OpCount), V.v (.int .i64 e.Wait), V.v (.int .i64 e.FindR), V.v (.int .i64 e.FindHow), V.v (.int .i64 e.Last), .lst (some 1) (dPieces e.Ring.Pieces), .lst (some 2) (dLines e.Undo.Lines), V.v (.int .i64 e.Nav), .lst (some 3) (ints e.Own.Text), V.v (.int .i64 e.Own.At), .lst (some 4) (ints e.Query), V.v (.int .i64 e.Hit), .lst (some 5) (ints e.Back.Text), V.v (.int .i64 e.Back.At)], V.v (.int .i64 ((W : Int))), V.v (.int .i64 ((H : Int)))] [] [] = some ⟨.tup [vGrid W H (.own 0) (shCur W ln (promptRunes e.Mode e.Query lp) (shown (e.Line.Text.take A)) (shown (e.Line.Text.drop A))).1 ((shCur W ln (promptRunes e.Mode e.Query lp) (shown (e.Line.Text.take A)) (shown (e.Line.Text.drop A))).2 - shTop W H ln (promptRunes e.Mode e.Query lp) (shown (e.Line.Text.take A)) (shown (e.Line.Text.drop A))) false, V.v (.bool true)], [], [(0, ints (win (shC W ln (promptRunes e.Mode e.Query lp) (shown (e.Line.Text.take A)) (shown (e.Line.Text.drop A))) W (shTop W H ln (promptRunes e.Mode e.Query lp) (shown (e.Line.Text.take A)) (shown (e.Line.Text.drop A))) H))]⟩ := by
  unfold M_iShow
  have hE := E_iEdOk e.Vi e.Mode e.Line.Text e.Line.At e.Count e.Op e.OpCount e.Wait e.FindR e.FindHow e.Last e.Ring.Pieces e.Undo.Lines e.Nav e.Own.Text e.Own.At e.Query e.Hit e.Back.Text e.Back.At hsm.h1 hsm.h2 hsm.h3 hsm.h4 hsm.h5 hsm.h6
  have h0 : edOk e.Vi e.Mode e.Line.Text e.Line.At e.Count e.Op e.OpCount e.Wait e.FindR e.FindHow e.Last e.Ring.Pieces e.Undo.Lines e.Nav e.Own.Text e.Own.At e.Query e.Hit e.Back.Text e.Back.At = true := hok
  rw [h0] at hE
  have b1 := E_ishortRunes note ln [] hn
  have b2 := E_ishortRunes ps lp [] hp
  rw [f1] at b1
  rw [f2] at b2
  have g1 := E_iGridNew W H hg
  obtain ⟨⟨w1, w2⟩, ⟨h1, h2⟩, -, -⟩ := gridNewOk_of hg
  obtain ⟨n1, -, n3, n4⟩ := fair_of f1
  obtain ⟨p1, -, p3, p4⟩ := fair_of f2
  obtain ⟨ok1, ok2, ok3⟩ := TEd.ok_of hok
  obtain ⟨t1, t2, A', hA', t3⟩ := lineOk_of ok1
  obtain rfl : A' = A := by rw [hA] at hA'; omega
  have R2 := E_iRunesOf _ _ [] (reads_prompt ok3 hp) (prompt_size ok2 p1)
  have P1 := E_iPromptOf e ps (by omega)
  rw [hA] at hE P1
  have q1 := prompt_len (e := e) (l := lp) ok2 p3
  have q2 := prompt_print (e := e) ok3 p4
  have c1 := shown_len (e.Line.Text.take A')
  have c2 := shown_len (e.Line.Text.drop A')
  have d1 : (e.Line.Text.take A').length ≤ 400 := by simp; omega
  have d2 : (e.Line.Text.drop A').length ≤ 400 := by simp; omega
  have S1 := E_iShown (e.Line.Text.take A') (by omega)
  have S2 := E_iShown (e.Line.Text.drop A') (by omega)
  have s1 := shown_print (e.Line.Text.take A')
  have s2 := shown_print (e.Line.Text.drop A')
  have hfirst : (A' = e.Line.Text.length ∧ shown (e.Line.Text.drop A') = []) ∨ ∃ r x, A' < e.Line.Text.length ∧ (e.Line.Text.drop A').take 1 = [x] ∧ M_iShown [.lst (some 0) (ints [x])] [] [] = some ⟨.own 0, [], [(0, ints (r :: (shown1 x).tail))]⟩ ∧ (shown (e.Line.Text.drop A')).head? = some r := by
    by_cases ha : A' = e.Line.Text.length
    · exact .inl ⟨ha, by rw [ha, List.drop_length]; rfl⟩
    · have ha' : A' < e.Line.Text.length := by omega
      have hty := List.all_eq_true.1 t2 e.Line.Text[A'] (List.getElem_mem ha')
      have hne : ∃ r l, shown1 e.Line.Text[A'] = r :: l := by
        unfold shown1
        split
        · exact ⟨_, _, rfl⟩
        split
        · exact ⟨_, _, rfl⟩
        split
        · exact ⟨_, _, rfl⟩
        · rename_i h9 h10 hpr
          simp [typed, h9, h10, hpr] at hty
      obtain ⟨r, l, hrl⟩ := hne
      refine .inr ⟨r, e.Line.Text[A'], ha', ?_, ?_, ?_⟩
      · rw [List.drop_eq_getElem_cons ha']; rfl
      · rw [E_iShown _ (by simp)]
        simp [shown, hrl]
      · rw [List.drop_eq_getElem_cons ha', shown, List.flatMap_cons, hrl]; rfl
  generalize hP : promptRunes e.Mode e.Query lp = pr at *
  generalize hB : shown (e.Line.Text.take A') = bf at *
  generalize hR : shown (e.Line.Text.drop A') = rs at *
  have hb := shB (W := W) (by omega) (n := ln) (p := pr) (bf := bf) (rs := rs) n3 q1 (by omega) s2
  have hW2 : 2 ≤ W ∧ W ≤ 200 := by omega
  have z0 : (0 : Int) ≤ 0 ∧ (0 : Int) ≤ W := by omega
  have hc0 : ∀ i, 0 * W ≤ i → (fun _ : Nat => (32 : Int)) i = 32 := fun _ _ => rfl
  obtain ⟨B1, B2, B3, B4, B5, B6, B7⟩ := hb
  have hf0 := flow_in (w := W) (by omega) ln (0, 0) z0
  obtain ⟨K1, k1b, hc1, W1⟩ := wr ln W 0 hW2 (fun _ => 32) _ 0 0 _ z0 (by omega) n4 (by omega) (by omega) hc0 rfl rfl
  have W1 : M_i_sheet_write [.ref 0 0, .lst (some 0) (ints ln)] [[V.v (.int .i64 ((W : Int))), V.v (.int .i64 0), V.v (.int .i64 0), .own 0]] [[]] = _ := W1
  obtain ⟨K2, k2b, hc2, W2⟩ := wr pr W K1 hW2 _ _ 0 (shY0 W ln) (shP1 W ln pr) z0 (by omega) q2 (by omega) (by omega) hc1 rfl rfl
  obtain ⟨K3, k3b, hc3, W3⟩ := wr bf W K2 hW2 _ _ (shP1 W ln pr).1 (shP1 W ln pr).2 (shP2 W ln pr bf) B2 (by omega) s1 (by omega) (by omega) hc2 rfl rfl
  have hC : (inks W rs ((inks W bf ((inks W pr ((inks W ln (fun _ => 32, (0, 0))).1, (0, shY0 W ln))).1, ((shP1 W ln pr).1, (shP1 W ln pr).2))).1, ((shP2 W ln pr bf).1, (shP2 W ln pr bf).2))).1 = shC W ln pr bf rs := by
    unfold shC
    rw [inks_append]
    have := inks_flow (w := W) bf ((inks W pr ((inks W ln (fun _ => 32, (0, 0))).1, (0, shY0 W ln))).1, shP1 W ln pr) s1
    show (inks W rs (_, shP2 W ln pr bf)).1 = _
    unfold shP2
    rw [← this]
  obtain ⟨K4, k4b, hc4, W4⟩ := wr rs W K3 hW2 _ (shC W ln pr bf rs) (shP2 W ln pr bf).1 (shP2 W ln pr bf).2 _ B4 (by omega) s2 (by omega) (by omega) hc3 rfl hC
  obtain ⟨T, hT⟩ : ∃ T, T = shTop W H ln pr bf rs := ⟨_, rfl⟩
  have hT2 : T ≤ 922 := by rw [hT]; unfold shTop; omega
  have W5 := E_ireach_if W (flow W rs (shP2 W ln pr bf)).1 (flow W rs (shP2 W ln pr bf)).2 (shC W ln pr bf rs) W K4 (T + H - 1) rfl hW2.2 (by omega) (by omega) hc4
  have hT3 : T = ((shCur W ln pr bf rs).2 - H + 1).toNat := hT
  rw [← hT]
  have y0e : shY0 W ln = if ln.isEmpty then 0 else (flow W ln (0, 0)).2 + 1 := rfl
  have cure : shCur W ln pr bf rs = plc W (shP2 W ln pr bf) (rs.head?.getD 32) := rfl
  clear hT hC
  generalize shC W ln pr bf rs = C4 at *
  generalize (inks W bf ((inks W pr ((inks W ln (fun _ => 32, (0, 0))).1, (0, shY0 W ln))).1, ((shP1 W ln pr).1, (shP1 W ln pr).2))).1 = C3 at *
  generalize (inks W pr ((inks W ln (fun _ => 32, (0, 0))).1, (0, shY0 W ln))).1 = C2 at *
  generalize (inks W ln (fun _ => 32, (0, 0))).1 = C1 at *
  generalize shCur W ln pr bf rs = cur at *
  generalize flow W rs (shP2 W ln pr bf) = fe at *
  generalize shP2 W ln pr bf = P2 at *
  generalize shP1 W ln pr = P1' at *
  generalize shY0 W ln = y0 at *
  have hflnil : ln = [] → flow W ln (0, 0) = (0, 0) := fun h => by rw [h]; rfl
  generalize flow W ln (0, 0) = fl at *
  have k4 : (0 : Int) ≤ (A' : Int) := by omega
  have k5 : (A' : Int) ≤ (e.Line.Text.length : Int) := by omega
  have k6 : List.take (e.Line.Text.length - A') (List.drop A' e.Line.Text) = List.drop A' e.Line.Text := List.take_of_length_le (by simp)
  obtain ⟨K5, hK5⟩ : ∃ K5, K5 = max K4 (T + H - 1 + 1) := ⟨_, rfl⟩
  rw [← hK5, show ((T + H - 1 : Nat) : Int) = (T : Int) + (H : Int) - 1 by omega] at W5
  have m1 := w64 (cur.2 - H) (by omega)
  have m2 := w64 (cur.2 - H + 1) (by omega)
  have m3 : max (cur.2 - (H : Int) + 1) 0 = (T : Int) := by omega
  have m4 := w64 ((T : Int) + H) (by omega)
  have m5 := w64 ((T : Int) + H - 1) (by omega)
  have m6 := w64 (cur.2 - T) (by omega)
  have m7 : (0 : Int) ≤ (T : Int) := by omega
  have m8 : (T : Int) ≤ (T : Int) + H := by omega
  have m9 : (T : Int) + H ≤ (K5 : Int) := by omega
  have m10 : ((T : Int) + H).toNat = T + H := by omega
  have m11 : T + H - T = H := by omega
  have m12 : ∀ w : Int, w64 0 (by omega) = w64 0 (by omega) := fun _ => rfl
  clear m12
  have hws : (A' = e.Line.Text.length ∧ rs = [] ∧ ((P2.1 = W ∧ cur = (0, P2.2 + 1)) ∨ (¬ P2.1 = W ∧ cur = P2))) ∨ ∃ r x, A' < e.Line.Text.length ∧ (e.Line.Text.drop A').take 1 = [x] ∧ M_iShown [.lst (some 0) (ints [x])] [] [] = some ⟨.own 0, [], [(0, ints (r :: (shown1 x).tail))]⟩ ∧ M_iplaced [V.v (.int .i64 r), V.v (.int .i64 ((W : Int))), V.v (.int .i64 P2.1), V.v (.int .i64 P2.2)] [] [] = some ⟨.tup [V.v (.int .i64 cur.1), V.v (.int .i64 cur.2)], [], []⟩ := by
    rcases hfirst with ⟨ha, hr⟩ | ⟨r, x, x1, x2, x3, x4⟩
    · refine .inl ⟨ha, hr, ?_⟩
      rw [hr] at cure
      have h32 : wd 32 = 1 := by decide
      simp only [List.head?_nil, Option.getD_none, plc, h32] at cure
      by_cases hx : P2.1 = W
      · exact .inl ⟨hx, by rw [cure, if_pos (by omega)]⟩
      · exact .inr ⟨hx, by rw [cure, if_neg (by omega)]⟩
    · refine .inr ⟨r, x, x1, x2, x3, ?_⟩
      rw [x4] at cure
      simp only [Option.getD_some] at cure
      have := E_iplaced r W P2.1 P2.2 (by omega) (by omega)
      rw [this]
      rw [show ((P2.1, P2.2) : Int × Int) = P2 from rfl, ← cure]
  have wl := w64 ((A' : Int) + 1) (by omega)
  have m12 : min H (K5 - T) = H := by omega
  obtain ⟨RR, hRR⟩ : ∃ RR, RR = List.take H (List.drop T (sheet C4 W K5)) := ⟨_, rfl⟩
  have hRl : RR.length = H := by rw [hRR]; simp; omega
  have hRa : ∀ j (hj : j < RR.length), RR[j] = rowAt C4 W (T + j) := fun j hj => by
    subst hRR
    simp [sheet]
  have hwin : ∀ j, win C4 W T (j + 1) = win C4 W T j ++ rowAt C4 W (T + j) := fun j => by
    rw [← win_rows, ← win_rows, List.range_succ, List.map_append, List.flatten_append]; simp
  have hw0 : win C4 W T 0 = [] := by simp [win]
  by_cases hln : ln = []
  · subst hln
    simp at y0e
    subst y0e
    simp only [flow_nil] at hf0
    obtain ⟨W0, hW0⟩ : ∃ f : Int × Int, f = fl := ⟨_, rfl⟩
    have hfl : fl = (0, 0) := hflnil rfl
    subst hfl
    simp only at W1
    simp [Try.func5, Try.f5, g1, hE, b1, b2, R2, P1, S1, vGrid, hA, W1, bnd_ite, onQ_ite, seqV_ite]
    simp [W2, bnd_ite, onQ_ite, seqV_ite, k4, k5, S1]
    rcases hws with ⟨v1, v2, ⟨v3, v4⟩ | ⟨v3, v4⟩⟩ | ⟨r, x, v1, v2, v3, v4⟩
    · have v5 : ¬ ((A' : Int) < (e.Line.Text.length : Int)) := by omega
      have v6 := w64 (P2.2 + 1) (by omega)
      have v7 : cur.1 = 0 := by rw [v4]
      have v8 : cur.2 = P2.2 + 1 := by rw [v4]
      rw [v2] at W4 S2
      rw [v3] at W4
      rw [← v8] at v6
      clear v4 hfirst cure
      have v9 : A' ≤ e.Line.Text.length := by omega
      simp [W3, bnd_ite, onQ_ite, seqV_ite, v3, v5, v6, k4, k5, k6, S2, ← v8]
      simp [W4, bnd_ite, onQ_ite, seqV_ite, m1, m2, m3, m4, m5]
      simp [W5, bnd_ite, onQ_ite, seqV_ite, m4, m7, m8, m9, m10, m11, m12]
      rw [← hRR]
      rw [loopV_go (fun j => .on ⟨[(154, V.v (.int .i64 ((j : Int)))), (153, V.v (.int .i64 ((H : Int)))), (152, .fz (intss RR)), (23, V.v (.int .i64 ((T : Int)))), (22, V.v (.int .i64 cur.2)), (21, V.v (.int .i64 0)), (12, .ref 12 0), (10, .ref 10 0)], [(12, [V.v (.int .i64 ((W : Int))), V.v (.int .i64 ((H : Int))), .own 2000001000, V.v (.int .i64 0), V.v (.int .i64 0), V.v (.bool false)]), (10, [V.v (.int .i64 0), V.v (.int .i64 0), .own 2000001001, V.v (.int .i64 0), V.v (.int .i64 0), V.v (.bool false)])], [(2000001001, []), (2000001000, ints (win C4 W T j))], [(2000000000, intss (sheet C4 W K5))]⟩) H ?_ ?_]
      · simp [m6, v7]
      · simp [hw0, ints_nil]
      · intro j hj
        have hj2 : j < RR.length := by omega
        have hwj := w64 (j + 1) (by omega)
        have hjW : j * W + W ≤ 40000 := by
          have := Nat.mul_le_mul (show j + 1 ≤ 200 by omega) hW2.2
          rw [Nat.add_mul] at this; omega
        simp [hj, hj2, hwj, hRa, hRl]
        simp (disch := omega) only [grd_pos]
        simp [hwj, hwin]
    · have v5 : ¬ ((A' : Int) < (e.Line.Text.length : Int)) := by omega
      rw [v2] at W4 S2
      subst v4
      clear hfirst cure
      simp [W3, bnd_ite, onQ_ite, seqV_ite, v3, v5, k4, k5, k6, S2]
      simp [W4, bnd_ite, onQ_ite, seqV_ite, m1, m2, m3, m4, m5]
      simp [W5, bnd_ite, onQ_ite, seqV_ite, m4, m7, m8, m9, m10, m11, m12]
      rw [← hRR]
      rw [loopV_go (fun j => .on ⟨[(154, V.v (.int .i64 ((j : Int)))), (153, V.v (.int .i64 ((H : Int)))), (152, .fz (intss RR)), (23, V.v (.int .i64 ((T : Int)))), (22, V.v (.int .i64 cur.2)), (21, V.v (.int .i64 cur.1)), (12, .ref 12 0), (10, .ref 10 0)], [(12, [V.v (.int .i64 ((W : Int))), V.v (.int .i64 ((H : Int))), .own 2000001000, V.v (.int .i64 0), V.v (.int .i64 0), V.v (.bool false)]), (10, [V.v (.int .i64 0), V.v (.int .i64 0), .own 2000001001, V.v (.int .i64 0), V.v (.int .i64 0), V.v (.bool false)])], [(2000001001, []), (2000001000, ints (win C4 W T j))], [(2000000000, intss (sheet C4 W K5))]⟩) H ?_ ?_]
      · simp [m6]
      · simp [hw0, ints_nil]
      · intro j hj
        have hj2 : j < RR.length := by omega
        have hwj := w64 (j + 1) (by omega)
        have hjW : j * W + W ≤ 40000 := by
          have := Nat.mul_le_mul (show j + 1 ≤ 200 by omega) hW2.2
          rw [Nat.add_mul] at this; omega
        simp [hj, hj2, hwj, hRa, hRl]
        simp (disch := omega) only [grd_pos]
        simp [hwj, hwin]
    · have v5 : (A' : Int) < (e.Line.Text.length : Int) := by omega
      have v6 : (A' : Int) + 1 ≤ (e.Line.Text.length : Int) := by omega
      have v7 : (A' : Int) ≤ (A' : Int) + 1 := by omega
      have v8 : ((A' : Int) + 1).toNat = A' + 1 := by omega
      have v9 : A' + 1 - A' = 1 := by omega
      simp [W3, bnd_ite, onQ_ite, seqV_ite, v1, v2, v3, v4, v5, v6, v7, v8, v9, wl, k4, k5, k6, S2]
      simp [W4, bnd_ite, onQ_ite, seqV_ite, m1, m2, m3, m4, m5]
      simp [W5, bnd_ite, onQ_ite, seqV_ite, m4, m7, m8, m9, m10, m11, m12]
      rw [← hRR]
      rw [loopV_go (fun j => .on ⟨[(154, V.v (.int .i64 ((j : Int)))), (153, V.v (.int .i64 ((H : Int)))), (152, .fz (intss RR)), (23, V.v (.int .i64 ((T : Int)))), (22, V.v (.int .i64 cur.2)), (21, V.v (.int .i64 cur.1)), (12, .ref 12 0), (10, .ref 10 0)], [(12, [V.v (.int .i64 ((W : Int))), V.v (.int .i64 ((H : Int))), .own 2000001000, V.v (.int .i64 0), V.v (.int .i64 0), V.v (.bool false)]), (10, [V.v (.int .i64 0), V.v (.int .i64 0), .own 2000001001, V.v (.int .i64 0), V.v (.int .i64 0), V.v (.bool false)])], [(2000001001, []), (2000001000, ints (win C4 W T j))], [(2000000000, intss (sheet C4 W K5))]⟩) H ?_ ?_]
      · simp [m6]
      · simp [hw0, ints_nil]
      · intro j hj
        have hj2 : j < RR.length := by omega
        have hwj := w64 (j + 1) (by omega)
        have hjW : j * W + W ≤ 40000 := by
          have := Nat.mul_le_mul (show j + 1 ≤ 200 by omega) hW2.2
          rw [Nat.add_mul] at this; omega
        simp [hj, hj2, hwj, hRa, hRl]
        simp (disch := omega) only [grd_pos]
        simp [hwj, hwin]
  · have hl0 : 0 < ln.length := List.length_pos_iff.2 hln
    have hem : ln.isEmpty = false := by simpa using hln
    rw [hem] at y0e
    simp only [if_false, Bool.false_eq_true] at y0e
    have wf := w64 (fl.2 + 1) (by omega)
    rw [← y0e] at wf
    simp [Try.func5, Try.f5, g1, hE, b1, b2, R2, P1, S1, vGrid, hA, W1, bnd_ite, onQ_ite, seqV_ite, hl0, hln, ← y0e, wf]
    simp [W2, bnd_ite, onQ_ite, seqV_ite, k4, k5, S1]
    rcases hws with ⟨v1, v2, ⟨v3, v4⟩ | ⟨v3, v4⟩⟩ | ⟨r, x, v1, v2, v3, v4⟩
    · have v5 : ¬ ((A' : Int) < (e.Line.Text.length : Int)) := by omega
      have v6 := w64 (P2.2 + 1) (by omega)
      have v7 : cur.1 = 0 := by rw [v4]
      have v8 : cur.2 = P2.2 + 1 := by rw [v4]
      rw [v2] at W4 S2
      rw [v3] at W4
      rw [← v8] at v6
      clear v4 hfirst cure
      have v9 : A' ≤ e.Line.Text.length := by omega
      simp [W3, bnd_ite, onQ_ite, seqV_ite, v3, v5, v6, k4, k5, k6, S2, ← v8]
      simp [W4, bnd_ite, onQ_ite, seqV_ite, m1, m2, m3, m4, m5]
      simp [W5, bnd_ite, onQ_ite, seqV_ite, m4, m7, m8, m9, m10, m11, m12]
      rw [← hRR]
      rw [loopV_go (fun j => .on ⟨[(154, V.v (.int .i64 ((j : Int)))), (153, V.v (.int .i64 ((H : Int)))), (152, .fz (intss RR)), (23, V.v (.int .i64 ((T : Int)))), (22, V.v (.int .i64 cur.2)), (21, V.v (.int .i64 0)), (12, .ref 12 0), (10, .ref 10 0)], [(12, [V.v (.int .i64 ((W : Int))), V.v (.int .i64 ((H : Int))), .own 2000001000, V.v (.int .i64 0), V.v (.int .i64 0), V.v (.bool false)]), (10, [V.v (.int .i64 0), V.v (.int .i64 0), .own 2000001001, V.v (.int .i64 0), V.v (.int .i64 0), V.v (.bool false)])], [(2000001001, []), (2000001000, ints (win C4 W T j))], [(2000000000, intss (sheet C4 W K5))]⟩) H ?_ ?_]
      · simp [m6, v7]
      · simp [hw0, ints_nil]
      · intro j hj
        have hj2 : j < RR.length := by omega
        have hwj := w64 (j + 1) (by omega)
        have hjW : j * W + W ≤ 40000 := by
          have := Nat.mul_le_mul (show j + 1 ≤ 200 by omega) hW2.2
          rw [Nat.add_mul] at this; omega
        simp [hj, hj2, hwj, hRa, hRl]
        simp (disch := omega) only [grd_pos]
        simp [hwj, hwin]
    · have v5 : ¬ ((A' : Int) < (e.Line.Text.length : Int)) := by omega
      rw [v2] at W4 S2
      subst v4
      clear hfirst cure
      simp [W3, bnd_ite, onQ_ite, seqV_ite, v3, v5, k4, k5, k6, S2]
      simp [W4, bnd_ite, onQ_ite, seqV_ite, m1, m2, m3, m4, m5]
      simp [W5, bnd_ite, onQ_ite, seqV_ite, m4, m7, m8, m9, m10, m11, m12]
      rw [← hRR]
      rw [loopV_go (fun j => .on ⟨[(154, V.v (.int .i64 ((j : Int)))), (153, V.v (.int .i64 ((H : Int)))), (152, .fz (intss RR)), (23, V.v (.int .i64 ((T : Int)))), (22, V.v (.int .i64 cur.2)), (21, V.v (.int .i64 cur.1)), (12, .ref 12 0), (10, .ref 10 0)], [(12, [V.v (.int .i64 ((W : Int))), V.v (.int .i64 ((H : Int))), .own 2000001000, V.v (.int .i64 0), V.v (.int .i64 0), V.v (.bool false)]), (10, [V.v (.int .i64 0), V.v (.int .i64 0), .own 2000001001, V.v (.int .i64 0), V.v (.int .i64 0), V.v (.bool false)])], [(2000001001, []), (2000001000, ints (win C4 W T j))], [(2000000000, intss (sheet C4 W K5))]⟩) H ?_ ?_]
      · simp [m6]
      · simp [hw0, ints_nil]
      · intro j hj
        have hj2 : j < RR.length := by omega
        have hwj := w64 (j + 1) (by omega)
        have hjW : j * W + W ≤ 40000 := by
          have := Nat.mul_le_mul (show j + 1 ≤ 200 by omega) hW2.2
          rw [Nat.add_mul] at this; omega
        simp [hj, hj2, hwj, hRa, hRl]
        simp (disch := omega) only [grd_pos]
        simp [hwj, hwin]
    · have v5 : (A' : Int) < (e.Line.Text.length : Int) := by omega
      have v6 : (A' : Int) + 1 ≤ (e.Line.Text.length : Int) := by omega
      have v7 : (A' : Int) ≤ (A' : Int) + 1 := by omega
      have v8 : ((A' : Int) + 1).toNat = A' + 1 := by omega
      have v9 : A' + 1 - A' = 1 := by omega
      simp [W3, bnd_ite, onQ_ite, seqV_ite, v1, v2, v3, v4, v5, v6, v7, v8, v9, wl, k4, k5, k6, S2]
      simp [W4, bnd_ite, onQ_ite, seqV_ite, m1, m2, m3, m4, m5]
      simp [W5, bnd_ite, onQ_ite, seqV_ite, m4, m7, m8, m9, m10, m11, m12]
      rw [← hRR]
      rw [loopV_go (fun j => .on ⟨[(154, V.v (.int .i64 ((j : Int)))), (153, V.v (.int .i64 ((H : Int)))), (152, .fz (intss RR)), (23, V.v (.int .i64 ((T : Int)))), (22, V.v (.int .i64 cur.2)), (21, V.v (.int .i64 cur.1)), (12, .ref 12 0), (10, .ref 10 0)], [(12, [V.v (.int .i64 ((W : Int))), V.v (.int .i64 ((H : Int))), .own 2000001000, V.v (.int .i64 0), V.v (.int .i64 0), V.v (.bool false)]), (10, [V.v (.int .i64 0), V.v (.int .i64 0), .own 2000001001, V.v (.int .i64 0), V.v (.int .i64 0), V.v (.bool false)])], [(2000001001, []), (2000001000, ints (win C4 W T j))], [(2000000000, intss (sheet C4 W K5))]⟩) H ?_ ?_]
      · simp [m6]
      · simp [hw0, ints_nil]
      · intro j hj
        have hj2 : j < RR.length := by omega
        have hwj := w64 (j + 1) (by omega)
        have hjW : j * W + W ≤ 40000 := by
          have := Nat.mul_le_mul (show j + 1 ≤ 200 by omega) hW2.2
          rw [Nat.add_mul] at this; omega
        simp [hj, hj2, hwj, hRa, hRl]
        simp (disch := omega) only [grd_pos]
        simp [hwj, hwin]
end Go.Proofs.Ytnmneoekpikpkaa
