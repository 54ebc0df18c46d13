/- Part 11 of a proof in several texts (an abstract evaluator, what the functions compute). -/
import Derived.Test.YtjhdikdopdcfcaaGreatDoorPkFnSearch10
import Derived.Test.YtjhdikdopdcfcaaGreatDoorRows
import Derived.Test.YtjhdikdopdcfcaaGreatDoorChecked
import Derived.ProofKit
import Derived.OpenShut
import Derived.Handy
import Derived.ShutString
import Derived.ChangeOld
import Derived.Deep.Slices
namespace Go.Proofs.YtjhdikdopdcfcaaGreatDoor
open Go.RowKit
set_option linter.unusedSimpArgs false
set_option linter.unusedVariables false
set_option maxHeartbeats 4000000
theorem EOk.typing {e : TEd} (h : EOk e) (hv : e.Vi = true) (hm : ¬ e.Mode = 3) {t : List Int} {a : Int} (ht : lineOk t a = true) : EOk { setE e t a 0 with Mode := 1, Line := ⟨t, a⟩ } := by
  have hs := h.set 0 ht (by omega)
  have hsk := h.seek.resolve_left hm
  exact ⟨ht, h.own, h.back, z999, z999, .inr (.inl ⟨.inl rfl, hv⟩), fun q => absurd q.1 (by show ¬ (1 : Int) = 2; decide), .inr ⟨rfl, rfl, rfl⟩, .inr rfl, .inl rfl, .inl rfl, h.find, z3, h.ring, hs.undo, h.nav, h.hit, h.nown, h.ql, h.qp, .inr hsk⟩
theorem EOk.vi2 {e : TEd} (h : EOk e) (hm : e.Mode = 2) : e.Vi = true := by
  rcases h.mode with h1 | h1 | h1
  · omega
  · exact h1.2
  · omega
theorem EOk.lineAt {e : TEd} (h : EOk e) {a : Nat} (ha : a ≤ e.Line.Text.length) : lineOk e.Line.Text (a : Int) = true := by
  obtain ⟨h1, h2, h3, h4⟩ := h.atN
  exact line_ok_of h3 h4 (by omega) (by omega)
theorem EOk.typingE {e : TEd} (h : EOk e) (hm : e.Mode = 2) {a : Nat} (ha : a ≤ e.Line.Text.length) : EOk (Proofs.YtjhdikdopdcfcaaGreatDoor.typingE e a) :=
  h.typing (h.vi2 hm) (by omega) (h.lineAt ha)
theorem EOk.change {e : TEd} (h : EOk e) (hm : e.Mode = 2) (op : Int) {f u : Nat} (h1 : f ≤ u) (h2 : u ≤ e.Line.Text.length) : EOk (changeE e op f u).1 := by
  have hr := ringPut_ok h.ring (slice_ok h.line (f := f) (u := u)) 0
  obtain ⟨c1, c2, c3⟩ := cutLn_ok h.line h1 h2
  unfold changeE
  (first | refine iteK (fun _ => ?_) (fun _ => ?_) | split)
  · (first | refine iteK (fun _ => ?_) (fun _ => ?_) | split)
    · exact h.typingE hm (by omega)
    · exact h.bell
  (first | refine iteK (fun _ => ?_) (fun _ => ?_) | split)
  · exact (h.ring' hr).put (h.lineAt (by omega))
  (first | refine iteK (fun _ => ?_) (fun _ => ?_) | split)
  · exact (h.ring' hr).typing (h.vi2 hm) (by show ¬ e.Mode = 3; omega) c3
  · exact (h.ring' hr).put c3
theorem spanTo_le {n a u : Nat} (incl : Bool) (h1 : a ≤ n) (h2 : u ≤ n) : min a u ≤ spanTo n a u incl ∧ spanTo n a u incl ≤ n := by
  unfold spanTo
  (first | refine iteK (fun _ => ?_) (fun _ => ?_) | split)
  · rename_i hc
    have := hc.2
    omega
  · omega
theorem EOk.move {e : TEd} (h : EOk e) (hm : e.Mode = 2) {u : Nat} (incl : Bool) (ht : u ≤ e.Line.Text.length) : EOk (moveE e u incl).1 := by
  obtain ⟨h1, h2, h3, h4⟩ := h.atN
  have := spanTo_le incl h2 ht
  unfold moveE
  (first | refine iteK (fun _ => ?_) (fun _ => ?_) | split)
  · exact h.go _
  · exact h.change hm _ this.1 this.2
theorem findRune_le {t : List Int} {r how : Int} {a p : Nat} (h : a ≤ t.length) (hp : findRune t r how a = some p) : p < t.length := by
  unfold findRune at hp
  (first | (rcases iteO hp with ⟨_, hp⟩ | ⟨_, hp⟩) | split at hp)
  · simp only at hp
    (first | (rcases iteO hp with ⟨_, hp⟩ | ⟨_, hp⟩) | split at hp)
    · injection hp with hp; omega
    · cases hp
  (first | (rcases iteO hp with ⟨_, hp⟩ | ⟨_, hp⟩) | split at hp)
  · simp only at hp
    (first | (rcases iteO hp with ⟨_, hp⟩ | ⟨_, hp⟩) | split at hp)
    · injection hp with hp; omega
    · cases hp
  (first | (rcases iteO hp with ⟨_, hp⟩ | ⟨_, hp⟩) | split at hp)
  · simp only at hp
    (first | (rcases iteO hp with ⟨_, hp⟩ | ⟨_, hp⟩) | split at hp)
    · injection hp with hp; omega
    · cases hp
  (first | (rcases iteO hp with ⟨_, hp⟩ | ⟨_, hp⟩) | split at hp)
  · simp only at hp
    (first | (rcases iteO hp with ⟨_, hp⟩ | ⟨_, hp⟩) | split at hp)
    · injection hp with hp; omega
    · cases hp
  · cases hp
theorem findIt_le {t : List Int} {r how : Int} : ∀ (n a p : Nat), a ≤ t.length → findIt t r how n a = some p → p ≤ t.length
  | 0, a, p, h, hp => by injection hp with hp; omega
  | n + 1, a, p, h, hp => by
    unfold findIt at hp
    split at hp
    · cases hp
    · rename_i q hq
      exact findIt_le n q p (Nat.le_of_lt (findRune_le h hq)) hp
theorem EOk.findIn {e : TEd} (h : EOk e) (hm : e.Mode = 2) (r how : Int) (n : Nat) : EOk (findInE e r how n).1 := by
  obtain ⟨h1, h2, h3, h4⟩ := h.atN
  unfold findInE
  cases hp : findIt e.Line.Text r how n (Proofs.YtjhdikdopdcfcaaGreatDoor.atN e) with
  | none => exact h.bell
  | some p => exact h.move hm _ (findIt_le n _ p h2 hp)
theorem replSt_ok {t : List Int} (h : t.all typed = true) {r : Int} (hr : typed r = true) (f : Nat) : ∀ j, (replSt t f r j).length = t.length ∧ (replSt t f r j).all typed = true
  | 0 => ⟨rfl, h⟩
  | j + 1 => by
    have ih := replSt_ok h hr f j
    exact ⟨by unfold replSt; rw [List.length_set]; exact ih.1, all_setI ih.2 _ hr⟩
theorem flipI_ok {r : Int} (h : typed r = true) : typed (flipI r) = true := by
  unfold flipI
  (first | refine iteK (fun _ => ?_) (fun _ => ?_) | split)
  · rename_i h1; have := (typed_let (r := r) (by unfold isLet; rw [h1]; rfl)).1; unfold upI at this; rw [if_pos h1] at this; exact this
  (first | refine iteK (fun _ => ?_) (fun _ => ?_) | split)
  · rename_i h1 h2
    have := (typed_let (r := r) (by unfold isLet; rw [h2]; simp)).2; unfold lowI at this; rw [if_pos h2] at this; exact this
  · exact h
theorem flipSt_ok {t : List Int} (h : t.all typed = true) (f : Nat) : ∀ j, f + j ≤ t.length → (flipSt t f j).length = t.length ∧ (flipSt t f j).all typed = true
  | 0, _ => ⟨rfl, h⟩
  | j + 1, hj => by
    have ih := flipSt_ok h f j (by omega)
    refine ⟨by unfold flipSt; rw [List.length_set]; exact ih.1, all_setI ih.2 _ (flipI_ok ?_)⟩
    have hl : f + j < (flipSt t f j).length := by omega
    rw [getD_at hl]
    exact List.all_eq_true.1 ih.2 _ (List.getElem_mem hl)
theorem EOk.effV {e : TEd} (h : EOk e) : 1 ≤ Proofs.YtjhdikdopdcfcaaGreatDoor.effV e ∧ Proofs.YtjhdikdopdcfcaaGreatDoor.effV e ≤ 999 ∧ (Proofs.YtjhdikdopdcfcaaGreatDoor.effV e : Int) = min (max e.Count 1 * max e.OpCount 1) 999 := by
  have hmul0 : 1 * 1 ≤ max e.Count 1 * max e.OpCount 1 := Int.mul_le_mul (by omega) (by omega) (by omega) (by omega)
  unfold Proofs.YtjhdikdopdcfcaaGreatDoor.effV
  omega
theorem howOf_lt (r : Int) : -1 ≤ howOf r ∧ howOf r ≤ 3 := by
  unfold howOf
  (repeat' (first | refine iteK (fun _ => ?_) (fun _ => ?_) | split))
  all_goals omega
theorem findB_how {fr : Int} (r : Int) (h : printable fr = true) (hr : 0 ≤ howOf r) : findB fr (howOf r) = true := by
  have := howOf_lt r
  have h0 : ¬ fr = 0 := fun e => by subst e; exact absurd h (by decide)
  unfold findB
  simp only [h, inR_iff.2 (show 0 ≤ howOf r ∧ howOf r ≤ 3 by omega), Bool.and_true, Bool.or_eq_true, bne_iff_ne, ne_eq]
  exact .inr h0
theorem howOf_wait {r : Int} (h : waitC r = true) (h2 : ¬ r = 114) : 0 ≤ howOf r := by
  simp only [waitC, Bool.or_eq_true, beq_iff_eq] at h
  unfold howOf
  (repeat' (first | refine iteK (fun _ => ?_) (fun _ => ?_) | split))
  all_goals omega
theorem EOk.find' {e : TEd} (h : EOk e) {r how : Int} (hf : findB r how = true) : EOk { e with FindR := r, FindHow := how } :=
  ⟨h.line, h.own, h.back, h.cnt, h.opc, h.mode, h.end_, h.cmd, h.opz, h.op, h.wait, hf, h.last, h.ring, h.undo, h.nav, h.hit, h.nown, h.ql, h.qp, h.seek⟩
theorem EOk.waited {e : TEd} (h : EOk e) (hm : e.Mode = 2) (hw : ¬ e.Wait = 0) {k r : Int} (hk : keyOk k r = true) {n : Nat} (hn : 1 ≤ n) : EOk (waitedE e k r n).1 := by
  obtain ⟨h1, h2, h3, h4⟩ := h.atN
  unfold waitedE
  (first | refine iteK (fun _ => ?_) (fun _ => ?_) | split)
  · exact h.bell
  rename_i hk1
  have hk1 : k = 1 := Classical.not_not.1 hk1
  subst hk1
  have hp : printable r = true := hk
  (first | refine iteK (fun _ => ?_) (fun _ => ?_) | split)
  · (first | refine iteK (fun _ => ?_) (fun _ => ?_) | split)
    · exact h.bell
    · obtain ⟨r1, r2⟩ := replSt_ok h4 (printable_typed hp) (Proofs.YtjhdikdopdcfcaaGreatDoor.atN e) n
      exact h.put (line_ok_of (by omega) r2 (by omega) (by omega))
  (first | refine iteK (fun _ => ?_) (fun _ => ?_) | split)
  · exact h.bell
  · rename_i hw2 _
    exact (h.find' (findB_how e.Wait hp (howOf_wait (h.wait.resolve_left hw) hw2))).findIn hm _ _ _
theorem motionTo_le {t : List Int} {a n : Nat} {r : Int} {p : Nat × Bool} (h : a ≤ t.length) (hp : motionTo t a r n = some p) : p.1 ≤ t.length := by
  unfold motionTo at hp
  (first | (rcases iteO hp with ⟨_, hp⟩ | ⟨_, hp⟩) | split at hp)
  · injection hp with hp; subst hp; show a - n ≤ _; omega
  (first | (rcases iteO hp with ⟨_, hp⟩ | ⟨_, hp⟩) | split at hp)
  · injection hp with hp; subst hp; show min (a + n) t.length ≤ _; omega
  (first | (rcases iteO hp with ⟨_, hp⟩ | ⟨_, hp⟩) | split at hp)
  · injection hp with hp; subst hp; exact iterN_le (fun a ha => (viOn_le ha).2) _ _ h
  (first | (rcases iteO hp with ⟨_, hp⟩ | ⟨_, hp⟩) | split at hp)
  · injection hp with hp; subst hp; exact iterN_le (fun a ha => Nat.le_trans viBack_le ha) _ _ h
  (first | (rcases iteO hp with ⟨_, hp⟩ | ⟨_, hp⟩) | split at hp)
  · injection hp with hp; subst hp; exact iterN_le (fun a ha => viEnd_le.1) _ _ h
  (first | (rcases iteO hp with ⟨_, hp⟩ | ⟨_, hp⟩) | split at hp)
  · injection hp with hp; subst hp; exact Nat.zero_le _
  (first | (rcases iteO hp with ⟨_, hp⟩ | ⟨_, hp⟩) | split at hp)
  · injection hp with hp; subst hp; exact (stopN_spec _ _).1
  (first | (rcases iteO hp with ⟨_, hp⟩ | ⟨_, hp⟩) | split at hp)
  · injection hp with hp; subst hp; show t.length - 1 ≤ _; omega
  (first | (rcases iteO hp with ⟨_, hp⟩ | ⟨_, hp⟩) | split at hp)
  · injection hp with hp; subst hp; show min (n - 1) t.length ≤ _; omega
  · cases hp
theorem EOk.moveBy {e : TEd} (h : EOk e) (hm : e.Mode = 2) (r : Int) (n : Nat) : EOk (moveByE e r n).1 := by
  obtain ⟨h1, h2, h3, h4⟩ := h.atN
  unfold moveByE
  cases hp : motionTo e.Line.Text (Proofs.YtjhdikdopdcfcaaGreatDoor.atN e) r n with
  | none => exact h.move hm _ (Nat.zero_le _)
  | some p => exact h.move hm _ (motionTo_le h2 hp)
theorem EOk.special {e : TEd} (h : EOk e) (hm : e.Mode = 2) {f : Int} {l : List ByteArray} (hh : HistI f l) (k r : Int) (n : Nat) : EOk (specialE e f l k r n).1 := by
  obtain ⟨h1, h2, h3, h4⟩ := h.atN
  unfold specialE
  (first | refine iteK (fun _ => ?_) (fun _ => ?_) | split)
  · exact h
  (first | refine iteK (fun _ => ?_) (fun _ => ?_) | split)
  · (first | refine iteK (fun _ => ?_) (fun _ => ?_) | split)
    · exact h.bell
    · exact h.idle _ h.last
  (first | refine iteK (fun _ => ?_) (fun _ => ?_) | split)
  · exact h.step hh _
  (first | refine iteK (fun _ => ?_) (fun _ => ?_) | split)
  · exact h.step hh _
  (first | refine iteK (fun _ => ?_) (fun _ => ?_) | split)
  · exact h.moveBy hm _ _
  (first | refine iteK (fun _ => ?_) (fun _ => ?_) | split)
  · exact h.moveBy hm _ _
  (first | refine iteK (fun _ => ?_) (fun _ => ?_) | split)
  · exact h.moveBy hm _ _
  (first | refine iteK (fun _ => ?_) (fun _ => ?_) | split)
  · exact h.moveBy hm _ _
  (first | refine iteK (fun _ => ?_) (fun _ => ?_) | split)
  · exact h.change hm _ (by omega) (by omega)
  (first | refine iteK (fun _ => ?_) (fun _ => ?_) | split)
  · (first | refine iteK (fun _ => ?_) (fun _ => ?_) | split)
    · exact h
    (first | refine iteK (fun _ => ?_) (fun _ => ?_) | split)
    · exact h
    (first | refine iteK (fun _ => ?_) (fun _ => ?_) | split)
    · exact h
    (first | refine iteK (fun _ => ?_) (fun _ => ?_) | split)
    · exact h.seek_
    · exact h.bell
  · exact h.bell
theorem repT_ok {t : List Int} (h : t.all typed = true) : ∀ n, (repT n t).length = t.length * n ∧ (repT n t).all typed = true
  | 0 => ⟨rfl, rfl⟩
  | n + 1 => by
    have ih := repT_ok h n
    have e : repT (n + 1) t = t ++ repT n t := by unfold repT; rw [List.replicate_succ, List.flatten_cons]
    rw [e]
    refine ⟨by rw [List.length_append, ih.1, Nat.mul_succ]; omega, ?_⟩
    rw [List.all_append, h, ih.2]; rfl
theorem EOk.paste {e : TEd} (h : EOk e) {a : Nat} (ha : a ≤ e.Line.Text.length) {n : Nat} (hn : 1 ≤ n) : EOk (pasteE e a n).1 := by
  obtain ⟨h1, h2, h3, h4⟩ := h.atN
  unfold pasteE
  (first | refine iteK (fun _ => ?_) (fun _ => ?_) | split)
  · exact h.bell
  · rename_i hc
    have hc1 : ¬ topP e.Ring.Pieces = [] := fun q => hc (.inl q)
    have hc2 : e.Line.Text.length + (topP e.Ring.Pieces).length * n ≤ 400 := by
      rcases Nat.lt_or_ge 400 (e.Line.Text.length + (topP e.Ring.Pieces).length * n) with q | q
      · exact absurd (.inr q) hc
      · exact q
    obtain ⟨r1, r2⟩ := repT_ok (topP_ok h.ring).1 n
    have hpos : 1 * 1 ≤ (topP e.Ring.Pieces).length * n := Nat.mul_le_mul (List.length_pos_iff.2 hc1) hn
    generalize (topP e.Ring.Pieces).length * n = m at *
    exact h.put ((insT_ok (by omega) h4 r2 ha).2 _ (by omega) (by omega))
theorem EOk.turnCase {e : TEd} (h : EOk e) (n : Nat) : EOk (turnCaseE e n).1 := by
  obtain ⟨h1, h2, h3, h4⟩ := h.atN
  unfold turnCaseE
  (first | refine iteK (fun _ => ?_) (fun _ => ?_) | split)
  · exact h.bell
  · obtain ⟨r1, r2⟩ := flipSt_ok h4 (Proofs.YtjhdikdopdcfcaaGreatDoor.atN e) (min (Proofs.YtjhdikdopdcfcaaGreatDoor.atN e + n) e.Line.Text.length - Proofs.YtjhdikdopdcfcaaGreatDoor.atN e) (by omega)
    exact h.put (line_ok_of (by omega) r2 (by omega) (by omega))
theorem EOk.waitSet {e : TEd} (h : EOk e) (hm : e.Mode = 2) {r : Int} (hr : waitC r = true) : EOk { e with Wait := r } :=
  ⟨h.line, h.own, h.back, h.cnt, h.opc, h.mode, h.end_, .inl hm, h.opz, h.op, .inr hr, h.find, h.last, h.ring, h.undo, h.nav, h.hit, h.nown, h.ql, h.qp, h.seek⟩
theorem howOf_of {r : Int} (h : 0 ≤ howOf r) : waitC r = true := by
  unfold howOf at h
  simp only [waitC, Bool.or_eq_true, beq_iff_eq]
  split at h
  · simp [*]
  split at h
  · simp [*]
  split at h
  · simp [*]
  split at h
  · simp [*]
  · omega
theorem EOk.begun {e : TEd} (h : EOk e) (hm : e.Mode = 2) {r : Int} {n : Nat} {p : TEd × Int} (hp : begunE e r n = some p) : EOk p.1 := by
  unfold begunE at hp
  (first | (rcases iteO hp with ⟨_, hp⟩ | ⟨_, hp⟩) | split at hp)
  · rename_i hc
    injection hp with hp; subst hp
    refine h.digit (inR_iff.2 ?_)
    rcases hc with hc | ⟨hc, -⟩
    · have := inR_iff.1 hc; omega
    · omega
  (first | (rcases iteO hp with ⟨_, hp⟩ | ⟨_, hp⟩) | split at hp)
  · rename_i hc
    injection hp with hp; subst hp
    exact h.waitSet hm (howOf_of hc)
  (first | (rcases iteO hp with ⟨_, hp⟩ | ⟨_, hp⟩) | split at hp)
  · injection hp with hp; subst hp
    (first | refine iteK (fun _ => ?_) (fun _ => ?_) | split)
    · exact h.bell
    · exact h.findIn hm _ _ _
  (first | (rcases iteO hp with ⟨_, hp⟩ | ⟨_, hp⟩) | split at hp)
  · injection hp with hp; subst hp
    (first | refine iteK (fun _ => ?_) (fun _ => ?_) | split)
    · exact h.bell
    · exact h.findIn hm _ _ _
  (first | (rcases iteO hp with ⟨_, hp⟩ | ⟨_, hp⟩) | split at hp)
  · rename_i hc
    injection hp with hp; subst hp
    have h0 : ¬ r = 0 := fun q => by rw [q] at hc; exact absurd hc.2 (by decide)
    exact ⟨h.line, h.own, h.back, z999, h.cnt, h.mode, h.end_, .inl hm, .inl h0, .inr hc.2, h.wait, h.find, h.last, h.ring, h.undo, h.nav, h.hit, h.nown, h.ql, h.qp, h.seek⟩
  · cases hp
theorem EOk.begin {e : TEd} (h : EOk e) (hm : e.Mode = 2) (r : Int) : EOk (beginE e r).1 := by
  obtain ⟨h1, h2, h3, h4⟩ := h.atN
  unfold beginE
  (first | refine iteK (fun _ => ?_) (fun _ => ?_) | split)
  · exact h.typingE hm h2
  (first | refine iteK (fun _ => ?_) (fun _ => ?_) | split)
  · exact h.typingE hm (stopN_spec _ _).1
  (first | refine iteK (fun _ => ?_) (fun _ => ?_) | split)
  · exact h.typingE hm (by omega)
  (first | refine iteK (fun _ => ?_) (fun _ => ?_) | split)
  · exact h.typingE hm (Nat.le_refl _)
  · exact h.bell
theorem EOk.viPlain {e : TEd} (h : EOk e) (hm : e.Mode = 2) {f : Int} {l : List ByteArray} (hh : HistI f l) (r : Int) {n : Nat} (hn : 1 ≤ n) : EOk (viPlainE e f l r n).1 := by
  obtain ⟨h1, h2, h3, h4⟩ := h.atN
  unfold viPlainE
  (first | refine iteK (fun _ => ?_) (fun _ => ?_) | split)
  · exact h.change hm _ (by omega) (by omega)
  (first | refine iteK (fun _ => ?_) (fun _ => ?_) | split)
  · exact h.change hm _ (by omega) (by omega)
  (first | refine iteK (fun _ => ?_) (fun _ => ?_) | split)
  · exact h.change hm _ (by omega) (by omega)
  (first | refine iteK (fun _ => ?_) (fun _ => ?_) | split)
  · exact h.change hm _ (by omega) (by omega)
  (first | refine iteK (fun _ => ?_) (fun _ => ?_) | split)
  · exact h.change hm _ (by omega) (by omega)
  (first | refine iteK (fun _ => ?_) (fun _ => ?_) | split)
  · exact h.change hm _ (by omega) (by omega)
  (first | refine iteK (fun _ => ?_) (fun _ => ?_) | split)
  · exact h.waitSet hm (by decide)
  (first | refine iteK (fun _ => ?_) (fun _ => ?_) | split)
  · exact h.paste (by omega) hn
  (first | refine iteK (fun _ => ?_) (fun _ => ?_) | split)
  · exact h.paste h2 hn
  (first | refine iteK (fun _ => ?_) (fun _ => ?_) | split)
  · exact h.turnCase _
  (first | refine iteK (fun _ => ?_) (fun _ => ?_) | split)
  · exact h.undo_
  (first | refine iteK (fun _ => ?_) (fun _ => ?_) | split)
  · exact h.step hh _
  (first | refine iteK (fun _ => ?_) (fun _ => ?_) | split)
  · exact h.step hh _
  (first | refine iteK (fun _ => ?_) (fun _ => ?_) | split)
  · exact h.seek_
  · exact h.begin hm r
theorem EOk.command {e : TEd} (h : EOk e) (hm : e.Mode = 2) {f : Int} {l : List ByteArray} (hh : HistI f l) (r : Int) {n : Nat} (hn : 1 ≤ n) : EOk (commandE e f l r n).1 := by
  obtain ⟨h1, h2, h3, h4⟩ := h.atN
  unfold commandE
  cases hb : begunE e r n with
  | some p => exact h.begun hm hb
  | none =>
    simp only
    (first | refine iteK (fun _ => ?_) (fun _ => ?_) | split)
    · exact h.change hm _ (Nat.zero_le _) (Nat.le_refl _)
    cases hp : motionTo e.Line.Text (Proofs.YtjhdikdopdcfcaaGreatDoor.atN e) r n with
    | some p => exact h.move hm _ (motionTo_le h2 hp)
    | none =>
      simp only
      (first | refine iteK (fun _ => ?_) (fun _ => ?_) | split)
      · exact h.bell
      · exact h.viPlain hm hh r hn
theorem EOk.esc {e : TEd} (h : EOk e) (hm : e.Mode = 1) : EOk (escE e).1 := by
  obtain ⟨h1, h2, h3, h4⟩ := h.atN
  have hv : e.Vi = true := by
    rcases h.mode with h1 | h1 | h1
    · omega
    · exact h1.2
    · omega
  have hc := h.cmd.resolve_left (by omega)
  have hs := h.seek.resolve_left (by omega)
  refine ⟨line_ok_of h3 h4 (by show 0 ≤ max (e.Line.At - 1) 0; omega) (by show max (e.Line.At - 1) 0 ≤ e.Line.Text.length; omega), h.own, h.back, z999, h.opc, .inr (.inl ⟨.inr rfl, hv⟩), ?_, .inl rfl, h.opz, h.op, h.wait, h.find, z3, h.ring, h.undo, h.nav, h.hit, h.nown, h.ql, h.qp, .inr hs⟩
  rintro ⟨-, q⟩
  have q : atEnd e.Line.Text (max (e.Line.At - 1) 0) = true := q
  simp only [atEnd, Bool.and_eq_true, decide_eq_true_eq, beq_iff_eq] at q
  omega
theorem EOk.vi_ {e : TEd} (h : EOk e) (hm : e.Mode = 1 ∨ e.Mode = 2) {f : Int} {l : List ByteArray} (hh : HistI f l) {k r : Int} (hk : keyOk k r = true) : EOk (viE e f l k r).1 := by
  obtain ⟨hn, -, -⟩ := h.effV
  unfold viE
  (first | refine iteK (fun _ => ?_) (fun _ => ?_) | split)
  · rename_i hm
    cases hp : plainE e f l k r with
    | some p => exact h.plain hh hk hp
    | none =>
      simp only
      (first | refine iteK (fun _ => ?_) (fun _ => ?_) | split)
      · exact h.esc hm
      · exact h.bell
  rename_i hm1
  have hm2 : e.Mode = 2 := hm.resolve_left hm1
  (first | refine iteK (fun _ => ?_) (fun _ => ?_) | split)
  · exact h.waited hm2 (by assumption) hk hn
  (first | refine iteK (fun _ => ?_) (fun _ => ?_) | split)
  · exact h.special hm2 hh _ _ _
  · exact h.command hm2 hh _ hn
theorem EOk.left {e : TEd} (h : EOk e) : EOk (leftE e) := by
  obtain ⟨h1, h2, h3, h4⟩ := h.atN
  unfold leftE
  have hz : ¬ e.Mode = 2 → e.Op = 0 ∧ e.Wait = 0 ∧ e.OpCount = 0 := fun q => h.cmd.resolve_left q
  obtain ⟨c1, c2⟩ := inCmdAt_ok (mode := if e.Vi = true then 2 else 0) h.line
  refine ⟨c1, h.own, rfl, h.cnt, h.opc, ?_, c2, ?_, h.opz, h.op, h.wait, h.find, h.last, h.ring, h.undo, h.nav, ⟨by show (0 : Int) ≤ 0; omega, by show (0 : Int) ≤ 1000000060; omega⟩, h.nown, Nat.zero_le _, rfl, .inr ⟨rfl, rfl, rfl⟩⟩
  · show ((if e.Vi = true then (2 : Int) else 0) = 0 ∧ e.Vi = false) ∨ (((if e.Vi = true then (2 : Int) else 0) = 1 ∨ (if e.Vi = true then (2 : Int) else 0) = 2) ∧ e.Vi = true) ∨ (if e.Vi = true then (2 : Int) else 0) = 3
    cases e.Vi
    · exact .inl ⟨rfl, rfl⟩
    · exact .inr (.inl ⟨.inr rfl, rfl⟩)
  · show (if e.Vi = true then (2 : Int) else 0) = 2 ∨ (e.Op = 0 ∧ e.Wait = 0 ∧ e.OpCount = 0)
    by_cases hv : e.Vi = true
    · rw [if_pos hv]; exact .inl rfl
    · right
      apply hz
      intro hm
      exact hv (h.vi2 hm)
end Go.Proofs.YtjhdikdopdcfcaaGreatDoor
namespace Go.Proofs.YtjhdikdopdcfcaaGreatDoor
open Go.RowKit
set_option linter.unusedSimpArgs false
set_option linter.unusedVariables false
set_option maxHeartbeats 4000000
theorem textOf_cons (r : Int) (l : List Int) : textOf (r :: l) = runeBytes r ++ textOf l := by unfold textOf; rw [List.flatMap_cons]
theorem textOf_app (a b : List Int) : textOf (a ++ b) = textOf a ++ textOf b := by unfold textOf; rw [List.flatMap_append]
theorem prefix_runes : ∀ (l t : List Int) (rest : List UInt8), (∀ r ∈ l, runeOk r = true) → (∀ r ∈ t, runeOk r = true) → textOf t = textOf l ++ rest → ∃ t2, t = l ++ t2 ∧ textOf t2 = rest
  | [], t, rest, _, _, h => ⟨t, rfl, h⟩
  | r :: l, [], rest, h1, _, h => by
    have hp := textOf_pos (h1 r (by simp))
    rw [textOf_cons] at h
    have := congrArg List.length h
    simp [textOf] at this
    omega
  | r :: l, x :: t, rest, h1, h2, h => by
    rw [textOf_cons, textOf_cons, List.append_assoc] at h
    have d1 := dec_rune (h2 x (by simp)) (textOf t)
    rw [h, dec_rune (h1 r (by simp))] at d1
    have hr : r = x := congrArg Prod.fst (Option.some.inj d1)
    subst hr
    obtain ⟨t2, e1, e2⟩ := prefix_runes l t rest (fun y hy => h1 y (by simp [hy])) (fun y hy => h2 y (by simp [hy])) (List.append_cancel_left h)
    exact ⟨t2, by rw [e1]; rfl, e2⟩
theorem reads_full {b : List UInt8} (h : runesR b = []) : b = textOf (runesL b) ∧ ∀ r ∈ runesL b, runeOk r = true := by
  have := runes_reads b
  rw [h] at this
  exact ⟨by have := this.1; rwa [List.append_nil] at this, this.2.1⟩
theorem runes_of_reads {b : List UInt8} {t : List Int} (h : Reads b t []) : runesL b = t ∧ runesR b = [] := by
  obtain ⟨h1, h2, -⟩ := h
  rw [List.append_nil] at h1
  obtain ⟨q1, q2, q3⟩ := runes_reads b
  obtain ⟨t2, e1, e2⟩ := prefix_runes (runesL b) t (runesR b) q2 h2 (by rw [← h1, ← q1])
  cases t2 with
  | nil => exact ⟨by rw [e1, List.append_nil], e2.symm⟩
  | cons x t2 =>
    exfalso
    rw [← e2, textOf_cons, dec_rune (h2 x (by rw [e1]; simp))] at q3
    cases q3
theorem runesOf_le {b : List UInt8} {t : List Int} (h : Reads b t []) (i : Nat) (s : ByteArray) (hs : s.data.toList = b.take i) : (runesOf s).length ≤ t.length := by
  unfold runesOf
  (first | refine iteK (fun _ => ?_) (fun _ => ?_) | split)
  · rename_i hr
    obtain ⟨q1, q2⟩ := reads_full hr
    obtain ⟨h1, h2, -⟩ := h
    rw [List.append_nil] at h1
    obtain ⟨t2, e1, -⟩ := prefix_runes (runesL s.data.toList) t (b.drop i) q2 h2 (by rw [← q1, hs, ← h1, List.take_append_drop])
    rw [e1, List.length_append]
    omega
  · exact Nat.zero_le _
theorem findBack_le {f : Int} {sub : List UInt8} {fr : Int} {l : List ByteArray} (hf : 1 ≤ f) : ∀ n : Nat, findBack f sub fr l n = 0 ∨ ∃ k : Nat, k < n ∧ findBack f sub fr l n = f + k
  | 0 => .inl rfl
  | n + 1 => by
    unfold findBack
    (first | refine iteK (fun _ => ?_) (fun _ => ?_) | split)
    · exact .inr ⟨n, by omega, rfl⟩
    · rcases findBack_le hf n with h | ⟨k, h1, h2⟩
      · exact .inl h
      · exact .inr ⟨k, by omega, h2⟩
theorem EOk.shown {e x : TEd} (h : EOk e) (hm : e.Mode = 3) {f : Int} {l : List ByteArray} (hh : HistI f l) {n : Int} {q : List Int} (hq : q.all printable = true) (hs : showHit e f l n q = some x) : EOk x := by
  have h1 := hh.first
  have h2 := hh.len
  unfold showHit at hs
  split at hs
  · rename_i hql
    split at hs
    · cases hs
    rename_i s hg
    split at hs
    · cases hs
    rename_i t ht
    split at hs
    · rename_i hi
      injection hs with hs
      subst hs
      obtain ⟨tok, tr⟩ := lineOf_ok ht
      have hn : f ≤ n ∧ n ≤ f + l.length - 1 := by
        unfold histAt at hg
        split at hg
        · assumption
        · cases hg
      have hext : (s.extract 0 (Lib.index s.data.toList (textOf q)).toNat).data.toList = s.data.toList.take (Lib.index s.data.toList (textOf q)).toNat := by
        simp [ByteArray.data_extract]
      have hle := runesOf_le tr _ _ hext
      simp only [textOk, Bool.and_eq_true, decide_eq_true_eq] at tok
      refine ⟨line_ok_of tok.1 tok.2 (Int.natCast_nonneg _) (Int.ofNat_le.2 hle), ?_, h.back, h.cnt, h.opc, h.mode, ?_, h.cmd, h.opz, h.op, h.wait, h.find, h.last, h.ring, rfl, ⟨by show 0 ≤ n; omega, by show n ≤ 1000000060; omega⟩, ⟨by show 0 ≤ n; omega, by show n ≤ 1000000060; omega⟩, .inl (by show ¬ n = 0; omega), hql, hq, .inl hm⟩
      · show lineOk (if e.Nav = 0 then e.Back else e.Own).Text (if e.Nav = 0 then e.Back else e.Own).At = true
        (first | refine iteK (fun _ => ?_) (fun _ => ?_) | split)
        · exact h.back
        · exact h.own
      · rintro ⟨q1, -⟩
        have q1 : e.Mode = 2 := q1
        omega
    · cases hs
  · cases hs
theorem EOk.hunt {e : TEd} (h : EOk e) (hm : e.Mode = 3) {f : Int} {l : List ByteArray} (hh : HistI f l) {q : List Int} (hq : q.all printable = true) (fr : Int) : EOk (huntE e f l q fr).1 := by
  unfold huntE
  cases hs : showHit e f l (findBack f (textOf q) (if e.Hit = 0 then histLast f l else fr) l l.length) q with
  | none => exact h
  | some x => exact h.shown hm hh hq hs
theorem EOk.search {e : TEd} (h : EOk e) (hm : e.Mode = 3) {f : Int} {l : List ByteArray} (hh : HistI f l) {k r : Int} (hk : keyOk k r = true) : EOk (searchE e f l k r).1 := by
  have hz := h.cmd.resolve_left (show ¬ e.Mode = 2 by omega)
  unfold searchE
  (first | refine iteK (fun _ => ?_) (fun _ => ?_) | split)
  · rename_i hk1
    subst hk1
    refine h.hunt hm hh ?_ _
    have hp : printable r = true := hk
    rw [List.all_append, h.qp]
    simp [hp]
  (first | refine iteK (fun _ => ?_) (fun _ => ?_) | split)
  · (first | refine iteK (fun _ => ?_) (fun _ => ?_) | split)
    · exact h
    · exact h.hunt hm hh h.qp _
  (first | refine iteK (fun _ => ?_) (fun _ => ?_) | split)
  · (first | refine iteK (fun _ => ?_) (fun _ => ?_) | split)
    · exact h
    · refine ⟨h.line, h.own, h.back, h.cnt, h.opc, h.mode, h.end_, h.cmd, h.opz, h.op, h.wait, h.find, h.last, h.ring, h.undo, h.nav, h.hit, h.nown, ?_, List.all_eq_true.2 fun x hx => List.all_eq_true.1 h.qp x (List.dropLast_subset _ hx), .inl hm⟩
      show e.Query.dropLast.length ≤ 40
      rw [List.length_dropLast]
      have := h.ql
      omega
  (first | refine iteK (fun _ => ?_) (fun _ => ?_) | split)
  · exact h.left
  (first | refine iteK (fun _ => ?_) (fun _ => ?_) | split)
  · refine EOk.left (e := { e with Line := e.Back, Nav := 0, Own := ⟨[], 0⟩ }) ?_
    refine ⟨h.back, rfl, h.back, h.cnt, h.opc, h.mode, ?_, h.cmd, h.opz, h.op, h.wait, h.find, h.last, h.ring, h.undo, ⟨by show (0 : Int) ≤ 0; omega, by show (0 : Int) ≤ 1000000060; omega⟩, h.hit, .inr rfl, h.ql, h.qp, .inl hm⟩
    rintro ⟨q1, -⟩
    have q1 : e.Mode = 2 := q1
    omega
  · exact h.left
theorem EOk.key {e : TEd} (h : EOk e) {f : Int} {l : List ByteArray} (hh : HistI f l) {k r : Int} (hk : keyOk k r = true) : EOk (edKeyE e f l k r).1 := by
  unfold edKeyE
  (first | refine iteK (fun _ => ?_) (fun _ => ?_) | split)
  · exact h.emacs hh hk
  (first | refine iteK (fun _ => ?_) (fun _ => ?_) | split)
  · exact h.search (by assumption) hh hk
  · refine h.vi_ ?_ hh hk
    rcases h.mode with h1 | h1 | h1
    · omega
    · exact h1.1
    · omega
end Go.Proofs.YtjhdikdopdcfcaaGreatDoor
namespace Go.Proofs.YtjhdikdopdcfcaaGreatDoor
open Go.RowKit
set_option linter.unusedSimpArgs false
set_option linter.unusedVariables false
set_option linter.unusedSectionVars false
set_option maxHeartbeats 8000000
set_option maxRecDepth 10000
theorem E_iHistGet_all (f : Int) (l : List ByteArray) (h : HistI f l) (n : Int) : M_iHistGet [.agg [V.v (.int .i64 f), .lst (some 0) (strs l)], V.v (.int .i64 n)] [] [] = some (match histAt f l n with | some s => ⟨.tup [V.v (.string s), V.v (.bool true)], [], []⟩ | none => ⟨.tup [V.v (.string (⟨#[]⟩)), V.v (.bool false)], [], []⟩) := by
  unfold histAt
  by_cases hc : f ≤ n ∧ n ≤ f + l.length - 1
  · rw [if_pos hc]
    have hk : (n - f).toNat < l.length := by omega
    rw [List.getElem?_eq_getElem hk]
    have e := E_iHistGet f l h (n - f).toNat hk
    have : f + ((n - f).toNat : Int) = n := by omega
    rw [this] at e
    exact e
  · rw [if_neg hc]
    exact E_iHistGet_no f l h n (by omega)
theorem E_iLineOf_all (s : ByteArray) (hs : s.size ≤ 65536) : M_iLineOf [V.v (.string s)] [] [] = some (match lineOf s with | some t => ⟨.tup [.agg [.own 0, V.v (.int .i64 ((t.length : Int)))], V.v (.bool true)], [], [(0, ints t)]⟩ | none => ⟨.tup [.agg [.own 0, V.v (.int .i64 0)], V.v (.bool false)], [], [(0, [])]⟩) := by
  have hr := runes_reads s.data.toList
  unfold lineOf
  by_cases hc : runesR s.data.toList = [] ∧ textOk (runesL s.data.toList) = true
  · rw [if_pos hc]
    rw [hc.1] at hr
    exact E_iLineOf s _ hr hc.2 hs
  · rw [if_neg hc]
    have e1 := E_iRunesOf s _ _ hr hs
    generalize hE : M_iLineOf _ _ _ = R
    unfold M_iLineOf at hE
    by_cases hz : runesR s.data.toList = []
    · have ht : textOk (runesL s.data.toList) = false := by
        cases q : textOk (runesL s.data.toList)
        · rfl
        · exact absurd ⟨hz, q⟩ hc
      have hlen := hr.len
      have hsz : s.data.toList.length = s.size := by rw [Array.length_toList]; rfl
      have e2 := E_iLineOk (runesL s.data.toList) (runesL s.data.toList).length (by omega)
      rw [show lineOk (runesL s.data.toList) (runesL s.data.toList).length = false from by unfold lineOk; rw [ht]; rfl] at e2
      rw [hz] at e1
      simp only [List.isEmpty_nil, if_true] at e1
      generalize runesL s.data.toList = t at *
      simp [Tryz.func148, Tryz.f148, e1, e2] at hE
      exact hE.symm
    · have hz' : (runesR s.data.toList).isEmpty = false := by simpa using hz
      rw [hz'] at e1
      simp only [Bool.false_eq_true, if_false] at e1
      simp [Tryz.func148, Tryz.f148, e1] at hE
      exact hE.symm
abbrev sR (o : Option TEd) : Res := match o with
  | some x => ⟨.tup [.agg [V.v (.bool x.Vi), V.v (.int .i64 x.Mode), .own 0, V.v (.int .i64 x.Line.At), V.v (.int .i64 x.Count), V.v (.int .i64 x.Op), V.v (.int .i64 x.OpCount), V.v (.int .i64 x.Wait), V.v (.int .i64 x.FindR), V.v (.int .i64 x.FindHow), V.v (.int .i64 x.Last), .own 1, .own 2, V.v (.int .i64 x.Nav), .own 3, V.v (.int .i64 x.Own.At), .own 4, V.v (.int .i64 x.Hit), .own 5, V.v (.int .i64 x.Back.At)], V.v (.bool true)], [], [(0, ints x.Line.Text), (1, dPieces x.Ring.Pieces), (2, dLines x.Undo.Lines), (3, ints x.Own.Text), (4, ints x.Query), (5, ints x.Back.Text)]⟩
  | none => ⟨.tup [.agg [V.v (.bool false), V.v (.int .i64 0), .own 0, V.v (.int .i64 0), V.v (.int .i64 0), V.v (.int .i64 0), V.v (.int .i64 0), V.v (.int .i64 0), V.v (.int .i64 0), V.v (.int .i64 0), V.v (.int .i64 0), .own 1, .own 2, V.v (.int .i64 0), .own 3, V.v (.int .i64 0), .own 4, V.v (.int .i64 0), .own 5, V.v (.int .i64 0)], V.v (.bool false)], [], [(0, []), (1, []), (2, []), (3, []), (4, []), (5, [])]⟩
theorem histAt_in {f : Int} {l : List ByteArray} (h : HistI f l) {n : Int} {s : ByteArray} (hs : histAt f l n = some s) : 1 ≤ s.size ∧ s.size ≤ 1000 := by
  unfold histAt at hs
  split at hs
  · obtain ⟨hk, e⟩ := List.getElem?_eq_some_iff.1 hs
    exact h.each s (by rw [← e]; exact List.getElem_mem hk)
  · cases hs
theorem inCmd_all (t : List Int) (a mode : Int) (h : lineOk t a = true) : M_iinCommand [.agg [.lst (some 0) (ints t), V.v (.int .i64 a)], V.v (.int .i64 mode)] [] [] = some ⟨.agg [.lst (some 0) (ints t), V.v (.int .i64 (inCmdAt mode t a))], [], []⟩ := by
  obtain ⟨h1, h2, h3, h4⟩ := line_len h
  exact E_iinCommand t a mode (by omega)
section
variable (e : TEd) (h : EOk e) {f : Int} {l : List ByteArray} (hh : HistI f l)
include h hh
theorem K_iEdStep (by_ : Int) (hb : by_ = 1 ∨ by_ = -1) : M_iEdStep [.agg [V.v (.bool e.Vi), V.v (.int .i64 e.Mode), .lst (some 0) (ints e.Line.Text), V.v (.int .i64 e.Line.At), V.v (.int .i64 e.Count), V.v (.int .i64 e.Op), V.v (.int .i64 e.OpCount), V.v (.int .i64 e.Wait), V.v (.int .i64 e.FindR), V.v (.int .i64 e.FindHow), V.v (.int .i64 e.Last), .lst (some 1) (dPieces e.Ring.Pieces), .lst (some 2) (dLines e.Undo.Lines), V.v (.int .i64 e.Nav), .lst (some 3) (ints e.Own.Text), V.v (.int .i64 e.Own.At), .lst (some 4) (ints e.Query), V.v (.int .i64 e.Hit), .lst (some 5) (ints e.Back.Text), V.v (.int .i64 e.Back.At)], .agg [V.v (.int .i64 f), .lst (some 6) (strs l)], V.v (.int .i64 by_)] [] [] = some (sR (histStep e f l by_)) := by
  have h1 := hh.first
  have h2 := hh.len
  have hnav := h.nav
  have e1 := E_iEdOk' e (eok_iff.2 h)
  have e2 := E_isettled e (EdB.of (eok_iff.2 h)) 0
  have e3 := E_iHistLast f l hh
  have hlast : 0 ≤ histLast f l ∧ histLast f l ≤ 1000000059 := by unfold histLast; split <;> omega
  have e6 := E_icopyLine e.Line.Text (some 0) e.Line.At (by have := (line_len h.line).1; omega)
  have e7 := E_icopyLine e.Own.Text (some 0) e.Own.At (by have := (line_len h.own).1; omega)
  have e8 := inCmd_all e.Own.Text e.Own.At e.Mode h.own
  have hzl := E_iLineOf_all ⟨#[]⟩ (by decide)
  have hz : lineOf ⟨#[]⟩ = some [] := by
    unfold lineOf
    obtain ⟨q1, q2⟩ := runes_of_reads reads_nil
    rw [q1, q2, if_pos ⟨rfl, by decide⟩]
  rw [hz] at hzl
  simp only [ints_nil, List.length_nil, Int.natCast_zero] at hzl
  have hstep : stepN e f l = if e.Nav = 0 then histLast f l + 1 else e.Nav := rfl
  unfold histStep
  generalize histLast f l = last at *
  have w1 := w64 (last + 1) (by omega)
  have w2 := w64 (e.Nav + 1) (by omega)
  by_cases hc : by_ = 1 ∧ ¬ e.Nav = 0 ∧ e.Nav = last
  · rw [if_pos hc]
    obtain ⟨rfl, c2, c3⟩ := hc
    subst c3
    generalize hE : M_iEdStep _ _ _ = R
    unfold M_iEdStep at hE
    simp [Tryz.func138, Tryz.f138, e1, e2, e3, e7, e8, c2, w1] at hE
    exact hE.symm
  · rw [if_neg hc]
    have e4 := E_iHistGet_all f l hh (stepN e f l + by_)
    by_cases hn : e.Nav = 0
    · rw [if_pos hn] at hstep
      rw [hstep] at e4 ⊢
      have w3 := w64 (last + 1 + by_) (by omega)
      simp only [hn] at e1 e2 ⊢
      rcases hb with rfl | rfl
      · cases hg : histAt f l (last + 1 + 1) with
        | none =>
          rw [hg] at e4
          simp only [Option.bind_none]
          generalize hE : M_iEdStep _ _ _ = R
          unfold M_iEdStep at hE
          simp [Tryz.func138, Tryz.f138, e1, e2, e3, w1, w2, w3, hn, e4, hzl] at hE
          exact hE.symm
        | some s =>
          rw [hg] at e4
          simp only [Option.bind_some]
          have e5 := E_iLineOf_all s (by have := (histAt_in hh hg).2; omega)
          cases hl : lineOf s with
          | none =>
            rw [hl] at e5
            generalize hE : M_iEdStep _ _ _ = R
            unfold M_iEdStep at hE
            simp [Tryz.func138, Tryz.f138, e1, e2, e3, w1, w2, w3, hn, e4, e5] at hE
            exact hE.symm
          | some t =>
            rw [hl] at e5
            simp only [if_true]
            by_cases hm : e.Mode = 2
            · simp only [hm, if_true] at e1 e2 ⊢
              generalize hE : M_iEdStep _ _ _ = R
              unfold M_iEdStep at hE
              simp [Tryz.func138, Tryz.f138, e1, e2, e3, w1, w2, w3, hn, e4, e5, e6, hm] at hE
              exact hE.symm.trans (by rw [← hm]; rfl)
            · rw [if_neg hm]
              generalize hE : M_iEdStep _ _ _ = R
              unfold M_iEdStep at hE
              simp [Tryz.func138, Tryz.f138, e1, e2, e3, w1, w2, w3, hn, e4, e5, e6, hm] at hE
              exact hE.symm
      · cases hg : histAt f l (last + 1 + -1) with
        | none =>
          rw [hg] at e4
          simp only [Option.bind_none]
          generalize hE : M_iEdStep _ _ _ = R
          unfold M_iEdStep at hE
          simp [Tryz.func138, Tryz.f138, e1, e2, e3, w1, w2, w3, hn, e4, hzl] at hE
          exact hE.symm
        | some s =>
          rw [hg] at e4
          simp only [Option.bind_some]
          have e5 := E_iLineOf_all s (by have := (histAt_in hh hg).2; omega)
          cases hl : lineOf s with
          | none =>
            rw [hl] at e5
            generalize hE : M_iEdStep _ _ _ = R
            unfold M_iEdStep at hE
            simp [Tryz.func138, Tryz.f138, e1, e2, e3, w1, w2, w3, hn, e4, e5] at hE
            exact hE.symm
          | some t =>
            rw [hl] at e5
            simp only [if_true]
            by_cases hm : e.Mode = 2
            · simp only [hm, if_true] at e1 e2 ⊢
              generalize hE : M_iEdStep _ _ _ = R
              unfold M_iEdStep at hE
              simp [Tryz.func138, Tryz.f138, e1, e2, e3, w1, w2, w3, hn, e4, e5, e6, hm] at hE
              exact hE.symm.trans (by rw [← hm]; rfl)
            · rw [if_neg hm]
              generalize hE : M_iEdStep _ _ _ = R
              unfold M_iEdStep at hE
              simp [Tryz.func138, Tryz.f138, e1, e2, e3, w1, w2, w3, hn, e4, e5, e6, hm] at hE
              exact hE.symm
    · rw [if_neg hn] at hstep
      rw [hstep] at e4 ⊢
      have w3 := w64 (e.Nav + by_) (by omega)
      rcases hb with rfl | rfl
      · have hne : ¬ e.Nav = last := fun q => hc ⟨rfl, hn, q⟩
        cases hg : histAt f l (e.Nav + 1) with
        | none =>
          rw [hg] at e4
          simp only [Option.bind_none]
          generalize hE : M_iEdStep _ _ _ = R
          unfold M_iEdStep at hE
          simp [Tryz.func138, Tryz.f138, e1, e2, e3, w1, w2, w3, hn, hne, e4, hzl] at hE
          exact hE.symm
        | some s =>
          rw [hg] at e4
          simp only [Option.bind_some]
          have e5 := E_iLineOf_all s (by have := (histAt_in hh hg).2; omega)
          cases hl : lineOf s with
          | none =>
            rw [hl] at e5
            generalize hE : M_iEdStep _ _ _ = R
            unfold M_iEdStep at hE
            simp [Tryz.func138, Tryz.f138, e1, e2, e3, w1, w2, w3, hn, hne, e4, e5] at hE
            exact hE.symm
          | some t =>
            rw [hl] at e5
            simp only [hn, if_false]
            by_cases hm : e.Mode = 2
            · simp only [hm, if_true] at e1 e2 ⊢
              generalize hE : M_iEdStep _ _ _ = R
              unfold M_iEdStep at hE
              simp [Tryz.func138, Tryz.f138, e1, e2, e3, w1, w2, w3, hn, hne, e4, e5, e6, hm] at hE
              exact hE.symm.trans (by rw [← hm]; rfl)
            · rw [if_neg hm]
              generalize hE : M_iEdStep _ _ _ = R
              unfold M_iEdStep at hE
              simp [Tryz.func138, Tryz.f138, e1, e2, e3, w1, w2, w3, hn, hne, e4, e5, e6, hm] at hE
              exact hE.symm
      · cases hg : histAt f l (e.Nav + -1) with
        | none =>
          rw [hg] at e4
          simp only [Option.bind_none]
          generalize hE : M_iEdStep _ _ _ = R
          unfold M_iEdStep at hE
          simp [Tryz.func138, Tryz.f138, e1, e2, e3, w1, w2, w3, hn, e4, hzl] at hE
          exact hE.symm
        | some s =>
          rw [hg] at e4
          simp only [Option.bind_some]
          have e5 := E_iLineOf_all s (by have := (histAt_in hh hg).2; omega)
          cases hl : lineOf s with
          | none =>
            rw [hl] at e5
            generalize hE : M_iEdStep _ _ _ = R
            unfold M_iEdStep at hE
            simp [Tryz.func138, Tryz.f138, e1, e2, e3, w1, w2, w3, hn, e4, e5] at hE
            exact hE.symm
          | some t =>
            rw [hl] at e5
            simp only [hn, if_false]
            by_cases hm : e.Mode = 2
            · simp only [hm, if_true] at e1 e2 ⊢
              generalize hE : M_iEdStep _ _ _ = R
              unfold M_iEdStep at hE
              simp [Tryz.func138, Tryz.f138, e1, e2, e3, w1, w2, w3, hn, e4, e5, e6, hm] at hE
              exact hE.symm.trans (by rw [← hm]; rfl)
            · rw [if_neg hm]
              generalize hE : M_iEdStep _ _ _ = R
              unfold M_iEdStep at hE
              simp [Tryz.func138, Tryz.f138, e1, e2, e3, w1, w2, w3, hn, e4, e5, e6, hm] at hE
              exact hE.symm
end
end Go.Proofs.YtjhdikdopdcfcaaGreatDoor
namespace Go.Proofs.YtjhdikdopdcfcaaGreatDoor
open Go.RowKit
set_option linter.unusedSimpArgs false
set_option linter.unusedVariables false
set_option maxHeartbeats 8000000
set_option maxRecDepth 10000
end Go.Proofs.YtjhdikdopdcfcaaGreatDoor
namespace Go.Proofs.YtjhdikdopdcfcaaGreatDoor
open Go.RowKit
set_option linter.unusedSimpArgs false
set_option linter.unusedVariables false
set_option maxHeartbeats 8000000
set_option maxRecDepth 10000
theorem E_icanKey' (e : TEd) (ok : e.ok = true) (f : Int) (l : List ByteArray) (h : HistI f l) (k r : Int) (hk : M_iKeyOk [.agg [V.v (.int .i64 k), V.v (.int .i64 r)]] [] [] = some ⟨V.v (.bool true), [], []⟩) : M_icanKey [.agg [V.v (.bool e.Vi), V.v (.int .i64 e.Mode), .lst (some 0) (ints e.Line.Text), V.v (.int .i64 e.Line.At), V.v (.int .i64 e.Count), V.v (.int .i64 e.Op), V.v (.int .i64 e.OpCount), V.v (.int .i64 e.Wait), V.v (.int .i64 e.FindR), V.v (.int .i64 e.FindHow), V.v (.int .i64 e.Last), .lst (some 1) (dPieces e.Ring.Pieces), .lst (some 2) (dLines e.Undo.Lines), V.v (.int .i64 e.Nav), .lst (some 3) (ints e.Own.Text), V.v (.int .i64 e.Own.At), .lst (some 4) (ints e.Query), V.v (.int .i64 e.Hit), .lst (some 5) (ints e.Back.Text), V.v (.int .i64 e.Back.At)], .agg [V.v (.int .i64 f), .lst (some 6) (strs l)], .agg [V.v (.int .i64 k), V.v (.int .i64 r)]] [] [] = some ⟨V.v (.bool true), [], []⟩ := by
  have e1 := E_iEdOk' e ok
  have e2 := E_iHistOk f l h
  unfold M_icanKey
  simp [Tryz.func74, Tryz.f74, e1, e2, hk]
abbrev KeyK (f : Int) (l : List ByteArray) (k r : Int) (e e' : TEd) (act : Int) : Prop := M_iEdKey [.agg [V.v (.bool e.Vi), V.v (.int .i64 e.Mode), .lst (some 0) (ints e.Line.Text), V.v (.int .i64 e.Line.At), V.v (.int .i64 e.Count), V.v (.int .i64 e.Op), V.v (.int .i64 e.OpCount), V.v (.int .i64 e.Wait), V.v (.int .i64 e.FindR), V.v (.int .i64 e.FindHow), V.v (.int .i64 e.Last), .lst (some 1) (dPieces e.Ring.Pieces), .lst (some 2) (dLines e.Undo.Lines), V.v (.int .i64 e.Nav), .lst (some 3) (ints e.Own.Text), V.v (.int .i64 e.Own.At), .lst (some 4) (ints e.Query), V.v (.int .i64 e.Hit), .lst (some 5) (ints e.Back.Text), V.v (.int .i64 e.Back.At)], .agg [V.v (.int .i64 f), .lst (some 6) (strs l)], .agg [V.v (.int .i64 k), V.v (.int .i64 r)]] [] [] = some ⟨.tup [.agg [V.v (.bool e'.Vi), V.v (.int .i64 e'.Mode), .own 0, V.v (.int .i64 e'.Line.At), V.v (.int .i64 e'.Count), V.v (.int .i64 e'.Op), V.v (.int .i64 e'.OpCount), V.v (.int .i64 e'.Wait), V.v (.int .i64 e'.FindR), V.v (.int .i64 e'.FindHow), V.v (.int .i64 e'.Last), .own 1, .own 2, V.v (.int .i64 e'.Nav), .own 3, V.v (.int .i64 e'.Own.At), .own 4, V.v (.int .i64 e'.Hit), .own 5, V.v (.int .i64 e'.Back.At)], V.v (.int .i64 act)], [], [(0, ints e'.Line.Text), (1, dPieces e'.Ring.Pieces), (2, dLines e'.Undo.Lines), (3, ints e'.Own.Text), (4, ints e'.Query), (5, ints e'.Back.Text)]⟩
section
variable {f : Int} {l : List ByteArray} (hh : HistI f l) (e e' : TEd) (ok : e.ok = true) (hm : e.Mode = 0) (act : Int)
theorem key_emacs (k r : Int) (h : M_iEmacsKey [.agg [V.v (.bool e.Vi), V.v (.int .i64 e.Mode), .lst (some 0) (ints e.Line.Text), V.v (.int .i64 e.Line.At), V.v (.int .i64 e.Count), V.v (.int .i64 e.Op), V.v (.int .i64 e.OpCount), V.v (.int .i64 e.Wait), V.v (.int .i64 e.FindR), V.v (.int .i64 e.FindHow), V.v (.int .i64 e.Last), .lst (some 1) (dPieces e.Ring.Pieces), .lst (some 2) (dLines e.Undo.Lines), V.v (.int .i64 e.Nav), .lst (some 3) (ints e.Own.Text), V.v (.int .i64 e.Own.At), .lst (some 4) (ints e.Query), V.v (.int .i64 e.Hit), .lst (some 5) (ints e.Back.Text), V.v (.int .i64 e.Back.At)], .agg [V.v (.int .i64 f), .lst (some 6) (strs l)], .agg [V.v (.int .i64 k), V.v (.int .i64 r)]] [] [] = some ⟨.tup [.agg [V.v (.bool e'.Vi), V.v (.int .i64 e'.Mode), .own 0, V.v (.int .i64 e'.Line.At), V.v (.int .i64 e'.Count), V.v (.int .i64 e'.Op), V.v (.int .i64 e'.OpCount), V.v (.int .i64 e'.Wait), V.v (.int .i64 e'.FindR), V.v (.int .i64 e'.FindHow), V.v (.int .i64 e'.Last), .own 1, .own 2, V.v (.int .i64 e'.Nav), .own 3, V.v (.int .i64 e'.Own.At), .own 4, V.v (.int .i64 e'.Hit), .own 5, V.v (.int .i64 e'.Back.At)], V.v (.int .i64 act)], [], [(0, ints e'.Line.Text), (1, dPieces e'.Ring.Pieces), (2, dLines e'.Undo.Lines), (3, ints e'.Own.Text), (4, ints e'.Query), (5, ints e'.Back.Text)]⟩) (hm : e.Mode = 0) : KeyK f l k r e e' act := by
  unfold KeyK M_iEdKey
  simp only [hm] at h ⊢
  simp [Tryz.func44, Tryz.f44, h]
include hh ok hm in
include hh ok hm in
include hh ok hm in
include hh ok hm in
end
theorem E_iplainCtrl_no (e : TEd) (hb : EdB e) (r : Int) (h : ¬ r = 99 ∧ ¬ r = 108 ∧ ¬ r = 100 ∧ ¬ r = 117 ∧ ¬ r = 119) : M_iplainCtrl [.agg [V.v (.bool e.Vi), V.v (.int .i64 e.Mode), .lst (some 0) (ints e.Line.Text), V.v (.int .i64 e.Line.At), V.v (.int .i64 e.Count), V.v (.int .i64 e.Op), V.v (.int .i64 e.OpCount), V.v (.int .i64 e.Wait), V.v (.int .i64 e.FindR), V.v (.int .i64 e.FindHow), V.v (.int .i64 e.Last), .lst (some 1) (dPieces e.Ring.Pieces), .lst (some 2) (dLines e.Undo.Lines), V.v (.int .i64 e.Nav), .lst (some 3) (ints e.Own.Text), V.v (.int .i64 e.Own.At), .lst (some 4) (ints e.Query), V.v (.int .i64 e.Hit), .lst (some 5) (ints e.Back.Text), V.v (.int .i64 e.Back.At)], V.v (.int .i64 r)] [] [] = some ⟨.tup [.agg [V.v (.bool false), V.v (.int .i64 0), .own 0, V.v (.int .i64 0), V.v (.int .i64 0), V.v (.int .i64 0), V.v (.int .i64 0), V.v (.int .i64 0), V.v (.int .i64 0), V.v (.int .i64 0), V.v (.int .i64 0), .own 1, .own 2, V.v (.int .i64 0), .own 3, V.v (.int .i64 0), .own 4, V.v (.int .i64 0), .own 5, V.v (.int .i64 0)], V.v (.int .i64 0), V.v (.bool false)], [], [(0, []), (1, []), (2, []), (3, []), (4, []), (5, [])]⟩ := by
  obtain ⟨h1, h2, h3, h4, h5⟩ := h
  have e1 := E_icopyEd e hb
  unfold M_iplainCtrl
  simp [Tryz.func98, Tryz.f98, e1, h1, h2, h3, h4, h5, ints_nil]
theorem E_iplainCtrl_u (e e' : TEd) (hb : EdB e) (act : Int) (h : M_ikill [.agg [V.v (.bool e.Vi), V.v (.int .i64 e.Mode), .lst (some 0) (ints e.Line.Text), V.v (.int .i64 e.Line.At), V.v (.int .i64 e.Count), V.v (.int .i64 e.Op), V.v (.int .i64 e.OpCount), V.v (.int .i64 e.Wait), V.v (.int .i64 e.FindR), V.v (.int .i64 e.FindHow), V.v (.int .i64 e.Last), .lst (some 1) (dPieces e.Ring.Pieces), .lst (some 2) (dLines e.Undo.Lines), V.v (.int .i64 e.Nav), .lst (some 3) (ints e.Own.Text), V.v (.int .i64 e.Own.At), .lst (some 4) (ints e.Query), V.v (.int .i64 e.Hit), .lst (some 5) (ints e.Back.Text), V.v (.int .i64 e.Back.At)], V.v (.int .i64 0), V.v (.int .i64 e.Line.At), V.v (.int .i64 2)] [] [] = some ⟨.tup [.agg [V.v (.bool e'.Vi), V.v (.int .i64 e'.Mode), .own 0, V.v (.int .i64 e'.Line.At), V.v (.int .i64 e'.Count), V.v (.int .i64 e'.Op), V.v (.int .i64 e'.OpCount), V.v (.int .i64 e'.Wait), V.v (.int .i64 e'.FindR), V.v (.int .i64 e'.FindHow), V.v (.int .i64 e'.Last), .own 1, .own 2, V.v (.int .i64 e'.Nav), .own 3, V.v (.int .i64 e'.Own.At), .own 4, V.v (.int .i64 e'.Hit), .own 5, V.v (.int .i64 e'.Back.At)], V.v (.int .i64 act)], [], [(0, ints e'.Line.Text), (1, dPieces e'.Ring.Pieces), (2, dLines e'.Undo.Lines), (3, ints e'.Own.Text), (4, ints e'.Query), (5, ints e'.Back.Text)]⟩) : M_iplainCtrl [.agg [V.v (.bool e.Vi), V.v (.int .i64 e.Mode), .lst (some 0) (ints e.Line.Text), V.v (.int .i64 e.Line.At), V.v (.int .i64 e.Count), V.v (.int .i64 e.Op), V.v (.int .i64 e.OpCount), V.v (.int .i64 e.Wait), V.v (.int .i64 e.FindR), V.v (.int .i64 e.FindHow), V.v (.int .i64 e.Last), .lst (some 1) (dPieces e.Ring.Pieces), .lst (some 2) (dLines e.Undo.Lines), V.v (.int .i64 e.Nav), .lst (some 3) (ints e.Own.Text), V.v (.int .i64 e.Own.At), .lst (some 4) (ints e.Query), V.v (.int .i64 e.Hit), .lst (some 5) (ints e.Back.Text), V.v (.int .i64 e.Back.At)], V.v (.int .i64 117)] [] [] = some ⟨.tup [.agg [V.v (.bool e'.Vi), V.v (.int .i64 e'.Mode), .own 0, V.v (.int .i64 e'.Line.At), V.v (.int .i64 e'.Count), V.v (.int .i64 e'.Op), V.v (.int .i64 e'.OpCount), V.v (.int .i64 e'.Wait), V.v (.int .i64 e'.FindR), V.v (.int .i64 e'.FindHow), V.v (.int .i64 e'.Last), .own 1, .own 2, V.v (.int .i64 e'.Nav), .own 3, V.v (.int .i64 e'.Own.At), .own 4, V.v (.int .i64 e'.Hit), .own 5, V.v (.int .i64 e'.Back.At)], V.v (.int .i64 act), V.v (.bool true)], [], [(0, ints e'.Line.Text), (1, dPieces e'.Ring.Pieces), (2, dLines e'.Undo.Lines), (3, ints e'.Own.Text), (4, ints e'.Query), (5, ints e'.Back.Text)]⟩ := by
  have e1 := E_icopyEd e hb
  unfold M_iplainCtrl
  simp [Tryz.func98, Tryz.f98, e1, h]
theorem E_iplainCtrl_w (e e' : TEd) (hb : EdB e) (act : Int) (b : Nat) (hv : M_iViWordBack [.lst (some 0) (ints e.Line.Text), V.v (.int .i64 e.Line.At), V.v (.bool true)] [] [] = some ⟨V.v (.int .i64 ((b : Int))), [], []⟩) (h : M_ikill [.agg [V.v (.bool e.Vi), V.v (.int .i64 e.Mode), .lst (some 0) (ints e.Line.Text), V.v (.int .i64 e.Line.At), V.v (.int .i64 e.Count), V.v (.int .i64 e.Op), V.v (.int .i64 e.OpCount), V.v (.int .i64 e.Wait), V.v (.int .i64 e.FindR), V.v (.int .i64 e.FindHow), V.v (.int .i64 e.Last), .lst (some 1) (dPieces e.Ring.Pieces), .lst (some 2) (dLines e.Undo.Lines), V.v (.int .i64 e.Nav), .lst (some 3) (ints e.Own.Text), V.v (.int .i64 e.Own.At), .lst (some 4) (ints e.Query), V.v (.int .i64 e.Hit), .lst (some 5) (ints e.Back.Text), V.v (.int .i64 e.Back.At)], V.v (.int .i64 ((b : Int))), V.v (.int .i64 e.Line.At), V.v (.int .i64 2)] [] [] = some ⟨.tup [.agg [V.v (.bool e'.Vi), V.v (.int .i64 e'.Mode), .own 0, V.v (.int .i64 e'.Line.At), V.v (.int .i64 e'.Count), V.v (.int .i64 e'.Op), V.v (.int .i64 e'.OpCount), V.v (.int .i64 e'.Wait), V.v (.int .i64 e'.FindR), V.v (.int .i64 e'.FindHow), V.v (.int .i64 e'.Last), .own 1, .own 2, V.v (.int .i64 e'.Nav), .own 3, V.v (.int .i64 e'.Own.At), .own 4, V.v (.int .i64 e'.Hit), .own 5, V.v (.int .i64 e'.Back.At)], V.v (.int .i64 act)], [], [(0, ints e'.Line.Text), (1, dPieces e'.Ring.Pieces), (2, dLines e'.Undo.Lines), (3, ints e'.Own.Text), (4, ints e'.Query), (5, ints e'.Back.Text)]⟩) : M_iplainCtrl [.agg [V.v (.bool e.Vi), V.v (.int .i64 e.Mode), .lst (some 0) (ints e.Line.Text), V.v (.int .i64 e.Line.At), V.v (.int .i64 e.Count), V.v (.int .i64 e.Op), V.v (.int .i64 e.OpCount), V.v (.int .i64 e.Wait), V.v (.int .i64 e.FindR), V.v (.int .i64 e.FindHow), V.v (.int .i64 e.Last), .lst (some 1) (dPieces e.Ring.Pieces), .lst (some 2) (dLines e.Undo.Lines), V.v (.int .i64 e.Nav), .lst (some 3) (ints e.Own.Text), V.v (.int .i64 e.Own.At), .lst (some 4) (ints e.Query), V.v (.int .i64 e.Hit), .lst (some 5) (ints e.Back.Text), V.v (.int .i64 e.Back.At)], V.v (.int .i64 119)] [] [] = some ⟨.tup [.agg [V.v (.bool e'.Vi), V.v (.int .i64 e'.Mode), .own 0, V.v (.int .i64 e'.Line.At), V.v (.int .i64 e'.Count), V.v (.int .i64 e'.Op), V.v (.int .i64 e'.OpCount), V.v (.int .i64 e'.Wait), V.v (.int .i64 e'.FindR), V.v (.int .i64 e'.FindHow), V.v (.int .i64 e'.Last), .own 1, .own 2, V.v (.int .i64 e'.Nav), .own 3, V.v (.int .i64 e'.Own.At), .own 4, V.v (.int .i64 e'.Hit), .own 5, V.v (.int .i64 e'.Back.At)], V.v (.int .i64 act), V.v (.bool true)], [], [(0, ints e'.Line.Text), (1, dPieces e'.Ring.Pieces), (2, dLines e'.Undo.Lines), (3, ints e'.Own.Text), (4, ints e'.Query), (5, ints e'.Back.Text)]⟩ := by
  have e1 := E_icopyEd e hb
  unfold M_iplainCtrl
  simp [Tryz.func98, Tryz.f98, e1, h, hv]
theorem E_iplain_ctrl (e e' : TEd) (f act r : Int) (ok : Bool) (l : List ByteArray) (h : M_iplainCtrl [.agg [V.v (.bool e.Vi), V.v (.int .i64 e.Mode), .lst (some 0) (ints e.Line.Text), V.v (.int .i64 e.Line.At), V.v (.int .i64 e.Count), V.v (.int .i64 e.Op), V.v (.int .i64 e.OpCount), V.v (.int .i64 e.Wait), V.v (.int .i64 e.FindR), V.v (.int .i64 e.FindHow), V.v (.int .i64 e.Last), .lst (some 1) (dPieces e.Ring.Pieces), .lst (some 2) (dLines e.Undo.Lines), V.v (.int .i64 e.Nav), .lst (some 3) (ints e.Own.Text), V.v (.int .i64 e.Own.At), .lst (some 4) (ints e.Query), V.v (.int .i64 e.Hit), .lst (some 5) (ints e.Back.Text), V.v (.int .i64 e.Back.At)], V.v (.int .i64 r)] [] [] = some ⟨.tup [.agg [V.v (.bool e'.Vi), V.v (.int .i64 e'.Mode), .own 0, V.v (.int .i64 e'.Line.At), V.v (.int .i64 e'.Count), V.v (.int .i64 e'.Op), V.v (.int .i64 e'.OpCount), V.v (.int .i64 e'.Wait), V.v (.int .i64 e'.FindR), V.v (.int .i64 e'.FindHow), V.v (.int .i64 e'.Last), .own 1, .own 2, V.v (.int .i64 e'.Nav), .own 3, V.v (.int .i64 e'.Own.At), .own 4, V.v (.int .i64 e'.Hit), .own 5, V.v (.int .i64 e'.Back.At)], V.v (.int .i64 act), V.v (.bool ok)], [], [(0, ints e'.Line.Text), (1, dPieces e'.Ring.Pieces), (2, dLines e'.Undo.Lines), (3, ints e'.Own.Text), (4, ints e'.Query), (5, ints e'.Back.Text)]⟩) : M_iplain [.agg [V.v (.bool e.Vi), V.v (.int .i64 e.Mode), .lst (some 0) (ints e.Line.Text), V.v (.int .i64 e.Line.At), V.v (.int .i64 e.Count), V.v (.int .i64 e.Op), V.v (.int .i64 e.OpCount), V.v (.int .i64 e.Wait), V.v (.int .i64 e.FindR), V.v (.int .i64 e.FindHow), V.v (.int .i64 e.Last), .lst (some 1) (dPieces e.Ring.Pieces), .lst (some 2) (dLines e.Undo.Lines), V.v (.int .i64 e.Nav), .lst (some 3) (ints e.Own.Text), V.v (.int .i64 e.Own.At), .lst (some 4) (ints e.Query), V.v (.int .i64 e.Hit), .lst (some 5) (ints e.Back.Text), V.v (.int .i64 e.Back.At)], .agg [V.v (.int .i64 f), .lst (some 6) (strs l)], .agg [V.v (.int .i64 2), V.v (.int .i64 r)]] [] [] = some ⟨.tup [.agg [V.v (.bool e'.Vi), V.v (.int .i64 e'.Mode), .own 0, V.v (.int .i64 e'.Line.At), V.v (.int .i64 e'.Count), V.v (.int .i64 e'.Op), V.v (.int .i64 e'.OpCount), V.v (.int .i64 e'.Wait), V.v (.int .i64 e'.FindR), V.v (.int .i64 e'.FindHow), V.v (.int .i64 e'.Last), .own 1, .own 2, V.v (.int .i64 e'.Nav), .own 3, V.v (.int .i64 e'.Own.At), .own 4, V.v (.int .i64 e'.Hit), .own 5, V.v (.int .i64 e'.Back.At)], V.v (.int .i64 act), V.v (.bool ok)], [], [(0, ints e'.Line.Text), (1, dPieces e'.Ring.Pieces), (2, dLines e'.Undo.Lines), (3, ints e'.Own.Text), (4, ints e'.Query), (5, ints e'.Back.Text)]⟩ := by
  unfold M_iplain
  simp [Tryz.func75, Tryz.f75, h]
theorem E_iemacsCtrl_k (e e' : TEd) (f act : Int) (l : List ByteArray) (h : M_ikill [.agg [V.v (.bool e.Vi), V.v (.int .i64 e.Mode), .lst (some 0) (ints e.Line.Text), V.v (.int .i64 e.Line.At), V.v (.int .i64 e.Count), V.v (.int .i64 e.Op), V.v (.int .i64 e.OpCount), V.v (.int .i64 e.Wait), V.v (.int .i64 e.FindR), V.v (.int .i64 e.FindHow), V.v (.int .i64 e.Last), .lst (some 1) (dPieces e.Ring.Pieces), .lst (some 2) (dLines e.Undo.Lines), V.v (.int .i64 e.Nav), .lst (some 3) (ints e.Own.Text), V.v (.int .i64 e.Own.At), .lst (some 4) (ints e.Query), V.v (.int .i64 e.Hit), .lst (some 5) (ints e.Back.Text), V.v (.int .i64 e.Back.At)], V.v (.int .i64 e.Line.At), V.v (.int .i64 ((e.Line.Text.length : Int))), V.v (.int .i64 1)] [] [] = some ⟨.tup [.agg [V.v (.bool e'.Vi), V.v (.int .i64 e'.Mode), .own 0, V.v (.int .i64 e'.Line.At), V.v (.int .i64 e'.Count), V.v (.int .i64 e'.Op), V.v (.int .i64 e'.OpCount), V.v (.int .i64 e'.Wait), V.v (.int .i64 e'.FindR), V.v (.int .i64 e'.FindHow), V.v (.int .i64 e'.Last), .own 1, .own 2, V.v (.int .i64 e'.Nav), .own 3, V.v (.int .i64 e'.Own.At), .own 4, V.v (.int .i64 e'.Hit), .own 5, V.v (.int .i64 e'.Back.At)], V.v (.int .i64 act)], [], [(0, ints e'.Line.Text), (1, dPieces e'.Ring.Pieces), (2, dLines e'.Undo.Lines), (3, ints e'.Own.Text), (4, ints e'.Query), (5, ints e'.Back.Text)]⟩) : M_iemacsCtrl [.agg [V.v (.bool e.Vi), V.v (.int .i64 e.Mode), .lst (some 0) (ints e.Line.Text), V.v (.int .i64 e.Line.At), V.v (.int .i64 e.Count), V.v (.int .i64 e.Op), V.v (.int .i64 e.OpCount), V.v (.int .i64 e.Wait), V.v (.int .i64 e.FindR), V.v (.int .i64 e.FindHow), V.v (.int .i64 e.Last), .lst (some 1) (dPieces e.Ring.Pieces), .lst (some 2) (dLines e.Undo.Lines), V.v (.int .i64 e.Nav), .lst (some 3) (ints e.Own.Text), V.v (.int .i64 e.Own.At), .lst (some 4) (ints e.Query), V.v (.int .i64 e.Hit), .lst (some 5) (ints e.Back.Text), V.v (.int .i64 e.Back.At)], .agg [V.v (.int .i64 f), .lst (some 6) (strs l)], V.v (.int .i64 107)] [] [] = some ⟨.tup [.agg [V.v (.bool e'.Vi), V.v (.int .i64 e'.Mode), .own 0, V.v (.int .i64 e'.Line.At), V.v (.int .i64 e'.Count), V.v (.int .i64 e'.Op), V.v (.int .i64 e'.OpCount), V.v (.int .i64 e'.Wait), V.v (.int .i64 e'.FindR), V.v (.int .i64 e'.FindHow), V.v (.int .i64 e'.Last), .own 1, .own 2, V.v (.int .i64 e'.Nav), .own 3, V.v (.int .i64 e'.Own.At), .own 4, V.v (.int .i64 e'.Hit), .own 5, V.v (.int .i64 e'.Back.At)], V.v (.int .i64 act)], [], [(0, ints e'.Line.Text), (1, dPieces e'.Ring.Pieces), (2, dLines e'.Undo.Lines), (3, ints e'.Own.Text), (4, ints e'.Query), (5, ints e'.Back.Text)]⟩ := by
  unfold M_iemacsCtrl
  simp [Tryz.func81, Tryz.f81, h]
theorem E_iemacsCtrl_t (e e' : TEd) (f act : Int) (l : List ByteArray) (u : List Int) (a : Int) (hs : M_iLineSwap [.agg [.lst (some 0) (ints e.Line.Text), V.v (.int .i64 e.Line.At)]] [] [] = some ⟨.tup [.agg [.own 0, V.v (.int .i64 a)], V.v (.bool true)], [], [(0, ints u)]⟩) (h : M_iput [.agg [V.v (.bool e.Vi), V.v (.int .i64 e.Mode), .lst (some 0) (ints e.Line.Text), V.v (.int .i64 e.Line.At), V.v (.int .i64 e.Count), V.v (.int .i64 e.Op), V.v (.int .i64 e.OpCount), V.v (.int .i64 e.Wait), V.v (.int .i64 e.FindR), V.v (.int .i64 e.FindHow), V.v (.int .i64 e.Last), .lst (some 1) (dPieces e.Ring.Pieces), .lst (some 2) (dLines e.Undo.Lines), V.v (.int .i64 e.Nav), .lst (some 3) (ints e.Own.Text), V.v (.int .i64 e.Own.At), .lst (some 4) (ints e.Query), V.v (.int .i64 e.Hit), .lst (some 5) (ints e.Back.Text), V.v (.int .i64 e.Back.At)], .agg [.lst (some 6) (ints u), V.v (.int .i64 a)]] [] [] = some ⟨.tup [.agg [V.v (.bool e'.Vi), V.v (.int .i64 e'.Mode), .own 0, V.v (.int .i64 e'.Line.At), V.v (.int .i64 e'.Count), V.v (.int .i64 e'.Op), V.v (.int .i64 e'.OpCount), V.v (.int .i64 e'.Wait), V.v (.int .i64 e'.FindR), V.v (.int .i64 e'.FindHow), V.v (.int .i64 e'.Last), .own 1, .own 2, V.v (.int .i64 e'.Nav), .own 3, V.v (.int .i64 e'.Own.At), .own 4, V.v (.int .i64 e'.Hit), .own 5, V.v (.int .i64 e'.Back.At)], V.v (.int .i64 act)], [], [(0, ints e'.Line.Text), (1, dPieces e'.Ring.Pieces), (2, dLines e'.Undo.Lines), (3, ints e'.Own.Text), (4, ints e'.Query), (5, ints e'.Back.Text)]⟩) : M_iemacsCtrl [.agg [V.v (.bool e.Vi), V.v (.int .i64 e.Mode), .lst (some 0) (ints e.Line.Text), V.v (.int .i64 e.Line.At), V.v (.int .i64 e.Count), V.v (.int .i64 e.Op), V.v (.int .i64 e.OpCount), V.v (.int .i64 e.Wait), V.v (.int .i64 e.FindR), V.v (.int .i64 e.FindHow), V.v (.int .i64 e.Last), .lst (some 1) (dPieces e.Ring.Pieces), .lst (some 2) (dLines e.Undo.Lines), V.v (.int .i64 e.Nav), .lst (some 3) (ints e.Own.Text), V.v (.int .i64 e.Own.At), .lst (some 4) (ints e.Query), V.v (.int .i64 e.Hit), .lst (some 5) (ints e.Back.Text), V.v (.int .i64 e.Back.At)], .agg [V.v (.int .i64 f), .lst (some 6) (strs l)], V.v (.int .i64 116)] [] [] = some ⟨.tup [.agg [V.v (.bool e'.Vi), V.v (.int .i64 e'.Mode), .own 0, V.v (.int .i64 e'.Line.At), V.v (.int .i64 e'.Count), V.v (.int .i64 e'.Op), V.v (.int .i64 e'.OpCount), V.v (.int .i64 e'.Wait), V.v (.int .i64 e'.FindR), V.v (.int .i64 e'.FindHow), V.v (.int .i64 e'.Last), .own 1, .own 2, V.v (.int .i64 e'.Nav), .own 3, V.v (.int .i64 e'.Own.At), .own 4, V.v (.int .i64 e'.Hit), .own 5, V.v (.int .i64 e'.Back.At)], V.v (.int .i64 act)], [], [(0, ints e'.Line.Text), (1, dPieces e'.Ring.Pieces), (2, dLines e'.Undo.Lines), (3, ints e'.Own.Text), (4, ints e'.Query), (5, ints e'.Back.Text)]⟩ := by
  unfold M_iemacsCtrl
  simp [Tryz.func81, Tryz.f81, hs, h]
theorem E_iemacsCtrl_t_no (e : TEd) (hb : EdB e) (f : Int) (l : List ByteArray) (hs : M_iLineSwap [.agg [.lst (some 0) (ints e.Line.Text), V.v (.int .i64 e.Line.At)]] [] [] = some ⟨.tup [.agg [.own 0, V.v (.int .i64 0)], V.v (.bool false)], [], [(0, [])]⟩) : M_iemacsCtrl [.agg [V.v (.bool e.Vi), V.v (.int .i64 e.Mode), .lst (some 0) (ints e.Line.Text), V.v (.int .i64 e.Line.At), V.v (.int .i64 e.Count), V.v (.int .i64 e.Op), V.v (.int .i64 e.OpCount), V.v (.int .i64 e.Wait), V.v (.int .i64 e.FindR), V.v (.int .i64 e.FindHow), V.v (.int .i64 e.Last), .lst (some 1) (dPieces e.Ring.Pieces), .lst (some 2) (dLines e.Undo.Lines), V.v (.int .i64 e.Nav), .lst (some 3) (ints e.Own.Text), V.v (.int .i64 e.Own.At), .lst (some 4) (ints e.Query), V.v (.int .i64 e.Hit), .lst (some 5) (ints e.Back.Text), V.v (.int .i64 e.Back.At)], .agg [V.v (.int .i64 f), .lst (some 6) (strs l)], V.v (.int .i64 116)] [] [] = some ⟨.tup [.agg [V.v (.bool e.Vi), V.v (.int .i64 e.Mode), .own 0, V.v (.int .i64 e.Line.At), V.v (.int .i64 0), V.v (.int .i64 0), V.v (.int .i64 0), V.v (.int .i64 0), V.v (.int .i64 e.FindR), V.v (.int .i64 e.FindHow), V.v (.int .i64 0), .own 1, .own 2, V.v (.int .i64 e.Nav), .own 3, V.v (.int .i64 e.Own.At), .own 4, V.v (.int .i64 e.Hit), .own 5, V.v (.int .i64 e.Back.At)], V.v (.int .i64 1)], [], [(0, ints e.Line.Text), (1, dPieces e.Ring.Pieces), (2, dLines e.Undo.Lines), (3, ints e.Own.Text), (4, ints e.Query), (5, ints e.Back.Text)]⟩ := by
  have e1 := E_ibell e hb
  unfold M_iemacsCtrl
  simp [Tryz.func81, Tryz.f81, hs, e1]
end Go.Proofs.YtjhdikdopdcfcaaGreatDoor
namespace Go.Proofs.YtjhdikdopdcfcaaGreatDoor
open Go.RowKit
set_option linter.unusedSimpArgs false
set_option linter.unusedVariables false
set_option linter.unusedSectionVars false
set_option maxHeartbeats 8000000
set_option maxRecDepth 10000
theorem E_iplain_none (e : TEd) (f r k : Int) (l : List ByteArray) (h : k = 3 ∨ k = 7 ∨ k = 15 ∨ k = 16) : M_iplain [.agg [V.v (.bool e.Vi), V.v (.int .i64 e.Mode), .lst (some 0) (ints e.Line.Text), V.v (.int .i64 e.Line.At), V.v (.int .i64 e.Count), V.v (.int .i64 e.Op), V.v (.int .i64 e.OpCount), V.v (.int .i64 e.Wait), V.v (.int .i64 e.FindR), V.v (.int .i64 e.FindHow), V.v (.int .i64 e.Last), .lst (some 1) (dPieces e.Ring.Pieces), .lst (some 2) (dLines e.Undo.Lines), V.v (.int .i64 e.Nav), .lst (some 3) (ints e.Own.Text), V.v (.int .i64 e.Own.At), .lst (some 4) (ints e.Query), V.v (.int .i64 e.Hit), .lst (some 5) (ints e.Back.Text), V.v (.int .i64 e.Back.At)], .agg [V.v (.int .i64 f), .lst (some 6) (strs l)], .agg [V.v (.int .i64 k), V.v (.int .i64 r)]] [] [] = some ⟨.tup [.agg [V.v (.bool false), V.v (.int .i64 0), .own 0, V.v (.int .i64 0), V.v (.int .i64 0), V.v (.int .i64 0), V.v (.int .i64 0), V.v (.int .i64 0), V.v (.int .i64 0), V.v (.int .i64 0), V.v (.int .i64 0), .own 1, .own 2, V.v (.int .i64 0), .own 3, V.v (.int .i64 0), .own 4, V.v (.int .i64 0), .own 5, V.v (.int .i64 0)], V.v (.int .i64 0), V.v (.bool false)], [], [(0, []), (1, []), (2, []), (3, []), (4, []), (5, [])]⟩ := by
  unfold M_iplain
  rcases h with rfl | rfl | rfl | rfl <;> simp [Tryz.func75, Tryz.f75, ints_nil]
abbrev kRo (o : Option (TEd × Int)) : Res := match o with
  | some p => kRt p true
  | none => kRt (zEd, 0) false
section
variable (e : TEd) (h : EOk e)
include h
theorem effN_eq : (effN e : Int) = max e.Count 1 ∧ 1 ≤ effN e ∧ effN e ≤ 999 := by
  have := h.cnt
  unfold effN
  omega
theorem K_icopyEd : M_icopyEd [.agg [V.v (.bool e.Vi), V.v (.int .i64 e.Mode), .lst (some 0) (ints e.Line.Text), V.v (.int .i64 e.Line.At), V.v (.int .i64 e.Count), V.v (.int .i64 e.Op), V.v (.int .i64 e.OpCount), V.v (.int .i64 e.Wait), V.v (.int .i64 e.FindR), V.v (.int .i64 e.FindHow), V.v (.int .i64 e.Last), .lst (some 1) (dPieces e.Ring.Pieces), .lst (some 2) (dLines e.Undo.Lines), V.v (.int .i64 e.Nav), .lst (some 3) (ints e.Own.Text), V.v (.int .i64 e.Own.At), .lst (some 4) (ints e.Query), V.v (.int .i64 e.Hit), .lst (some 5) (ints e.Back.Text), V.v (.int .i64 e.Back.At)]] [] [] = some ⟨.agg [V.v (.bool e.Vi), V.v (.int .i64 e.Mode), .own 0, V.v (.int .i64 e.Line.At), V.v (.int .i64 e.Count), V.v (.int .i64 e.Op), V.v (.int .i64 e.OpCount), V.v (.int .i64 e.Wait), V.v (.int .i64 e.FindR), V.v (.int .i64 e.FindHow), V.v (.int .i64 e.Last), .own 1, .own 2, V.v (.int .i64 e.Nav), .own 3, V.v (.int .i64 e.Own.At), .own 4, V.v (.int .i64 e.Hit), .own 5, V.v (.int .i64 e.Back.At)], [], [(0, ints e.Line.Text), (1, dPieces e.Ring.Pieces), (2, dLines e.Undo.Lines), (3, ints e.Own.Text), (4, ints e.Query), (5, ints e.Back.Text)]⟩ := E_icopyEd e (EdB.of (eok_iff.2 h))
theorem K_icut' (f u : Int) (F U : Nat) (hf : f = F) (hu : u = U) (h1 : F ≤ U) (h2 : U ≤ e.Line.Text.length) : M_icut [.agg [V.v (.bool e.Vi), V.v (.int .i64 e.Mode), .lst (some 0) (ints e.Line.Text), V.v (.int .i64 e.Line.At), V.v (.int .i64 e.Count), V.v (.int .i64 e.Op), V.v (.int .i64 e.OpCount), V.v (.int .i64 e.Wait), V.v (.int .i64 e.FindR), V.v (.int .i64 e.FindHow), V.v (.int .i64 e.Last), .lst (some 1) (dPieces e.Ring.Pieces), .lst (some 2) (dLines e.Undo.Lines), V.v (.int .i64 e.Nav), .lst (some 3) (ints e.Own.Text), V.v (.int .i64 e.Own.At), .lst (some 4) (ints e.Query), V.v (.int .i64 e.Hit), .lst (some 5) (ints e.Back.Text), V.v (.int .i64 e.Back.At)], V.v (.int .i64 f), V.v (.int .i64 u)] [] [] = some (kR (cutE e F U)) := by
  subst hf; subst hu; exact K_icut e h F U h1 h2
theorem K_ikill' (f u : Int) (F U : Nat) (how : Int) (hf : f = F) (hu : u = U) (hw : 0 ≤ how ∧ how ≤ 2) (h1 : F ≤ U) (h2 : U ≤ e.Line.Text.length) : M_ikill [.agg [V.v (.bool e.Vi), V.v (.int .i64 e.Mode), .lst (some 0) (ints e.Line.Text), V.v (.int .i64 e.Line.At), V.v (.int .i64 e.Count), V.v (.int .i64 e.Op), V.v (.int .i64 e.OpCount), V.v (.int .i64 e.Wait), V.v (.int .i64 e.FindR), V.v (.int .i64 e.FindHow), V.v (.int .i64 e.Last), .lst (some 1) (dPieces e.Ring.Pieces), .lst (some 2) (dLines e.Undo.Lines), V.v (.int .i64 e.Nav), .lst (some 3) (ints e.Own.Text), V.v (.int .i64 e.Own.At), .lst (some 4) (ints e.Query), V.v (.int .i64 e.Hit), .lst (some 5) (ints e.Back.Text), V.v (.int .i64 e.Back.At)], V.v (.int .i64 f), V.v (.int .i64 u), V.v (.int .i64 how)] [] [] = some (kR (killEd e F U how)) := by
  subst hf; subst hu; exact K_ikill e h F U how hw h1 h2
theorem K_iViWordBack (i : Option Nat) (big : Bool) : M_iViWordBack [.lst i (ints e.Line.Text), V.v (.int .i64 e.Line.At), V.v (.bool big)] [] [] = some ⟨V.v (.int .i64 (((viBack e.Line.Text big (atN e) : Nat) : Int))), [], []⟩ := by
  obtain ⟨h1, h2, h3, h4⟩ := h.atN
  rw [h1]
  exact E_iViWordBack _ _ _ _ h2 (by omega)
theorem K_iplainCtrl (r : Int) : M_iplainCtrl [.agg [V.v (.bool e.Vi), V.v (.int .i64 e.Mode), .lst (some 0) (ints e.Line.Text), V.v (.int .i64 e.Line.At), V.v (.int .i64 e.Count), V.v (.int .i64 e.Op), V.v (.int .i64 e.OpCount), V.v (.int .i64 e.Wait), V.v (.int .i64 e.FindR), V.v (.int .i64 e.FindHow), V.v (.int .i64 e.Last), .lst (some 1) (dPieces e.Ring.Pieces), .lst (some 2) (dLines e.Undo.Lines), V.v (.int .i64 e.Nav), .lst (some 3) (ints e.Own.Text), V.v (.int .i64 e.Own.At), .lst (some 4) (ints e.Query), V.v (.int .i64 e.Hit), .lst (some 5) (ints e.Back.Text), V.v (.int .i64 e.Back.At)], V.v (.int .i64 r)] [] [] = some (kRo (plainCtrlE e r)) := by
  obtain ⟨h1, h2, h3, h4⟩ := h.atN
  obtain ⟨n1, n2, n3⟩ := effN_eq e h
  have e0 := K_icopyEd e h
  by_cases c1 : r = 99
  · subst c1
    rw [show plainCtrlE e 99 = some (e, 3) from by simp [plainCtrlE]]
    unfold M_iplainCtrl
    simp [Tryz.func98, Tryz.f98, e0]
  by_cases c2 : r = 108
  · subst c2
    rw [show plainCtrlE e 108 = some (e, 5) from by simp [plainCtrlE]]
    unfold M_iplainCtrl
    simp [Tryz.func98, Tryz.f98, e0]
  by_cases c3 : r = 100
  · subst c3
    rw [show plainCtrlE e 100 = some (if e.Line.Text.length = 0 then (e, 4) else delE e) from by simp [plainCtrlE]]
    by_cases hz : e.Line.Text.length = 0
    · rw [if_pos hz]
      have hz0 : e.Line.Text = [] := List.length_eq_zero_iff.1 hz
      have hz' : ¬ 0 < e.Line.Text.length := by omega
      generalize hE : M_iplainCtrl _ _ _ = R
      unfold M_iplainCtrl at hE
      simp [Tryz.func98, Tryz.f98, e0, hz'] at hE
      exact hE.symm
    · rw [if_neg hz]
      have hz' : 0 < e.Line.Text.length := by omega
      have e1 := K_icut' e h e.Line.At (min (e.Line.At + max e.Count 1) e.Line.Text.length) (atN e) (min (atN e + effN e) e.Line.Text.length) h1 (by omega) (by omega) (by omega)
      have w := w64 (e.Line.At + max e.Count 1) (by omega)
      unfold delE
      generalize cutE e (atN e) (min (atN e + effN e) e.Line.Text.length) = p at *
      generalize hE : M_iplainCtrl _ _ _ = R
      unfold M_iplainCtrl at hE
      simp [Tryz.func98, Tryz.f98, e0, hz', e1, w] at hE
      exact hE.symm
  by_cases c4 : r = 117
  · subst c4
    rw [show plainCtrlE e 117 = some (killEd e 0 (atN e) 2) from by simp [plainCtrlE]]
    have e1 := K_ikill' e h 0 e.Line.At 0 (atN e) 2 rfl h1 (by omega) (by omega) h2
    exact E_iplainCtrl_u e _ (EdB.of (eok_iff.2 h)) _ e1
  by_cases c5 : r = 119
  · subst c5
    rw [show plainCtrlE e 119 = some (killEd e (viBack e.Line.Text true (atN e)) (atN e) 2) from by simp [plainCtrlE]]
    have e2 := K_iViWordBack e h (some 0) true
    have e1 := K_ikill' e h _ e.Line.At (viBack e.Line.Text true (atN e)) (atN e) 2 rfl h1 (by omega) viBack_le h2
    exact E_iplainCtrl_w e _ (EdB.of (eok_iff.2 h)) _ _ e2 e1
  rw [show plainCtrlE e r = none from by simp [plainCtrlE, c1, c2, c3, c4, c5]]
  exact E_iplainCtrl_no e (EdB.of (eok_iff.2 h)) r ⟨c1, c2, c3, c4, c5⟩
theorem K_iput_go (a : Int) : M_iput [.agg [V.v (.bool e.Vi), V.v (.int .i64 e.Mode), .lst (some 0) (ints e.Line.Text), V.v (.int .i64 e.Line.At), V.v (.int .i64 e.Count), V.v (.int .i64 e.Op), V.v (.int .i64 e.OpCount), V.v (.int .i64 e.Wait), V.v (.int .i64 e.FindR), V.v (.int .i64 e.FindHow), V.v (.int .i64 e.Last), .lst (some 1) (dPieces e.Ring.Pieces), .lst (some 2) (dLines e.Undo.Lines), V.v (.int .i64 e.Nav), .lst (some 3) (ints e.Own.Text), V.v (.int .i64 e.Own.At), .lst (some 4) (ints e.Query), V.v (.int .i64 e.Hit), .lst (some 5) (ints e.Back.Text), V.v (.int .i64 e.Back.At)], .agg [.lst (some 6) (ints e.Line.Text), V.v (.int .i64 (max 0 (min a e.Line.Text.length)))]] [] [] = some (kR (goE e a)) := by
  obtain ⟨h1, h2, h3, h4⟩ := h.atN
  exact K_iput e h _ _ (line_ok_of h3 h4 (by omega) (by omega))
variable {f : Int} {l : List ByteArray} (hh : HistI f l)
include hh
theorem K_istep (by_ : Int) (hb : by_ = 1 ∨ by_ = -1) : M_istep [.agg [V.v (.bool e.Vi), V.v (.int .i64 e.Mode), .lst (some 0) (ints e.Line.Text), V.v (.int .i64 e.Line.At), V.v (.int .i64 e.Count), V.v (.int .i64 e.Op), V.v (.int .i64 e.OpCount), V.v (.int .i64 e.Wait), V.v (.int .i64 e.FindR), V.v (.int .i64 e.FindHow), V.v (.int .i64 e.Last), .lst (some 1) (dPieces e.Ring.Pieces), .lst (some 2) (dLines e.Undo.Lines), V.v (.int .i64 e.Nav), .lst (some 3) (ints e.Own.Text), V.v (.int .i64 e.Own.At), .lst (some 4) (ints e.Query), V.v (.int .i64 e.Hit), .lst (some 5) (ints e.Back.Text), V.v (.int .i64 e.Back.At)], .agg [V.v (.int .i64 f), .lst (some 6) (strs l)], V.v (.int .i64 by_)] [] [] = some (kR (stepE e f l by_)) := by
  have e1 := K_iEdStep e h hh by_ hb
  have e2 := K_ibell e h
  unfold stepE
  cases hs : histStep e f l by_ with
  | none =>
    rw [hs] at e1
    exact E_istep_no e (EdB.of (eok_iff.2 h)) f by_ l e1
  | some x =>
    rw [hs] at e1
    exact E_istep_ok e x f by_ l e1
theorem K_iplain_put (k r c : Int) (hk : (k = 1 ∧ c = r) ∨ (k = 6 ∧ c = 9)) (hc : typed c = true) : M_iplain [.agg [V.v (.bool e.Vi), V.v (.int .i64 e.Mode), .lst (some 0) (ints e.Line.Text), V.v (.int .i64 e.Line.At), V.v (.int .i64 e.Count), V.v (.int .i64 e.Op), V.v (.int .i64 e.OpCount), V.v (.int .i64 e.Wait), V.v (.int .i64 e.FindR), V.v (.int .i64 e.FindHow), V.v (.int .i64 e.Last), .lst (some 1) (dPieces e.Ring.Pieces), .lst (some 2) (dLines e.Undo.Lines), V.v (.int .i64 e.Nav), .lst (some 3) (ints e.Own.Text), V.v (.int .i64 e.Own.At), .lst (some 4) (ints e.Query), V.v (.int .i64 e.Hit), .lst (some 5) (ints e.Back.Text), V.v (.int .i64 e.Back.At)], .agg [V.v (.int .i64 f), .lst (some 6) (strs l)], .agg [V.v (.int .i64 k), V.v (.int .i64 r)]] [] [] = some (kRt (insE e (List.replicate (effN e) c) 1) true) := by
  obtain ⟨n1, n2, n3⟩ := effN_eq e h
  have e1 := E_itimes [c] (some 0) (effN e) (by simp) n3
  rw [n1] at e1
  obtain ⟨k1, k2, k3, k4, k5, k6⟩ := timesN_spec 1 (effN e) (by decide)
  have hrep : ∀ m, repT m [c] = List.replicate m c := fun m => by
    induction m with
    | zero => rfl
    | succ m ih => rw [repT_succ, ih, List.replicate_succ']
  simp only [List.length_singleton, hrep] at e1
  have e2 := K_iinsert e h (List.replicate (timesN 1 (effN e)) c) 1 (all_repl hc _) (by simp; omega)
  have hq : insE e (List.replicate (timesN 1 (effN e)) c) 1 = insE e (List.replicate (effN e) c) 1 := by
    by_cases hle : effN e ≤ 400
    · rw [k2 (by omega)]
    · have q1 := k3 (by omega)
      unfold insE
      rw [if_neg (by simp; omega), if_neg (by simp; omega)]
  rw [hq] at e2
  generalize insE e (List.replicate (effN e) c) 1 = p at *
  generalize List.replicate (timesN 1 (effN e)) c = q at *
  simp only [ints_cons, ints_nil] at e1
  generalize hE : M_iplain _ _ _ = R
  unfold M_iplain at hE
  rcases hk with ⟨rfl, rfl⟩ | ⟨rfl, rfl⟩
  · simp [-ints_app, Tryz.func75, Tryz.f75, e1, e2] at hE
    exact hE.symm
  · simp [-ints_app, Tryz.func75, Tryz.f75, e1, e2] at hE
    exact hE.symm
theorem K_iplain_4 (r : Int) : M_iplain [.agg [V.v (.bool e.Vi), V.v (.int .i64 e.Mode), .lst (some 0) (ints e.Line.Text), V.v (.int .i64 e.Line.At), V.v (.int .i64 e.Count), V.v (.int .i64 e.Op), V.v (.int .i64 e.OpCount), V.v (.int .i64 e.Wait), V.v (.int .i64 e.FindR), V.v (.int .i64 e.FindHow), V.v (.int .i64 e.Last), .lst (some 1) (dPieces e.Ring.Pieces), .lst (some 2) (dLines e.Undo.Lines), V.v (.int .i64 e.Nav), .lst (some 3) (ints e.Own.Text), V.v (.int .i64 e.Own.At), .lst (some 4) (ints e.Query), V.v (.int .i64 e.Hit), .lst (some 5) (ints e.Back.Text), V.v (.int .i64 e.Back.At)], .agg [V.v (.int .i64 f), .lst (some 6) (strs l)], .agg [V.v (.int .i64 4), V.v (.int .i64 r)]] [] [] = some (kRt ((e, 2)) true) := by
  obtain ⟨h1, h2, h3, h4⟩ := h.atN
  obtain ⟨n1, n2, n3⟩ := effN_eq e h
  have e0 := K_icopyEd e h
  clear hh h
  generalize hE : M_iplain _ _ _ = R
  unfold M_iplain at hE
  simp [Tryz.func75, Tryz.f75, e0] at hE
  exact hE.symm
theorem K_iplain_5 (r : Int) : M_iplain [.agg [V.v (.bool e.Vi), V.v (.int .i64 e.Mode), .lst (some 0) (ints e.Line.Text), V.v (.int .i64 e.Line.At), V.v (.int .i64 e.Count), V.v (.int .i64 e.Op), V.v (.int .i64 e.OpCount), V.v (.int .i64 e.Wait), V.v (.int .i64 e.FindR), V.v (.int .i64 e.FindHow), V.v (.int .i64 e.Last), .lst (some 1) (dPieces e.Ring.Pieces), .lst (some 2) (dLines e.Undo.Lines), V.v (.int .i64 e.Nav), .lst (some 3) (ints e.Own.Text), V.v (.int .i64 e.Own.At), .lst (some 4) (ints e.Query), V.v (.int .i64 e.Hit), .lst (some 5) (ints e.Back.Text), V.v (.int .i64 e.Back.At)], .agg [V.v (.int .i64 f), .lst (some 6) (strs l)], .agg [V.v (.int .i64 5), V.v (.int .i64 r)]] [] [] = some (kRt (cutE e (atN e - effN e) (atN e)) true) := by
  obtain ⟨h1, h2, h3, h4⟩ := h.atN
  obtain ⟨n1, n2, n3⟩ := effN_eq e h
  have e1 := K_icut' e h (max (e.Line.At - max e.Count 1) 0) e.Line.At (atN e - effN e) (atN e) (by omega) h1 (by omega) h2
  have w := w64 (e.Line.At - max e.Count 1) (by omega)
  generalize cutE e (atN e - effN e) (atN e) = p at *
  clear hh h
  generalize hE : M_iplain _ _ _ = R
  unfold M_iplain at hE
  simp [Tryz.func75, Tryz.f75, e1, w] at hE
  exact hE.symm
theorem K_iplain_14 (r : Int) : M_iplain [.agg [V.v (.bool e.Vi), V.v (.int .i64 e.Mode), .lst (some 0) (ints e.Line.Text), V.v (.int .i64 e.Line.At), V.v (.int .i64 e.Count), V.v (.int .i64 e.Op), V.v (.int .i64 e.OpCount), V.v (.int .i64 e.Wait), V.v (.int .i64 e.FindR), V.v (.int .i64 e.FindHow), V.v (.int .i64 e.Last), .lst (some 1) (dPieces e.Ring.Pieces), .lst (some 2) (dLines e.Undo.Lines), V.v (.int .i64 e.Nav), .lst (some 3) (ints e.Own.Text), V.v (.int .i64 e.Own.At), .lst (some 4) (ints e.Query), V.v (.int .i64 e.Hit), .lst (some 5) (ints e.Back.Text), V.v (.int .i64 e.Back.At)], .agg [V.v (.int .i64 f), .lst (some 6) (strs l)], .agg [V.v (.int .i64 14), V.v (.int .i64 r)]] [] [] = some (kRt (delE e) true) := by
  obtain ⟨h1, h2, h3, h4⟩ := h.atN
  obtain ⟨n1, n2, n3⟩ := effN_eq e h
  have e1 := K_icut' e h e.Line.At (min (e.Line.At + max e.Count 1) e.Line.Text.length) (atN e) (min (atN e + effN e) e.Line.Text.length) h1 (by omega) (by omega) (by omega)
  have w := w64 (e.Line.At + max e.Count 1) (by omega)
  unfold delE
  generalize cutE e (atN e) (min (atN e + effN e) e.Line.Text.length) = p at *
  clear hh h
  generalize hE : M_iplain _ _ _ = R
  unfold M_iplain at hE
  simp [Tryz.func75, Tryz.f75, e1, w] at hE
  exact hE.symm
theorem K_iplain_11 (r : Int) : M_iplain [.agg [V.v (.bool e.Vi), V.v (.int .i64 e.Mode), .lst (some 0) (ints e.Line.Text), V.v (.int .i64 e.Line.At), V.v (.int .i64 e.Count), V.v (.int .i64 e.Op), V.v (.int .i64 e.OpCount), V.v (.int .i64 e.Wait), V.v (.int .i64 e.FindR), V.v (.int .i64 e.FindHow), V.v (.int .i64 e.Last), .lst (some 1) (dPieces e.Ring.Pieces), .lst (some 2) (dLines e.Undo.Lines), V.v (.int .i64 e.Nav), .lst (some 3) (ints e.Own.Text), V.v (.int .i64 e.Own.At), .lst (some 4) (ints e.Query), V.v (.int .i64 e.Hit), .lst (some 5) (ints e.Back.Text), V.v (.int .i64 e.Back.At)], .agg [V.v (.int .i64 f), .lst (some 6) (strs l)], .agg [V.v (.int .i64 11), V.v (.int .i64 r)]] [] [] = some (kRt (goE e (e.Line.At - effN e)) true) := by
  obtain ⟨h1, h2, h3, h4⟩ := h.atN
  obtain ⟨n1, n2, n3⟩ := effN_eq e h
  rw [n1]
  have e1 := K_iput_go e h (e.Line.At - max e.Count 1)
  have e2 := E_igoTo e.Line.Text (some 0) e.Line.At (e.Line.At - max e.Count 1) (by omega)
  have w := w64 (e.Line.At - max e.Count 1) (by omega)
  generalize goE e (e.Line.At - max e.Count 1) = p at *
  clear hh h
  generalize hE : M_iplain _ _ _ = R
  unfold M_iplain at hE
  simp [Tryz.func75, Tryz.f75, e1, e2, w] at hE
  exact hE.symm
theorem K_iplain_10 (r : Int) : M_iplain [.agg [V.v (.bool e.Vi), V.v (.int .i64 e.Mode), .lst (some 0) (ints e.Line.Text), V.v (.int .i64 e.Line.At), V.v (.int .i64 e.Count), V.v (.int .i64 e.Op), V.v (.int .i64 e.OpCount), V.v (.int .i64 e.Wait), V.v (.int .i64 e.FindR), V.v (.int .i64 e.FindHow), V.v (.int .i64 e.Last), .lst (some 1) (dPieces e.Ring.Pieces), .lst (some 2) (dLines e.Undo.Lines), V.v (.int .i64 e.Nav), .lst (some 3) (ints e.Own.Text), V.v (.int .i64 e.Own.At), .lst (some 4) (ints e.Query), V.v (.int .i64 e.Hit), .lst (some 5) (ints e.Back.Text), V.v (.int .i64 e.Back.At)], .agg [V.v (.int .i64 f), .lst (some 6) (strs l)], .agg [V.v (.int .i64 10), V.v (.int .i64 r)]] [] [] = some (kRt (goE e (e.Line.At + effN e)) true) := by
  obtain ⟨h1, h2, h3, h4⟩ := h.atN
  obtain ⟨n1, n2, n3⟩ := effN_eq e h
  rw [n1]
  have e1 := K_iput_go e h (e.Line.At + max e.Count 1)
  have e2 := E_igoTo e.Line.Text (some 0) e.Line.At (e.Line.At + max e.Count 1) (by omega)
  have w := w64 (e.Line.At + max e.Count 1) (by omega)
  generalize goE e (e.Line.At + max e.Count 1) = p at *
  clear hh h
  generalize hE : M_iplain _ _ _ = R
  unfold M_iplain at hE
  simp [Tryz.func75, Tryz.f75, e1, e2, w] at hE
  exact hE.symm
theorem K_iplain_12 (r : Int) : M_iplain [.agg [V.v (.bool e.Vi), V.v (.int .i64 e.Mode), .lst (some 0) (ints e.Line.Text), V.v (.int .i64 e.Line.At), V.v (.int .i64 e.Count), V.v (.int .i64 e.Op), V.v (.int .i64 e.OpCount), V.v (.int .i64 e.Wait), V.v (.int .i64 e.FindR), V.v (.int .i64 e.FindHow), V.v (.int .i64 e.Last), .lst (some 1) (dPieces e.Ring.Pieces), .lst (some 2) (dLines e.Undo.Lines), V.v (.int .i64 e.Nav), .lst (some 3) (ints e.Own.Text), V.v (.int .i64 e.Own.At), .lst (some 4) (ints e.Query), V.v (.int .i64 e.Hit), .lst (some 5) (ints e.Back.Text), V.v (.int .i64 e.Back.At)], .agg [V.v (.int .i64 f), .lst (some 6) (strs l)], .agg [V.v (.int .i64 12), V.v (.int .i64 r)]] [] [] = some (kRt (goE e 0) true) := by
  obtain ⟨h1, h2, h3, h4⟩ := h.atN
  obtain ⟨n1, n2, n3⟩ := effN_eq e h
  have e1 := K_iput_go e h 0
  have e2 := E_igoTo e.Line.Text (some 0) e.Line.At 0 (by omega)
  have m : max (0 : Int) (min 0 e.Line.Text.length) = 0 := by omega
  rw [m] at e1 e2
  generalize goE e 0 = p at *
  clear hh h
  generalize hE : M_iplain _ _ _ = R
  unfold M_iplain at hE
  simp [Tryz.func75, Tryz.f75, e1, e2] at hE
  exact hE.symm
theorem K_iplain_13 (r : Int) : M_iplain [.agg [V.v (.bool e.Vi), V.v (.int .i64 e.Mode), .lst (some 0) (ints e.Line.Text), V.v (.int .i64 e.Line.At), V.v (.int .i64 e.Count), V.v (.int .i64 e.Op), V.v (.int .i64 e.OpCount), V.v (.int .i64 e.Wait), V.v (.int .i64 e.FindR), V.v (.int .i64 e.FindHow), V.v (.int .i64 e.Last), .lst (some 1) (dPieces e.Ring.Pieces), .lst (some 2) (dLines e.Undo.Lines), V.v (.int .i64 e.Nav), .lst (some 3) (ints e.Own.Text), V.v (.int .i64 e.Own.At), .lst (some 4) (ints e.Query), V.v (.int .i64 e.Hit), .lst (some 5) (ints e.Back.Text), V.v (.int .i64 e.Back.At)], .agg [V.v (.int .i64 f), .lst (some 6) (strs l)], .agg [V.v (.int .i64 13), V.v (.int .i64 r)]] [] [] = some (kRt (goE e e.Line.Text.length) true) := by
  obtain ⟨h1, h2, h3, h4⟩ := h.atN
  obtain ⟨n1, n2, n3⟩ := effN_eq e h
  have e1 := K_iput_go e h e.Line.Text.length
  have e2 := E_igoTo e.Line.Text (some 0) e.Line.At e.Line.Text.length (by omega)
  have m : max (0 : Int) (min e.Line.Text.length e.Line.Text.length) = e.Line.Text.length := by omega
  rw [m] at e1 e2
  generalize goE e e.Line.Text.length = p at *
  clear hh h
  generalize hE : M_iplain _ _ _ = R
  unfold M_iplain at hE
  simp [Tryz.func75, Tryz.f75, e1, e2] at hE
  exact hE.symm
theorem K_iplain_8 (r : Int) : M_iplain [.agg [V.v (.bool e.Vi), V.v (.int .i64 e.Mode), .lst (some 0) (ints e.Line.Text), V.v (.int .i64 e.Line.At), V.v (.int .i64 e.Count), V.v (.int .i64 e.Op), V.v (.int .i64 e.OpCount), V.v (.int .i64 e.Wait), V.v (.int .i64 e.FindR), V.v (.int .i64 e.FindHow), V.v (.int .i64 e.Last), .lst (some 1) (dPieces e.Ring.Pieces), .lst (some 2) (dLines e.Undo.Lines), V.v (.int .i64 e.Nav), .lst (some 3) (ints e.Own.Text), V.v (.int .i64 e.Own.At), .lst (some 4) (ints e.Query), V.v (.int .i64 e.Hit), .lst (some 5) (ints e.Back.Text), V.v (.int .i64 e.Back.At)], .agg [V.v (.int .i64 f), .lst (some 6) (strs l)], .agg [V.v (.int .i64 8), V.v (.int .i64 r)]] [] [] = some (kRt (stepE e f l (-1)) true) := by
  obtain ⟨h1, h2, h3, h4⟩ := h.atN
  obtain ⟨n1, n2, n3⟩ := effN_eq e h
  have e1 := K_istep e h hh (-1) (.inr rfl)
  generalize stepE e f l (-1) = p at *
  clear hh h
  generalize hE : M_iplain _ _ _ = R
  unfold M_iplain at hE
  simp [Tryz.func75, Tryz.f75, e1] at hE
  exact hE.symm
theorem K_iplain_9 (r : Int) : M_iplain [.agg [V.v (.bool e.Vi), V.v (.int .i64 e.Mode), .lst (some 0) (ints e.Line.Text), V.v (.int .i64 e.Line.At), V.v (.int .i64 e.Count), V.v (.int .i64 e.Op), V.v (.int .i64 e.OpCount), V.v (.int .i64 e.Wait), V.v (.int .i64 e.FindR), V.v (.int .i64 e.FindHow), V.v (.int .i64 e.Last), .lst (some 1) (dPieces e.Ring.Pieces), .lst (some 2) (dLines e.Undo.Lines), V.v (.int .i64 e.Nav), .lst (some 3) (ints e.Own.Text), V.v (.int .i64 e.Own.At), .lst (some 4) (ints e.Query), V.v (.int .i64 e.Hit), .lst (some 5) (ints e.Back.Text), V.v (.int .i64 e.Back.At)], .agg [V.v (.int .i64 f), .lst (some 6) (strs l)], .agg [V.v (.int .i64 9), V.v (.int .i64 r)]] [] [] = some (kRt (stepE e f l 1) true) := by
  obtain ⟨h1, h2, h3, h4⟩ := h.atN
  obtain ⟨n1, n2, n3⟩ := effN_eq e h
  have e1 := K_istep e h hh 1 (.inl rfl)
  generalize stepE e f l 1 = p at *
  clear hh h
  generalize hE : M_iplain _ _ _ = R
  unfold M_iplain at hE
  simp [Tryz.func75, Tryz.f75, e1] at hE
  exact hE.symm
theorem K_iplain (k r : Int) (hk : keyOk k r = true) : M_iplain [.agg [V.v (.bool e.Vi), V.v (.int .i64 e.Mode), .lst (some 0) (ints e.Line.Text), V.v (.int .i64 e.Line.At), V.v (.int .i64 e.Count), V.v (.int .i64 e.Op), V.v (.int .i64 e.OpCount), V.v (.int .i64 e.Wait), V.v (.int .i64 e.FindR), V.v (.int .i64 e.FindHow), V.v (.int .i64 e.Last), .lst (some 1) (dPieces e.Ring.Pieces), .lst (some 2) (dLines e.Undo.Lines), V.v (.int .i64 e.Nav), .lst (some 3) (ints e.Own.Text), V.v (.int .i64 e.Own.At), .lst (some 4) (ints e.Query), V.v (.int .i64 e.Hit), .lst (some 5) (ints e.Back.Text), V.v (.int .i64 e.Back.At)], .agg [V.v (.int .i64 f), .lst (some 6) (strs l)], .agg [V.v (.int .i64 k), V.v (.int .i64 r)]] [] [] = some (kRo (plainE e f l k r)) := by
  unfold plainE
  by_cases c1 : k = 1
  · rw [if_pos c1]
    have hp : printable r = true := by subst c1; exact hk
    exact K_iplain_put e h hh k r r (.inl ⟨c1, rfl⟩) (printable_typed hp)
  rw [if_neg c1]
  by_cases c6 : k = 6
  · rw [if_pos c6]
    exact K_iplain_put e h hh k r 9 (.inr ⟨c6, rfl⟩) (by decide)
  rw [if_neg c6]
  by_cases c4 : k = 4
  · rw [if_pos c4]; subst c4; exact K_iplain_4 e h hh r
  rw [if_neg c4]
  by_cases c2 : k = 2
  · rw [if_pos c2]
    subst c2
    have e1 := K_iplainCtrl e h r
    cases hp : plainCtrlE e r with
    | none =>
      rw [hp] at e1
      exact E_iplain_ctrl e zEd f 0 r false l e1
    | some p =>
      rw [hp] at e1
      exact E_iplain_ctrl e p.1 f p.2 r true l e1
  rw [if_neg c2]
  by_cases c5 : k = 5
  · rw [if_pos c5]; subst c5; exact K_iplain_5 e h hh r
  rw [if_neg c5]
  by_cases c14 : k = 14
  · rw [if_pos c14]; subst c14; exact K_iplain_14 e h hh r
  rw [if_neg c14]
  by_cases c11 : k = 11
  · rw [if_pos c11]; subst c11; exact K_iplain_11 e h hh r
  rw [if_neg c11]
  by_cases c10 : k = 10
  · rw [if_pos c10]; subst c10; exact K_iplain_10 e h hh r
  rw [if_neg c10]
  by_cases c12 : k = 12
  · rw [if_pos c12]; subst c12; exact K_iplain_12 e h hh r
  rw [if_neg c12]
  by_cases c13 : k = 13
  · rw [if_pos c13]; subst c13; exact K_iplain_13 e h hh r
  rw [if_neg c13]
  by_cases c8 : k = 8
  · rw [if_pos c8]; subst c8; exact K_iplain_8 e h hh r
  rw [if_neg c8]
  by_cases c9 : k = 9
  · rw [if_pos c9]; subst c9; exact K_iplain_9 e h hh r
  rw [if_neg c9]
  have hk' : k = 3 ∨ k = 7 ∨ k = 15 ∨ k = 16 := by
    unfold keyOk at hk
    rw [if_neg c1, if_neg c2] at hk
    by_cases c3 : k = 3
    · exact .inl c3
    · rw [if_neg c3, Bool.and_eq_true] at hk
      have := inR_iff.1 hk.1
      omega
  exact E_iplain_none e f r k l hk'
end
end Go.Proofs.YtjhdikdopdcfcaaGreatDoor
namespace Go.Proofs.YtjhdikdopdcfcaaGreatDoor
open Go.RowKit
set_option linter.unusedSimpArgs false
set_option linter.unusedVariables false
set_option maxHeartbeats 8000000
set_option maxRecDepth 10000
theorem E_irep_emacsMeta_1 (t : List Int) (n a : Nat) (ha : a ≤ t.length) (ht : t.length ≤ 2000) (hn : n ≤ 999) : M_irepeated [V.v (.int .i64 ((a : Int))), V.v (.int .i64 ((n : Int))), .fn 103 [.ref 0 0]] [[.lst (some 0) (ints t)]] [] = some ⟨V.v (.int .i64 (((iterN (wordBack t) n a : Nat) : Int))), [[.lst (some 0) (ints t)]], []⟩ := by
  have e1 : ∀ p : Nat, p ≤ t.length → M_impl_emacsMeta_1 [V.v (.int .i64 ((p : Int))), .ref 0 0] [[.lst (some 0) (ints t)]] [] = some ⟨V.v (.int .i64 (((wordBack t p : Nat) : Int))), [[.lst (some 0) (ints t)]], []⟩ := fun p hp => by
    have h := E_iWordBack t (some 0) p hp ht
    unfold M_impl_emacsMeta_1
    simp [Tryz.func103, Tryz.f103, h, show List.range' 0 1 = [0] from rfl]
  have hle : ∀ j, iterN (wordBack t) j a ≤ t.length := fun j => iterN_le (fun a ha => Nat.le_trans wordBack_le ha) j a ha
  generalize hE : M_irepeated _ _ _ = R
  unfold M_irepeated at hE
  simp [Tryz.func77, Tryz.f77] at hE
  rw [loopV_go (fun j => .on ⟨[(8, V.v (.int .i64 ((j : Int)))), (7, V.v (.int .i64 ((n : Int)))), (2, .fn 103 [.ref 1000000000 0]), (0, V.v (.int .i64 (((iterN (wordBack t) j a : Nat) : Int))))], [(1000000000, [.lst (some 0) (ints t)])], [], []⟩) n ?_ ?_] at hE
  · simp [show List.range' 0 1 = [0] from rfl] at hE
    exact hE.symm
  · simp [iterN]
  · intro j hj
    have hw := w64 ((j : Int) + 1) (by omega)
    have e2 := e1 _ (hle j)
    rw [iterN_succ]
    generalize iterN (wordBack t) j a = p at *
    simp [hj, hw, e2, show List.range' 0 1 = [0] from rfl]
theorem E_irep_emacsMeta_2 (t : List Int) (n a : Nat) (ha : a ≤ t.length) (ht : t.length ≤ 2000) (hn : n ≤ 999) : M_irepeated [V.v (.int .i64 ((a : Int))), V.v (.int .i64 ((n : Int))), .fn 104 [.ref 0 0]] [[.lst (some 0) (ints t)]] [] = some ⟨V.v (.int .i64 (((iterN (wordOn t) n a : Nat) : Int))), [[.lst (some 0) (ints t)]], []⟩ := by
  have e1 : ∀ p : Nat, p ≤ t.length → M_impl_emacsMeta_2 [V.v (.int .i64 ((p : Int))), .ref 0 0] [[.lst (some 0) (ints t)]] [] = some ⟨V.v (.int .i64 (((wordOn t p : Nat) : Int))), [[.lst (some 0) (ints t)]], []⟩ := fun p hp => by
    have h := E_iWordOn t (some 0) p hp ht
    unfold M_impl_emacsMeta_2
    simp [Tryz.func104, Tryz.f104, h, show List.range' 0 1 = [0] from rfl]
  have hle : ∀ j, iterN (wordOn t) j a ≤ t.length := fun j => iterN_le (fun a ha => (wordOn_le ha).2) j a ha
  generalize hE : M_irepeated _ _ _ = R
  unfold M_irepeated at hE
  simp [Tryz.func77, Tryz.f77] at hE
  rw [loopV_go (fun j => .on ⟨[(8, V.v (.int .i64 ((j : Int)))), (7, V.v (.int .i64 ((n : Int)))), (2, .fn 104 [.ref 1000000000 0]), (0, V.v (.int .i64 (((iterN (wordOn t) j a : Nat) : Int))))], [(1000000000, [.lst (some 0) (ints t)])], [], []⟩) n ?_ ?_] at hE
  · simp [show List.range' 0 1 = [0] from rfl] at hE
    exact hE.symm
  · simp [iterN]
  · intro j hj
    have hw := w64 ((j : Int) + 1) (by omega)
    have e2 := e1 _ (hle j)
    rw [iterN_succ]
    generalize iterN (wordOn t) j a = p at *
    simp [hj, hw, e2, show List.range' 0 1 = [0] from rfl]
theorem E_irep_EmacsKey_1 (t : List Int) (n a : Nat) (ha : a ≤ t.length) (ht : t.length ≤ 2000) (hn : n ≤ 999) : M_irepeated [V.v (.int .i64 ((a : Int))), V.v (.int .i64 ((n : Int))), .fn 78 [.ref 0 0]] [[.lst (some 0) (ints t)]] [] = some ⟨V.v (.int .i64 (((iterN (wordBack t) n a : Nat) : Int))), [[.lst (some 0) (ints t)]], []⟩ := by
  have e1 : ∀ p : Nat, p ≤ t.length → M_impl_EmacsKey_1 [V.v (.int .i64 ((p : Int))), .ref 0 0] [[.lst (some 0) (ints t)]] [] = some ⟨V.v (.int .i64 (((wordBack t p : Nat) : Int))), [[.lst (some 0) (ints t)]], []⟩ := fun p hp => by
    have h := E_iWordBack t (some 0) p hp ht
    unfold M_impl_EmacsKey_1
    simp [Tryz.func78, Tryz.f78, h, show List.range' 0 1 = [0] from rfl]
  have hle : ∀ j, iterN (wordBack t) j a ≤ t.length := fun j => iterN_le (fun a ha => Nat.le_trans wordBack_le ha) j a ha
  generalize hE : M_irepeated _ _ _ = R
  unfold M_irepeated at hE
  simp [Tryz.func77, Tryz.f77] at hE
  rw [loopV_go (fun j => .on ⟨[(8, V.v (.int .i64 ((j : Int)))), (7, V.v (.int .i64 ((n : Int)))), (2, .fn 78 [.ref 1000000000 0]), (0, V.v (.int .i64 (((iterN (wordBack t) j a : Nat) : Int))))], [(1000000000, [.lst (some 0) (ints t)])], [], []⟩) n ?_ ?_] at hE
  · simp [show List.range' 0 1 = [0] from rfl] at hE
    exact hE.symm
  · simp [iterN]
  · intro j hj
    have hw := w64 ((j : Int) + 1) (by omega)
    have e2 := e1 _ (hle j)
    rw [iterN_succ]
    generalize iterN (wordBack t) j a = p at *
    simp [hj, hw, e2, show List.range' 0 1 = [0] from rfl]
end Go.Proofs.YtjhdikdopdcfcaaGreatDoor
namespace Go.Proofs.YtjhdikdopdcfcaaGreatDoor
open Go.RowKit
set_option linter.unusedSimpArgs false
set_option linter.unusedVariables false
set_option linter.unusedSectionVars false
set_option maxHeartbeats 8000000
set_option maxRecDepth 10000
section
variable (e : TEd) (h : EOk e)
include h
theorem K_iyank : M_iyank [.agg [V.v (.bool e.Vi), V.v (.int .i64 e.Mode), .lst (some 0) (ints e.Line.Text), V.v (.int .i64 e.Line.At), V.v (.int .i64 e.Count), V.v (.int .i64 e.Op), V.v (.int .i64 e.OpCount), V.v (.int .i64 e.Wait), V.v (.int .i64 e.FindR), V.v (.int .i64 e.FindHow), V.v (.int .i64 e.Last), .lst (some 1) (dPieces e.Ring.Pieces), .lst (some 2) (dLines e.Undo.Lines), V.v (.int .i64 e.Nav), .lst (some 3) (ints e.Own.Text), V.v (.int .i64 e.Own.At), .lst (some 4) (ints e.Query), V.v (.int .i64 e.Hit), .lst (some 5) (ints e.Back.Text), V.v (.int .i64 e.Back.At)]] [] [] = some (kR (yankE e)) := by
  have e1 : M_iRingTop [.agg [.lst (some 0) (dPieces e.Ring.Pieces)]] [] [] = some ⟨.own 0, [], [(0, ints (topP e.Ring.Pieces))]⟩ := E_iRingTop e.Ring.Pieces h.ring
  obtain ⟨t1, t2⟩ := topP_ok h.ring
  unfold yankE
  by_cases hc : topP e.Ring.Pieces = []
  · rw [if_pos hc]
    have e2 := K_ibell e h
    rw [hc] at e1
    simp only [ints_nil] at e1
    generalize bellE e = p at *
    generalize hE : M_iyank _ _ _ = R
    unfold M_iyank at hE
    simp [-ints_app, Tryz.func114, Tryz.f114, e1, e2] at hE
    exact hE.symm
  · rw [if_neg hc]
    have e2 := K_iinsert e h (topP e.Ring.Pieces) 3 t1 (by omega)
    generalize insE e (topP e.Ring.Pieces) 3 = p at *
    generalize topP e.Ring.Pieces = u at *
    generalize hE : M_iyank _ _ _ = R
    unfold M_iyank at hE
    simp [-ints_app, Tryz.func114, Tryz.f114, e1, e2, hc] at hE
    exact hE.symm
theorem K_iWordOn (i : Option Nat) : M_iWordOn [.lst i (ints e.Line.Text), V.v (.int .i64 e.Line.At)] [] [] = some ⟨V.v (.int .i64 (((wordOn e.Line.Text (atN e) : Nat) : Int))), [], []⟩ := by
  obtain ⟨h1, h2, h3, h4⟩ := h.atN
  rw [h1]
  exact E_iWordOn _ _ _ h2 (by omega)
theorem K_icase (r how : Int) (hr : (r = 117 ∧ how = 1) ∨ (r = 108 ∧ how = 0) ∨ (r = 99 ∧ how = 2)) : M_iemacsMeta [.agg [V.v (.bool e.Vi), V.v (.int .i64 e.Mode), .lst (some 0) (ints e.Line.Text), V.v (.int .i64 e.Line.At), V.v (.int .i64 e.Count), V.v (.int .i64 e.Op), V.v (.int .i64 e.OpCount), V.v (.int .i64 e.Wait), V.v (.int .i64 e.FindR), V.v (.int .i64 e.FindHow), V.v (.int .i64 e.Last), .lst (some 1) (dPieces e.Ring.Pieces), .lst (some 2) (dLines e.Undo.Lines), V.v (.int .i64 e.Nav), .lst (some 3) (ints e.Own.Text), V.v (.int .i64 e.Own.At), .lst (some 4) (ints e.Query), V.v (.int .i64 e.Hit), .lst (some 5) (ints e.Back.Text), V.v (.int .i64 e.Back.At)], V.v (.int .i64 r)] [] [] = some (kR (caseE e how)) := by
  obtain ⟨h1, h2, h3, h4⟩ := h.atN
  have hw := wordOn_le h2
  have e1 := K_iWordOn e h (some 0)
  have e2 := E_iLineCase e.Line.Text e.Line.At h.line (atN e) (wordOn e.Line.Text (atN e)) hw.1 hw.2 how (by omega)
  rw [← h1] at e2
  have hl := caseSt_len e.Line.Text (atN e) how (wordOn e.Line.Text (atN e) - atN e)
  have e3 := K_iput e h (caseSt e.Line.Text (atN e) how (wordOn e.Line.Text (atN e) - atN e)).1 (wordOn e.Line.Text (atN e)) (line_ok_of (by omega) (caseSt_typed h4 _ _ _) (by omega) (by omega))
  unfold caseE
  generalize (caseSt e.Line.Text (atN e) how (wordOn e.Line.Text (atN e) - atN e)).1 = u at *
  generalize wordOn e.Line.Text (atN e) = b at *
  generalize putE e u b = p at *
  have d1 : inR 117 48 57 = false := by decide
  have d2 : inR 99 48 57 = false := by decide
  have d3 : inR 108 48 57 = false := by decide
  clear h h2 h3 h4 hw hl
  generalize hE : M_iemacsMeta _ _ _ = R
  unfold M_iemacsMeta at hE
  rcases hr with ⟨rfl, rfl⟩ | ⟨rfl, rfl⟩ | ⟨rfl, rfl⟩
  · simp [Tryz.func76, Tryz.f76, E_iisDigit, d1, e1, e2, e3] at hE
    exact hE.symm
  · simp [Tryz.func76, Tryz.f76, E_iisDigit, d3, e1, e2, e3] at hE
    exact hE.symm
  · simp [Tryz.func76, Tryz.f76, E_iisDigit, d2, e1, e2, e3] at hE
    exact hE.symm
theorem K_iswap : ∀ (f : Int) (l : List ByteArray), M_iemacsCtrl [.agg [V.v (.bool e.Vi), V.v (.int .i64 e.Mode), .lst (some 0) (ints e.Line.Text), V.v (.int .i64 e.Line.At), V.v (.int .i64 e.Count), V.v (.int .i64 e.Op), V.v (.int .i64 e.OpCount), V.v (.int .i64 e.Wait), V.v (.int .i64 e.FindR), V.v (.int .i64 e.FindHow), V.v (.int .i64 e.Last), .lst (some 1) (dPieces e.Ring.Pieces), .lst (some 2) (dLines e.Undo.Lines), V.v (.int .i64 e.Nav), .lst (some 3) (ints e.Own.Text), V.v (.int .i64 e.Own.At), .lst (some 4) (ints e.Query), V.v (.int .i64 e.Hit), .lst (some 5) (ints e.Back.Text), V.v (.int .i64 e.Back.At)], .agg [V.v (.int .i64 f), .lst (some 6) (strs l)], V.v (.int .i64 116)] [] [] = some (kR (swapE e)) := fun f l => by
  obtain ⟨h1, h2, h3, h4⟩ := h.atN
  unfold swapE
  by_cases hc : e.Line.Text.length < 2 ∨ e.Line.At = 0
  · rw [if_pos hc]
    exact E_iemacsCtrl_t_no e (EdB.of (eok_iff.2 h)) f l (E_iLineSwap_no _ _ h.line hc)
  · rw [if_neg hc]
    have hl := swapAt_len e.Line.Text (min (atN e) (e.Line.Text.length - 1))
    have e1 := E_iLineSwap e.Line.Text e.Line.At h.line (by omega) (min (atN e) (e.Line.Text.length - 1)) (by omega) (by omega)
    have e2 := K_iput e h (swapAt e.Line.Text (min (atN e) (e.Line.Text.length - 1))) ((min (atN e) (e.Line.Text.length - 1) : Nat) + 1) (line_ok_of (by omega) (swapAt_typed h4 (by omega)) (by omega) (by omega))
    exact E_iemacsCtrl_t e _ f _ l _ _ e1 e2
theorem K_iundo : M_iundo [.agg [V.v (.bool e.Vi), V.v (.int .i64 e.Mode), .lst (some 0) (ints e.Line.Text), V.v (.int .i64 e.Line.At), V.v (.int .i64 e.Count), V.v (.int .i64 e.Op), V.v (.int .i64 e.OpCount), V.v (.int .i64 e.Wait), V.v (.int .i64 e.FindR), V.v (.int .i64 e.FindHow), V.v (.int .i64 e.Last), .lst (some 1) (dPieces e.Ring.Pieces), .lst (some 2) (dLines e.Undo.Lines), V.v (.int .i64 e.Nav), .lst (some 3) (ints e.Own.Text), V.v (.int .i64 e.Own.At), .lst (some 4) (ints e.Query), V.v (.int .i64 e.Hit), .lst (some 5) (ints e.Back.Text), V.v (.int .i64 e.Back.At)]] [] [] = some (kR (undoE e)) := by
  unfold undoE
  by_cases h0 : e.Undo.Lines = []
  · have : e.Undo.Lines.getLast? = none := by rw [h0]; rfl
    rw [this]
    exact E_iundo_no e (eok_iff.2 h) h0
  · rw [List.getLast?_eq_some_getLast h0]
    exact E_iundo e (eok_iff.2 h) h0
theorem K_iseek : M_iseek [.agg [V.v (.bool e.Vi), V.v (.int .i64 e.Mode), .lst (some 0) (ints e.Line.Text), V.v (.int .i64 e.Line.At), V.v (.int .i64 e.Count), V.v (.int .i64 e.Op), V.v (.int .i64 e.OpCount), V.v (.int .i64 e.Wait), V.v (.int .i64 e.FindR), V.v (.int .i64 e.FindHow), V.v (.int .i64 e.Last), .lst (some 1) (dPieces e.Ring.Pieces), .lst (some 2) (dLines e.Undo.Lines), V.v (.int .i64 e.Nav), .lst (some 3) (ints e.Own.Text), V.v (.int .i64 e.Own.At), .lst (some 4) (ints e.Query), V.v (.int .i64 e.Hit), .lst (some 5) (ints e.Back.Text), V.v (.int .i64 e.Back.At)]] [] [] = some (kR (seekE e)) := by
  have e1 := E_isettled e (EdB.of (eok_iff.2 h)) 0
  have e2 := E_icopyLine e.Line.Text (some 0) e.Line.At (by have := (line_len h.line).1; omega)
  generalize hE : M_iseek _ _ _ = R
  unfold M_iseek at hE
  simp [Tryz.func117, Tryz.f117, e1, e2] at hE
  exact hE.symm
theorem K_idigit (r : Int) (hr : inR r 48 57 = true) : M_iemacsMeta [.agg [V.v (.bool e.Vi), V.v (.int .i64 e.Mode), .lst (some 0) (ints e.Line.Text), V.v (.int .i64 e.Line.At), V.v (.int .i64 e.Count), V.v (.int .i64 e.Op), V.v (.int .i64 e.OpCount), V.v (.int .i64 e.Wait), V.v (.int .i64 e.FindR), V.v (.int .i64 e.FindHow), V.v (.int .i64 e.Last), .lst (some 1) (dPieces e.Ring.Pieces), .lst (some 2) (dLines e.Undo.Lines), V.v (.int .i64 e.Nav), .lst (some 3) (ints e.Own.Text), V.v (.int .i64 e.Own.At), .lst (some 4) (ints e.Query), V.v (.int .i64 e.Hit), .lst (some 5) (ints e.Back.Text), V.v (.int .i64 e.Back.At)], V.v (.int .i64 r)] [] [] = some (kR (digitE e r)) := by
  have hr2 := inR_iff.1 hr
  have hc := h.cnt
  have e0 := K_icopyEd e h
  have w1 := w64 (10 * e.Count) (by omega)
  have w2 := w64 (10 * e.Count + r) (by omega)
  have w3 := w64 (10 * e.Count + r - 48) (by omega)
  unfold digitE
  generalize hE : M_iemacsMeta _ _ _ = R
  unfold M_iemacsMeta at hE
  simp [Tryz.func76, Tryz.f76, E_iisDigit, hr, e0, w1, w2, w3] at hE
  exact hE.symm
theorem K_imeta (r : Int) (hr : ¬ r = 121) : M_iemacsMeta [.agg [V.v (.bool e.Vi), V.v (.int .i64 e.Mode), .lst (some 0) (ints e.Line.Text), V.v (.int .i64 e.Line.At), V.v (.int .i64 e.Count), V.v (.int .i64 e.Op), V.v (.int .i64 e.OpCount), V.v (.int .i64 e.Wait), V.v (.int .i64 e.FindR), V.v (.int .i64 e.FindHow), V.v (.int .i64 e.Last), .lst (some 1) (dPieces e.Ring.Pieces), .lst (some 2) (dLines e.Undo.Lines), V.v (.int .i64 e.Nav), .lst (some 3) (ints e.Own.Text), V.v (.int .i64 e.Own.At), .lst (some 4) (ints e.Query), V.v (.int .i64 e.Hit), .lst (some 5) (ints e.Back.Text), V.v (.int .i64 e.Back.At)], V.v (.int .i64 r)] [] [] = some (kR (metaE e r)) := by
  obtain ⟨h1, h2, h3, h4⟩ := h.atN
  obtain ⟨n1, n2, n3⟩ := effN_eq e h
  unfold metaE
  by_cases cd : inR r 48 57 = true
  · rw [if_pos cd]; exact K_idigit e h r cd
  rw [if_neg cd]
  have cd : inR r 48 57 = false := by simpa using cd
  by_cases c1 : r = 98
  · rw [if_pos c1]
    subst c1
    have e1 := E_irep_emacsMeta_1 e.Line.Text (effN e) (atN e) h2 (by omega) n3
    rw [n1, ← h1] at e1
    have e2 := K_iput_go e h (iterN (wordBack e.Line.Text) (effN e) (atN e))
    have e3 := E_igoTo e.Line.Text (some 0) e.Line.At (iterN (wordBack e.Line.Text) (effN e) (atN e)) (by omega)
    generalize iterN (wordBack e.Line.Text) (effN e) (atN e) = u at *
    generalize goE e u = p at *
    clear h h2 h3 h4
    generalize hE : M_iemacsMeta _ _ _ = R
    unfold M_iemacsMeta at hE
    simp [Tryz.func76, Tryz.f76, E_iisDigit, cd, e1, e2, e3, show List.range' 0 1 = [0] from rfl] at hE
    exact hE.symm
  rw [if_neg c1]
  by_cases c2 : r = 102
  · rw [if_pos c2]
    subst c2
    have e1 := E_irep_emacsMeta_2 e.Line.Text (effN e) (atN e) h2 (by omega) n3
    rw [n1, ← h1] at e1
    have e2 := K_iput_go e h (iterN (wordOn e.Line.Text) (effN e) (atN e))
    have e3 := E_igoTo e.Line.Text (some 0) e.Line.At (iterN (wordOn e.Line.Text) (effN e) (atN e)) (by omega)
    generalize iterN (wordOn e.Line.Text) (effN e) (atN e) = u at *
    generalize goE e u = p at *
    clear h h2 h3 h4
    generalize hE : M_iemacsMeta _ _ _ = R
    unfold M_iemacsMeta at hE
    simp [Tryz.func76, Tryz.f76, E_iisDigit, cd, e1, e2, e3, show List.range' 0 1 = [0] from rfl] at hE
    exact hE.symm
  rw [if_neg c2]
  by_cases c3 : r = 100
  · rw [if_pos c3]
    subst c3
    have e1 := E_irep_emacsMeta_2 e.Line.Text (effN e) (atN e) h2 (by omega) n3
    have hu := iterN_up (fun a ha => wordOn_le (t := e.Line.Text) ha) (effN e) (atN e) h2
    have e2 := K_ikill' e h e.Line.At (iterN (wordOn e.Line.Text) (effN e) (atN e)) (atN e) (iterN (wordOn e.Line.Text) (effN e) (atN e)) 1 h1 rfl (by omega) hu.1 hu.2
    rw [n1, ← h1] at e1
    generalize iterN (wordOn e.Line.Text) (effN e) (atN e) = u at *
    generalize killEd e (atN e) u 1 = p at *
    clear h h2 h3 h4 hu
    generalize hE : M_iemacsMeta _ _ _ = R
    unfold M_iemacsMeta at hE
    simp [Tryz.func76, Tryz.f76, E_iisDigit, cd, e1, e2, show List.range' 0 1 = [0] from rfl] at hE
    exact hE.symm
  rw [if_neg c3, if_neg hr]
  by_cases c4 : r = 117
  · rw [if_pos c4]; exact K_icase e h r 1 (.inl ⟨c4, rfl⟩)
  rw [if_neg c4]
  by_cases c5 : r = 108
  · rw [if_pos c5]; exact K_icase e h r 0 (.inr (.inl ⟨c5, rfl⟩))
  rw [if_neg c5]
  by_cases c6 : r = 99
  · rw [if_pos c6]; exact K_icase e h r 2 (.inr (.inr ⟨c6, rfl⟩))
  rw [if_neg c6]
  have e1 := K_ibell e h
  generalize bellE e = p at *
  generalize hE : M_iemacsMeta _ _ _ = R
  unfold M_iemacsMeta at hE
  simp [Tryz.func76, Tryz.f76, E_iisDigit, cd, e1, c1, c2, c3, c4, c5, c6, hr] at hE
  exact hE.symm
end
end Go.Proofs.YtjhdikdopdcfcaaGreatDoor
namespace Go.Proofs.YtjhdikdopdcfcaaGreatDoor
noncomputable def M_lFnSearch : Mean := evFun Tryz.prog [(5, false, M_sMakeEmacs), (7, false, M_iEdTyped), (8, false, M_iEdOk), (11, false, M_iHistLast), (10, false, M_iHistFind), (12, false, M_iHistGet), (13, false, M_iLineText), (9, false, M_lsameInts)] ⟨[], [], [(8, [], [])], []⟩ 4
theorem S_lFnSearch : Sound Tryz.prog 4 M_lFnSearch := sound _ (cons_sound S_sMakeEmacs (cons_sound S_iEdTyped (cons_sound S_iEdOk (cons_sound S_iHistLast (cons_sound S_iHistFind (cons_sound S_iHistGet (cons_sound S_iLineText (cons_sound S_lsameInts none_sound)))))))) hmix Tryz.func4 (eqOf (by kernel_rfl))
end Go.Proofs.YtjhdikdopdcfcaaGreatDoor
namespace Go.Proofs.YtjhdikdopdcfcaaGreatDoor
open Go.ChangeShapes Go.WideShapes Go.ChangeAt Go.RowKit Go.Deep
theorem laidOut_prog : laidOutB Tryz.prog = true := by kernel_rfl
end Go.Proofs.YtjhdikdopdcfcaaGreatDoor
namespace Go.Proofs.YtjhdikdopdcfcaaGreatDoor
open Go.ChangeShapes Go.WideShapes Go.ChangeAt Go.RowKit Go.Deep
set_option linter.unusedSimpArgs false
set_option linter.unusedVariables false
def wfV : Value → Bool
  | .int k n => (Lit.int k n).wf
  | .string s => decide (s.size ≤ 9223372036854775807)
  | _ => true
mutual
def okD : D → Bool
  | .a v => wfV v
  | .l rows => decide (rows.length ≤ 9223372036854775807) && okT rows
  | .gone => false
def okR : List D → Bool
  | [] => true
  | d :: r => okD d && okR r
def okT : List (List D) → Bool
  | [] => true
  | r :: rows => okR r && okT rows
end
mutual
theorem okD_bn : ∀ (d : D), okD d = true → bnD 9223372036854775807 d = true
  | .a _, _ => rfl
  | .l rows, h => by
    have h : (decide (rows.length ≤ 9223372036854775807) && okT rows) = true := h
    rw [Bool.and_eq_true] at h
    show (decide (rows.length ≤ 9223372036854775807) && bnT 9223372036854775807 rows) = true
    rw [h.1, okT_bn rows h.2]; rfl
  | .gone, h => by cases h
theorem okR_bn : ∀ (r : List D), okR r = true → bnR 9223372036854775807 r = true
  | [], _ => rfl
  | d :: r, h => by
    have h : (okD d && okR r) = true := h
    rw [Bool.and_eq_true] at h
    show (bnD _ d && bnR _ r) = true
    rw [okD_bn d h.1, okR_bn r h.2]; rfl
theorem okT_bn : ∀ (rows : List (List D)), okT rows = true → bnT 9223372036854775807 rows = true
  | [], _ => rfl
  | r :: rows, h => by
    have h : (okR r && okT rows) = true := h
    rw [Bool.and_eq_true] at h
    show (bnR _ r && bnT _ rows) = true
    rw [okR_bn r h.1, okT_bn rows h.2]; rfl
end
theorem okT_of : ∀ {rows : List (List D)}, (∀ r ∈ rows, okR r = true) → okT rows = true
  | [], _ => rfl
  | r :: rows, h => by
    show (okR r && okT rows) = true
    rw [h r (by simp), okT_of fun q hq => h q (by simp [hq])]; rfl
inductive RdR (G : Nat → Obj → Prop) : List Value → List D → Prop
  | nil : RdR G [] []
  | cons {v : Value} {d : D} {vs : List Value} {ds : List D} : RdD G d v → RdR G vs ds → RdR G (v :: vs) (d :: ds)
theorem RdR.one {G : Nat → Obj → Prop} {v : Value} {d : D} (h : RdR G [v] [d]) : RdD G d v := by cases h; assumption
theorem RdR.get {G : Nat → Obj → Prop} : ∀ {vs : List Value} {ds : List D} {i : Nat} {d : D}, RdR G vs ds → ds[i]? = some d → ∃ u, vs[i]? = some u ∧ RdD G d u
  | _, _, i, d, .nil, e => by simp at e
  | _, _, 0, d, .cons a _, e => by simp at e; subst e; exact ⟨_, rfl, a⟩
  | _, _, i + 1, d, .cons _ b, e => by simpa using b.get (i := i) (by simpa using e)
theorem cell_heap {W : World} {b o : Nat} {u : Value} (h : W.cell? ⟨b, o, none⟩ = some u) : ∃ cs T fr, W.heap[b]? = some (.cells cs T fr) ∧ cs[o]? = some u := by
  unfold World.cell? at h
  split at h
  · rename_i cs T fr e
    exact ⟨cs, T, fr, e, by simpa using h⟩
  · cases h
theorem rows_len_flat {α : Type} (C : Codec α) (l : List α) : (C.rows l).flatten.length = l.length * C.k := by
  have := flat_len (k := C.k) (C.rows l) (fun r hr => by obtain ⟨x, _, rfl⟩ := List.mem_map.1 hr; exact C.len x)
  rw [this, C.rows_len]
section
variable {H : Type} {enc : TypeId × Value → H} {W : World} {fuel : Nat} {cs : List Value} {x : DataW H × List MemPlace}
set_option maxRecDepth 100000 in
theorem opn_slice {t e : TypeId} {α : Type} [Inhabited α] (C : Codec α) (h0 : 0 < C.k) (ht : Tryz.prog.underlying t = some (.slice e)) (hc : Tryz.prog.cellsOf e = C.k)
    (he : ∀ {fuel cs x}, DataW.trod enc Tryz.prog W 0 (fun _ => true) true fuel e cs = some x → ∃ a : α, okR (C.enc a) = true ∧ RdR (heapOf W) cs (C.enc a))
    (h : DataW.trod enc Tryz.prog W 0 (fun _ => true) true fuel t cs = some x) : ∃ l : List α, okD (.l (C.rows l)) = true ∧ RdR (heapOf W) cs [.l (C.rows l)] := by
  rcases open_slice ht h with ⟨rfl, _⟩ | ⟨a, len, cap, m, n, D', Pl, rfl, hb, hl, hm, hmm, rfl, hx⟩
  · exact ⟨[], rfl, .cons (.nil none 0 (by omega) (fun _ => rfl)) .nil⟩
  have hlm : len ≤ m := by rw [hmm]; split <;> omega
  rw [hc] at hx
  obtain ⟨g, hg⟩ := choose_lt (α := α) (p := fun i y => okR (C.enc y) = true ∧ ∀ j d, (C.enc y)[j]? = some d → ∃ u, W.cell? (a.add (i * C.k + j)) = some u ∧ RdD (heapOf W) d u) (n := m) (fun i hi => by
    obtain ⟨cs', h1, h2⟩ := hx i hi
    obtain ⟨_, hlen, hcell⟩ := World.cells?_some h1
    obtain ⟨y, hp, hy⟩ := he h2
    refine ⟨y, hp, fun j d e => ?_⟩
    obtain ⟨u, e1, e2⟩ := hy.get e
    have hj : j < C.k := by rw [← C.len y]; exact (List.getElem?_eq_some_iff.1 e).1
    refine ⟨u, ?_, e2⟩
    rw [← e1, ← hcell j hj, add_add])
  have hlen : (C.rows ((List.range len).map g)).length = len := by rw [C.rows_len]; simp
  unfold maxLen at hm
  refine ⟨(List.range len).map g, ?_, .cons ?_ .nil⟩
  · show (decide _ && okT _) = true
    rw [hlen, decide_eq_true (by omega), Bool.true_and]
    refine okT_of fun r hr => ?_
    obtain ⟨z, hz, rfl⟩ := List.mem_map.1 hr
    obtain ⟨i, hi, rfl⟩ := List.mem_map.1 hz
    exact (hg i (by have := List.mem_range.1 hi; omega)).1
  have hu : ∀ r ∈ C.rows ((List.range len).map g), r.length = C.k := fun r hr => by obtain ⟨z, _, rfl⟩ := List.mem_map.1 hr; exact C.len z
  have key : ∀ i d, (C.rows ((List.range len).map g)).flatten[i]? = some d → ∃ u, W.cell? (a.add i) = some u ∧ RdD (heapOf W) d u := by
    intro i d e
    have hi : i < len * C.k := by
      have := (List.getElem?_eq_some_iff.1 e).1
      rw [rows_len_flat, List.length_map, List.length_range] at this; exact this
    have e1 : i / C.k * C.k + i % C.k = i := by rw [Nat.mul_comm]; exact Nat.div_add_mod i C.k
    have h1 : i / C.k < len := Nat.div_lt_of_lt_mul (by rw [Nat.mul_comm]; exact hi)
    have hlt : i % C.k < (C.enc (g (i / C.k))).length := by rw [C.len]; exact Nat.mod_lt _ h0
    have e2 := flat_get (k := C.k) (C.rows ((List.range len).map g)) (i / C.k) (i % C.k) (C.enc (g (i / C.k))) _ hu (by
      unfold Codec.rows
      rw [List.getElem?_map, List.getElem?_map, List.getElem?_range h1]; rfl) (List.getElem?_eq_getElem hlt)
    rw [e1, e] at e2
    obtain ⟨u, h2, h3⟩ := (hg (i / C.k) (by omega)).2 (i % C.k) d (by rw [List.getElem?_eq_getElem hlt]; exact e2.symm)
    rw [e1] at h2
    exact ⟨u, h2, h3⟩
  rcases Nat.eq_zero_or_pos len with h1 | h1
  · subst h1
    exact .nil _ _ (by omega) (fun h => nomatch h)
  have hpos : 0 < (C.rows ((List.range len).map g)).flatten.length := by rw [rows_len_flat, List.length_map, List.length_range]; exact Nat.mul_pos h1 h0
  obtain ⟨b, o, spot⟩ := a
  obtain ⟨u0, h2, -⟩ := key 0 _ (List.getElem?_eq_getElem hpos)
  have hs : spot = none := by simpa [Addr.add] using World.cell?_spot h2
  subst hs
  rw [Addr.add_lit] at h2
  obtain ⟨hcs, T, fr, hh, -⟩ := cell_heap h2
  refine .l _ len cap b o C.k T fr hcs (fun i => (W.cell? ⟨b, o + i, none⟩).getD undef) hlen h1 hl (by omega) h0 hu hh (fun i d e => ?_) (fun i d e => ?_)
  · obtain ⟨u, h3, -⟩ := key i d e
    rw [Addr.add_lit] at h3
    rw [h3]
    obtain ⟨cs2, T2, fr2, hh2, h4⟩ := cell_heap h3
    rw [hh] at hh2
    injection hh2 with hh2; injection hh2 with q1 q2 q3
    rw [q1]; exact h4
  · obtain ⟨u, h3, h4⟩ := key i d e
    rw [Addr.add_lit] at h3
    rw [h3]; exact h4
theorem cop_u8 : Tryz.prog.cellsOf 5 = 1 := by kernel_rfl
theorem u8_rng {x : Int} (w : (Lit.int .u8 x).wf = true) : 0 ≤ x ∧ x ≤ 255 := by
  simpa [Lit.wf, IntKind.min, IntKind.max, IntKind.signed, IntKind.bits] using w
set_option maxRecDepth 100000 in
theorem opn_byte (h : DataW.trod enc Tryz.prog W 0 (fun _ => true) true fuel 5 cs = some x) : ∃ a : UInt8, okR (c_byts.enc a) = true ∧ RdR (heapOf W) cs (c_byts.enc a) := by
  obtain ⟨n, rfl, _, wf⟩ := DataW.trod_int Tryz.underlying5 h
  obtain ⟨h0, h1⟩ := u8_rng wf
  have e : c_byts.enc (UInt8.ofNat n.toNat) = [.a (.int .u8 n)] := by
    show [D.a (.int .u8 ((UInt8.ofNat n.toNat).toNat : Int))] = _
    congr 3; simp; omega
  refine ⟨UInt8.ofNat n.toNat, ?_, ?_⟩
  · rw [e]; show (_ && true) = true; rw [Bool.and_true]; exact wf
  · rw [e]; exact .cons (.a _) .nil
theorem opn_bytes (h : DataW.trod enc Tryz.prog W 0 (fun _ => true) true fuel 22 cs = some x) : ∃ l : List UInt8, okR [.l (byts l)] = true ∧ RdR (heapOf W) cs [.l (byts l)] := by
  obtain ⟨l, a, b⟩ := opn_slice c_byts (by decide) Tryz.underlying22 cop_u8 opn_byte h
  exact ⟨l, by show (_ && true) = true; rw [Bool.and_true]; exact a, b⟩
set_option maxRecDepth 100000 in
theorem open_bytes_top {base : Nat} {v : Value} {d : DataW H} {ps : List MemPlace} (hv : Value.okWide Tryz.prog W .any base 22 v) (h : DataW.Trod enc Tryz.prog W 0 (fun _ => true) true 22 v d ps) :
    ∃ l : List UInt8, okR [.l (byts l)] = true ∧ RdD (heapOf W) (.l (byts l)) v := by
  obtain ⟨a0, len, cap, rfl⟩ := okWide_slice Tryz.underlying22 hv
  obtain ⟨f, hf⟩ := h
  obtain ⟨l, g, r⟩ := opn_bytes hf
  exact ⟨l, g, r.one⟩
end
end Go.Proofs.YtjhdikdopdcfcaaGreatDoor
namespace Go.Proofs.YtjhdikdopdcfcaaGreatDoor
open Go.ChangeShapes Go.WideShapes Go.ChangeAt Go.RowKit Go.Deep
set_option linter.unusedSimpArgs false
set_option linter.unusedVariables false
section
variable {H : Type} {enc : TypeId × Value → H} {W : World} {fuel : Nat} {cs : List Value} {x : DataW H × List MemPlace}
end
end Go.Proofs.YtjhdikdopdcfcaaGreatDoor
namespace Go.Proofs.YtjhdikdopdcfcaaGreatDoor
open Go.RowKit
set_option linter.unusedSimpArgs false
set_option linter.unusedVariables false
set_option maxHeartbeats 16000000
set_option maxRecDepth 100000
theorem reads_one {c : UInt8} (h1 : [c] = textOf [(c.toNat : Int)]) (h2 : runeOk (c.toNat : Int) = true) : Reads [c] [(c.toNat : Int)] [] :=
  ⟨by rw [List.append_nil]; exact h1, fun r hr => by rw [List.mem_singleton.1 hr]; exact h2, rfl⟩
theorem tk_l : M_iTextKey [V.v (.string (⟨#[108]⟩))] [] [] = some ⟨.tup [.agg [V.v (.int .i64 1), V.v (.int .i64 108)], V.v (.bool true)], [], []⟩ := E_iTextKey_rune ⟨#[108]⟩ 108 (reads_one (c := 108) (by decide) (by decide)) (by decide) (by decide) (by decide) (by decide) (by decide)
end Go.Proofs.YtjhdikdopdcfcaaGreatDoor
namespace Go.Proofs.YtjhdikdopdcfcaaGreatDoor
open Go.RowKit
set_option linter.unusedSimpArgs false
set_option linter.unusedVariables false
set_option maxHeartbeats 8000000
set_option maxRecDepth 100000
theorem E_iKeyText_mod (m c : UInt8) (k : Int) (hk : (k = 2 ∧ m = 67) ∨ (k = 3 ∧ m = 77)) (h1 : textOf [(c.toNat : Int)] = [c]) (hok : M_iKeyOk [.agg [V.v (.int .i64 k), V.v (.int .i64 ((c.toNat : Int)))]] [] [] = some ⟨V.v (.bool true), [], []⟩) : M_iKeyText [.agg [V.v (.int .i64 k), V.v (.int .i64 ((c.toNat : Int)))]] [] [] = some ⟨V.v (.string (⟨#[m, 45, c]⟩)), [], []⟩ := by
  have e2 := E_iTextOf [(c.toNat : Int)] (by simp)
  rw [h1] at e2
  simp only [ints_cons, ints_nil] at e2
  generalize (c.toNat : Int) = r at *
  have hz : (⟨[c].toArray⟩ : ByteArray).size = 1 := rfl
  have a1 : (⟨#[67, 45]⟩ : ByteArray) ++ ⟨[c].toArray⟩ = ⟨#[67, 45, c]⟩ := rfl
  have a2 : (⟨#[77, 45]⟩ : ByteArray) ++ ⟨[c].toArray⟩ = ⟨#[77, 45, c]⟩ := rfl
  have z1 : (⟨#[67, 45]⟩ : ByteArray).size = 2 := rfl
  have z2 : (⟨#[77, 45]⟩ : ByteArray).size = 2 := rfl
  generalize hE : M_iKeyText _ _ _ = R
  unfold M_iKeyText at hE
  rcases hk with ⟨rfl, rfl⟩ | ⟨rfl, rfl⟩
  · simp [Tryz.func41, Tryz.f41, hok, e2] at hE
    rw [← hE]
    rfl
  · simp [Tryz.func41, Tryz.f41, hok, e2] at hE
    rw [← hE]
    rfl
theorem E_iTextKey_mod (m c : UInt8) (k : Int) (hk : (k = 2 ∧ m = 67) ∨ (k = 3 ∧ m = 77)) (h1 : textOf [(c.toNat : Int)] = [c]) (hr : Reads [m, 45, c] [(m.toNat : Int), 45, (c.toNat : Int)] []) (hok : M_iKeyOk [.agg [V.v (.int .i64 k), V.v (.int .i64 ((c.toNat : Int)))]] [] [] = some ⟨V.v (.bool true), [], []⟩) (h2 : ∀ j, j < 13 → ¬ keyNames[j]? = some ⟨#[m, 45, c]⟩) :
    M_iTextKey [V.v (.string (⟨#[m, 45, c]⟩))] [] [] = some ⟨.tup [.agg [V.v (.int .i64 k), V.v (.int .i64 ((c.toNat : Int)))], V.v (.bool true)], [], []⟩ := by
  have e := E_names
  have hl := keyNames_len
  have e1 := E_iRunesOf ⟨#[m, 45, c]⟩ [(m.toNat : Int), 45, (c.toNat : Int)] [] hr (by show (3 : Nat) ≤ _; omega)
  have e2 := E_iKeyText_mod m c k hk h1 hok
  simp only [List.isEmpty_nil, if_true, ints_cons, ints_nil] at e1
  have hx : (⟨#[m, 45, c]⟩ : ByteArray).extract 0 2 = ⟨#[m, 45]⟩ := rfl
  have hz : (⟨#[m, 45, c]⟩ : ByteArray).size = 3 := rfl
  have h3 : ¬ (⟨#[m, 45, c]⟩ : ByteArray).toList = [83, 80, 67] := by
    rw [ByteArray.toList_eq]
    rcases hk with ⟨_, rfl⟩ | ⟨_, rfl⟩ <;> simp
  have h4 : (⟨#[67, 45]⟩ : ByteArray).toList = [67, 45] := by rw [ByteArray.toList_eq]
  have h5 : (⟨#[77, 45]⟩ : ByteArray).toList = [77, 45] := by rw [ByteArray.toList_eq]
  generalize (c.toNat : Int) = r at *
  generalize hs : (⟨#[m, 45, c]⟩ : ByteArray) = s at *
  generalize keyNames = L at *
  generalize hE : M_iTextKey _ _ _ = R
  unfold M_iTextKey at hE
  simp [Tryz.func21, Tryz.f21, e, hl] at hE
  rw [loopV_go (fun j => .on ⟨[(11, V.v (.int .i64 ((j : Int)))), (10, V.v (.int .i64 13)), (9, .own 2000000000), (2, .ref 2 0), (0, V.v (.string s))], [(2, [V.v (.int .i64 0), V.v (.int .i64 0)])], [(2000000000, strs L)], []⟩) 13 ?_ ?_] at hE
  · rcases hk with ⟨rfl, rfl⟩ | ⟨rfl, rfl⟩
    · simp [e1, e2, h3, hx, hz, h4, h5] at hE
      exact hE.symm
    · simp [e1, e2, h3, hx, hz, h4, h5] at hE
      exact hE.symm
  · simp
  · intro j hj
    have hjl : j < L.length := by omega
    have hw := w64 ((j : Int) + 1) (by omega)
    have g : (j : Int) < 13 := by omega
    have g2 : ¬ L[j] = s := fun e => h2 j hj (by rw [List.getElem?_eq_getElem hjl, e])
    simp [hjl, hw, hl, g, toList_ne g2, strs_get hjl]
end Go.Proofs.YtjhdikdopdcfcaaGreatDoor
namespace Go.Proofs.YtjhdikdopdcfcaaGreatDoor
open Go.RowKit
set_option linter.unusedSimpArgs false
set_option linter.unusedVariables false
set_option linter.unusedSectionVars false
set_option maxHeartbeats 8000000
set_option maxRecDepth 10000
section
variable (e : TEd) (h : EOk e) {f : Int} {l : List ByteArray} (hh : HistI f l)
include h hh
theorem K_ictrl_97 : M_iemacsCtrl [.agg [V.v (.bool e.Vi), V.v (.int .i64 e.Mode), .lst (some 0) (ints e.Line.Text), V.v (.int .i64 e.Line.At), V.v (.int .i64 e.Count), V.v (.int .i64 e.Op), V.v (.int .i64 e.OpCount), V.v (.int .i64 e.Wait), V.v (.int .i64 e.FindR), V.v (.int .i64 e.FindHow), V.v (.int .i64 e.Last), .lst (some 1) (dPieces e.Ring.Pieces), .lst (some 2) (dLines e.Undo.Lines), V.v (.int .i64 e.Nav), .lst (some 3) (ints e.Own.Text), V.v (.int .i64 e.Own.At), .lst (some 4) (ints e.Query), V.v (.int .i64 e.Hit), .lst (some 5) (ints e.Back.Text), V.v (.int .i64 e.Back.At)], .agg [V.v (.int .i64 f), .lst (some 6) (strs l)], V.v (.int .i64 97)] [] [] = some (kR (goE e 0)) := by
  have e1 := K_iplain_12 e h hh 0
  generalize goE e 0 = p at *
  clear h hh
  generalize hE : M_iemacsCtrl _ _ _ = R
  unfold M_iemacsCtrl at hE
  simp [Tryz.func81, Tryz.f81, e1] at hE
  exact hE.symm
theorem K_ictrl_101 : M_iemacsCtrl [.agg [V.v (.bool e.Vi), V.v (.int .i64 e.Mode), .lst (some 0) (ints e.Line.Text), V.v (.int .i64 e.Line.At), V.v (.int .i64 e.Count), V.v (.int .i64 e.Op), V.v (.int .i64 e.OpCount), V.v (.int .i64 e.Wait), V.v (.int .i64 e.FindR), V.v (.int .i64 e.FindHow), V.v (.int .i64 e.Last), .lst (some 1) (dPieces e.Ring.Pieces), .lst (some 2) (dLines e.Undo.Lines), V.v (.int .i64 e.Nav), .lst (some 3) (ints e.Own.Text), V.v (.int .i64 e.Own.At), .lst (some 4) (ints e.Query), V.v (.int .i64 e.Hit), .lst (some 5) (ints e.Back.Text), V.v (.int .i64 e.Back.At)], .agg [V.v (.int .i64 f), .lst (some 6) (strs l)], V.v (.int .i64 101)] [] [] = some (kR (goE e e.Line.Text.length)) := by
  have e1 := K_iplain_13 e h hh 0
  generalize goE e e.Line.Text.length = p at *
  clear h hh
  generalize hE : M_iemacsCtrl _ _ _ = R
  unfold M_iemacsCtrl at hE
  simp [Tryz.func81, Tryz.f81, e1] at hE
  exact hE.symm
theorem K_ictrl_98 : M_iemacsCtrl [.agg [V.v (.bool e.Vi), V.v (.int .i64 e.Mode), .lst (some 0) (ints e.Line.Text), V.v (.int .i64 e.Line.At), V.v (.int .i64 e.Count), V.v (.int .i64 e.Op), V.v (.int .i64 e.OpCount), V.v (.int .i64 e.Wait), V.v (.int .i64 e.FindR), V.v (.int .i64 e.FindHow), V.v (.int .i64 e.Last), .lst (some 1) (dPieces e.Ring.Pieces), .lst (some 2) (dLines e.Undo.Lines), V.v (.int .i64 e.Nav), .lst (some 3) (ints e.Own.Text), V.v (.int .i64 e.Own.At), .lst (some 4) (ints e.Query), V.v (.int .i64 e.Hit), .lst (some 5) (ints e.Back.Text), V.v (.int .i64 e.Back.At)], .agg [V.v (.int .i64 f), .lst (some 6) (strs l)], V.v (.int .i64 98)] [] [] = some (kR (goE e (e.Line.At - effN e))) := by
  have e1 := K_iplain_11 e h hh 0
  generalize goE e (e.Line.At - effN e) = p at *
  clear h hh
  generalize hE : M_iemacsCtrl _ _ _ = R
  unfold M_iemacsCtrl at hE
  simp [Tryz.func81, Tryz.f81, e1] at hE
  exact hE.symm
theorem K_ictrl_102 : M_iemacsCtrl [.agg [V.v (.bool e.Vi), V.v (.int .i64 e.Mode), .lst (some 0) (ints e.Line.Text), V.v (.int .i64 e.Line.At), V.v (.int .i64 e.Count), V.v (.int .i64 e.Op), V.v (.int .i64 e.OpCount), V.v (.int .i64 e.Wait), V.v (.int .i64 e.FindR), V.v (.int .i64 e.FindHow), V.v (.int .i64 e.Last), .lst (some 1) (dPieces e.Ring.Pieces), .lst (some 2) (dLines e.Undo.Lines), V.v (.int .i64 e.Nav), .lst (some 3) (ints e.Own.Text), V.v (.int .i64 e.Own.At), .lst (some 4) (ints e.Query), V.v (.int .i64 e.Hit), .lst (some 5) (ints e.Back.Text), V.v (.int .i64 e.Back.At)], .agg [V.v (.int .i64 f), .lst (some 6) (strs l)], V.v (.int .i64 102)] [] [] = some (kR (goE e (e.Line.At + effN e))) := by
  have e1 := K_iplain_10 e h hh 0
  generalize goE e (e.Line.At + effN e) = p at *
  clear h hh
  generalize hE : M_iemacsCtrl _ _ _ = R
  unfold M_iemacsCtrl at hE
  simp [Tryz.func81, Tryz.f81, e1] at hE
  exact hE.symm
theorem K_ictrl_112 : M_iemacsCtrl [.agg [V.v (.bool e.Vi), V.v (.int .i64 e.Mode), .lst (some 0) (ints e.Line.Text), V.v (.int .i64 e.Line.At), V.v (.int .i64 e.Count), V.v (.int .i64 e.Op), V.v (.int .i64 e.OpCount), V.v (.int .i64 e.Wait), V.v (.int .i64 e.FindR), V.v (.int .i64 e.FindHow), V.v (.int .i64 e.Last), .lst (some 1) (dPieces e.Ring.Pieces), .lst (some 2) (dLines e.Undo.Lines), V.v (.int .i64 e.Nav), .lst (some 3) (ints e.Own.Text), V.v (.int .i64 e.Own.At), .lst (some 4) (ints e.Query), V.v (.int .i64 e.Hit), .lst (some 5) (ints e.Back.Text), V.v (.int .i64 e.Back.At)], .agg [V.v (.int .i64 f), .lst (some 6) (strs l)], V.v (.int .i64 112)] [] [] = some (kR (stepE e f l (-1))) := by
  have e1 := K_iplain_8 e h hh 0
  generalize stepE e f l (-1) = p at *
  clear h hh
  generalize hE : M_iemacsCtrl _ _ _ = R
  unfold M_iemacsCtrl at hE
  simp [Tryz.func81, Tryz.f81, e1] at hE
  exact hE.symm
theorem K_ictrl_110 : M_iemacsCtrl [.agg [V.v (.bool e.Vi), V.v (.int .i64 e.Mode), .lst (some 0) (ints e.Line.Text), V.v (.int .i64 e.Line.At), V.v (.int .i64 e.Count), V.v (.int .i64 e.Op), V.v (.int .i64 e.OpCount), V.v (.int .i64 e.Wait), V.v (.int .i64 e.FindR), V.v (.int .i64 e.FindHow), V.v (.int .i64 e.Last), .lst (some 1) (dPieces e.Ring.Pieces), .lst (some 2) (dLines e.Undo.Lines), V.v (.int .i64 e.Nav), .lst (some 3) (ints e.Own.Text), V.v (.int .i64 e.Own.At), .lst (some 4) (ints e.Query), V.v (.int .i64 e.Hit), .lst (some 5) (ints e.Back.Text), V.v (.int .i64 e.Back.At)], .agg [V.v (.int .i64 f), .lst (some 6) (strs l)], V.v (.int .i64 110)] [] [] = some (kR (stepE e f l 1)) := by
  have e1 := K_iplain_9 e h hh 0
  generalize stepE e f l 1 = p at *
  clear h hh
  generalize hE : M_iemacsCtrl _ _ _ = R
  unfold M_iemacsCtrl at hE
  simp [Tryz.func81, Tryz.f81, e1] at hE
  exact hE.symm
theorem K_ictrl_121 : M_iemacsCtrl [.agg [V.v (.bool e.Vi), V.v (.int .i64 e.Mode), .lst (some 0) (ints e.Line.Text), V.v (.int .i64 e.Line.At), V.v (.int .i64 e.Count), V.v (.int .i64 e.Op), V.v (.int .i64 e.OpCount), V.v (.int .i64 e.Wait), V.v (.int .i64 e.FindR), V.v (.int .i64 e.FindHow), V.v (.int .i64 e.Last), .lst (some 1) (dPieces e.Ring.Pieces), .lst (some 2) (dLines e.Undo.Lines), V.v (.int .i64 e.Nav), .lst (some 3) (ints e.Own.Text), V.v (.int .i64 e.Own.At), .lst (some 4) (ints e.Query), V.v (.int .i64 e.Hit), .lst (some 5) (ints e.Back.Text), V.v (.int .i64 e.Back.At)], .agg [V.v (.int .i64 f), .lst (some 6) (strs l)], V.v (.int .i64 121)] [] [] = some (kR (yankE e)) := by
  have e1 := K_iyank e h
  generalize yankE e = p at *
  clear h hh
  generalize hE : M_iemacsCtrl _ _ _ = R
  unfold M_iemacsCtrl at hE
  simp [Tryz.func81, Tryz.f81, e1] at hE
  exact hE.symm
theorem K_ictrl_95 : M_iemacsCtrl [.agg [V.v (.bool e.Vi), V.v (.int .i64 e.Mode), .lst (some 0) (ints e.Line.Text), V.v (.int .i64 e.Line.At), V.v (.int .i64 e.Count), V.v (.int .i64 e.Op), V.v (.int .i64 e.OpCount), V.v (.int .i64 e.Wait), V.v (.int .i64 e.FindR), V.v (.int .i64 e.FindHow), V.v (.int .i64 e.Last), .lst (some 1) (dPieces e.Ring.Pieces), .lst (some 2) (dLines e.Undo.Lines), V.v (.int .i64 e.Nav), .lst (some 3) (ints e.Own.Text), V.v (.int .i64 e.Own.At), .lst (some 4) (ints e.Query), V.v (.int .i64 e.Hit), .lst (some 5) (ints e.Back.Text), V.v (.int .i64 e.Back.At)], .agg [V.v (.int .i64 f), .lst (some 6) (strs l)], V.v (.int .i64 95)] [] [] = some (kR (undoE e)) := by
  have e1 := K_iundo e h
  generalize undoE e = p at *
  clear h hh
  generalize hE : M_iemacsCtrl _ _ _ = R
  unfold M_iemacsCtrl at hE
  simp [Tryz.func81, Tryz.f81, e1] at hE
  exact hE.symm
theorem K_ictrl_114 : M_iemacsCtrl [.agg [V.v (.bool e.Vi), V.v (.int .i64 e.Mode), .lst (some 0) (ints e.Line.Text), V.v (.int .i64 e.Line.At), V.v (.int .i64 e.Count), V.v (.int .i64 e.Op), V.v (.int .i64 e.OpCount), V.v (.int .i64 e.Wait), V.v (.int .i64 e.FindR), V.v (.int .i64 e.FindHow), V.v (.int .i64 e.Last), .lst (some 1) (dPieces e.Ring.Pieces), .lst (some 2) (dLines e.Undo.Lines), V.v (.int .i64 e.Nav), .lst (some 3) (ints e.Own.Text), V.v (.int .i64 e.Own.At), .lst (some 4) (ints e.Query), V.v (.int .i64 e.Hit), .lst (some 5) (ints e.Back.Text), V.v (.int .i64 e.Back.At)], .agg [V.v (.int .i64 f), .lst (some 6) (strs l)], V.v (.int .i64 114)] [] [] = some (kR (seekE e)) := by
  have e1 := K_iseek e h
  generalize seekE e = p at *
  clear h hh
  generalize hE : M_iemacsCtrl _ _ _ = R
  unfold M_iemacsCtrl at hE
  simp [Tryz.func81, Tryz.f81, e1] at hE
  exact hE.symm
theorem K_ictrl (r : Int) : M_iemacsCtrl [.agg [V.v (.bool e.Vi), V.v (.int .i64 e.Mode), .lst (some 0) (ints e.Line.Text), V.v (.int .i64 e.Line.At), V.v (.int .i64 e.Count), V.v (.int .i64 e.Op), V.v (.int .i64 e.OpCount), V.v (.int .i64 e.Wait), V.v (.int .i64 e.FindR), V.v (.int .i64 e.FindHow), V.v (.int .i64 e.Last), .lst (some 1) (dPieces e.Ring.Pieces), .lst (some 2) (dLines e.Undo.Lines), V.v (.int .i64 e.Nav), .lst (some 3) (ints e.Own.Text), V.v (.int .i64 e.Own.At), .lst (some 4) (ints e.Query), V.v (.int .i64 e.Hit), .lst (some 5) (ints e.Back.Text), V.v (.int .i64 e.Back.At)], .agg [V.v (.int .i64 f), .lst (some 6) (strs l)], V.v (.int .i64 r)] [] [] = some (kR (ctrlE e f l r)) := by
  obtain ⟨h1, h2, h3, h4⟩ := h.atN
  unfold ctrlE
  by_cases c97 : r = 97
  · rw [if_pos c97]; subst c97; exact K_ictrl_97 e h hh
  rw [if_neg c97]
  by_cases c101 : r = 101
  · rw [if_pos c101]; subst c101; exact K_ictrl_101 e h hh
  rw [if_neg c101]
  by_cases c98 : r = 98
  · rw [if_pos c98]; subst c98; exact K_ictrl_98 e h hh
  rw [if_neg c98]
  by_cases c102 : r = 102
  · rw [if_pos c102]; subst c102; exact K_ictrl_102 e h hh
  rw [if_neg c102]
  by_cases c112 : r = 112
  · rw [if_pos c112]; subst c112; exact K_ictrl_112 e h hh
  rw [if_neg c112]
  by_cases c110 : r = 110
  · rw [if_pos c110]; subst c110; exact K_ictrl_110 e h hh
  rw [if_neg c110]
  by_cases c107 : r = 107
  · rw [if_pos c107]
    subst c107
    exact E_iemacsCtrl_k e _ f _ l (K_ikill' e h e.Line.At e.Line.Text.length (atN e) e.Line.Text.length 1 h1 rfl (by omega) h2 (Nat.le_refl _))
  rw [if_neg c107]
  by_cases c121 : r = 121
  · rw [if_pos c121]; subst c121; exact K_ictrl_121 e h hh
  rw [if_neg c121]
  by_cases c116 : r = 116
  · rw [if_pos c116]; subst c116; exact K_iswap e h f l
  rw [if_neg c116]
  by_cases c95 : r = 95
  · rw [if_pos c95]; subst c95; exact K_ictrl_95 e h hh
  rw [if_neg c95]
  by_cases c114 : r = 114
  · rw [if_pos c114]; subst c114; exact K_ictrl_114 e h hh
  rw [if_neg c114]
  have e1 := K_ibell e h
  generalize bellE e = p at *
  clear h hh h1 h2 h3 h4
  generalize hE : M_iemacsCtrl _ _ _ = R
  unfold M_iemacsCtrl at hE
  simp [Tryz.func81, Tryz.f81, e1, c97, c101, c98, c102, c112, c110, c107, c121, c116, c95, c114] at hE
  exact hE.symm
theorem K_iKeyOk (k r : Int) : M_iKeyOk [.agg [V.v (.int .i64 k), V.v (.int .i64 r)]] [] [] = some ⟨V.v (.bool (keyOk k r)), [], []⟩ := by
  unfold M_iKeyOk keyOk
  by_cases c1 : k = 1
  · subst c1; simp [Tryz.func42, Tryz.f42, E_iPrintable]
  by_cases c2 : k = 2
  · subst c2
    by_cases r1 : r = 95
    · subst r1; simp [Tryz.func42, Tryz.f42]
    cases r2 : inR r 97 122
    · simp [Tryz.func42, Tryz.f42, E_iisLower, r1, r2]
    by_cases r3 : r = 104
    · subst r3; simp [Tryz.func42, Tryz.f42, E_iisLower, r2]
    by_cases r4 : r = 105
    · subst r4; simp [Tryz.func42, Tryz.f42, E_iisLower, r2]
    by_cases r5 : r = 106
    · subst r5; simp [Tryz.func42, Tryz.f42, E_iisLower, r2]
    by_cases r6 : r = 109
    · subst r6; simp [Tryz.func42, Tryz.f42, E_iisLower, r2]
    simp [Tryz.func42, Tryz.f42, E_iisLower, r1, r2, r3, r4, r5, r6]
  by_cases c3 : k = 3
  · subst c3; simp [Tryz.func42, Tryz.f42, E_iin]
  cases q : inR k 4 16
  · simp [Tryz.func42, Tryz.f42, E_iin, c1, c2, c3, q]
  · by_cases r0 : r = 0
    · subst r0; simp [Tryz.func42, Tryz.f42, E_iin, c1, c2, c3, q]
    · simp [Tryz.func42, Tryz.f42, E_iin, c1, c2, c3, q, r0]
theorem K_icanKey (k r : Int) (hk : keyOk k r = true) : M_icanKey [.agg [V.v (.bool e.Vi), V.v (.int .i64 e.Mode), .lst (some 0) (ints e.Line.Text), V.v (.int .i64 e.Line.At), V.v (.int .i64 e.Count), V.v (.int .i64 e.Op), V.v (.int .i64 e.OpCount), V.v (.int .i64 e.Wait), V.v (.int .i64 e.FindR), V.v (.int .i64 e.FindHow), V.v (.int .i64 e.Last), .lst (some 1) (dPieces e.Ring.Pieces), .lst (some 2) (dLines e.Undo.Lines), V.v (.int .i64 e.Nav), .lst (some 3) (ints e.Own.Text), V.v (.int .i64 e.Own.At), .lst (some 4) (ints e.Query), V.v (.int .i64 e.Hit), .lst (some 5) (ints e.Back.Text), V.v (.int .i64 e.Back.At)], .agg [V.v (.int .i64 f), .lst (some 6) (strs l)], .agg [V.v (.int .i64 k), V.v (.int .i64 r)]] [] [] = some ⟨V.v (.bool true), [], []⟩ := by
  have := K_iKeyOk e h hh k r
  rw [hk] at this
  exact E_icanKey' e (eok_iff.2 h) f l hh k r this
theorem K_iEmacsKey (k r : Int) (hk : keyOk k r = true) (hm : e.Mode = 0) (hy : ¬ (k = 3 ∧ r = 121)) : M_iEmacsKey [.agg [V.v (.bool e.Vi), V.v (.int .i64 e.Mode), .lst (some 0) (ints e.Line.Text), V.v (.int .i64 e.Line.At), V.v (.int .i64 e.Count), V.v (.int .i64 e.Op), V.v (.int .i64 e.OpCount), V.v (.int .i64 e.Wait), V.v (.int .i64 e.FindR), V.v (.int .i64 e.FindHow), V.v (.int .i64 e.Last), .lst (some 1) (dPieces e.Ring.Pieces), .lst (some 2) (dLines e.Undo.Lines), V.v (.int .i64 e.Nav), .lst (some 3) (ints e.Own.Text), V.v (.int .i64 e.Own.At), .lst (some 4) (ints e.Query), V.v (.int .i64 e.Hit), .lst (some 5) (ints e.Back.Text), V.v (.int .i64 e.Back.At)], .agg [V.v (.int .i64 f), .lst (some 6) (strs l)], .agg [V.v (.int .i64 k), V.v (.int .i64 r)]] [] [] = some (kR (emacsE e f l k r)) := by
  obtain ⟨h1, h2, h3, h4⟩ := h.atN
  obtain ⟨n1, n2, n3⟩ := effN_eq e h
  have e1 := K_icanKey e h hh k r hk
  have e2 := K_iplain e h hh k r hk
  unfold emacsE
  cases hp : plainE e f l k r with
  | some p =>
    rw [hp] at e2
    simp only
    clear h hh h1 h2 h3 h4
    generalize hE : M_iEmacsKey _ _ _ = R
    unfold M_iEmacsKey at hE
    simp only [hm] at e1 e2 hE
    simp [Tryz.func65, Tryz.f65, e1, e2] at hE
    exact hE.symm
  | none =>
    rw [hp] at e2
    simp only [zEd, ints_nil, show dPieces [] = [] from rfl, show dLines [] = [] from rfl] at e2 ⊢
    by_cases c3 : k = 3
    · rw [if_pos c3]
      subst c3
      have e3 := K_imeta e h r (fun q => hy ⟨rfl, q⟩)
      generalize metaE e r = p at *
      clear h hh h1 h2 h3 h4
      generalize hE : M_iEmacsKey _ _ _ = R
      unfold M_iEmacsKey at hE
      simp only [hm] at e1 e2 e3 hE
      simp [Tryz.func65, Tryz.f65, e1, e2, e3] at hE
      exact hE.symm
    rw [if_neg c3]
    by_cases c15 : k = 15
    · rw [if_pos c15]
      subst c15
      have e3 := E_irep_EmacsKey_1 e.Line.Text (effN e) (atN e) h2 (by omega) n3
      rw [n1, ← h1] at e3
      have e4 := K_ikill' e h (iterN (wordBack e.Line.Text) (effN e) (atN e)) e.Line.At (iterN (wordBack e.Line.Text) (effN e) (atN e)) (atN e) 2 rfl h1 (by omega) (iterN_down (fun _ => wordBack_le) _ _) h2
      generalize killEd e (iterN (wordBack e.Line.Text) (effN e) (atN e)) (atN e) 2 = p at *
      generalize iterN (wordBack e.Line.Text) (effN e) (atN e) = u at *
      clear h hh h1 h2 h3 h4
      generalize hE : M_iEmacsKey _ _ _ = R
      unfold M_iEmacsKey at hE
      simp only [hm] at e1 e2 e4 hE
      simp [Tryz.func65, Tryz.f65, e1, e2, e3, e4, show List.range' 0 1 = [0] from rfl] at hE
      exact hE.symm
    rw [if_neg c15]
    by_cases c2 : k = 2
    · rw [if_pos c2]
      subst c2
      have e3 := K_ictrl e h hh r
      generalize ctrlE e f l r = p at *
      clear h hh h1 h2 h3 h4
      generalize hE : M_iEmacsKey _ _ _ = R
      unfold M_iEmacsKey at hE
      simp only [hm] at e1 e2 e3 hE
      simp [Tryz.func65, Tryz.f65, e1, e2, e3] at hE
      exact hE.symm
    rw [if_neg c2]
    have e3 := K_ibell e h
    generalize bellE e = p at *
    clear h hh h1 h2 h3 h4
    generalize hE : M_iEmacsKey _ _ _ = R
    unfold M_iEmacsKey at hE
    simp only [hm] at e1 e2 e3 hE
    simp [Tryz.func65, Tryz.f65, e1, e2, e3, c2, c3, c15] at hE
    exact hE.symm
theorem K_iEdKey_emacs (k r : Int) (hk : keyOk k r = true) (hm : e.Mode = 0) (hy : ¬ (k = 3 ∧ r = 121)) : M_iEdKey [.agg [V.v (.bool e.Vi), V.v (.int .i64 e.Mode), .lst (some 0) (ints e.Line.Text), V.v (.int .i64 e.Line.At), V.v (.int .i64 e.Count), V.v (.int .i64 e.Op), V.v (.int .i64 e.OpCount), V.v (.int .i64 e.Wait), V.v (.int .i64 e.FindR), V.v (.int .i64 e.FindHow), V.v (.int .i64 e.Last), .lst (some 1) (dPieces e.Ring.Pieces), .lst (some 2) (dLines e.Undo.Lines), V.v (.int .i64 e.Nav), .lst (some 3) (ints e.Own.Text), V.v (.int .i64 e.Own.At), .lst (some 4) (ints e.Query), V.v (.int .i64 e.Hit), .lst (some 5) (ints e.Back.Text), V.v (.int .i64 e.Back.At)], .agg [V.v (.int .i64 f), .lst (some 6) (strs l)], .agg [V.v (.int .i64 k), V.v (.int .i64 r)]] [] [] = some (kR (edKeyE e f l k r)) := by
  have e1 := K_iEmacsKey e h hh k r hk hm hy
  unfold edKeyE
  rw [if_pos hm]
  generalize emacsE e f l k r = p at *
  exact key_emacs e p.1 p.2 k r e1 hm
end
end Go.Proofs.YtjhdikdopdcfcaaGreatDoor
