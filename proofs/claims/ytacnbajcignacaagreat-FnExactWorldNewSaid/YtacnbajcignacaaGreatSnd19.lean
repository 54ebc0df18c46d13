/-
  Soundness of the evaluator, nineteenth part: into a function.
-/
import Derived.Test.YtacnbajcignacaaGreatSnd18
namespace Go.Proofs.YtacnbajcignacaaGreat
open Go.RowKit
set_option linter.unusedSimpArgs false
set_option linter.unusedVariables false

/-- the caller's names, in the callee -/
structure Enter (ρ ρ' : Rel) : Prop where
  K : ρ'.K = ρ.K
  Z : ∀ b o, ρ.Z b o → ρ'.Z b o
  src : ρ'.src = ρ.src
  b : ∀ i, ρ.Lb i → ρ'.Lb (parBase + i) ∧ ρ'.bl (parBase + i) = ρ.bl i
  t : ∀ i, ρ.Lt i → ρ'.Lt (parBase + i) ∧ ρ'.hd (parBase + i) = ρ.hd i
mutual
theorem enterV_sound {ρ ρ' : Rel} (e : Enter ρ ρ') : ∀ {v : V} {u : Value}, RV ρ v u → RV ρ' (enterV v) u
  | .v _, _, h => h
  | .nil, _, h => h
  | .lst _ _, _, h => ⟨by rw [e.K]; exact h.1, fun j i => by rw [e.src]; exact h.2 j i⟩
  | .own p, _, h => ⟨(e.t p h.1).1, by rw [(e.t p h.1).2]; exact h.2⟩
  | .fz _, _, h => RdD.mono h e.Z
  | .ref b _, _, h => ⟨(e.b b h.1).1, by rw [(e.b b h.1).2]; exact h.2⟩
  | .pe _ _ _ _, _, h => by obtain ⟨ub, h1, h2⟩ := h; exact ⟨ub, enterV_sound e h1, h2⟩
  | .agg _, _, h => by obtain ⟨us, h1, h2⟩ := h; exact ⟨us, h1, enterL_sound e h2⟩
  | .tup _, _, h => by obtain ⟨us, h1, h2⟩ := h; exact ⟨us, h1, enterL_sound e h2⟩
  | .fn _ _, _, h => by obtain ⟨us, h1, h2⟩ := h; exact ⟨us, h1, enterL_sound e h2⟩
  | .dead, _, _ => trivial
theorem enterL_sound {ρ ρ' : Rel} (e : Enter ρ ρ') : ∀ {vs : List V} {us : List Value}, RVs ρ vs us → RVs ρ' (enterL vs) us
  | [], _, h => h
  | _ :: _, _, h => by obtain ⟨u, q, h1, h2, h3⟩ := h; exact ⟨u, q, h1, enterV_sound e h2, enterL_sound e h3⟩
end
theorem look_reverse {α : Type} {l : List (Nat × α)} (n : (l.map (·.1)).Nodup) (k : Nat) : look k l.reverse = look k l := by
  have n2 : (l.reverse.map (·.1)).Nodup := by rw [List.map_reverse]; exact (List.reverse_perm _).nodup_iff.2 n
  cases e : look k l with
  | none =>
    cases e2 : look k l.reverse with
    | none => rfl
    | some x => exact absurd (List.mem_map.2 ⟨_, List.mem_reverse.1 (look_mem e2), rfl⟩) (look_none e)
  | some x => exact look_of_mem n2 (List.mem_reverse.2 (look_mem e))
theorem range_shift {β : Type} (b n : Nat) (f : Nat → β) : (List.range' b n).map f = (List.range' 0 n).map fun i => f (b + i) := by
  apply List.ext_getElem?
  intro i
  rw [List.getElem?_map, List.getElem?_map]
  by_cases hi : i < n
  · rw [List.getElem?_range' hi, List.getElem?_range' hi]
    simp
  · rw [List.getElem?_eq_none (by simpa using hi), List.getElem?_eq_none (by simpa using hi)]; rfl
theorem enterL_len : ∀ (l : List V), (enterL l).length = l.length
  | [] => rfl
  | v :: r => by simp only [enterL, List.length_cons, enterL_len r]
theorem unB_ex : ∃ f : Nat → Nat, ∀ i, f (parBase + i) = i := ⟨fun b => b - parBase, fun i => Nat.add_sub_cancel_left _ _⟩
def startS (args : List V) (boxes : List (List V)) (trees : List (List (List D))) : S := { env := (withIdx 0 (args.map enterV)).reverse, box := (withIdx parBase (boxes.map enterL)).reverse, tree := (withIdx parBase trees).reverse, fro := [] }
def startA (n : Nat) (us : List Value) : Act := { tmps := us.toArray ++ Array.replicate (n - us.toArray.size) undef, defers := [] }
theorem enter_sound {c : Ctx} {args : List V} {boxes : List (List V)} {trees : List (List (List D))} {y : Lay} {us : List Value} {w : World} (m : Mem c (resS boxes (withIdx 0 trees)) y w) (h : RVs (relOf c (resS boxes (withIdx 0 trees)) y) args us) (n : Nat) {un : Nat → Nat} (hun : ∀ i, un (parBase + i) = i) (hn : (startA n us).tmps.size ≤ parBase) :
    At { c with n := (startA n us).tmps.size, bF := fun b => y.bl (un b), hF := fun p => y.hd (un p) } (startS args boxes trees) { bl := fun b => y.bl (un b), hd := fun p => y.hd (un p), T := fun b => y.T (un b), us := fun b => y.us (un b), w0 := y.w0, F := y.F } (startA n us) w := by
  have sub := hun
  have kB : ∀ b, b ∈ ((withIdx parBase (boxes.map enterL)).reverse.map (·.1)) ↔ ∃ i, i < boxes.length ∧ b = parBase + i := by
    intro b
    rw [List.map_reverse, List.mem_reverse, withIdx_keys, List.mem_range'_1, List.length_map]
    constructor
    · intro h; exact ⟨b - parBase, by omega, by omega⟩
    · rintro ⟨i, h1, h2⟩; omega
  have kT : ∀ b, b ∈ ((withIdx parBase trees).reverse.map (·.1)) ↔ ∃ i, i < trees.length ∧ b = parBase + i := by
    intro b
    rw [List.map_reverse, List.mem_reverse, withIdx_keys, List.mem_range'_1]
    constructor
    · intro h; exact ⟨b - parBase, by omega, by omega⟩
    · rintro ⟨i, h1, h2⟩; omega
  have E : Enter (relOf c (resS boxes (withIdx 0 trees)) y) (relOf { c with n := (startA n us).tmps.size, bF := fun b => y.bl (un b), hF := fun p => y.hd (un p) } (startS args boxes trees) { bl := fun b => y.bl (un b), hd := fun p => y.hd (un p), T := fun b => y.T (un b), us := fun b => y.us (un b), w0 := y.w0, F := y.F }) := by
    refine ⟨rfl, fun b o ⟨p, hp, _⟩ => (by cases hp), rfl, fun i hi => ⟨?_, ?_⟩, fun i hi => ⟨?_, ?_⟩⟩
    · have hi : i ∈ (withIdx 0 boxes).map (·.1) := hi
      rw [withIdx_keys, List.mem_range'_1] at hi
      exact (kB _).2 ⟨i, by omega, rfl⟩
    · show y.bl (un (parBase + i)) = y.bl i; rw [sub]
    · have hi : i ∈ (withIdx 0 trees ++ ([] : List (Nat × List (List D)))).map (·.1) := hi
      rw [List.append_nil, withIdx_keys, List.mem_range'_1] at hi
      show parBase + i ∈ ((withIdx parBase trees).reverse ++ ([] : List (Nat × List (List D)))).map (·.1)
      rw [List.append_nil]
      exact (kT _).2 ⟨i, by omega, rfl⟩
    · show y.hd (un (parBase + i)) = y.hd i; rw [sub]
  have nB : (((withIdx parBase (boxes.map enterL)).reverse).map (·.1)).Nodup := by rw [List.map_reverse]; exact (List.reverse_perm _).nodup_iff.2 withIdx_nodup
  have nT : (((withIdx parBase trees).reverse).map (·.1)).Nodup := by rw [List.map_reverse]; exact (List.reverse_perm _).nodup_iff.2 withIdx_nodup
  refine ⟨rfl, rfl, ?_, fun t v e => ?_, fun b cs hb => ?_, fun p rows hp => (by cases hp), nB, by show (((withIdx parBase trees).reverse ++ ([] : List (Nat × List (List D)))).map (·.1)).Nodup; rw [List.append_nil]; exact nT, hn, fun i _ _ => ⟨rfl, rfl⟩⟩
  · have S0 : St c.W w (boxPs y.bl y.T y.us (withIdx 0 boxes) ++ (treePs y.hd (withIdx 0 trees) ++ ([] ++ c.L))) := m.st
    show St c.W w (boxPs _ _ _ ((withIdx parBase (boxes.map enterL)).reverse) ++ (treePs _ ((withIdx parBase trees).reverse) ++ ([] ++ c.L)))
    refine S0.perm (List.Perm.append ?_ (List.Perm.append ?_ (List.Perm.refl _)))
    · rw [boxPs_keys, boxPs_keys, List.map_reverse, List.map_reverse, withIdx_keys, withIdx_keys, List.length_map, range_shift parBase]
      simp only [sub]
      exact (List.reverse_perm _).symm
    · rw [treePs_keys _ withIdx_nodup, treePs_keys _ nT, List.map_reverse, List.map_reverse, withIdx_keys, withIdx_keys, range_shift parBase]
      simp only [sub]
      refine List.Perm.trans (List.Perm.of_eq (List.map_congr_left fun i hi => ?_)) (List.reverse_perm _).symm
      rw [look_reverse withIdx_nodup, withIdx_look]
      have := withIdx_look (l := trees) (n := 0) i
      rw [Nat.zero_add] at this
      rw [this]
  · have e : look t (withIdx 0 (args.map enterV)).reverse = some v := e
    rw [look_reverse withIdx_nodup] at e
    have e2 := withIdx_look (l := args.map enterV) (n := 0) t
    rw [Nat.zero_add, e, List.getElem?_map] at e2
    obtain ⟨v0, e3, rfl⟩ := Option.map_eq_some_iff.1 e2.symm
    obtain ⟨u, e4, e5⟩ := h.get e3
    have : (startA n us).tmps.getD t undef = u := by
      have hl := (List.getElem?_eq_some_iff.1 e4).1
      rw [Array.getD_eq_getD_getElem?]
      show ((us.toArray ++ Array.replicate _ undef)[t]?).getD undef = u
      rw [Array.getElem?_append_left (by simpa using hl), List.getElem?_toArray, e4]; rfl
    rw [this]
    exact enterV_sound E e5
  · have hb : (b, cs) ∈ (withIdx parBase (boxes.map enterL)).reverse := hb
    have hl := look_of_mem nB hb
    obtain ⟨i, h1, rfl⟩ := (kB b).1 (List.mem_map.2 ⟨_, hb, rfl⟩)
    rw [look_reverse withIdx_nodup, withIdx_look, List.getElem?_map] at hl
    obtain ⟨cs0, e3, rfl⟩ := Option.map_eq_some_iff.1 hl
    have e4 := withIdx_look (l := boxes) (n := 0) i
    rw [Nat.zero_add, e3] at e4
    have := m.box i cs0 (look_mem e4)
    show RVs _ (enterL cs0) (y.us (un (parBase + i))).toList
    rw [sub]
    exact enterL_sound E this
end Go.Proofs.YtacnbajcignacaaGreat
