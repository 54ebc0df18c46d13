/-
  Soundness of the evaluator, twentieth part: out of a function.
-/
import Derived.Test.YtacnbajcignacaaGreatSnd19
namespace Go.Proofs.YtacnbajcignacaaGreat
open Go.RowKit
set_option linter.unusedSimpArgs false
set_option linter.unusedVariables false

/-- the lists that go out: their pieces -/
def pcs2 : List (Nat × List (List D)) → List Value → List Pc
  | x :: l, u :: us => ownP u x.2 :: pcs2 l us
  | _, _ => []
theorem pcs2_app : ∀ {l : List (Nat × List (List D))} {H : List Value} (x : Nat × List (List D)) (u : Value), H.length = l.length → pcs2 (l ++ [x]) (H ++ [u]) = pcs2 l H ++ [ownP u x.2]
  | [], [], x, u, _ => rfl
  | [], _ :: _, x, u, h => by simp at h
  | y :: l, [], x, u, h => by simp at h
  | y :: l, v :: H, x, u, h => by
    simp only [List.cons_append, pcs2]
    rw [pcs2_app x u (by simpa using h)]
/-- a list's piece, by its name -/
def ownOf (s : S) (y : Lay) (p : Nat) : Pc := ownP (y.hd p) ((s.rows (.own p)).getD [])
structure Out (s : S) (y : Lay) (n : Nat) (l : List (Nat × List (List D))) (H : List Value) : Prop where
  len : H.length = l.length
  ex : ∃ N : List Nat, N.Nodup ∧ (∀ p ∈ N, p ∈ l.map (·.1)) ∧ (∀ p ∈ N, ¬ (parBase ≤ p ∧ p < parBase + n)) ∧ (∀ p ∈ N, ∃ rows, s.rows (.own p) = some rows) ∧ ∀ (W w : World) (R : List Pc), St W w (N.map (ownOf s y) ++ R) → St W w (pcs2 l H ++ R)
/-- the callee's names, outside -/
structure Outs (ρ ρ' : Rel) (s : S) (n : Nat) (H : List Value) : Prop where
  K : ρ'.K = ρ.K
  src : ρ'.src = ρ.src
  b : ∀ i, ρ.Lb (parBase + i) → ρ'.Lb i ∧ ρ'.bl i = ρ.bl (parBase + i)
  t : ∀ q, q < n → (look (parBase + q) s.tree).isSome = true → ρ'.Lt q ∧ ρ'.hd q = ρ.hd (parBase + q)
  h : ∀ k u, H[k]? = some u → ρ'.Lt (n + k) ∧ ρ'.hd (n + k) = u
section
variable {ρ : Rel} {s : S} {y : Lay} {n : Nat}
def OSeen (ρ : Rel) (s : S) (n : Nat) (H : List Value) (v' : V) (u : Value) : Prop := ∀ (ρ' : Rel) (Hf : List Value), H <+: Hf → Outs ρ ρ' s n Hf → RV ρ' v' u
def OSeens (ρ : Rel) (s : S) (n : Nat) (H : List Value) (vs : List V) (us : List Value) : Prop := ∀ (ρ' : Rel) (Hf : List Value), H <+: Hf → Outs ρ ρ' s n Hf → RVs ρ' vs us
mutual
theorem outV_sound (hhd : ρ.hd = y.hd) : ∀ {l l' : List (Nat × List (List D))} {H : List Value} {v v' : V} {u : Value}, Out s y n l H → outV s n l v = some (v', l') → RV ρ v u → ∃ H', H <+: H' ∧ Out s y n l' H' ∧ OSeen ρ s n H' v' u
  | l, l', H, .v x, v', u, o, h, hv => by
    simp only [outV] at h; injection h with h; injection h with h1 h2; subst h1; subst h2
    exact ⟨H, List.prefix_refl _, o, fun _ _ _ _ => hv⟩
  | l, l', H, .dead, v', u, o, h, hv => by
    simp only [outV] at h; injection h with h; injection h with h1 h2; subst h1; subst h2
    exact ⟨H, List.prefix_refl _, o, fun _ _ _ _ => trivial⟩
  | l, l', H, .lst q rows, v', u, o, h, hv => by
    simp only [outV] at h; injection h with h; injection h with h1 h2; subst h1; subst h2
    exact ⟨H, List.prefix_refl _, o, fun ρ' Hf _ O => ⟨by rw [O.K]; exact hv.1, fun j e => by rw [O.src]; exact hv.2 j e⟩⟩
  | l, l', H, .nil, v', u, o, h, hv => by
    simp only [outV] at h; injection h with h; injection h with h1 h2; subst h1; subst h2
    have hu : u = .slice none 0 0 := hv
    subst hu
    refine ⟨H ++ [.slice none 0 0], List.prefix_append _ _, ⟨by simp [o.len], ?_⟩, fun ρ' Hf le O => ?_⟩
    · obtain ⟨N, n1, n2, n3, n4, n5⟩ := o.ex
      refine ⟨N, n1, fun p hp => by rw [List.map_append]; exact List.mem_append_left _ (n2 p hp), n3, n4, fun W w R S => ?_⟩
      rw [pcs2_app _ _ o.len, List.append_assoc]
      have S2 := (n5 W w R S).more (Ext.refl w) (h := ownP (.slice none 0 0) []) (F := []) .nil List.nodup_nil (fun b hb => by cases hb)
      exact S2.perm List.perm_middle.symm
    · have hk := O.h l.length (.slice none 0 0) (prefix_get le (by rw [← o.len]; simp))
      exact ⟨hk.1, hk.2.symm⟩
  | l, l', H, .own p, v', u, o, h, hv => by
    simp only [outV] at h
    by_cases hp : parBase ≤ p ∧ p < parBase + n
    · rw [if_pos hp] at h
      obtain ⟨h1, h⟩ := grd_eq_some h
      injection h with h; injection h with h2 h3; subst h2; subst h3
      refine ⟨H, List.prefix_refl _, o, fun ρ' Hf le O => ?_⟩
      obtain ⟨i, hi⟩ : ∃ i, p = parBase + i := ⟨p - parBase, by omega⟩
      have e : p - parBase = i := by omega
      rw [e]
      rw [hi] at hp h1 hv
      obtain ⟨k1, k2⟩ := O.t i (by omega) h1
      exact ⟨k1, by rw [k2]; exact hv.2⟩
    · rw [if_neg hp] at h
      obtain ⟨rows, h1, h⟩ := bnd_eq_some h
      obtain ⟨h2, h⟩ := grd_eq_some h
      injection h with h; injection h with h3 h4; subst h3; subst h4
      have hnone := look_none (isNone_eq h2)
      have hu : u = y.hd p := by rw [← hhd]; exact hv.2
      refine ⟨H ++ [u], List.prefix_append _ _, ⟨by simp [o.len], ?_⟩, fun ρ' Hf le O => ?_⟩
      · obtain ⟨N, n1, n2, n3, n4, n5⟩ := o.ex
        refine ⟨p :: N, List.nodup_cons.2 ⟨fun hx => hnone (n2 p hx), n1⟩, fun q hq => ?_, fun q hq => ?_, fun q hq => ?_, fun W w R S => ?_⟩
        · rw [List.map_append]
          rcases List.mem_cons.1 hq with hq | hq
          · subst hq; exact List.mem_append_right _ (by simp)
          · exact List.mem_append_left _ (n2 q hq)
        · rcases List.mem_cons.1 hq with hq | hq
          · subst hq; exact hp
          · exact n3 q hq
        · rcases List.mem_cons.1 hq with hq | hq
          · subst hq; exact ⟨rows, h1⟩
          · exact n4 q hq
        · rw [pcs2_app _ _ o.len, List.append_assoc]
          refine n5 W w _ (S.perm ?_)
          rw [List.map_cons, List.cons_append]
          have e : ownOf s y p = ownP u rows := by unfold ownOf; rw [h1, hu]; rfl
          rw [e]
          exact List.perm_middle.symm
      · have hk := O.h l.length u (prefix_get le (by rw [← o.len]; simp))
        exact ⟨hk.1, hk.2.symm⟩
  | l, l', H, .ref b off, v', u, o, h, hv => by
    simp only [outV] at h
    obtain ⟨h1, h⟩ := grd_eq_some h
    injection h with h; injection h with h2 h3; subst h2; subst h3
    refine ⟨H, List.prefix_refl _, o, fun ρ' Hf le O => ?_⟩
    obtain ⟨i, hi⟩ : ∃ i, b = parBase + i := ⟨b - parBase, by omega⟩
    have e : b - parBase = i := by omega
    rw [e]
    rw [hi] at hv
    obtain ⟨k1, k2⟩ := O.b i hv.1
    exact ⟨k1, by rw [k2]; exact hv.2⟩
  | l, l', H, .agg cs, v', u, o, h, hv => by
    simp only [outV] at h
    obtain ⟨x, h1, h⟩ := bnd_eq_some h
    injection h with h; injection h with h2 h3; subst h2; subst h3
    obtain ⟨us, e1, e2⟩ := hv
    obtain ⟨H', k1, k2, k3⟩ := outL_sound hhd (l' := x.2) (vs' := x.1) o h1 e2
    exact ⟨H', k1, k2, fun ρ' Hf le O => ⟨us, e1, k3 ρ' Hf le O⟩⟩
  | l, l', H, .tup cs, v', u, o, h, hv => by
    simp only [outV] at h
    obtain ⟨x, h1, h⟩ := bnd_eq_some h
    injection h with h; injection h with h2 h3; subst h2; subst h3
    obtain ⟨us, e1, e2⟩ := hv
    obtain ⟨H', k1, k2, k3⟩ := outL_sound hhd (l' := x.2) (vs' := x.1) o h1 e2
    exact ⟨H', k1, k2, fun ρ' Hf le O => ⟨us, e1, k3 ρ' Hf le O⟩⟩
  | l, l', H, .fz _, v', u, o, h, hv => by simp only [outV] at h; cases h
  | l, l', H, .pe _ _ _ _, v', u, o, h, hv => by simp only [outV] at h; cases h
  | l, l', H, .fn _ _, v', u, o, h, hv => by simp only [outV] at h; cases h
theorem outL_sound (hhd : ρ.hd = y.hd) : ∀ {l l' : List (Nat × List (List D))} {H : List Value} {vs vs' : List V} {us : List Value}, Out s y n l H → outL s n l vs = some (vs', l') → RVs ρ vs us → ∃ H', H <+: H' ∧ Out s y n l' H' ∧ OSeens ρ s n H' vs' us
  | l, l', H, [], vs', us, o, h, hv => by
    simp only [outL] at h; injection h with h; injection h with h1 h2; subst h1; subst h2
    exact ⟨H, List.prefix_refl _, o, fun _ _ _ _ => hv⟩
  | l, l', H, v :: vs, vs', us, o, h, hv => by
    simp only [outL] at h
    obtain ⟨x, h1, h⟩ := bnd_eq_some h
    obtain ⟨z, h2, h⟩ := bnd_eq_some h
    injection h with h; injection h with h3 h4; subst h3; subst h4
    obtain ⟨u, q, rfl, e1, e2⟩ := hv
    obtain ⟨H1, a1, a2, a3⟩ := outV_sound hhd (l' := x.2) (v' := x.1) o h1 e1
    obtain ⟨H2, b1, b2, b3⟩ := outL_sound hhd (l' := z.2) (vs' := z.1) a2 h2 e2
    exact ⟨H2, a1.trans b1, b2, fun ρ' Hf le O => ⟨u, q, rfl, a3 ρ' Hf (b1.trans le) O, b3 ρ' Hf le O⟩⟩
end
theorem outB_sound (hhd : ρ.hd = y.hd) (hB : ∀ b cs, look b s.box = some cs → RVs ρ cs (y.us b).toList) : ∀ {bs : List Nat} {l l' : List (Nat × List (List D))} {H : List Value} {css : List (List V)}, Out s y n l H → outB s n l bs = some (css, l') →
    ∃ H', H <+: H' ∧ Out s y n l' H' ∧ css.length = bs.length ∧ (∀ b ∈ bs, parBase + b ∈ s.box.map (·.1)) ∧ ∀ (i b : Nat) (cs : List V), bs[i]? = some b → css[i]? = some cs → OSeens ρ s n H' cs (y.us (parBase + b)).toList
  | [], l, l', H, css, o, h => by
    simp only [outB] at h; injection h with h; injection h with h1 h2; subst h1; subst h2
    exact ⟨H, List.prefix_refl _, o, rfl, (fun b hb => by cases hb), fun i b cs e => by simp at e⟩
  | b :: bs, l, l', H, css, o, h => by
    simp only [outB] at h
    obtain ⟨cs, h1, h⟩ := bnd_eq_some h
    obtain ⟨x, h2, h⟩ := bnd_eq_some h
    obtain ⟨z, h3, h⟩ := bnd_eq_some h
    injection h with h; injection h with h4 h5; subst h4; subst h5
    obtain ⟨H1, a1, a2, a3⟩ := outL_sound hhd (l' := x.2) (vs' := x.1) o h2 (hB _ cs h1)
    obtain ⟨H2, b1, b2, b3, b4, b5⟩ := outB_sound hhd hB (l' := z.2) (css := z.1) a2 h3
    refine ⟨H2, a1.trans b1, b2, by rw [List.length_cons, List.length_cons, b3], fun b' hb => ?_, fun i b' cs' e1 e2 => ?_⟩
    · rcases List.mem_cons.1 hb with hb | hb
      · rw [hb]; exact key_look.2 ⟨cs, h1⟩
      · exact b4 b' hb
    · cases i with
      | zero => simp at e1 e2; rw [← e1, ← e2]; exact fun ρ' Hf le O => a3 ρ' Hf (b1.trans le) O
      | succ i => exact b5 i b' cs' (by simpa using e1) (by simpa using e2)
end
end Go.Proofs.YtacnbajcignacaaGreat
