/-
  TextOf of both packages.
-/
import Derived.Test.YtohjjhoobikioaaDoorRunes
import Derived.Laws.BytesArg
import Derived.WalkSpells
namespace Go.Proofs.YtohjjhoobikioaaDoor
open Go.RowKit

/-- string(b): an arm of the walk -/
theorem wp_toStr {ops : Array Oper} {rest : List Oper} {d : Option Tmp} {ty : TypeId} {pos : String} {af : Array Edge} {a : Act} {Q : Exit → Act → World → Prop} {w : World} {x : Operand}
    {A : Option Addr} {n c : Nat} {l : List UInt8} (hx : a.eval x = .slice A n c) (hr : RB w A n c l)
    (h : wpList Tryd.prog ops Q rest (a.put d (.string ⟨l.toArray⟩)) w) :
    wpList Tryd.prog ops Q (⟨d, Op.convert 38 9 x, ty, pos, af, none⟩ :: rest) a w := by
  refine wpList_plain rfl fun K hK => ?_
  have e : (convert 38 9 (.slice A n c)).run Tryd.prog w = .ok (.string ⟨l.toArray⟩) w := by
    obtain rfl := hr.len
    cases A with
    | none =>
      obtain rfl := hr.none_ rfl
      have hl : l = [] := List.length_eq_zero_iff.1 (by have := hr.cap; omega)
      subst hl
      exact run_convert_bytes_nil w 38 5 Tryd.underlying38 Tryd.underlying5 0 0 9 Tryd.underlying9
    | some ad =>
      refine run_convert_bytes_back w 38 9 5 ad c l Tryd.underlying38 Tryd.underlying5 Tryd.underlying9 (fun j hj => ?_)
      obtain ⟨b, o, e, hc⟩ := hr.at_ (by omega)
      obtain rfl := Option.some.inj e
      rw [Addr.add_lit, hc j hj]
      simp [hj]
  unfold Oper.wp execOp
  simp [hx, e, Oper.upon, Result.andThen]
  exact hK _ _ h

theorem textOf_snoc {t : List Int} {k : Nat} (hk : k < t.length) : textOf (t.take (k + 1)) = textOf (t.take k) ++ runeBytes (t[k]?.getD 0) := by
  unfold textOf; rw [take_snoc hk, List.flatMap_append]; simp


set_option maxHeartbeats 1000000 in
theorem spec_TextOf (A : Option Addr) (n c : Nat) (t : List Int) (W : World) (ht : RI W A n c t) (hsm : n ≤ 4294967296) :
    Calls Tryd.prog 138 #[.slice A n c] W fun e w' => e = .returned (.string ⟨(textOf t).toArray⟩) ∧ Ext W w' := by
  have hn := ht.nmax
  go_enter Tryd.func138, Tryd.ntmps138
  go_wp2_with fail
  go_loopw [3, 9] (fun vo vi wr => ∃ k : Nat, k ≤ n ∧ vi = .int .i64 k ∧ OwnB wr W.heap.size vo (textOf (t.take k)) ∧ Ext W wr) (fun _ vi _ => n - (intOf vi).toNat)
  case atStart => exact ⟨0, by omega, rfl, OwnB.empty (Nat.le_refl _), (Ext.refl _).alloc _⟩
  case round =>
    obtain ⟨k, hk, rfl, hown, hx⟩ := hrel
    by_cases hlt : k < n
    · obtain ⟨b, o, rfl, hcell⟩ := (ht.ext hx).at1 hlt
      have hs := Lib.hid (textOf_snoc (show k < t.length by rw [ht.len]; exact hlt))
      have hl := textOf_len (t.take k)
      have hl2 : (t.take k).length ≤ k := List.length_take_le _ _
      have hl3 := runeBytes_len (t[k]?.getD 0)
      have hB := hx.size
      go_wp2_with fail
      refine (spec_RuneBytes _ _).mono ?_; rintro e w1 ⟨A1, n1, c1, rfl, r1, x1⟩
      have hlen1 := r1.len
      have hB1 := x1.size
      go_wp2_with (at_builtin; refine wp_appB rfl _ _ rfl rfl (hown.ext x1) rfl r1 (by omega) (by omega) ?_)
      intro v1 w2 hown1 hg1 _
      have hx1 := (hx.trans x1).grownB (hown.ext x1) hg1
      go_wp2_with fail
      go_roundw
      case rel => exact ⟨k + 1, by omega, by go_num, by rw [hs.out]; exact hown1, hx1⟩
      case measure => simp [intOf]; omega
    · have e : t.take k = t := List.take_of_length_le (by rw [ht.len]; omega)
      rw [e] at hown
      obtain ⟨A1, c1, rfl, r1⟩ := hown.form
      go_wp2_with ((with_reducible refine wp_toStr (A := A1) (c := c1) (l := textOf t) ?_ r1 ?_); exact rfl)
      go_wp2_with fail
      go_ret
      exact ⟨rfl, hx⟩
end Go.Proofs.YtohjjhoobikioaaDoor
