/-
  How the arguments of a law are opened: numbers, strings, slices of them, with their ranges.
-/
import Derived.Test.YtohjjhoobikioaaDoorOpen
import Derived.Test.YtohjjhoobikioaaDoorDv2
import Derived.Deep.Slices
namespace Go.Proofs.YtohjjhoobikioaaDoor
open Go.ChangeShapes Go.WideShapes Go.ChangeAt Go.RowKit Go.Deep

section
variable {H : Type} {enc : TypeId × Value → H} {W : World} {fuel : Nat} {cs : List Value} {x : DataW H × List MemPlace}
/-- a slice of elements of k cells, each of which reads as one of f's and is as p says -/
theorem rdo_slice {t e : TypeId} {k : Nat} {α : Type} [Inhabited α] {f : α → List Dv} {p : α → Prop} (h0 : 0 < k) (hk : ∀ x, (f x).length = k) (ht : Tryd.prog.underlying t = some (.slice e)) (hc : Tryd.prog.cellsOf e = k)
    (he : ∀ {fuel cs x}, DataW.trod enc Tryd.prog W 0 (fun _ => true) true fuel e cs = some x → ∃ a : α, p a ∧ Rds W cs (f a))
    (h : DataW.trod enc Tryd.prog W 0 (fun _ => true) true fuel t cs = some x) : ∃ l : List α, (∀ z ∈ l, p z) ∧ Rds W cs [.sl k (l.flatMap f)] := by
  rcases open_slice ht h with ⟨rfl, _⟩ | ⟨a, len, cap, m, n, D, Pl, rfl, hb, hl, hm, hmm, rfl, hx⟩
  · exact ⟨[], (fun _ h => by cases h), .cons (.sl k [] none 0 0 0 0 (fun _ => undef) (by simp) (Nat.le_refl _) (by omega) (fun _ => rfl) (fun h => absurd h (by omega)) (fun i d e => by simp at e) (fun i d e => by simp at e)) .nil⟩
  have hlm : len ≤ m := by rw [hmm]; split <;> omega
  rw [hc] at hx
  obtain ⟨g, hg⟩ := choose_lt (α := α) (p := fun i y => p y ∧ ∀ j d, (f y)[j]? = some d → ∃ u, W.cell? (a.add (i * k + j)) = some u ∧ Rd W u d) (n := m) (fun i hi => by
    obtain ⟨cs', h1, h2⟩ := hx i hi
    obtain ⟨_, hlen, hcell⟩ := World.cells?_some h1
    obtain ⟨y, hp, hy⟩ := he h2
    refine ⟨y, hp, fun j d e => ?_⟩
    obtain ⟨u, e1, e2⟩ := hy.get e
    have hj : j < k := by rw [← hk y]; exact (List.getElem?_eq_some_iff.1 e).1
    refine ⟨u, ?_, e2⟩
    rw [← e1, ← hcell j hj, add_add])
  refine ⟨(List.range len).map g, fun z hz => ?_, .cons ?_ .nil⟩
  · obtain ⟨i, hi, rfl⟩ := List.mem_map.1 hz
    exact (hg i (by have := List.mem_range.1 hi; omega)).1
  have key : ∀ i d, (((List.range len).map g).flatMap f)[i]? = some d → ∃ u, W.cell? (a.add i) = some u ∧ Rd W u d := by
    intro i d e
    have hi : i < len * k := by
      have := (List.getElem?_eq_some_iff.1 e).1
      rw [flat_len hk, List.length_map, List.length_range] at this; exact this
    have e1 : i / k * k + i % k = i := by rw [Nat.mul_comm]; exact Nat.div_add_mod i k
    have h1 : i / k < len := Nat.div_lt_of_lt_mul (by rw [Nat.mul_comm]; exact hi)
    have e2 := flat_get hk ((List.range len).map g) (i / k) (i % k) (g (i / k)) (by rw [List.getElem?_map, List.getElem?_range h1]; rfl) (Nat.mod_lt _ h0)
    rw [e1, e] at e2
    obtain ⟨u, h2, h3⟩ := (hg (i / k) (by omega)).2 (i % k) d e2.symm
    rw [e1] at h2
    exact ⟨u, h2, h3⟩
  obtain ⟨b, o, spot⟩ := a
  have hspot : 0 < len → spot = none := by
    intro h1
    have hl2 : 0 < (((List.range len).map g).flatMap f).length := by rw [flat_len hk, List.length_map, List.length_range]; exact Nat.mul_pos h1 h0
    obtain ⟨u, h2, -⟩ := key 0 _ (List.getElem?_eq_getElem hl2)
    simpa [Addr.add] using World.cell?_spot h2
  rcases Nat.eq_zero_or_pos len with h1 | h1
  · subst h1
    exact .sl k _ _ 0 cap b o (fun _ => undef) (by simp) hl (by unfold maxLen at hm; omega) (fun h => nomatch h) (fun h => absurd h (by omega)) (fun i d e => by simp at e) (fun i d e => by simp at e)
  obtain rfl := hspot h1
  refine .sl k _ _ len cap b o (fun i => (W.cell? ⟨b, o + i, none⟩).getD undef) (by rw [flat_len hk]; simp) hl (by unfold maxLen at hm; omega) (fun h => nomatch h) (fun _ => rfl) (fun i d e => ?_) (fun i d e => ?_)
  · obtain ⟨u, h2, -⟩ := key i d e
    rw [Addr.add_lit] at h2
    rw [h2]; rfl
  · obtain ⟨u, h2, h3⟩ := key i d e
    rw [Addr.add_lit] at h2
    rw [h2]; exact h3
theorem flat_one {α : Type} (g : α → Dv) (l : List α) : (l.flatMap fun x => [g x]) = l.map g := by induction l <;> simp_all
set_option maxRecDepth 100000 in
theorem rdo_int (h : DataW.trod enc Tryd.prog W 0 (fun _ => true) true fuel 3 cs = some x) : ∃ a : Int, R64 a ∧ Rds W cs [.one (.int .i64 a)] := by
  obtain ⟨n, rfl, _, wf⟩ := DataW.trod_int Tryd.underlying3 h
  exact ⟨n, int_range wf, .cons (.one _) .nil⟩
set_option maxRecDepth 100000 in
theorem rdo_bool (h : DataW.trod enc Tryd.prog W 0 (fun _ => true) true fuel 4 cs = some x) : ∃ a : Bool, Rds W cs [.one (.bool a)] := by
  obtain ⟨n, rfl, _⟩ := DataW.trod_bool Tryd.underlying4 h
  exact ⟨n, .cons (.one _) .nil⟩
theorem cellsOf_string : Tryd.prog.cellsOf 9 = 1 := by kernel_rfl
set_option maxRecDepth 100000 in
theorem rdo_string (h : DataW.trod enc Tryd.prog W 0 (fun _ => true) true fuel 9 cs = some x) : ∃ a : List UInt8, Rds W cs [.one (strC a)] := by
  obtain ⟨s, rfl, _, wf⟩ := DataW.trod_string Tryd.underlying9 h
  exact ⟨s.data.toList, .cons (by have e : strC s.data.toList = .string s := rfl; rw [e]; exact .one _) .nil⟩
theorem rdo_ints (h : DataW.trod enc Tryd.prog W 0 (fun _ => true) true fuel 22 cs = some x) : ∃ l : List Int, (∀ z ∈ l, R64 z) ∧ Rds W cs [Dv.ints l] := by
  obtain ⟨l, g, r⟩ := rdo_slice (k := 1) (f := fun x : Int => [.one (.int .i64 x)]) (by decide) (fun _ => rfl) Tryd.underlying22 cells_int rdo_int h
  rw [flat_one] at r
  exact ⟨l, g, r⟩
theorem cellsOf_u8 : Tryd.prog.cellsOf 5 = 1 := by kernel_rfl
theorem cellsOf_bytes : Tryd.prog.cellsOf 38 = 1 := by kernel_rfl
theorem u8_range {x : Int} (w : (Lit.int .u8 x).wf = true) : 0 ≤ x ∧ x ≤ 255 := by
  simpa [Lit.wf, IntKind.min, IntKind.max, IntKind.signed, IntKind.bits] using w
set_option maxRecDepth 100000 in
theorem rdo_byte (h : DataW.trod enc Tryd.prog W 0 (fun _ => true) true fuel 5 cs = some x) : ∃ a : UInt8, True ∧ Rds W cs [.one (byteC a)] := by
  obtain ⟨n, rfl, _, wf⟩ := DataW.trod_int Tryd.underlying5 h
  obtain ⟨h0, h1⟩ := u8_range wf
  have e : byteC (UInt8.ofNat n.toNat) = .int .u8 n := by
    unfold byteC; congr 1; simp; omega
  exact ⟨UInt8.ofNat n.toNat, trivial, .cons (by rw [e]; exact .one _) .nil⟩
theorem rdo_bytes (h : DataW.trod enc Tryd.prog W 0 (fun _ => true) true fuel 38 cs = some x) : ∃ l : List UInt8, Rds W cs [Dv.bytes l] := by
  obtain ⟨l, g, r⟩ := rdo_slice (k := 1) (f := fun x : UInt8 => [.one (byteC x)]) (by decide) (fun _ => rfl) Tryd.underlying38 cellsOf_u8 rdo_byte h
  rw [flat_one] at r
  exact ⟨l, r⟩
theorem cellsOf_strs : Tryd.prog.cellsOf 142 = 1 := by kernel_rfl
theorem rdo_strs (h : DataW.trod enc Tryd.prog W 0 (fun _ => true) true fuel 142 cs = some x) : ∃ l : List (List UInt8), Rds W cs [Dv.strs l] := by
  obtain ⟨l, g, r⟩ := rdo_slice (k := 1) (f := fun x : List UInt8 => [.one (strC x)]) (p := fun _ => True) (by decide) (fun _ => rfl) Tryd.underlying142 cellsOf_string (fun h => (rdo_string h).elim fun a r => ⟨a, trivial, r⟩) h
  rw [flat_one] at r
  exact ⟨l, r⟩
end
end Go.Proofs.YtohjjhoobikioaaDoor
