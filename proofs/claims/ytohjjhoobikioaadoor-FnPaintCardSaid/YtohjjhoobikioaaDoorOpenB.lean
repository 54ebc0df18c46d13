/-
  How the arguments of a law are opened: slices of bytes.
-/
import Derived.Test.YtohjjhoobikioaaDoorOpen
import Derived.Test.YtohjjhoobikioaaDoorCur
namespace Go.Proofs.YtohjjhoobikioaaDoor
open Go.ChangeShapes Go.WideShapes Go.ChangeAt Go.RowKit

theorem cells_u8 : Tryd.prog.cellsOf 5 = 1 := by kernel_rfl
theorem byte_range {x : Int} (w : (Lit.int .u8 x).wf = true) : 0 ≤ x ∧ x ≤ 255 := by
  simpa [Lit.wf, IntKind.min, IntKind.max, IntKind.signed, IntKind.bits] using w

set_option maxRecDepth 100000 in
theorem open_bytes_in {H : Type} {enc : TypeId × Value → H} {W : World} {base : Nat} {v : Value} {d : DataW H} {ps : List MemPlace}
    (hv : Value.okWide Tryd.prog W .any base 38 v) (h : DataW.Trod enc Tryd.prog W 0 (fun _ => true) true 38 v d ps) :
    ∃ A n c zs, v = .slice A n c ∧ RB W A n c zs := by
  obtain ⟨a0, len, cap, rfl⟩ := okWide_slice Tryd.underlying38 hv
  obtain ⟨fuel, hf⟩ := h
  rcases open_ints Tryd.underlying38 Tryd.underlying5 cells_u8 hf with ⟨hcs, _⟩ | ⟨x, l, c, zs, hcs, _, hl, hm, hz, _, hcell, hwz⟩
  · simp [Value.cells] at hcs
    obtain ⟨rfl, rfl, rfl⟩ := hcs
    exact ⟨none, 0, 0, [], rfl, RB.nil _⟩
  · simp [Value.cells] at hcs
    obtain ⟨rfl, rfl, rfl⟩ := hcs
    have hz' : zs.length = cap := by simpa using hz
    refine ⟨_, _, _, (zs.take len).map (fun z => UInt8.ofNat z.toNat), rfl, by rw [List.length_map, List.length_take, hz']; omega, hl, by unfold maxLen at hm; omega, (fun e => nomatch e), fun hn => ?_⟩
    obtain ⟨b, off, spot⟩ := x
    have hspot : spot = none := by simpa [Addr.add] using World.cell?_spot (hcell 0 (by omega))
    subst hspot
    refine ⟨b, off, rfl, fun j hj => ?_⟩
    have hjz : j < zs.length := by omega
    have := hcell j hjz
    rw [Addr.add_lit] at this
    rw [this]
    have hr := byte_range (hwz zs[j] (List.getElem_mem hjz))
    have e : ((((zs.take len).map (fun z => UInt8.ofNat z.toNat)).getD j 0).toNat : Int) = zs[j] := by
      simp [hj, hjz]
      omega
    rw [e]
    simp [hjz]
end Go.Proofs.YtohjjhoobikioaaDoor
