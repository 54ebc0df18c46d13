/-
  The laws' helpers on slices of bytes: eqByteS, markByteS, heldByteS.
-/
import Derived.Test.YtohjjhoobikioaaDoorRunes
namespace Go.Proofs.YtohjjhoobikioaaDoor
open Go.RowKit

theorem OwnB.cell {w : World} {B g n c : Nat} {l : List UInt8} (h : OwnB w B (.slice (some ⟨g, 0, none⟩) n c) l) {k : Nat} (hk : k < l.length) : w.cell? ⟨g, k, none⟩ = some (.int .u8 (l[k]?.getD 0).toNat) := by
  have hn : n = l.length := by
    rcases h.2 with ⟨hv, _⟩ | ⟨g', cap, cur, hv, _⟩
    · cases hv
    · injection hv
  subst hn
  rw [World.ownsRow.cellAt h k (by omega)]; simp [hk, byteC]
theorem OwnB.frozen {w : World} {B g n c : Nat} {l : List UInt8} (h : OwnB w B (.slice (some ⟨g, 0, none⟩) n c) l) (k : Nat) : w.frozen? ⟨g, k, none⟩ = false := by
  have hn : n = l.length := by
    rcases h.2 with ⟨hv, _⟩ | ⟨g', cap, cur, hv, _⟩
    · cases hv
    · injection hv
  subst hn
  exact World.ownsRow.frozenAt h k
theorem OwnB.set {w : World} {B g n c : Nat} {l : List UInt8} (h : OwnB w B (.slice (some ⟨g, 0, none⟩) n c) l) (k : Nat) (x : UInt8) :
    OwnB (w.setCell ⟨g, k, none⟩ (byteC x)) B (.slice (some ⟨g, 0, none⟩) n c) (l.set k x) ∧ w.grownBy (w.setCell ⟨g, k, none⟩ (byteC x)) (some g) := by
  have hn : n = l.length := by
    rcases h.2 with ⟨hv, _⟩ | ⟨g', cap, cur, hv, _⟩
    · cases hv
    · injection hv
  subst hn
  have := World.ownsRow.stored h k (byteC x)
  refine ⟨?_, this.2⟩
  unfold OwnB
  rw [List.length_set, List.map_set]
  exact this.1
theorem OwnB.shape {w : World} {B : Nat} {v : Value} {l : List UInt8} (h : OwnB w B v l) : (v = .slice none 0 0 ∧ l = []) ∨ ∃ g c, v = .slice (some ⟨g, 0, none⟩) l.length c ∧ B ≤ g ∧ g < w.heap.size ∧ l.length ≤ c ∧ c ≤ 9223372036854775807 := by
  rcases h.2 with ⟨hv, h0⟩ | ⟨g, cap, cur, hv, hb, hg, hn, hm, _⟩
  · exact .inl ⟨hv, List.length_eq_zero_iff.1 h0⟩
  · exact .inr ⟨g, cap, hv, hb, (Array.getElem?_eq_some_iff.1 hg).1, hn, by unfold maxLen at hm; omega⟩

theorem laws_eqByteS (l : List UInt8) (A : Option Addr) (n c : Nat) (A' : Option Addr) (n' c' : Nat) (W : World) (h : RB W A n c l) (h' : RB W A' n' c' l) :
    Calls Tryd.prog 29 #[.slice A n c, .slice A' n' c'] W fun e w' => e = .returned (.bool true) ∧ Ext W w' := by
  have hn := h.nmax
  obtain rfl : n = n' := by rw [← h.len, ← h'.len]
  go_enter Tryd.func29, Tryd.ntmps29
  go_wp2_with fail
  go_loopw [5] (fun vi wr => ∃ k : Nat, k ≤ n ∧ vi = .int .i64 k ∧ Ext W wr) (fun vi _ => n - (intOf vi).toNat)
  case atStart => exact ⟨0, by omega, rfl, Ext.refl _⟩
  case round =>
    obtain ⟨k, hk, rfl, hx⟩ := hrel
    by_cases hlt : k < n
    · obtain ⟨b, o, rfl, hcell⟩ := (h.ext hx).at1 hlt
      obtain ⟨b', o', rfl, hcell'⟩ := (h'.ext hx).at1 hlt
      go_wp2_with fail
      go_quiet (fail)
      go_wp2_with fail
      go_roundw
      case rel => exact ⟨k + 1, by omega, by go_num, hx.drewN _⟩
      case measure => simp [intOf]; omega
    · go_wp2_with fail
      go_ret
      exact ⟨rfl, hx⟩

def marksB (q : Int) (n : Nat) : List UInt8 := (List.range n).map fun (i : Nat) => by8 (q + (i : Int))
theorem marksB_get {q : Int} {n i : Nat} (h : i < n) : (marksB q n)[i]?.getD 0 = by8 (q + i) := by simp [marksB, h]
theorem marksB_len (q : Int) (n : Nat) : (marksB q n).length = n := by simp [marksB]
theorem by8_mod {x : Int} (h0 : 0 ≤ x) : ((by8 x).toNat : Int) = x % 256 := by
  unfold by8; rw [UInt8.toNat_ofNat']; omega

set_option maxHeartbeats 1000000 in
theorem laws_markByteS (v : Value) (l : List UInt8) (B : Nat) (q : Int) (W : World) (h : OwnB W B v l) (hq0 : 0 ≤ q) (hq : q ≤ 4611686018427387904) (hs : l.length ≤ 4294967296) :
    Calls Tryd.prog 32 #[v, .int .i64 q] W fun e w' => e = .returned (.int .i64 (q + l.length)) ∧ OwnB w' B v (marksB q l.length) ∧ W.grownBy w' v.ownBlock := by
  rcases h.shape with ⟨rfl, rfl⟩ | ⟨g, c, rfl, hBg, hgl, hc, hcm⟩
  · go_enter Tryd.func32, Tryd.ntmps32
    go_wp2_with fail
    go_rounds 1
    go_ret
    exact ⟨ret_i (by simp), h, World.grownBy.refl _ _⟩
  · obtain ⟨n, hn⟩ : ∃ n, n = l.length := ⟨_, rfl⟩
    rw [← hn] at h hs hc ⊢
    have Hn := Lib.hid hn; clear hn
    go_enter Tryd.func32, Tryd.ntmps32
    go_wp2_with fail
    go_loopw [1, 5] (fun vq vi wr => ∃ k : Nat, k ≤ n ∧ vi = .int .i64 k ∧ vq = .int .i64 (q + k) ∧ OwnB wr B (.slice (some ⟨g, 0, none⟩) n c) (marksB q k ++ l.drop k) ∧ W.grownBy wr (some g)) (fun _ vi _ => n - (intOf vi).toNat)
    case atStart => exact ⟨0, by omega, rfl, by go_num, by simpa [marksB] using h, World.grownBy.refl _ _⟩
    case round =>
      obtain ⟨k, hk, rfl, rfl, hown, hx⟩ := hrel
      by_cases hlt : k < n
      · have hc2 := hown.cell (k := k) (by rw [List.length_append, marksB_len, List.length_drop, ← Hn.out]; omega)
        have hf2 := hown.frozen k
        have hset := hown.set k (by8 (q + k))
        have Hb := Lib.hid (by8_mod (x := q + k) (by omega))
        go_wp2_with fail
        go_roundw
        case rel =>
          have e : (marksB q k ++ l.drop k).set k (by8 (q + k)) = marksB q (k + 1) ++ l.drop (k + 1) := by
            rw [List.set_append, if_neg (by rw [marksB_len]; omega), marksB_len, Nat.sub_self, List.drop_eq_getElem_cons (by rw [← Hn.out]; exact hlt), List.set_cons_zero]
            unfold marksB
            rw [List.range_succ, List.map_append, List.append_assoc]
            rfl
          rw [e] at hset
          unfold byteC at hset
          rw [Hb.out] at hset
          exact ⟨k + 1, by omega, by go_num, by go_num, hset.1, hx.trans hset.2⟩
        case measure => simp [intOf]; omega
      · go_wp2_with fail
        go_ret
        obtain rfl : k = n := by omega
        have e : marksB q k ++ l.drop k = marksB q k := by rw [List.drop_of_length_le (by rw [← Hn.out]; omega), List.append_nil]
        rw [e] at hown
        exact ⟨rfl, hown, hx⟩

set_option maxHeartbeats 1000000 in
theorem laws_heldByteS (A : Option Addr) (n c : Nat) (q : Int) (W : World) (h : RB W A n c (marksB q n)) (hq0 : 0 ≤ q) (hq : q ≤ 4611686018427387904) (hs : n ≤ 4294967296) :
    Calls Tryd.prog 33 #[.slice A n c, .int .i64 q] W fun e w' => e = .returned (.int .i64 (q + n)) ∧ Ext W w' := by
  go_enter Tryd.func33, Tryd.ntmps33
  go_wp2_with fail
  go_loopw [1, 5] (fun vq vi wr => ∃ k : Nat, k ≤ n ∧ vi = .int .i64 k ∧ vq = .int .i64 (q + k) ∧ Ext W wr) (fun _ vi _ => n - (intOf vi).toNat)
  case atStart => exact ⟨0, by omega, rfl, by go_num, Ext.refl _⟩
  case round =>
    obtain ⟨k, hk, rfl, rfl, hx⟩ := hrel
    by_cases hlt : k < n
    · obtain ⟨b, o, rfl, hcell⟩ := (h.ext hx).at1 hlt
      rw [List.getD_eq_getElem?_getD, marksB_get hlt, by8_mod (by omega)] at hcell
      go_wp2_with fail
      go_roundw
      case rel => exact ⟨k + 1, by omega, by go_num, by go_num, hx⟩
      case measure => simp [intOf]; omega
    · go_wp2_with fail
      go_ret
      obtain rfl : k = n := by omega
      exact ⟨rfl, hx⟩
end Go.Proofs.YtohjjhoobikioaaDoor
