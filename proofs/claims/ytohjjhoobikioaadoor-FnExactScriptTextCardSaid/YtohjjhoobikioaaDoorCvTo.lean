/-
  The laws' helpers on structs: to..
-/
import Derived.Test.YtohjjhoobikioaaDoorCvM
import Derived.Test.YtohjjhoobikioaaDoorCvH
namespace Go.Proofs.YtohjjhoobikioaaDoor
open Go.RowKit

set_option maxRecDepth 100000 in
set_option maxHeartbeats 8000000 in
theorem cv_toGrid (x : SGrid) (p0 : Value) (w : World) (h0 : Rd w p0 (Dv.ints x.Cells)) (hs : sizeGrid x ≤ 1048576) :
    Calls Tryd.prog 28 #[.agg #[.int .i64 x.W, .int .i64 x.H, p0, .int .i64 x.X, .int .i64 x.Y, .bool x.Wrap]] w fun e w' => ∃ u0, e = .returned (.agg #[.int .i64 x.W, .int .i64 x.H, u0, .int .i64 x.X, .int .i64 x.Y, .bool x.Wrap]) ∧ St w w' [own u0 (Dv.ints x.Cells)] := by
  have HZ : Hid (sizeGrid x = x.Cells.length) := rfl
  have b0 : x.Cells.length ≤ 1048576 := by have := HZ.out; omega
  have S0 := (((St.refl w).alloc #[.int .i64 x.W, .int .i64 x.H, p0, .int .i64 x.X, .int .i64 x.Y, .bool x.Wrap] 47).alloc #[.int .i64 0, .int .i64 0, .slice none 0 0, .int .i64 0, .int .i64 0, .bool false] 40).alloc #[.int .i64 0, .int .i64 0, .slice none 0 0, .int .i64 0, .int .i64 0, .bool false] 40
  simp only [World.size_alloc] at S0
  go_enter Tryd.func28, Tryd.ntmps28
  go_wp2_with ((with_reducible refine wp_setA (k := 0) (u := .int .i64 x.W) (#[.int .i64 x.W, .int .i64 0, .slice none 0 0, .int .i64 0, .int .i64 0, .bool false]) S0 0 rfl ?_ ?_ ?_ ?_ ?_ ?_ ?_); go_must (exact rfl); go_must (exact rfl); go_must (kernel_rfl); go_must (kernel_rfl); go_must (exact Nat.le_of_ble_eq_true (by kernel_rfl)); go_must (kernel_rfl))
  intro w1 S1
  have S1 : St w w1 [row (w.heap.size + 1 + 1) 40 #[.int .i64 x.W, .int .i64 0, .slice none 0 0, .int .i64 0, .int .i64 0, .bool false], row (w.heap.size + 1) 40 #[.int .i64 0, .int .i64 0, .slice none 0 0, .int .i64 0, .int .i64 0, .bool false], row w.heap.size 47 #[.int .i64 x.W, .int .i64 x.H, p0, .int .i64 x.X, .int .i64 x.Y, .bool x.Wrap]] := S1
  clear S0
  obtain ⟨lc, lf, ls⟩ := S1.cells 2 rfl
  go_wp2_with ((with_reducible refine wp_setA (k := 1) (u := .int .i64 x.H) (#[.int .i64 x.W, .int .i64 x.H, .slice none 0 0, .int .i64 0, .int .i64 0, .bool false]) S1 0 rfl ?_ ?_ ?_ ?_ ?_ ?_ ?_); go_must (exact rfl); go_must (exact rfl); go_must (kernel_rfl); go_must (kernel_rfl); go_must (exact Nat.le_of_ble_eq_true (by kernel_rfl)); go_must (kernel_rfl))
  intro w2 S2
  have S2 : St w w2 [row (w.heap.size + 1 + 1) 40 #[.int .i64 x.W, .int .i64 x.H, .slice none 0 0, .int .i64 0, .int .i64 0, .bool false], row (w.heap.size + 1) 40 #[.int .i64 0, .int .i64 0, .slice none 0 0, .int .i64 0, .int .i64 0, .bool false], row w.heap.size 47 #[.int .i64 x.W, .int .i64 x.H, p0, .int .i64 x.X, .int .i64 x.Y, .bool x.Wrap]] := S2
  clear S1 lc lf ls
  obtain ⟨lc, lf, ls⟩ := S2.cells 2 rfl
  go_wp2_with fail
  refine Calls.mono (cv_toIntS_d x.Cells p0 _ (h0.ext S2.ext) (by omega)) ?_; rintro e w3 ⟨u0, rfl, T3⟩
  obtain ⟨A0, n0, c0, rfl⟩ := (T3.rd 0 rfl).isl
  have S3 : St w w3 [own (.slice A0 n0 c0) (Dv.ints x.Cells), row (w.heap.size + 1 + 1) 40 #[.int .i64 x.W, .int .i64 x.H, .slice none 0 0, .int .i64 0, .int .i64 0, .bool false], row (w.heap.size + 1) 40 #[.int .i64 0, .int .i64 0, .slice none 0 0, .int .i64 0, .int .i64 0, .bool false], row w.heap.size 47 #[.int .i64 x.W, .int .i64 x.H, p0, .int .i64 x.X, .int .i64 x.Y, .bool x.Wrap]] := S2.joined T3
  clear S2 T3 lc lf ls
  obtain ⟨lc, lf, ls⟩ := S3.cells 3 rfl
  go_wp2_with ((with_reducible refine wp_setA (k := 2) (u := .slice A0 n0 c0) (#[.int .i64 x.W, .int .i64 x.H, .slice A0 n0 c0, .int .i64 0, .int .i64 0, .bool false]) S3 1 rfl ?_ ?_ ?_ ?_ ?_ ?_ ?_); go_must (exact rfl); go_must (exact rfl); go_must (kernel_rfl); go_must (kernel_rfl); go_must (exact Nat.le_of_ble_eq_true (by kernel_rfl)); go_must (kernel_rfl))
  intro w4 S4
  have S4 : St w w4 [own (.slice A0 n0 c0) (Dv.ints x.Cells), row (w.heap.size + 1 + 1) 40 #[.int .i64 x.W, .int .i64 x.H, .slice A0 n0 c0, .int .i64 0, .int .i64 0, .bool false], row (w.heap.size + 1) 40 #[.int .i64 0, .int .i64 0, .slice none 0 0, .int .i64 0, .int .i64 0, .bool false], row w.heap.size 47 #[.int .i64 x.W, .int .i64 x.H, p0, .int .i64 x.X, .int .i64 x.Y, .bool x.Wrap]] := S4
  clear S3 lc lf ls
  as_aux_lemma =>
    obtain ⟨lc, lf, ls⟩ := S4.cells 3 rfl
    go_wp2_with ((with_reducible refine wp_setA (k := 3) (u := .int .i64 x.X) (#[.int .i64 x.W, .int .i64 x.H, .slice A0 n0 c0, .int .i64 x.X, .int .i64 0, .bool false]) S4 1 rfl ?_ ?_ ?_ ?_ ?_ ?_ ?_); go_must (exact rfl); go_must (exact rfl); go_must (kernel_rfl); go_must (kernel_rfl); go_must (exact Nat.le_of_ble_eq_true (by kernel_rfl)); go_must (kernel_rfl))
    intro w5 S5
    have S5 : St w w5 [own (.slice A0 n0 c0) (Dv.ints x.Cells), row (w.heap.size + 1 + 1) 40 #[.int .i64 x.W, .int .i64 x.H, .slice A0 n0 c0, .int .i64 x.X, .int .i64 0, .bool false], row (w.heap.size + 1) 40 #[.int .i64 0, .int .i64 0, .slice none 0 0, .int .i64 0, .int .i64 0, .bool false], row w.heap.size 47 #[.int .i64 x.W, .int .i64 x.H, p0, .int .i64 x.X, .int .i64 x.Y, .bool x.Wrap]] := S5
    clear S4 lc lf ls
    obtain ⟨lc, lf, ls⟩ := S5.cells 3 rfl
    go_wp2_with ((with_reducible refine wp_setA (k := 4) (u := .int .i64 x.Y) (#[.int .i64 x.W, .int .i64 x.H, .slice A0 n0 c0, .int .i64 x.X, .int .i64 x.Y, .bool false]) S5 1 rfl ?_ ?_ ?_ ?_ ?_ ?_ ?_); go_must (exact rfl); go_must (exact rfl); go_must (kernel_rfl); go_must (kernel_rfl); go_must (exact Nat.le_of_ble_eq_true (by kernel_rfl)); go_must (kernel_rfl))
    intro w6 S6
    have S6 : St w w6 [own (.slice A0 n0 c0) (Dv.ints x.Cells), row (w.heap.size + 1 + 1) 40 #[.int .i64 x.W, .int .i64 x.H, .slice A0 n0 c0, .int .i64 x.X, .int .i64 x.Y, .bool false], row (w.heap.size + 1) 40 #[.int .i64 0, .int .i64 0, .slice none 0 0, .int .i64 0, .int .i64 0, .bool false], row w.heap.size 47 #[.int .i64 x.W, .int .i64 x.H, p0, .int .i64 x.X, .int .i64 x.Y, .bool x.Wrap]] := S6
    clear S5 lc lf ls
    obtain ⟨lc, lf, ls⟩ := S6.cells 3 rfl
    go_wp2_with ((with_reducible refine wp_setA (k := 5) (u := .bool x.Wrap) (#[.int .i64 x.W, .int .i64 x.H, .slice A0 n0 c0, .int .i64 x.X, .int .i64 x.Y, .bool x.Wrap]) S6 1 rfl ?_ ?_ ?_ ?_ ?_ ?_ ?_); go_must (exact rfl); go_must (exact rfl); go_must (kernel_rfl); go_must (kernel_rfl); go_must (exact Nat.le_of_ble_eq_true (by kernel_rfl)); go_must (kernel_rfl))
    intro w7 S7
    have S7 : St w w7 [own (.slice A0 n0 c0) (Dv.ints x.Cells), row (w.heap.size + 1 + 1) 40 #[.int .i64 x.W, .int .i64 x.H, .slice A0 n0 c0, .int .i64 x.X, .int .i64 x.Y, .bool x.Wrap], row (w.heap.size + 1) 40 #[.int .i64 0, .int .i64 0, .slice none 0 0, .int .i64 0, .int .i64 0, .bool false], row w.heap.size 47 #[.int .i64 x.W, .int .i64 x.H, p0, .int .i64 x.X, .int .i64 x.Y, .bool x.Wrap]] := S7
    clear S6 lc lf ls
    obtain ⟨lc, lf, ls⟩ := S7.cells 1 rfl
    go_wp2_with (first | ((with_reducible refine wpList_load_row rfl 40 _ rfl (w.heap.size + 1 + 1) ?_ 40 #[.int .i64 x.W, .int .i64 x.H, .slice A0 n0 c0, .int .i64 x.X, .int .i64 x.Y, .bool x.Wrap] (0, 0) _ (S7.row 1 rfl) Tryd.underlying40 rfl ?_ ?_); go_must (exact rfl); go_must (kernel_rfl)) | ((with_reducible refine wp_setA (k := 0) (u := .agg #[.int .i64 x.W, .int .i64 x.H, .slice A0 n0 c0, .int .i64 x.X, .int .i64 x.Y, .bool x.Wrap]) (#[.int .i64 x.W, .int .i64 x.H, .slice A0 n0 c0, .int .i64 x.X, .int .i64 x.Y, .bool x.Wrap]) S7 2 rfl ?_ ?_ ?_ ?_ ?_ ?_ ?_); go_must (exact rfl); go_must (exact rfl); go_must (kernel_rfl); go_must (kernel_rfl); go_must (exact Nat.le_of_ble_eq_true (by kernel_rfl)); go_must (kernel_rfl)))
    intro w8 S8
    clear lc lf ls S7
    go_wp2_with fail
    refine bodyPost_ret (v := .agg #[.int .i64 x.W, .int .i64 x.H, .slice A0 n0 c0, .int .i64 x.X, .int .i64 x.Y, .bool x.Wrap]) (results_cell_row Tryd.results28 _ _ (w.heap.size + 1) 40 #[.int .i64 x.W, .int .i64 x.H, .slice A0 n0 c0, .int .i64 x.X, .int .i64 x.Y, .bool x.Wrap] (0, 0) _ rfl (S8.row 2 rfl) Tryd.underlying40 rfl (by kernel_rfl)) rfl ⟨_, rfl, ?_⟩
    exact St.keep (M := [own (.slice A0 n0 c0) (Dv.ints x.Cells)]) (L := _) S8
theorem infoE_Grid : (Tryd.prog.info? 40).map (fun i => (i.zero, i.size, decide (i.bytes ≤ 4096))) = some (some (.agg #[.int .i64 0, .int .i64 0, .slice none 0 0, .int .i64 0, .int .i64 0, .bool false]), 6, true) := by kernel_rfl
set_option maxRecDepth 100000 in
set_option maxHeartbeats 8000000 in
theorem cv_toGridS (l : List SGrid) (v : Value) (w : World) (h : Rd w v (.sl 6 (l.flatMap dGrid))) (hs : l.length + (l.map sizeGrid).sum ≤ 1048576) :
    Calls Tryd.prog 47 #[v] w fun e w' => ∃ u, e = .returned u ∧ St w w' [own u (.sl 6 (l.flatMap dGrid))] := by
  obtain ⟨A, c, rfl, hc, hcm, hA, hat⟩ := h.rows dGrid_len (by decide)
  obtain ⟨n, hn⟩ : ∃ n, n = l.length := ⟨_, rfl⟩
  have hsm := fun k (hk : k < l.length) => size_le l sizeGrid hk
  rw [← hn] at hc hat hs ⊢
  have HN := Lib.hid hn; clear hn
  have hcap : n ≤ 9223372036854775807 := by omega
  have hn20 : n ≤ 1048576 := by omega
  have HAT := Lib.hid hat; clear hat
  have HSM : Hid (∀ k (hk : k < l.length), sizeGrid (l[k]'hk) ≤ 1048576) := fun k hk => by have := hsm k hk; omega
  clear hsm hs
  go_enter Tryd.func47, Tryd.ntmps47
  go_wp2_with (at_make; refine wp_makeR rfl _ _ 75 rfl 40 _ 6 Tryd.underlying75 infoE_Grid (n := n) rfl rfl hn20 (St.refl w) ?_)
  intro w1 S1
  have hz : madeCells #[.int .i64 0, .int .i64 0, .slice none 0 0, .int .i64 0, .int .i64 0, .bool false] (n * 6) = ([] ++ zz [.int .i64 0, .int .i64 0, .slice none 0 0, .int .i64 0, .int .i64 0, .bool false] n).toArray := by have h := made_zz (.agg #[.int .i64 0, .int .i64 0, .slice none 0 0, .int .i64 0, .int .i64 0, .bool false]) 6 rfl (by decide) n; (try rw [Nat.mul_one] at h); exact h
  rw [hz] at S1
  clear hz
  generalize w.heap.size = g at S1 ⊢
  go_wp2_with fail
  go_loopw [4] (fun vi wr => ∃ (k : Nat) (us : List Value), k ≤ n ∧ vi = .int .i64 k ∧ Hid (us.length = k * 6) ∧ St w wr (row g 40 (us ++ zz [.int .i64 0, .int .i64 0, .slice none 0 0, .int .i64 0, .int .i64 0, .bool false] (n - k)).toArray :: owns us ((l.take k).flatMap dGrid))) (fun vi _ => n - (intOf vi).toNat)
  case atStart => exact ⟨0, [], by omega, rfl, by show _ = _; simp, S1⟩
  case round =>
    obtain ⟨k, us, hk, rfl, HU, S⟩ := hrel
    clear S1
    have hx := S.ext
    by_cases hlt : k < n
    · have hk2 : k < l.length := by rw [← HN.out]; exact hlt
      obtain ⟨b, o, rfl, hat2⟩ := HAT.out (by omega)
      have hg := List.getElem?_eq_getElem hk2
      have hy := HSM.out k hk2
      have HT : Hid ((l.take (k + 1)).flatMap dGrid = (l.take k).flatMap dGrid ++ dGrid (l[k]'hk2)) := flat_take1 l dGrid hk2
      generalize l[k]'hk2 = y at *
      obtain ⟨u0, c0, d0⟩ := hat2 k y hg 0 _ rfl
      obtain rfl := d0.atv
      have c0 := hx.cell c0
      obtain ⟨u1, c1, d1⟩ := hat2 k y hg 1 _ rfl
      obtain rfl := d1.atv
      have c1 := hx.cell c1
      obtain ⟨u2, c2, d2⟩ := hat2 k y hg 2 _ rfl
      have c2 := hx.cell c2
      obtain ⟨u3, c3, d3⟩ := hat2 k y hg 3 _ rfl
      obtain rfl := d3.atv
      have c3 := hx.cell c3
      obtain ⟨u4, c4, d4⟩ := hat2 k y hg 4 _ rfl
      obtain rfl := d4.atv
      have c4 := hx.cell c4
      obtain ⟨u5, c5, d5⟩ := hat2 k y hg 5 _ rfl
      obtain rfl := d5.atv
      have c5 := hx.cell c5
      simp only [← Nat.add_assoc, Nat.add_zero] at c0 c1 c2 c3 c4 c5
      clear hat2 hg hk2
      go_wp2_with fail
      refine Calls.mono (cv_toGrid y u2 _ (d2.ext hx) hy) ?_; rintro e w2 ⟨v0, rfl, T2⟩
      obtain ⟨A0, n0, c0', rfl⟩ := (T2.rd 0 rfl).isl
      have S2 := S.joined T2
      have S3 : St w w2 ([own (.int .i64 y.W) (.one (.int .i64 y.W)), own (.int .i64 y.H) (.one (.int .i64 y.H)), own (.slice A0 n0 c0') (Dv.ints y.Cells), own (.int .i64 y.X) (.one (.int .i64 y.X)), own (.int .i64 y.Y) (.one (.int .i64 y.Y)), own (.bool y.Wrap) (.one (.bool y.Wrap))] ++ row g 40 (us ++ zz [.int .i64 0, .int .i64 0, .slice none 0 0, .int .i64 0, .int .i64 0, .bool false] (n - k)).toArray :: owns us ((l.take k).flatMap dGrid)) := (St.atom (St.atom (St.bring (St.atom (St.atom (St.atom S2 (.bool y.Wrap)) (.int .i64 y.Y)) (.int .i64 y.X)) 3 rfl) (.int .i64 y.H)) (.int .i64 y.W))
      have S4 := S3.perm (perm_mid _ _ _)
      clear S S2 S3 T2 c0 c1 c2 c3 c4 c5
      have hsz : us.length = k * 6 := HU.out
      go_wp2_with ((with_reducible refine wp_setA (k := k * 6) (u := .agg #[Value.int .i64 y.W, Value.int .i64 y.H, Value.slice A0 n0 c0', Value.int .i64 y.X, Value.int .i64 y.Y, Value.bool y.Wrap]) ((us ++ [Value.int .i64 y.W, Value.int .i64 y.H, Value.slice A0 n0 c0', Value.int .i64 y.X, Value.int .i64 y.Y, Value.bool y.Wrap]) ++ zz [.int .i64 0, .int .i64 0, .slice none 0 0, .int .i64 0, .int .i64 0, .bool false] (n - (k + 1))).toArray S4 0 rfl ?_ ?_ ?_ ?_ ?_ ?_ ?_); go_must (exact rfl); go_must (exact rfl); go_must (kernel_rfl); go_must (kernel_rfl); go_must (exact fit_zz hlt hsz rfl rfl); go_must (exact set_zz hlt hsz rfl rfl))
      intro w5 S5
      have S6 : St w w5 (row g 40 ((us ++ [Value.int .i64 y.W, Value.int .i64 y.H, Value.slice A0 n0 c0', Value.int .i64 y.X, Value.int .i64 y.Y, Value.bool y.Wrap]) ++ zz [.int .i64 0, .int .i64 0, .slice none 0 0, .int .i64 0, .int .i64 0, .bool false] (n - (k + 1))).toArray :: owns (us ++ [Value.int .i64 y.W, Value.int .i64 y.H, Value.slice A0 n0 c0', Value.int .i64 y.X, Value.int .i64 y.Y, Value.bool y.Wrap]) ((l.take (k + 1)).flatMap dGrid)) := by
        rw [HT.out, owns_app (by rw [flat_len dGrid_len, List.length_take, hsz, Nat.min_eq_left (by rw [← HN.out]; omega)])]
        exact S5
      clear S4 S5
      have HS6 := Lib.hid S6; clear S6
      have hsz2 : (us ++ [Value.int .i64 y.W, Value.int .i64 y.H, Value.slice A0 n0 c0', Value.int .i64 y.X, Value.int .i64 y.Y, Value.bool y.Wrap]).length = (k + 1) * 6 := by rw [List.length_append, hsz]; simp <;> omega
      have HZ2 := Lib.hid hsz2
      clear hsz hsz2
      go_wp2_with fail
      go_roundw
      case rel => exact ⟨k + 1, us ++ [Value.int .i64 y.W, Value.int .i64 y.H, Value.slice A0 n0 c0', Value.int .i64 y.X, Value.int .i64 y.Y, Value.bool y.Wrap], by omega, by go_num, HZ2.out, HS6.out⟩
      case measure => simp [intOf]; omega
    · obtain rfl : k = n := by omega
      have HSS : Hid (St w wr [own (.slice (some ⟨g, 0, none⟩) k k) (.sl 6 (l.flatMap dGrid))]) := by
        show St _ _ _
        rw [Nat.sub_self, show zz [.int .i64 0, .int .i64 0, .slice none 0 0, .int .i64 0, .int .i64 0, .bool false] 0 = [] from rfl, List.append_nil, List.take_of_length_le (by rw [← HN.out]; omega)] at S
        have hfl : (l.flatMap dGrid).length = k * 6 := by rw [flat_len dGrid_len, ← HN.out]
        refine St.shut (T := 40) (cs := us.toArray) ?_ hfl (Nat.le_refl _) (by unfold maxLen; omega) (by have := HU.out; simpa using this)
        rw [hfl, ← HU.out, List.take_length, List.append_nil]
        exact S
      clear S
      go_wp2_with fail
      go_ret
      exact ⟨_, rfl, HSS.out⟩
set_option maxRecDepth 100000 in
set_option maxHeartbeats 8000000 in
theorem cv_toPaint (x : SPaint) (p0 : Value) (w : World) (h0 : Rd w p0 (Dv.ints x.Shown.Cells)) (hs : sizePaint x ≤ 1048576) :
    Calls Tryd.prog 40 #[.agg #[.int .i64 x.W, .int .i64 x.H, .bool x.Known, .int .i64 x.Shown.W, .int .i64 x.Shown.H, p0, .int .i64 x.Shown.X, .int .i64 x.Shown.Y, .bool x.Shown.Wrap]] w fun e w' => ∃ u0, e = .returned (.agg #[.int .i64 x.W, .int .i64 x.H, .bool x.Known, .int .i64 x.Shown.W, .int .i64 x.Shown.H, u0, .int .i64 x.Shown.X, .int .i64 x.Shown.Y, .bool x.Shown.Wrap]) ∧ St w w' [own u0 (Dv.ints x.Shown.Cells)] := by
  have HZ : Hid (sizePaint x = sizeGrid x.Shown) := rfl
  have b0 : sizeGrid x.Shown ≤ 1048576 := by have := HZ.out; omega
  have S0 := (((St.refl w).alloc #[.int .i64 x.W, .int .i64 x.H, .bool x.Known, .int .i64 x.Shown.W, .int .i64 x.Shown.H, p0, .int .i64 x.Shown.X, .int .i64 x.Shown.Y, .bool x.Shown.Wrap] 61).alloc #[.int .i64 0, .int .i64 0, .bool false, .int .i64 0, .int .i64 0, .slice none 0 0, .int .i64 0, .int .i64 0, .bool false] 64).alloc #[.int .i64 0, .int .i64 0, .bool false, .int .i64 0, .int .i64 0, .slice none 0 0, .int .i64 0, .int .i64 0, .bool false] 64
  simp only [World.size_alloc] at S0
  go_enter Tryd.func40, Tryd.ntmps40
  go_wp2_with ((with_reducible refine wp_setA (k := 0) (u := .int .i64 x.W) (#[.int .i64 x.W, .int .i64 0, .bool false, .int .i64 0, .int .i64 0, .slice none 0 0, .int .i64 0, .int .i64 0, .bool false]) S0 0 rfl ?_ ?_ ?_ ?_ ?_ ?_ ?_); go_must (exact rfl); go_must (exact rfl); go_must (kernel_rfl); go_must (kernel_rfl); go_must (exact Nat.le_of_ble_eq_true (by kernel_rfl)); go_must (kernel_rfl))
  intro w1 S1
  have S1 : St w w1 [row (w.heap.size + 1 + 1) 64 #[.int .i64 x.W, .int .i64 0, .bool false, .int .i64 0, .int .i64 0, .slice none 0 0, .int .i64 0, .int .i64 0, .bool false], row (w.heap.size + 1) 64 #[.int .i64 0, .int .i64 0, .bool false, .int .i64 0, .int .i64 0, .slice none 0 0, .int .i64 0, .int .i64 0, .bool false], row w.heap.size 61 #[.int .i64 x.W, .int .i64 x.H, .bool x.Known, .int .i64 x.Shown.W, .int .i64 x.Shown.H, p0, .int .i64 x.Shown.X, .int .i64 x.Shown.Y, .bool x.Shown.Wrap]] := S1
  clear S0
  obtain ⟨lc, lf, ls⟩ := S1.cells 2 rfl
  go_wp2_with ((with_reducible refine wp_setA (k := 1) (u := .int .i64 x.H) (#[.int .i64 x.W, .int .i64 x.H, .bool false, .int .i64 0, .int .i64 0, .slice none 0 0, .int .i64 0, .int .i64 0, .bool false]) S1 0 rfl ?_ ?_ ?_ ?_ ?_ ?_ ?_); go_must (exact rfl); go_must (exact rfl); go_must (kernel_rfl); go_must (kernel_rfl); go_must (exact Nat.le_of_ble_eq_true (by kernel_rfl)); go_must (kernel_rfl))
  intro w2 S2
  have S2 : St w w2 [row (w.heap.size + 1 + 1) 64 #[.int .i64 x.W, .int .i64 x.H, .bool false, .int .i64 0, .int .i64 0, .slice none 0 0, .int .i64 0, .int .i64 0, .bool false], row (w.heap.size + 1) 64 #[.int .i64 0, .int .i64 0, .bool false, .int .i64 0, .int .i64 0, .slice none 0 0, .int .i64 0, .int .i64 0, .bool false], row w.heap.size 61 #[.int .i64 x.W, .int .i64 x.H, .bool x.Known, .int .i64 x.Shown.W, .int .i64 x.Shown.H, p0, .int .i64 x.Shown.X, .int .i64 x.Shown.Y, .bool x.Shown.Wrap]] := S2
  clear S1 lc lf ls
  obtain ⟨lc, lf, ls⟩ := S2.cells 2 rfl
  go_wp2_with ((with_reducible refine wp_setA (k := 2) (u := .bool x.Known) (#[.int .i64 x.W, .int .i64 x.H, .bool x.Known, .int .i64 0, .int .i64 0, .slice none 0 0, .int .i64 0, .int .i64 0, .bool false]) S2 0 rfl ?_ ?_ ?_ ?_ ?_ ?_ ?_); go_must (exact rfl); go_must (exact rfl); go_must (kernel_rfl); go_must (kernel_rfl); go_must (exact Nat.le_of_ble_eq_true (by kernel_rfl)); go_must (kernel_rfl))
  intro w3 S3
  have S3 : St w w3 [row (w.heap.size + 1 + 1) 64 #[.int .i64 x.W, .int .i64 x.H, .bool x.Known, .int .i64 0, .int .i64 0, .slice none 0 0, .int .i64 0, .int .i64 0, .bool false], row (w.heap.size + 1) 64 #[.int .i64 0, .int .i64 0, .bool false, .int .i64 0, .int .i64 0, .slice none 0 0, .int .i64 0, .int .i64 0, .bool false], row w.heap.size 61 #[.int .i64 x.W, .int .i64 x.H, .bool x.Known, .int .i64 x.Shown.W, .int .i64 x.Shown.H, p0, .int .i64 x.Shown.X, .int .i64 x.Shown.Y, .bool x.Shown.Wrap]] := S3
  clear S2 lc lf ls
  as_aux_lemma =>
    obtain ⟨lc, lf, ls⟩ := S3.cells 2 rfl
    go_wp2_with fail
    refine Calls.mono (cv_toGrid x.Shown p0 _ (h0.ext S3.ext) (by omega)) ?_; rintro e w4 ⟨u0, rfl, T4⟩
    obtain ⟨A0, n0, c0, rfl⟩ := (T4.rd 0 rfl).isl
    have S4 : St w w4 [own (.slice A0 n0 c0) (Dv.ints x.Shown.Cells), row (w.heap.size + 1 + 1) 64 #[.int .i64 x.W, .int .i64 x.H, .bool x.Known, .int .i64 0, .int .i64 0, .slice none 0 0, .int .i64 0, .int .i64 0, .bool false], row (w.heap.size + 1) 64 #[.int .i64 0, .int .i64 0, .bool false, .int .i64 0, .int .i64 0, .slice none 0 0, .int .i64 0, .int .i64 0, .bool false], row w.heap.size 61 #[.int .i64 x.W, .int .i64 x.H, .bool x.Known, .int .i64 x.Shown.W, .int .i64 x.Shown.H, p0, .int .i64 x.Shown.X, .int .i64 x.Shown.Y, .bool x.Shown.Wrap]] := S3.joined T4
    clear S3 T4 lc lf ls
    obtain ⟨lc, lf, ls⟩ := S4.cells 3 rfl
    go_wp2_with ((with_reducible refine wp_setA (k := 3) (u := .agg #[.int .i64 x.Shown.W, .int .i64 x.Shown.H, .slice A0 n0 c0, .int .i64 x.Shown.X, .int .i64 x.Shown.Y, .bool x.Shown.Wrap]) (#[.int .i64 x.W, .int .i64 x.H, .bool x.Known, .int .i64 x.Shown.W, .int .i64 x.Shown.H, .slice A0 n0 c0, .int .i64 x.Shown.X, .int .i64 x.Shown.Y, .bool x.Shown.Wrap]) S4 1 rfl ?_ ?_ ?_ ?_ ?_ ?_ ?_); go_must (exact rfl); go_must (exact rfl); go_must (kernel_rfl); go_must (kernel_rfl); go_must (exact Nat.le_of_ble_eq_true (by kernel_rfl)); go_must (kernel_rfl))
    intro w5 S5
    have S5 : St w w5 [own (.slice A0 n0 c0) (Dv.ints x.Shown.Cells), row (w.heap.size + 1 + 1) 64 #[.int .i64 x.W, .int .i64 x.H, .bool x.Known, .int .i64 x.Shown.W, .int .i64 x.Shown.H, .slice A0 n0 c0, .int .i64 x.Shown.X, .int .i64 x.Shown.Y, .bool x.Shown.Wrap], row (w.heap.size + 1) 64 #[.int .i64 0, .int .i64 0, .bool false, .int .i64 0, .int .i64 0, .slice none 0 0, .int .i64 0, .int .i64 0, .bool false], row w.heap.size 61 #[.int .i64 x.W, .int .i64 x.H, .bool x.Known, .int .i64 x.Shown.W, .int .i64 x.Shown.H, p0, .int .i64 x.Shown.X, .int .i64 x.Shown.Y, .bool x.Shown.Wrap]] := S5
    clear S4 lc lf ls
    obtain ⟨lc, lf, ls⟩ := S5.cells 1 rfl
    go_wp2_with (first | ((with_reducible refine wpList_load_row rfl 64 _ rfl (w.heap.size + 1 + 1) ?_ 64 #[.int .i64 x.W, .int .i64 x.H, .bool x.Known, .int .i64 x.Shown.W, .int .i64 x.Shown.H, .slice A0 n0 c0, .int .i64 x.Shown.X, .int .i64 x.Shown.Y, .bool x.Shown.Wrap] (0, 0) _ (S5.row 1 rfl) Tryd.underlying64 rfl ?_ ?_); go_must (exact rfl); go_must (kernel_rfl)) | ((with_reducible refine wp_setA (k := 0) (u := .agg #[.int .i64 x.W, .int .i64 x.H, .bool x.Known, .int .i64 x.Shown.W, .int .i64 x.Shown.H, .slice A0 n0 c0, .int .i64 x.Shown.X, .int .i64 x.Shown.Y, .bool x.Shown.Wrap]) (#[.int .i64 x.W, .int .i64 x.H, .bool x.Known, .int .i64 x.Shown.W, .int .i64 x.Shown.H, .slice A0 n0 c0, .int .i64 x.Shown.X, .int .i64 x.Shown.Y, .bool x.Shown.Wrap]) S5 2 rfl ?_ ?_ ?_ ?_ ?_ ?_ ?_); go_must (exact rfl); go_must (exact rfl); go_must (kernel_rfl); go_must (kernel_rfl); go_must (exact Nat.le_of_ble_eq_true (by kernel_rfl)); go_must (kernel_rfl)))
    intro w6 S6
    clear lc lf ls S5
    go_wp2_with fail
    refine bodyPost_ret (v := .agg #[.int .i64 x.W, .int .i64 x.H, .bool x.Known, .int .i64 x.Shown.W, .int .i64 x.Shown.H, .slice A0 n0 c0, .int .i64 x.Shown.X, .int .i64 x.Shown.Y, .bool x.Shown.Wrap]) (results_cell_row Tryd.results40 _ _ (w.heap.size + 1) 64 #[.int .i64 x.W, .int .i64 x.H, .bool x.Known, .int .i64 x.Shown.W, .int .i64 x.Shown.H, .slice A0 n0 c0, .int .i64 x.Shown.X, .int .i64 x.Shown.Y, .bool x.Shown.Wrap] (0, 0) _ rfl (S6.row 2 rfl) Tryd.underlying64 rfl (by kernel_rfl)) rfl ⟨_, rfl, ?_⟩
    exact St.keep (M := [own (.slice A0 n0 c0) (Dv.ints x.Shown.Cells)]) (L := _) S6
set_option maxRecDepth 100000 in
set_option maxHeartbeats 8000000 in
theorem cv_toEvent (x : SEvent) (p0 : Value) (w : World) (h0 : Rd w p0 (Dv.ints x.Cuts)) (hs : sizeEvent x ≤ 1048576) :
    Calls Tryd.prog 15 #[.agg #[.int .i64 x.Kind, .int .i64 x.A, .int .i64 x.B, p0]] w fun e w' => ∃ u0, e = .returned (.agg #[.int .i64 x.Kind, .int .i64 x.A, .int .i64 x.B, u0]) ∧ St w w' [own u0 (Dv.ints x.Cuts)] := by
  have HZ : Hid (sizeEvent x = x.Cuts.length) := rfl
  have b0 : x.Cuts.length ≤ 1048576 := by have := HZ.out; omega
  have S0 := (((St.refl w).alloc #[.int .i64 x.Kind, .int .i64 x.A, .int .i64 x.B, p0] 24).alloc #[.int .i64 0, .int .i64 0, .int .i64 0, .slice none 0 0] 27).alloc #[.int .i64 0, .int .i64 0, .int .i64 0, .slice none 0 0] 27
  simp only [World.size_alloc] at S0
  go_enter Tryd.func15, Tryd.ntmps15
  go_wp2_with ((with_reducible refine wp_setA (k := 0) (u := .int .i64 x.Kind) (#[.int .i64 x.Kind, .int .i64 0, .int .i64 0, .slice none 0 0]) S0 0 rfl ?_ ?_ ?_ ?_ ?_ ?_ ?_); go_must (exact rfl); go_must (exact rfl); go_must (kernel_rfl); go_must (kernel_rfl); go_must (exact Nat.le_of_ble_eq_true (by kernel_rfl)); go_must (kernel_rfl))
  intro w1 S1
  have S1 : St w w1 [row (w.heap.size + 1 + 1) 27 #[.int .i64 x.Kind, .int .i64 0, .int .i64 0, .slice none 0 0], row (w.heap.size + 1) 27 #[.int .i64 0, .int .i64 0, .int .i64 0, .slice none 0 0], row w.heap.size 24 #[.int .i64 x.Kind, .int .i64 x.A, .int .i64 x.B, p0]] := S1
  clear S0
  obtain ⟨lc, lf, ls⟩ := S1.cells 2 rfl
  go_wp2_with ((with_reducible refine wp_setA (k := 1) (u := .int .i64 x.A) (#[.int .i64 x.Kind, .int .i64 x.A, .int .i64 0, .slice none 0 0]) S1 0 rfl ?_ ?_ ?_ ?_ ?_ ?_ ?_); go_must (exact rfl); go_must (exact rfl); go_must (kernel_rfl); go_must (kernel_rfl); go_must (exact Nat.le_of_ble_eq_true (by kernel_rfl)); go_must (kernel_rfl))
  intro w2 S2
  have S2 : St w w2 [row (w.heap.size + 1 + 1) 27 #[.int .i64 x.Kind, .int .i64 x.A, .int .i64 0, .slice none 0 0], row (w.heap.size + 1) 27 #[.int .i64 0, .int .i64 0, .int .i64 0, .slice none 0 0], row w.heap.size 24 #[.int .i64 x.Kind, .int .i64 x.A, .int .i64 x.B, p0]] := S2
  clear S1 lc lf ls
  obtain ⟨lc, lf, ls⟩ := S2.cells 2 rfl
  go_wp2_with ((with_reducible refine wp_setA (k := 2) (u := .int .i64 x.B) (#[.int .i64 x.Kind, .int .i64 x.A, .int .i64 x.B, .slice none 0 0]) S2 0 rfl ?_ ?_ ?_ ?_ ?_ ?_ ?_); go_must (exact rfl); go_must (exact rfl); go_must (kernel_rfl); go_must (kernel_rfl); go_must (exact Nat.le_of_ble_eq_true (by kernel_rfl)); go_must (kernel_rfl))
  intro w3 S3
  have S3 : St w w3 [row (w.heap.size + 1 + 1) 27 #[.int .i64 x.Kind, .int .i64 x.A, .int .i64 x.B, .slice none 0 0], row (w.heap.size + 1) 27 #[.int .i64 0, .int .i64 0, .int .i64 0, .slice none 0 0], row w.heap.size 24 #[.int .i64 x.Kind, .int .i64 x.A, .int .i64 x.B, p0]] := S3
  clear S2 lc lf ls
  as_aux_lemma =>
    obtain ⟨lc, lf, ls⟩ := S3.cells 2 rfl
    go_wp2_with fail
    refine Calls.mono (cv_toIntS_d x.Cuts p0 _ (h0.ext S3.ext) (by omega)) ?_; rintro e w4 ⟨u0, rfl, T4⟩
    obtain ⟨A0, n0, c0, rfl⟩ := (T4.rd 0 rfl).isl
    have S4 : St w w4 [own (.slice A0 n0 c0) (Dv.ints x.Cuts), row (w.heap.size + 1 + 1) 27 #[.int .i64 x.Kind, .int .i64 x.A, .int .i64 x.B, .slice none 0 0], row (w.heap.size + 1) 27 #[.int .i64 0, .int .i64 0, .int .i64 0, .slice none 0 0], row w.heap.size 24 #[.int .i64 x.Kind, .int .i64 x.A, .int .i64 x.B, p0]] := S3.joined T4
    clear S3 T4 lc lf ls
    obtain ⟨lc, lf, ls⟩ := S4.cells 3 rfl
    go_wp2_with ((with_reducible refine wp_setA (k := 3) (u := .slice A0 n0 c0) (#[.int .i64 x.Kind, .int .i64 x.A, .int .i64 x.B, .slice A0 n0 c0]) S4 1 rfl ?_ ?_ ?_ ?_ ?_ ?_ ?_); go_must (exact rfl); go_must (exact rfl); go_must (kernel_rfl); go_must (kernel_rfl); go_must (exact Nat.le_of_ble_eq_true (by kernel_rfl)); go_must (kernel_rfl))
    intro w5 S5
    have S5 : St w w5 [own (.slice A0 n0 c0) (Dv.ints x.Cuts), row (w.heap.size + 1 + 1) 27 #[.int .i64 x.Kind, .int .i64 x.A, .int .i64 x.B, .slice A0 n0 c0], row (w.heap.size + 1) 27 #[.int .i64 0, .int .i64 0, .int .i64 0, .slice none 0 0], row w.heap.size 24 #[.int .i64 x.Kind, .int .i64 x.A, .int .i64 x.B, p0]] := S5
    clear S4 lc lf ls
    obtain ⟨lc, lf, ls⟩ := S5.cells 1 rfl
    go_wp2_with (first | ((with_reducible refine wpList_load_row rfl 27 _ rfl (w.heap.size + 1 + 1) ?_ 27 #[.int .i64 x.Kind, .int .i64 x.A, .int .i64 x.B, .slice A0 n0 c0] (0, 0) _ (S5.row 1 rfl) Tryd.underlying27 rfl ?_ ?_); go_must (exact rfl); go_must (kernel_rfl)) | ((with_reducible refine wp_setA (k := 0) (u := .agg #[.int .i64 x.Kind, .int .i64 x.A, .int .i64 x.B, .slice A0 n0 c0]) (#[.int .i64 x.Kind, .int .i64 x.A, .int .i64 x.B, .slice A0 n0 c0]) S5 2 rfl ?_ ?_ ?_ ?_ ?_ ?_ ?_); go_must (exact rfl); go_must (exact rfl); go_must (kernel_rfl); go_must (kernel_rfl); go_must (exact Nat.le_of_ble_eq_true (by kernel_rfl)); go_must (kernel_rfl)))
    intro w6 S6
    clear lc lf ls S5
    go_wp2_with fail
    refine bodyPost_ret (v := .agg #[.int .i64 x.Kind, .int .i64 x.A, .int .i64 x.B, .slice A0 n0 c0]) (results_cell_row Tryd.results15 _ _ (w.heap.size + 1) 27 #[.int .i64 x.Kind, .int .i64 x.A, .int .i64 x.B, .slice A0 n0 c0] (0, 0) _ rfl (S6.row 2 rfl) Tryd.underlying27 rfl (by kernel_rfl)) rfl ⟨_, rfl, ?_⟩
    exact St.keep (M := [own (.slice A0 n0 c0) (Dv.ints x.Cuts)]) (L := _) S6
theorem infoE_Event : (Tryd.prog.info? 27).map (fun i => (i.zero, i.size, decide (i.bytes ≤ 4096))) = some (some (.agg #[.int .i64 0, .int .i64 0, .int .i64 0, .slice none 0 0]), 4, true) := by kernel_rfl
set_option maxRecDepth 100000 in
set_option maxHeartbeats 8000000 in
theorem cv_toEventS (l : List SEvent) (v : Value) (w : World) (h : Rd w v (.sl 4 (l.flatMap dEvent))) (hs : l.length + (l.map sizeEvent).sum ≤ 1048576) :
    Calls Tryd.prog 20 #[v] w fun e w' => ∃ u, e = .returned u ∧ St w w' [own u (.sl 4 (l.flatMap dEvent))] := by
  obtain ⟨A, c, rfl, hc, hcm, hA, hat⟩ := h.rows dEvent_len (by decide)
  obtain ⟨n, hn⟩ : ∃ n, n = l.length := ⟨_, rfl⟩
  have hsm := fun k (hk : k < l.length) => size_le l sizeEvent hk
  rw [← hn] at hc hat hs ⊢
  have HN := Lib.hid hn; clear hn
  have hcap : n ≤ 9223372036854775807 := by omega
  have hn20 : n ≤ 1048576 := by omega
  have HAT := Lib.hid hat; clear hat
  have HSM : Hid (∀ k (hk : k < l.length), sizeEvent (l[k]'hk) ≤ 1048576) := fun k hk => by have := hsm k hk; omega
  clear hsm hs
  go_enter Tryd.func20, Tryd.ntmps20
  go_wp2_with (at_make; refine wp_makeR rfl _ _ 34 rfl 27 _ 4 Tryd.underlying34 infoE_Event (n := n) rfl rfl hn20 (St.refl w) ?_)
  intro w1 S1
  have hz : madeCells #[.int .i64 0, .int .i64 0, .int .i64 0, .slice none 0 0] (n * 4) = ([] ++ zz [.int .i64 0, .int .i64 0, .int .i64 0, .slice none 0 0] n).toArray := by have h := made_zz (.agg #[.int .i64 0, .int .i64 0, .int .i64 0, .slice none 0 0]) 4 rfl (by decide) n; (try rw [Nat.mul_one] at h); exact h
  rw [hz] at S1
  clear hz
  generalize w.heap.size = g at S1 ⊢
  go_wp2_with fail
  go_loopw [4] (fun vi wr => ∃ (k : Nat) (us : List Value), k ≤ n ∧ vi = .int .i64 k ∧ Hid (us.length = k * 4) ∧ St w wr (row g 27 (us ++ zz [.int .i64 0, .int .i64 0, .int .i64 0, .slice none 0 0] (n - k)).toArray :: owns us ((l.take k).flatMap dEvent))) (fun vi _ => n - (intOf vi).toNat)
  case atStart => exact ⟨0, [], by omega, rfl, by show _ = _; simp, S1⟩
  case round =>
    obtain ⟨k, us, hk, rfl, HU, S⟩ := hrel
    clear S1
    have hx := S.ext
    by_cases hlt : k < n
    · have hk2 : k < l.length := by rw [← HN.out]; exact hlt
      obtain ⟨b, o, rfl, hat2⟩ := HAT.out (by omega)
      have hg := List.getElem?_eq_getElem hk2
      have hy := HSM.out k hk2
      have HT : Hid ((l.take (k + 1)).flatMap dEvent = (l.take k).flatMap dEvent ++ dEvent (l[k]'hk2)) := flat_take1 l dEvent hk2
      generalize l[k]'hk2 = y at *
      obtain ⟨u0, c0, d0⟩ := hat2 k y hg 0 _ rfl
      obtain rfl := d0.atv
      have c0 := hx.cell c0
      obtain ⟨u1, c1, d1⟩ := hat2 k y hg 1 _ rfl
      obtain rfl := d1.atv
      have c1 := hx.cell c1
      obtain ⟨u2, c2, d2⟩ := hat2 k y hg 2 _ rfl
      obtain rfl := d2.atv
      have c2 := hx.cell c2
      obtain ⟨u3, c3, d3⟩ := hat2 k y hg 3 _ rfl
      have c3 := hx.cell c3
      simp only [← Nat.add_assoc, Nat.add_zero] at c0 c1 c2 c3
      clear hat2 hg hk2
      go_wp2_with fail
      refine Calls.mono (cv_toEvent y u3 _ (d3.ext hx) hy) ?_; rintro e w2 ⟨v0, rfl, T2⟩
      obtain ⟨A0, n0, c0', rfl⟩ := (T2.rd 0 rfl).isl
      have S2 := S.joined T2
      have S3 : St w w2 ([own (.int .i64 y.Kind) (.one (.int .i64 y.Kind)), own (.int .i64 y.A) (.one (.int .i64 y.A)), own (.int .i64 y.B) (.one (.int .i64 y.B)), own (.slice A0 n0 c0') (Dv.ints y.Cuts)] ++ row g 27 (us ++ zz [.int .i64 0, .int .i64 0, .int .i64 0, .slice none 0 0] (n - k)).toArray :: owns us ((l.take k).flatMap dEvent)) := (St.atom (St.atom (St.atom (St.bring S2 0 rfl) (.int .i64 y.B)) (.int .i64 y.A)) (.int .i64 y.Kind))
      have S4 := S3.perm (perm_mid _ _ _)
      clear S S2 S3 T2 c0 c1 c2 c3
      have hsz : us.length = k * 4 := HU.out
      go_wp2_with ((with_reducible refine wp_setA (k := k * 4) (u := .agg #[Value.int .i64 y.Kind, Value.int .i64 y.A, Value.int .i64 y.B, Value.slice A0 n0 c0']) ((us ++ [Value.int .i64 y.Kind, Value.int .i64 y.A, Value.int .i64 y.B, Value.slice A0 n0 c0']) ++ zz [.int .i64 0, .int .i64 0, .int .i64 0, .slice none 0 0] (n - (k + 1))).toArray S4 0 rfl ?_ ?_ ?_ ?_ ?_ ?_ ?_); go_must (exact rfl); go_must (exact rfl); go_must (kernel_rfl); go_must (kernel_rfl); go_must (exact fit_zz hlt hsz rfl rfl); go_must (exact set_zz hlt hsz rfl rfl))
      intro w5 S5
      have S6 : St w w5 (row g 27 ((us ++ [Value.int .i64 y.Kind, Value.int .i64 y.A, Value.int .i64 y.B, Value.slice A0 n0 c0']) ++ zz [.int .i64 0, .int .i64 0, .int .i64 0, .slice none 0 0] (n - (k + 1))).toArray :: owns (us ++ [Value.int .i64 y.Kind, Value.int .i64 y.A, Value.int .i64 y.B, Value.slice A0 n0 c0']) ((l.take (k + 1)).flatMap dEvent)) := by
        rw [HT.out, owns_app (by rw [flat_len dEvent_len, List.length_take, hsz, Nat.min_eq_left (by rw [← HN.out]; omega)])]
        exact S5
      clear S4 S5
      have HS6 := Lib.hid S6; clear S6
      have hsz2 : (us ++ [Value.int .i64 y.Kind, Value.int .i64 y.A, Value.int .i64 y.B, Value.slice A0 n0 c0']).length = (k + 1) * 4 := by rw [List.length_append, hsz]; simp <;> omega
      have HZ2 := Lib.hid hsz2
      clear hsz hsz2
      go_wp2_with fail
      go_roundw
      case rel => exact ⟨k + 1, us ++ [Value.int .i64 y.Kind, Value.int .i64 y.A, Value.int .i64 y.B, Value.slice A0 n0 c0'], by omega, by go_num, HZ2.out, HS6.out⟩
      case measure => simp [intOf]; omega
    · obtain rfl : k = n := by omega
      have HSS : Hid (St w wr [own (.slice (some ⟨g, 0, none⟩) k k) (.sl 4 (l.flatMap dEvent))]) := by
        show St _ _ _
        rw [Nat.sub_self, show zz [.int .i64 0, .int .i64 0, .int .i64 0, .slice none 0 0] 0 = [] from rfl, List.append_nil, List.take_of_length_le (by rw [← HN.out]; omega)] at S
        have hfl : (l.flatMap dEvent).length = k * 4 := by rw [flat_len dEvent_len, ← HN.out]
        refine St.shut (T := 27) (cs := us.toArray) ?_ hfl (Nat.le_refl _) (by unfold maxLen; omega) (by have := HU.out; simpa using this)
        rw [hfl, ← HU.out, List.take_length, List.append_nil]
        exact S
      clear S
      go_wp2_with fail
      go_ret
      exact ⟨_, rfl, HSS.out⟩
end Go.Proofs.YtohjjhoobikioaaDoor
