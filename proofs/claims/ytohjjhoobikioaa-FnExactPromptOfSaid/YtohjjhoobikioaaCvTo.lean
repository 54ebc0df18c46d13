/-
  The laws' helpers on structs: to..
-/
import Derived.Test.YtohjjhoobikioaaCvM
import Derived.Test.YtohjjhoobikioaaCvH
namespace Go.Proofs.Ytohjjhoobikioaa
open Go.RowKit

set_option maxRecDepth 100000 in
set_option maxHeartbeats 8000000 in
theorem laws_toLine (x : SLine) (p0 : Value) (w : World) (h0 : Rd w p0 (Dv.ints x.Text)) (hs : sizeLine x ≤ 1048576) :
    Calls Try.prog 19 #[.agg #[p0, .int .i64 x.At]] w fun e w' => ∃ u0, e = .returned (.agg #[u0, .int .i64 x.At]) ∧ St w w' [own u0 (Dv.ints x.Text)] := by
  have HZ : Hid (sizeLine x = x.Text.length) := rfl
  have b0 : x.Text.length ≤ 1048576 := by have := HZ.out; omega
  have S0 := (((St.refl w).alloc #[p0, .int .i64 x.At] 24).alloc #[.slice none 0 0, .int .i64 0] 35).alloc #[.slice none 0 0, .int .i64 0] 35
  simp only [World.size_alloc] at S0
  go_enter Try.func19, Try.ntmps19
  go_wp2_with fail
  refine Calls.mono (laws_toIntS_d x.Text p0 _ (h0.ext S0.ext) (by omega)) ?_; rintro e w1 ⟨u0, rfl, T1⟩
  obtain ⟨A0, n0, c0, rfl⟩ := (T1.rd 0 rfl).isl
  have S1 : St w w1 [own (.slice A0 n0 c0) (Dv.ints x.Text), row (w.heap.size + 1 + 1) 35 #[.slice none 0 0, .int .i64 0], row (w.heap.size + 1) 35 #[.slice none 0 0, .int .i64 0], row w.heap.size 24 #[p0, .int .i64 x.At]] := S0.joined T1
  clear S0 T1
  obtain ⟨lc, lf, ls⟩ := S1.cells 3 rfl
  go_wp2_with ((with_reducible refine wp_setA (k := 0) (u := .slice A0 n0 c0) (#[.slice A0 n0 c0, .int .i64 0]) S1 1 rfl ?_ ?_ ?_ ?_ ?_ ?_ ?_); go_must (exact rfl); go_must (exact rfl); go_must (kernel_rfl); go_must (kernel_rfl); go_must (exact Nat.le_of_ble_eq_true (by kernel_rfl)); go_must (kernel_rfl))
  intro w2 S2
  have S2 : St w w2 [own (.slice A0 n0 c0) (Dv.ints x.Text), row (w.heap.size + 1 + 1) 35 #[.slice A0 n0 c0, .int .i64 0], row (w.heap.size + 1) 35 #[.slice none 0 0, .int .i64 0], row w.heap.size 24 #[p0, .int .i64 x.At]] := S2
  clear S1 lc lf ls
  obtain ⟨lc, lf, ls⟩ := S2.cells 3 rfl
  go_wp2_with ((with_reducible refine wp_setA (k := 1) (u := .int .i64 x.At) (#[.slice A0 n0 c0, .int .i64 x.At]) S2 1 rfl ?_ ?_ ?_ ?_ ?_ ?_ ?_); go_must (exact rfl); go_must (exact rfl); go_must (kernel_rfl); go_must (kernel_rfl); go_must (exact Nat.le_of_ble_eq_true (by kernel_rfl)); go_must (kernel_rfl))
  intro w3 S3
  have S3 : St w w3 [own (.slice A0 n0 c0) (Dv.ints x.Text), row (w.heap.size + 1 + 1) 35 #[.slice A0 n0 c0, .int .i64 x.At], row (w.heap.size + 1) 35 #[.slice none 0 0, .int .i64 0], row w.heap.size 24 #[p0, .int .i64 x.At]] := S3
  clear S2 lc lf ls
  obtain ⟨lc, lf, ls⟩ := S3.cells 1 rfl
  go_wp2_with (first | ((with_reducible refine wpList_load_row rfl 35 _ rfl (w.heap.size + 1 + 1) ?_ 35 #[.slice A0 n0 c0, .int .i64 x.At] (0, 0) _ (S3.row 1 rfl) Try.underlying35 rfl ?_ ?_); go_must (exact rfl); go_must (kernel_rfl)) | ((with_reducible refine wp_setA (k := 0) (u := .agg #[.slice A0 n0 c0, .int .i64 x.At]) (#[.slice A0 n0 c0, .int .i64 x.At]) S3 2 rfl ?_ ?_ ?_ ?_ ?_ ?_ ?_); go_must (exact rfl); go_must (exact rfl); go_must (kernel_rfl); go_must (kernel_rfl); go_must (exact Nat.le_of_ble_eq_true (by kernel_rfl)); go_must (kernel_rfl)))
  intro w4 S4
  clear lc lf ls S3
  go_wp2_with fail
  refine bodyPost_ret (v := .agg #[.slice A0 n0 c0, .int .i64 x.At]) (results_cell_row Try.results19 _ _ (w.heap.size + 1) 35 #[.slice A0 n0 c0, .int .i64 x.At] (0, 0) _ rfl (S4.row 2 rfl) Try.underlying35 rfl (by kernel_rfl)) rfl ⟨_, rfl, ?_⟩
  exact St.keep (M := [own (.slice A0 n0 c0) (Dv.ints x.Text)]) (L := _) S4
theorem infoE_Line : (Try.prog.info? 35).map (fun i => (i.zero, i.size, decide (i.bytes ≤ 4096))) = some (some (.agg #[.slice none 0 0, .int .i64 0]), 2, true) := by kernel_rfl
set_option maxRecDepth 100000 in
set_option maxHeartbeats 8000000 in
theorem laws_toLineS (l : List SLine) (v : Value) (w : World) (h : Rd w v (.sl 2 (l.flatMap dLine))) (hs : l.length + (l.map sizeLine).sum ≤ 1048576) :
    Calls Try.prog 47 #[v] w fun e w' => ∃ u, e = .returned u ∧ St w w' [own u (.sl 2 (l.flatMap dLine))] := by
  obtain ⟨A, c, rfl, hc, hcm, hA, hat⟩ := h.rows dLine_len (by decide)
  obtain ⟨n, hn⟩ : ∃ n, n = l.length := ⟨_, rfl⟩
  have hsm := fun k (hk : k < l.length) => size_le l sizeLine hk
  rw [← hn] at hc hat hs ⊢
  have HN := Lib.hid hn; clear hn
  have hcap : n ≤ 9223372036854775807 := by omega
  have hn20 : n ≤ 1048576 := by omega
  have HAT := Lib.hid hat; clear hat
  have HSM : Hid (∀ k (hk : k < l.length), sizeLine (l[k]'hk) ≤ 1048576) := fun k hk => by have := hsm k hk; omega
  clear hsm hs
  go_enter Try.func47, Try.ntmps47
  go_wp2_with (at_make; refine wp_makeR rfl _ _ 39 rfl 35 _ 2 Try.underlying39 infoE_Line (n := n) rfl rfl hn20 (St.refl w) ?_)
  intro w1 S1
  have hz : madeCells #[.slice none 0 0, .int .i64 0] (n * 2) = ([] ++ zz [.slice none 0 0, .int .i64 0] n).toArray := by have h := made_zz (.agg #[.slice none 0 0, .int .i64 0]) 2 rfl (by decide) n; (try rw [Nat.mul_one] at h); exact h
  rw [hz] at S1
  clear hz
  generalize w.heap.size = g at S1 ⊢
  go_wp2_with fail
  go_loopw [4] (fun vi wr => ∃ (k : Nat) (us : List Value), k ≤ n ∧ vi = .int .i64 k ∧ Hid (us.length = k * 2) ∧ St w wr (row g 35 (us ++ zz [.slice none 0 0, .int .i64 0] (n - k)).toArray :: owns us ((l.take k).flatMap dLine))) (fun vi _ => n - (intOf vi).toNat)
  case atStart => exact ⟨0, [], by omega, rfl, by show _ = _; simp, S1⟩
  case round =>
    obtain ⟨k, us, hk, rfl, HU, S⟩ := hrel
    clear S1
    have hx := S.ext
    by_cases hlt : k < n
    · have hk2 : k < l.length := by rw [← HN.out]; exact hlt
      obtain ⟨b, o, rfl, hat2⟩ := HAT.out (by omega)
      have hg := List.getElem?_eq_getElem hk2
      have hy := HSM.out k hk2
      have HT : Hid ((l.take (k + 1)).flatMap dLine = (l.take k).flatMap dLine ++ dLine (l[k]'hk2)) := flat_take1 l dLine hk2
      generalize l[k]'hk2 = y at *
      obtain ⟨u0, c0, d0⟩ := hat2 k y hg 0 _ rfl
      have c0 := hx.cell c0
      obtain ⟨u1, c1, d1⟩ := hat2 k y hg 1 _ rfl
      obtain rfl := d1.atv
      have c1 := hx.cell c1
      simp only [← Nat.add_assoc, Nat.add_zero] at c0 c1
      clear hat2 hg hk2
      go_wp2_with fail
      refine Calls.mono (laws_toLine y u0 _ (d0.ext hx) hy) ?_; rintro e w2 ⟨v0, rfl, T2⟩
      obtain ⟨A0, n0, c0', rfl⟩ := (T2.rd 0 rfl).isl
      have S2 := S.joined T2
      have S3 : St w w2 ([own (.slice A0 n0 c0') (Dv.ints y.Text), own (.int .i64 y.At) (.one (.int .i64 y.At))] ++ row g 35 (us ++ zz [.slice none 0 0, .int .i64 0] (n - k)).toArray :: owns us ((l.take k).flatMap dLine)) := (St.bring (St.atom S2 (.int .i64 y.At)) 1 rfl)
      have S4 := S3.perm (perm_mid _ _ _)
      clear S S2 S3 T2 c0 c1
      have hsz : us.length = k * 2 := HU.out
      go_wp2_with ((with_reducible refine wp_setA (k := k * 2) (u := .agg #[Value.slice A0 n0 c0', Value.int .i64 y.At]) ((us ++ [Value.slice A0 n0 c0', Value.int .i64 y.At]) ++ zz [.slice none 0 0, .int .i64 0] (n - (k + 1))).toArray S4 0 rfl ?_ ?_ ?_ ?_ ?_ ?_ ?_); go_must (exact rfl); go_must (exact rfl); go_must (kernel_rfl); go_must (kernel_rfl); go_must (exact fit_zz hlt hsz rfl rfl); go_must (exact set_zz hlt hsz rfl rfl))
      intro w5 S5
      have S6 : St w w5 (row g 35 ((us ++ [Value.slice A0 n0 c0', Value.int .i64 y.At]) ++ zz [.slice none 0 0, .int .i64 0] (n - (k + 1))).toArray :: owns (us ++ [Value.slice A0 n0 c0', Value.int .i64 y.At]) ((l.take (k + 1)).flatMap dLine)) := by
        rw [HT.out, owns_app (by rw [flat_len dLine_len, List.length_take, hsz, Nat.min_eq_left (by rw [← HN.out]; omega)])]
        exact S5
      clear S4 S5
      have HS6 := Lib.hid S6; clear S6
      have hsz2 : (us ++ [Value.slice A0 n0 c0', Value.int .i64 y.At]).length = (k + 1) * 2 := by rw [List.length_append, hsz]; simp <;> omega
      have HZ2 := Lib.hid hsz2
      clear hsz hsz2
      go_wp2_with fail
      go_roundw
      case rel => exact ⟨k + 1, us ++ [Value.slice A0 n0 c0', Value.int .i64 y.At], by omega, by go_num, HZ2.out, HS6.out⟩
      case measure => simp [intOf]; omega
    · obtain rfl : k = n := by omega
      have HSS : Hid (St w wr [own (.slice (some ⟨g, 0, none⟩) k k) (.sl 2 (l.flatMap dLine))]) := by
        show St _ _ _
        rw [Nat.sub_self, show zz [.slice none 0 0, .int .i64 0] 0 = [] from rfl, List.append_nil, List.take_of_length_le (by rw [← HN.out]; omega)] at S
        have hfl : (l.flatMap dLine).length = k * 2 := by rw [flat_len dLine_len, ← HN.out]
        refine St.shut (T := 35) (cs := us.toArray) ?_ hfl (Nat.le_refl _) (by unfold maxLen; omega) (by have := HU.out; simpa using this)
        rw [hfl, ← HU.out, List.take_length, List.append_nil]
        exact S
      clear S
      go_wp2_with fail
      go_ret
      exact ⟨_, rfl, HSS.out⟩
set_option maxRecDepth 100000 in
set_option maxHeartbeats 8000000 in
theorem laws_toPiece (x : SPiece) (p0 : Value) (w : World) (h0 : Rd w p0 (Dv.ints x.Text)) (hs : sizePiece x ≤ 1048576) :
    Calls Try.prog 69 #[.agg #[p0]] w fun e w' => ∃ u0, e = .returned (.agg #[u0]) ∧ St w w' [own u0 (Dv.ints x.Text)] := by
  have HZ : Hid (sizePiece x = x.Text.length) := rfl
  have b0 : x.Text.length ≤ 1048576 := by have := HZ.out; omega
  have S0 := (((St.refl w).alloc #[p0] 115).alloc #[.slice none 0 0] 116).alloc #[.slice none 0 0] 116
  simp only [World.size_alloc] at S0
  go_enter Try.func69, Try.ntmps69
  go_wp2_with fail
  refine Calls.mono (laws_toIntS_d x.Text p0 _ (h0.ext S0.ext) (by omega)) ?_; rintro e w1 ⟨u0, rfl, T1⟩
  obtain ⟨A0, n0, c0, rfl⟩ := (T1.rd 0 rfl).isl
  have S1 : St w w1 [own (.slice A0 n0 c0) (Dv.ints x.Text), row (w.heap.size + 1 + 1) 116 #[.slice none 0 0], row (w.heap.size + 1) 116 #[.slice none 0 0], row w.heap.size 115 #[p0]] := S0.joined T1
  clear S0 T1
  obtain ⟨lc, lf, ls⟩ := S1.cells 3 rfl
  go_wp2_with ((with_reducible refine wp_setA (k := 0) (u := .slice A0 n0 c0) (#[.slice A0 n0 c0]) S1 1 rfl ?_ ?_ ?_ ?_ ?_ ?_ ?_); go_must (exact rfl); go_must (exact rfl); go_must (kernel_rfl); go_must (kernel_rfl); go_must (exact Nat.le_of_ble_eq_true (by kernel_rfl)); go_must (kernel_rfl))
  intro w2 S2
  have S2 : St w w2 [own (.slice A0 n0 c0) (Dv.ints x.Text), row (w.heap.size + 1 + 1) 116 #[.slice A0 n0 c0], row (w.heap.size + 1) 116 #[.slice none 0 0], row w.heap.size 115 #[p0]] := S2
  clear S1 lc lf ls
  obtain ⟨lc, lf, ls⟩ := S2.cells 1 rfl
  go_wp2_with (first | ((with_reducible refine wpList_load_row rfl 116 _ rfl (w.heap.size + 1 + 1) ?_ 116 #[.slice A0 n0 c0] (0, 0) _ (S2.row 1 rfl) Try.underlying116 rfl ?_ ?_); go_must (exact rfl); go_must (kernel_rfl)) | ((with_reducible refine wp_setA (k := 0) (u := .agg #[.slice A0 n0 c0]) (#[.slice A0 n0 c0]) S2 2 rfl ?_ ?_ ?_ ?_ ?_ ?_ ?_); go_must (exact rfl); go_must (exact rfl); go_must (kernel_rfl); go_must (kernel_rfl); go_must (exact Nat.le_of_ble_eq_true (by kernel_rfl)); go_must (kernel_rfl)))
  intro w3 S3
  clear lc lf ls S2
  go_wp2_with fail
  refine bodyPost_ret (v := .agg #[.slice A0 n0 c0]) (results_cell_row Try.results69 _ _ (w.heap.size + 1) 116 #[.slice A0 n0 c0] (0, 0) _ rfl (S3.row 2 rfl) Try.underlying116 rfl (by kernel_rfl)) rfl ⟨_, rfl, ?_⟩
  exact St.keep (M := [own (.slice A0 n0 c0) (Dv.ints x.Text)]) (L := _) S3
theorem infoE_Piece : (Try.prog.info? 116).map (fun i => (i.zero, i.size, decide (i.bytes ≤ 4096))) = some (some (.agg #[.slice none 0 0]), 1, true) := by kernel_rfl
set_option maxRecDepth 100000 in
set_option maxHeartbeats 8000000 in
theorem laws_toPieceS (l : List SPiece) (v : Value) (w : World) (h : Rd w v (.sl 1 (l.flatMap dPiece))) (hs : l.length + (l.map sizePiece).sum ≤ 1048576) :
    Calls Try.prog 46 #[v] w fun e w' => ∃ u, e = .returned u ∧ St w w' [own u (.sl 1 (l.flatMap dPiece))] := by
  obtain ⟨A, c, rfl, hc, hcm, hA, hat⟩ := h.rows dPiece_len (by decide)
  obtain ⟨n, hn⟩ : ∃ n, n = l.length := ⟨_, rfl⟩
  have hsm := fun k (hk : k < l.length) => size_le l sizePiece hk
  rw [← hn] at hc hat hs ⊢
  have HN := Lib.hid hn; clear hn
  have hcap : n ≤ 9223372036854775807 := by omega
  have hn20 : n ≤ 1048576 := by omega
  have HAT := Lib.hid hat; clear hat
  have HSM : Hid (∀ k (hk : k < l.length), sizePiece (l[k]'hk) ≤ 1048576) := fun k hk => by have := hsm k hk; omega
  clear hsm hs
  go_enter Try.func46, Try.ntmps46
  go_wp2_with (at_make; refine wp_makeR rfl _ _ 36 rfl 116 _ 1 Try.underlying36 infoE_Piece (n := n) rfl rfl hn20 (St.refl w) ?_)
  intro w1 S1
  have hz : madeCells #[.slice none 0 0] n = ([] ++ zz [.slice none 0 0] n).toArray := by have h := made_zz (.agg #[.slice none 0 0]) 1 rfl (by decide) n; (try rw [Nat.mul_one] at h); exact h
  rw [hz] at S1
  clear hz
  generalize w.heap.size = g at S1 ⊢
  go_wp2_with fail
  go_loopw [4] (fun vi wr => ∃ (k : Nat) (us : List Value), k ≤ n ∧ vi = .int .i64 k ∧ Hid (us.length = k * 1) ∧ St w wr (row g 116 (us ++ zz [.slice none 0 0] (n - k)).toArray :: owns us ((l.take k).flatMap dPiece))) (fun vi _ => n - (intOf vi).toNat)
  case atStart => exact ⟨0, [], by omega, rfl, by show _ = _; simp, S1⟩
  case round =>
    obtain ⟨k, us, hk, rfl, HU, S⟩ := hrel
    clear S1
    have hx := S.ext
    by_cases hlt : k < n
    · have hk2 : k < l.length := by rw [← HN.out]; exact hlt
      obtain ⟨b, o, rfl, hat2⟩ := HAT.out (by omega)
      have hg := List.getElem?_eq_getElem hk2
      have hy := HSM.out k hk2
      have HT : Hid ((l.take (k + 1)).flatMap dPiece = (l.take k).flatMap dPiece ++ dPiece (l[k]'hk2)) := flat_take1 l dPiece hk2
      generalize l[k]'hk2 = y at *
      obtain ⟨u0, c0, d0⟩ := hat2 k y hg 0 _ rfl
      have c0 := hx.cell c0
      simp only [Nat.mul_one, Nat.add_zero] at c0
      clear hat2 hg hk2
      go_wp2_with fail
      refine Calls.mono (laws_toPiece y u0 _ (d0.ext hx) hy) ?_; rintro e w2 ⟨v0, rfl, T2⟩
      obtain ⟨A0, n0, c0', rfl⟩ := (T2.rd 0 rfl).isl
      have S2 := S.joined T2
      have S3 : St w w2 ([own (.slice A0 n0 c0') (Dv.ints y.Text)] ++ row g 116 (us ++ zz [.slice none 0 0] (n - k)).toArray :: owns us ((l.take k).flatMap dPiece)) := (St.bring S2 0 rfl)
      have S4 := S3.perm (perm_mid _ _ _)
      clear S S2 S3 T2 c0
      have hsz : us.length = k * 1 := HU.out
      go_wp2_with ((with_reducible refine wp_setA (k := k) (u := .agg #[Value.slice A0 n0 c0']) ((us ++ [Value.slice A0 n0 c0']) ++ zz [.slice none 0 0] (n - (k + 1))).toArray S4 0 rfl ?_ ?_ ?_ ?_ ?_ ?_ ?_); go_must (exact rfl); go_must (exact rfl); go_must (kernel_rfl); go_must (kernel_rfl); go_must (exact fit_z1 hlt hsz rfl rfl); go_must (exact set_z1 hlt hsz rfl rfl))
      intro w5 S5
      have S6 : St w w5 (row g 116 ((us ++ [Value.slice A0 n0 c0']) ++ zz [.slice none 0 0] (n - (k + 1))).toArray :: owns (us ++ [Value.slice A0 n0 c0']) ((l.take (k + 1)).flatMap dPiece)) := by
        rw [HT.out, owns_app (by rw [flat_len dPiece_len, List.length_take, hsz, Nat.min_eq_left (by rw [← HN.out]; omega)])]
        exact S5
      clear S4 S5
      have HS6 := Lib.hid S6; clear S6
      have hsz2 : (us ++ [Value.slice A0 n0 c0']).length = (k + 1) * 1 := by rw [List.length_append, hsz]; simp <;> omega
      have HZ2 := Lib.hid hsz2
      clear hsz hsz2
      go_wp2_with fail
      go_roundw
      case rel => exact ⟨k + 1, us ++ [Value.slice A0 n0 c0'], by omega, by go_num, HZ2.out, HS6.out⟩
      case measure => simp [intOf]; omega
    · obtain rfl : k = n := by omega
      have HSS : Hid (St w wr [own (.slice (some ⟨g, 0, none⟩) k k) (.sl 1 (l.flatMap dPiece))]) := by
        show St _ _ _
        rw [Nat.sub_self, show zz [.slice none 0 0] 0 = [] from rfl, List.append_nil, List.take_of_length_le (by rw [← HN.out]; omega)] at S
        have hfl : (l.flatMap dPiece).length = k * 1 := by rw [flat_len dPiece_len, ← HN.out]
        refine St.shut (T := 116) (cs := us.toArray) ?_ hfl (Nat.le_refl _) (by unfold maxLen; omega) (by have := HU.out; simpa using this)
        rw [hfl, ← HU.out, List.take_length, List.append_nil]
        exact S
      clear S
      go_wp2_with fail
      go_ret
      exact ⟨_, rfl, HSS.out⟩
set_option maxRecDepth 100000 in
set_option maxHeartbeats 8000000 in
theorem laws_toRing (x : SRing) (p0 : Value) (w : World) (h0 : Rd w p0 (.sl 1 (x.Pieces.flatMap dPiece))) (hs : sizeRing x ≤ 1048576) :
    Calls Try.prog 20 #[.agg #[p0]] w fun e w' => ∃ u0, e = .returned (.agg #[u0]) ∧ St w w' [own u0 (.sl 1 (x.Pieces.flatMap dPiece))] := by
  have HZ : Hid (sizeRing x = (x.Pieces.length + (x.Pieces.map sizePiece).sum)) := rfl
  have b0 : (x.Pieces.length + (x.Pieces.map sizePiece).sum) ≤ 1048576 := by have := HZ.out; omega
  have S0 := (((St.refl w).alloc #[p0] 27).alloc #[.slice none 0 0] 38).alloc #[.slice none 0 0] 38
  simp only [World.size_alloc] at S0
  go_enter Try.func20, Try.ntmps20
  go_wp2_with fail
  refine Calls.mono (laws_toPieceS x.Pieces p0 _ (h0.ext S0.ext) (by omega)) ?_; rintro e w1 ⟨u0, rfl, T1⟩
  obtain ⟨A0, n0, c0, rfl⟩ := (T1.rd 0 rfl).isl
  have S1 : St w w1 [own (.slice A0 n0 c0) (.sl 1 (x.Pieces.flatMap dPiece)), row (w.heap.size + 1 + 1) 38 #[.slice none 0 0], row (w.heap.size + 1) 38 #[.slice none 0 0], row w.heap.size 27 #[p0]] := S0.joined T1
  clear S0 T1
  obtain ⟨lc, lf, ls⟩ := S1.cells 3 rfl
  go_wp2_with ((with_reducible refine wp_setA (k := 0) (u := .slice A0 n0 c0) (#[.slice A0 n0 c0]) S1 1 rfl ?_ ?_ ?_ ?_ ?_ ?_ ?_); go_must (exact rfl); go_must (exact rfl); go_must (kernel_rfl); go_must (kernel_rfl); go_must (exact Nat.le_of_ble_eq_true (by kernel_rfl)); go_must (kernel_rfl))
  intro w2 S2
  have S2 : St w w2 [own (.slice A0 n0 c0) (.sl 1 (x.Pieces.flatMap dPiece)), row (w.heap.size + 1 + 1) 38 #[.slice A0 n0 c0], row (w.heap.size + 1) 38 #[.slice none 0 0], row w.heap.size 27 #[p0]] := S2
  clear S1 lc lf ls
  obtain ⟨lc, lf, ls⟩ := S2.cells 1 rfl
  go_wp2_with (first | ((with_reducible refine wpList_load_row rfl 38 _ rfl (w.heap.size + 1 + 1) ?_ 38 #[.slice A0 n0 c0] (0, 0) _ (S2.row 1 rfl) Try.underlying38 rfl ?_ ?_); go_must (exact rfl); go_must (kernel_rfl)) | ((with_reducible refine wp_setA (k := 0) (u := .agg #[.slice A0 n0 c0]) (#[.slice A0 n0 c0]) S2 2 rfl ?_ ?_ ?_ ?_ ?_ ?_ ?_); go_must (exact rfl); go_must (exact rfl); go_must (kernel_rfl); go_must (kernel_rfl); go_must (exact Nat.le_of_ble_eq_true (by kernel_rfl)); go_must (kernel_rfl)))
  intro w3 S3
  clear lc lf ls S2
  go_wp2_with fail
  refine bodyPost_ret (v := .agg #[.slice A0 n0 c0]) (results_cell_row Try.results20 _ _ (w.heap.size + 1) 38 #[.slice A0 n0 c0] (0, 0) _ rfl (S3.row 2 rfl) Try.underlying38 rfl (by kernel_rfl)) rfl ⟨_, rfl, ?_⟩
  exact St.keep (M := [own (.slice A0 n0 c0) (.sl 1 (x.Pieces.flatMap dPiece))]) (L := _) S3
set_option maxRecDepth 100000 in
set_option maxHeartbeats 8000000 in
theorem laws_toUndo (x : SUndo) (p0 : Value) (w : World) (h0 : Rd w p0 (.sl 2 (x.Lines.flatMap dLine))) (hs : sizeUndo x ≤ 1048576) :
    Calls Try.prog 21 #[.agg #[p0]] w fun e w' => ∃ u0, e = .returned (.agg #[u0]) ∧ St w w' [own u0 (.sl 2 (x.Lines.flatMap dLine))] := by
  have HZ : Hid (sizeUndo x = (x.Lines.length + (x.Lines.map sizeLine).sum)) := rfl
  have b0 : (x.Lines.length + (x.Lines.map sizeLine).sum) ≤ 1048576 := by have := HZ.out; omega
  have S0 := (((St.refl w).alloc #[p0] 30).alloc #[.slice none 0 0] 41).alloc #[.slice none 0 0] 41
  simp only [World.size_alloc] at S0
  go_enter Try.func21, Try.ntmps21
  go_wp2_with fail
  refine Calls.mono (laws_toLineS x.Lines p0 _ (h0.ext S0.ext) (by omega)) ?_; rintro e w1 ⟨u0, rfl, T1⟩
  obtain ⟨A0, n0, c0, rfl⟩ := (T1.rd 0 rfl).isl
  have S1 : St w w1 [own (.slice A0 n0 c0) (.sl 2 (x.Lines.flatMap dLine)), row (w.heap.size + 1 + 1) 41 #[.slice none 0 0], row (w.heap.size + 1) 41 #[.slice none 0 0], row w.heap.size 30 #[p0]] := S0.joined T1
  clear S0 T1
  obtain ⟨lc, lf, ls⟩ := S1.cells 3 rfl
  go_wp2_with ((with_reducible refine wp_setA (k := 0) (u := .slice A0 n0 c0) (#[.slice A0 n0 c0]) S1 1 rfl ?_ ?_ ?_ ?_ ?_ ?_ ?_); go_must (exact rfl); go_must (exact rfl); go_must (kernel_rfl); go_must (kernel_rfl); go_must (exact Nat.le_of_ble_eq_true (by kernel_rfl)); go_must (kernel_rfl))
  intro w2 S2
  have S2 : St w w2 [own (.slice A0 n0 c0) (.sl 2 (x.Lines.flatMap dLine)), row (w.heap.size + 1 + 1) 41 #[.slice A0 n0 c0], row (w.heap.size + 1) 41 #[.slice none 0 0], row w.heap.size 30 #[p0]] := S2
  clear S1 lc lf ls
  obtain ⟨lc, lf, ls⟩ := S2.cells 1 rfl
  go_wp2_with (first | ((with_reducible refine wpList_load_row rfl 41 _ rfl (w.heap.size + 1 + 1) ?_ 41 #[.slice A0 n0 c0] (0, 0) _ (S2.row 1 rfl) Try.underlying41 rfl ?_ ?_); go_must (exact rfl); go_must (kernel_rfl)) | ((with_reducible refine wp_setA (k := 0) (u := .agg #[.slice A0 n0 c0]) (#[.slice A0 n0 c0]) S2 2 rfl ?_ ?_ ?_ ?_ ?_ ?_ ?_); go_must (exact rfl); go_must (exact rfl); go_must (kernel_rfl); go_must (kernel_rfl); go_must (exact Nat.le_of_ble_eq_true (by kernel_rfl)); go_must (kernel_rfl)))
  intro w3 S3
  clear lc lf ls S2
  go_wp2_with fail
  refine bodyPost_ret (v := .agg #[.slice A0 n0 c0]) (results_cell_row Try.results21 _ _ (w.heap.size + 1) 41 #[.slice A0 n0 c0] (0, 0) _ rfl (S3.row 2 rfl) Try.underlying41 rfl (by kernel_rfl)) rfl ⟨_, rfl, ?_⟩
  exact St.keep (M := [own (.slice A0 n0 c0) (.sl 2 (x.Lines.flatMap dLine))]) (L := _) S3
set_option maxRecDepth 100000 in
set_option maxHeartbeats 8000000 in
theorem laws_toEd (x : SEd) (p0 p1 p2 p3 p4 p5 : Value) (w : World) (h0 : Rd w p0 (Dv.ints x.Line.Text)) (h1 : Rd w p1 (.sl 1 (x.Ring.Pieces.flatMap dPiece))) (h2 : Rd w p2 (.sl 2 (x.Undo.Lines.flatMap dLine))) (h3 : Rd w p3 (Dv.ints x.Own.Text)) (h4 : Rd w p4 (Dv.ints x.Query)) (h5 : Rd w p5 (Dv.ints x.Back.Text)) (hs : sizeEd x ≤ 1048576) :
    Calls Try.prog 7 #[.agg #[.bool x.Vi, .int .i64 x.Mode, p0, .int .i64 x.Line.At, .int .i64 x.Count, .int .i64 x.Op, .int .i64 x.OpCount, .int .i64 x.Wait, .int .i64 x.FindR, .int .i64 x.FindHow, .int .i64 x.Last, p1, p2, .int .i64 x.Nav, p3, .int .i64 x.Own.At, p4, .int .i64 x.Hit, p5, .int .i64 x.Back.At]] w fun e w' => ∃ u0 u1 u2 u3 u4 u5, e = .returned (.agg #[.bool x.Vi, .int .i64 x.Mode, u0, .int .i64 x.Line.At, .int .i64 x.Count, .int .i64 x.Op, .int .i64 x.OpCount, .int .i64 x.Wait, .int .i64 x.FindR, .int .i64 x.FindHow, .int .i64 x.Last, u1, u2, .int .i64 x.Nav, u3, .int .i64 x.Own.At, u4, .int .i64 x.Hit, u5, .int .i64 x.Back.At]) ∧ St w w' [own u5 (Dv.ints x.Back.Text), own u4 (Dv.ints x.Query), own u3 (Dv.ints x.Own.Text), own u2 (.sl 2 (x.Undo.Lines.flatMap dLine)), own u1 (.sl 1 (x.Ring.Pieces.flatMap dPiece)), own u0 (Dv.ints x.Line.Text)] := by
  have HZ : Hid (sizeEd x = sizeLine x.Line + sizeRing x.Ring + sizeUndo x.Undo + sizeLine x.Own + x.Query.length + sizeLine x.Back) := rfl
  have b0 : sizeLine x.Line ≤ 1048576 := by have := HZ.out; omega
  have b1 : sizeRing x.Ring ≤ 1048576 := by have := HZ.out; omega
  have b2 : sizeUndo x.Undo ≤ 1048576 := by have := HZ.out; omega
  have b3 : sizeLine x.Own ≤ 1048576 := by have := HZ.out; omega
  have b4 : x.Query.length ≤ 1048576 := by have := HZ.out; omega
  have b5 : sizeLine x.Back ≤ 1048576 := by have := HZ.out; omega
  have S0 := (((St.refl w).alloc #[.bool x.Vi, .int .i64 x.Mode, p0, .int .i64 x.Line.At, .int .i64 x.Count, .int .i64 x.Op, .int .i64 x.OpCount, .int .i64 x.Wait, .int .i64 x.FindR, .int .i64 x.FindHow, .int .i64 x.Last, p1, p2, .int .i64 x.Nav, p3, .int .i64 x.Own.At, p4, .int .i64 x.Hit, p5, .int .i64 x.Back.At] 32).alloc #[.bool false, .int .i64 0, .slice none 0 0, .int .i64 0, .int .i64 0, .int .i64 0, .int .i64 0, .int .i64 0, .int .i64 0, .int .i64 0, .int .i64 0, .slice none 0 0, .slice none 0 0, .int .i64 0, .slice none 0 0, .int .i64 0, .slice none 0 0, .int .i64 0, .slice none 0 0, .int .i64 0] 43).alloc #[.bool false, .int .i64 0, .slice none 0 0, .int .i64 0, .int .i64 0, .int .i64 0, .int .i64 0, .int .i64 0, .int .i64 0, .int .i64 0, .int .i64 0, .slice none 0 0, .slice none 0 0, .int .i64 0, .slice none 0 0, .int .i64 0, .slice none 0 0, .int .i64 0, .slice none 0 0, .int .i64 0] 43
  simp only [World.size_alloc] at S0
  go_enter Try.func7, Try.ntmps7
  go_wp2_with ((with_reducible refine wp_setA (k := 0) (u := .bool x.Vi) (#[.bool x.Vi, .int .i64 0, .slice none 0 0, .int .i64 0, .int .i64 0, .int .i64 0, .int .i64 0, .int .i64 0, .int .i64 0, .int .i64 0, .int .i64 0, .slice none 0 0, .slice none 0 0, .int .i64 0, .slice none 0 0, .int .i64 0, .slice none 0 0, .int .i64 0, .slice none 0 0, .int .i64 0]) S0 0 rfl ?_ ?_ ?_ ?_ ?_ ?_ ?_); go_must (exact rfl); go_must (exact rfl); go_must (kernel_rfl); go_must (kernel_rfl); go_must (exact Nat.le_of_ble_eq_true (by kernel_rfl)); go_must (kernel_rfl))
  intro w1 S1
  have S1 : St w w1 [row (w.heap.size + 1 + 1) 43 #[.bool x.Vi, .int .i64 0, .slice none 0 0, .int .i64 0, .int .i64 0, .int .i64 0, .int .i64 0, .int .i64 0, .int .i64 0, .int .i64 0, .int .i64 0, .slice none 0 0, .slice none 0 0, .int .i64 0, .slice none 0 0, .int .i64 0, .slice none 0 0, .int .i64 0, .slice none 0 0, .int .i64 0], row (w.heap.size + 1) 43 #[.bool false, .int .i64 0, .slice none 0 0, .int .i64 0, .int .i64 0, .int .i64 0, .int .i64 0, .int .i64 0, .int .i64 0, .int .i64 0, .int .i64 0, .slice none 0 0, .slice none 0 0, .int .i64 0, .slice none 0 0, .int .i64 0, .slice none 0 0, .int .i64 0, .slice none 0 0, .int .i64 0], row w.heap.size 32 #[.bool x.Vi, .int .i64 x.Mode, p0, .int .i64 x.Line.At, .int .i64 x.Count, .int .i64 x.Op, .int .i64 x.OpCount, .int .i64 x.Wait, .int .i64 x.FindR, .int .i64 x.FindHow, .int .i64 x.Last, p1, p2, .int .i64 x.Nav, p3, .int .i64 x.Own.At, p4, .int .i64 x.Hit, p5, .int .i64 x.Back.At]] := S1
  clear S0
  obtain ⟨lc, lf, ls⟩ := S1.cells 2 rfl
  go_wp2_with ((with_reducible refine wp_setA (k := 1) (u := .int .i64 x.Mode) (#[.bool x.Vi, .int .i64 x.Mode, .slice none 0 0, .int .i64 0, .int .i64 0, .int .i64 0, .int .i64 0, .int .i64 0, .int .i64 0, .int .i64 0, .int .i64 0, .slice none 0 0, .slice none 0 0, .int .i64 0, .slice none 0 0, .int .i64 0, .slice none 0 0, .int .i64 0, .slice none 0 0, .int .i64 0]) S1 0 rfl ?_ ?_ ?_ ?_ ?_ ?_ ?_); go_must (exact rfl); go_must (exact rfl); go_must (kernel_rfl); go_must (kernel_rfl); go_must (exact Nat.le_of_ble_eq_true (by kernel_rfl)); go_must (kernel_rfl))
  intro w2 S2
  have S2 : St w w2 [row (w.heap.size + 1 + 1) 43 #[.bool x.Vi, .int .i64 x.Mode, .slice none 0 0, .int .i64 0, .int .i64 0, .int .i64 0, .int .i64 0, .int .i64 0, .int .i64 0, .int .i64 0, .int .i64 0, .slice none 0 0, .slice none 0 0, .int .i64 0, .slice none 0 0, .int .i64 0, .slice none 0 0, .int .i64 0, .slice none 0 0, .int .i64 0], row (w.heap.size + 1) 43 #[.bool false, .int .i64 0, .slice none 0 0, .int .i64 0, .int .i64 0, .int .i64 0, .int .i64 0, .int .i64 0, .int .i64 0, .int .i64 0, .int .i64 0, .slice none 0 0, .slice none 0 0, .int .i64 0, .slice none 0 0, .int .i64 0, .slice none 0 0, .int .i64 0, .slice none 0 0, .int .i64 0], row w.heap.size 32 #[.bool x.Vi, .int .i64 x.Mode, p0, .int .i64 x.Line.At, .int .i64 x.Count, .int .i64 x.Op, .int .i64 x.OpCount, .int .i64 x.Wait, .int .i64 x.FindR, .int .i64 x.FindHow, .int .i64 x.Last, p1, p2, .int .i64 x.Nav, p3, .int .i64 x.Own.At, p4, .int .i64 x.Hit, p5, .int .i64 x.Back.At]] := S2
  clear S1 lc lf ls
  obtain ⟨lc, lf, ls⟩ := S2.cells 2 rfl
  go_wp2_with fail
  refine Calls.mono (laws_toLine x.Line p0 _ (h0.ext S2.ext) (by omega)) ?_; rintro e w3 ⟨u0, rfl, T3⟩
  obtain ⟨A0, n0, c0, rfl⟩ := (T3.rd 0 rfl).isl
  have S3 : St w w3 [own (.slice A0 n0 c0) (Dv.ints x.Line.Text), row (w.heap.size + 1 + 1) 43 #[.bool x.Vi, .int .i64 x.Mode, .slice none 0 0, .int .i64 0, .int .i64 0, .int .i64 0, .int .i64 0, .int .i64 0, .int .i64 0, .int .i64 0, .int .i64 0, .slice none 0 0, .slice none 0 0, .int .i64 0, .slice none 0 0, .int .i64 0, .slice none 0 0, .int .i64 0, .slice none 0 0, .int .i64 0], row (w.heap.size + 1) 43 #[.bool false, .int .i64 0, .slice none 0 0, .int .i64 0, .int .i64 0, .int .i64 0, .int .i64 0, .int .i64 0, .int .i64 0, .int .i64 0, .int .i64 0, .slice none 0 0, .slice none 0 0, .int .i64 0, .slice none 0 0, .int .i64 0, .slice none 0 0, .int .i64 0, .slice none 0 0, .int .i64 0], row w.heap.size 32 #[.bool x.Vi, .int .i64 x.Mode, p0, .int .i64 x.Line.At, .int .i64 x.Count, .int .i64 x.Op, .int .i64 x.OpCount, .int .i64 x.Wait, .int .i64 x.FindR, .int .i64 x.FindHow, .int .i64 x.Last, p1, p2, .int .i64 x.Nav, p3, .int .i64 x.Own.At, p4, .int .i64 x.Hit, p5, .int .i64 x.Back.At]] := S2.joined T3
  clear S2 T3 lc lf ls
  obtain ⟨lc, lf, ls⟩ := S3.cells 3 rfl
  go_wp2_with ((with_reducible refine wp_setA (k := 2) (u := .agg #[.slice A0 n0 c0, .int .i64 x.Line.At]) (#[.bool x.Vi, .int .i64 x.Mode, .slice A0 n0 c0, .int .i64 x.Line.At, .int .i64 0, .int .i64 0, .int .i64 0, .int .i64 0, .int .i64 0, .int .i64 0, .int .i64 0, .slice none 0 0, .slice none 0 0, .int .i64 0, .slice none 0 0, .int .i64 0, .slice none 0 0, .int .i64 0, .slice none 0 0, .int .i64 0]) S3 1 rfl ?_ ?_ ?_ ?_ ?_ ?_ ?_); go_must (exact rfl); go_must (exact rfl); go_must (kernel_rfl); go_must (kernel_rfl); go_must (exact Nat.le_of_ble_eq_true (by kernel_rfl)); go_must (kernel_rfl))
  intro w4 S4
  have S4 : St w w4 [own (.slice A0 n0 c0) (Dv.ints x.Line.Text), row (w.heap.size + 1 + 1) 43 #[.bool x.Vi, .int .i64 x.Mode, .slice A0 n0 c0, .int .i64 x.Line.At, .int .i64 0, .int .i64 0, .int .i64 0, .int .i64 0, .int .i64 0, .int .i64 0, .int .i64 0, .slice none 0 0, .slice none 0 0, .int .i64 0, .slice none 0 0, .int .i64 0, .slice none 0 0, .int .i64 0, .slice none 0 0, .int .i64 0], row (w.heap.size + 1) 43 #[.bool false, .int .i64 0, .slice none 0 0, .int .i64 0, .int .i64 0, .int .i64 0, .int .i64 0, .int .i64 0, .int .i64 0, .int .i64 0, .int .i64 0, .slice none 0 0, .slice none 0 0, .int .i64 0, .slice none 0 0, .int .i64 0, .slice none 0 0, .int .i64 0, .slice none 0 0, .int .i64 0], row w.heap.size 32 #[.bool x.Vi, .int .i64 x.Mode, p0, .int .i64 x.Line.At, .int .i64 x.Count, .int .i64 x.Op, .int .i64 x.OpCount, .int .i64 x.Wait, .int .i64 x.FindR, .int .i64 x.FindHow, .int .i64 x.Last, p1, p2, .int .i64 x.Nav, p3, .int .i64 x.Own.At, p4, .int .i64 x.Hit, p5, .int .i64 x.Back.At]] := S4
  clear S3 lc lf ls
  as_aux_lemma =>
    obtain ⟨lc, lf, ls⟩ := S4.cells 3 rfl
    go_wp2_with ((with_reducible refine wp_setA (k := 4) (u := .int .i64 x.Count) (#[.bool x.Vi, .int .i64 x.Mode, .slice A0 n0 c0, .int .i64 x.Line.At, .int .i64 x.Count, .int .i64 0, .int .i64 0, .int .i64 0, .int .i64 0, .int .i64 0, .int .i64 0, .slice none 0 0, .slice none 0 0, .int .i64 0, .slice none 0 0, .int .i64 0, .slice none 0 0, .int .i64 0, .slice none 0 0, .int .i64 0]) S4 1 rfl ?_ ?_ ?_ ?_ ?_ ?_ ?_); go_must (exact rfl); go_must (exact rfl); go_must (kernel_rfl); go_must (kernel_rfl); go_must (exact Nat.le_of_ble_eq_true (by kernel_rfl)); go_must (kernel_rfl))
    intro w5 S5
    have S5 : St w w5 [own (.slice A0 n0 c0) (Dv.ints x.Line.Text), row (w.heap.size + 1 + 1) 43 #[.bool x.Vi, .int .i64 x.Mode, .slice A0 n0 c0, .int .i64 x.Line.At, .int .i64 x.Count, .int .i64 0, .int .i64 0, .int .i64 0, .int .i64 0, .int .i64 0, .int .i64 0, .slice none 0 0, .slice none 0 0, .int .i64 0, .slice none 0 0, .int .i64 0, .slice none 0 0, .int .i64 0, .slice none 0 0, .int .i64 0], row (w.heap.size + 1) 43 #[.bool false, .int .i64 0, .slice none 0 0, .int .i64 0, .int .i64 0, .int .i64 0, .int .i64 0, .int .i64 0, .int .i64 0, .int .i64 0, .int .i64 0, .slice none 0 0, .slice none 0 0, .int .i64 0, .slice none 0 0, .int .i64 0, .slice none 0 0, .int .i64 0, .slice none 0 0, .int .i64 0], row w.heap.size 32 #[.bool x.Vi, .int .i64 x.Mode, p0, .int .i64 x.Line.At, .int .i64 x.Count, .int .i64 x.Op, .int .i64 x.OpCount, .int .i64 x.Wait, .int .i64 x.FindR, .int .i64 x.FindHow, .int .i64 x.Last, p1, p2, .int .i64 x.Nav, p3, .int .i64 x.Own.At, p4, .int .i64 x.Hit, p5, .int .i64 x.Back.At]] := S5
    clear S4 lc lf ls
    obtain ⟨lc, lf, ls⟩ := S5.cells 3 rfl
    go_wp2_with ((with_reducible refine wp_setA (k := 5) (u := .int .i64 x.Op) (#[.bool x.Vi, .int .i64 x.Mode, .slice A0 n0 c0, .int .i64 x.Line.At, .int .i64 x.Count, .int .i64 x.Op, .int .i64 0, .int .i64 0, .int .i64 0, .int .i64 0, .int .i64 0, .slice none 0 0, .slice none 0 0, .int .i64 0, .slice none 0 0, .int .i64 0, .slice none 0 0, .int .i64 0, .slice none 0 0, .int .i64 0]) S5 1 rfl ?_ ?_ ?_ ?_ ?_ ?_ ?_); go_must (exact rfl); go_must (exact rfl); go_must (kernel_rfl); go_must (kernel_rfl); go_must (exact Nat.le_of_ble_eq_true (by kernel_rfl)); go_must (kernel_rfl))
    intro w6 S6
    have S6 : St w w6 [own (.slice A0 n0 c0) (Dv.ints x.Line.Text), row (w.heap.size + 1 + 1) 43 #[.bool x.Vi, .int .i64 x.Mode, .slice A0 n0 c0, .int .i64 x.Line.At, .int .i64 x.Count, .int .i64 x.Op, .int .i64 0, .int .i64 0, .int .i64 0, .int .i64 0, .int .i64 0, .slice none 0 0, .slice none 0 0, .int .i64 0, .slice none 0 0, .int .i64 0, .slice none 0 0, .int .i64 0, .slice none 0 0, .int .i64 0], row (w.heap.size + 1) 43 #[.bool false, .int .i64 0, .slice none 0 0, .int .i64 0, .int .i64 0, .int .i64 0, .int .i64 0, .int .i64 0, .int .i64 0, .int .i64 0, .int .i64 0, .slice none 0 0, .slice none 0 0, .int .i64 0, .slice none 0 0, .int .i64 0, .slice none 0 0, .int .i64 0, .slice none 0 0, .int .i64 0], row w.heap.size 32 #[.bool x.Vi, .int .i64 x.Mode, p0, .int .i64 x.Line.At, .int .i64 x.Count, .int .i64 x.Op, .int .i64 x.OpCount, .int .i64 x.Wait, .int .i64 x.FindR, .int .i64 x.FindHow, .int .i64 x.Last, p1, p2, .int .i64 x.Nav, p3, .int .i64 x.Own.At, p4, .int .i64 x.Hit, p5, .int .i64 x.Back.At]] := S6
    clear S5 lc lf ls
    obtain ⟨lc, lf, ls⟩ := S6.cells 3 rfl
    go_wp2_with ((with_reducible refine wp_setA (k := 6) (u := .int .i64 x.OpCount) (#[.bool x.Vi, .int .i64 x.Mode, .slice A0 n0 c0, .int .i64 x.Line.At, .int .i64 x.Count, .int .i64 x.Op, .int .i64 x.OpCount, .int .i64 0, .int .i64 0, .int .i64 0, .int .i64 0, .slice none 0 0, .slice none 0 0, .int .i64 0, .slice none 0 0, .int .i64 0, .slice none 0 0, .int .i64 0, .slice none 0 0, .int .i64 0]) S6 1 rfl ?_ ?_ ?_ ?_ ?_ ?_ ?_); go_must (exact rfl); go_must (exact rfl); go_must (kernel_rfl); go_must (kernel_rfl); go_must (exact Nat.le_of_ble_eq_true (by kernel_rfl)); go_must (kernel_rfl))
    intro w7 S7
    have S7 : St w w7 [own (.slice A0 n0 c0) (Dv.ints x.Line.Text), row (w.heap.size + 1 + 1) 43 #[.bool x.Vi, .int .i64 x.Mode, .slice A0 n0 c0, .int .i64 x.Line.At, .int .i64 x.Count, .int .i64 x.Op, .int .i64 x.OpCount, .int .i64 0, .int .i64 0, .int .i64 0, .int .i64 0, .slice none 0 0, .slice none 0 0, .int .i64 0, .slice none 0 0, .int .i64 0, .slice none 0 0, .int .i64 0, .slice none 0 0, .int .i64 0], row (w.heap.size + 1) 43 #[.bool false, .int .i64 0, .slice none 0 0, .int .i64 0, .int .i64 0, .int .i64 0, .int .i64 0, .int .i64 0, .int .i64 0, .int .i64 0, .int .i64 0, .slice none 0 0, .slice none 0 0, .int .i64 0, .slice none 0 0, .int .i64 0, .slice none 0 0, .int .i64 0, .slice none 0 0, .int .i64 0], row w.heap.size 32 #[.bool x.Vi, .int .i64 x.Mode, p0, .int .i64 x.Line.At, .int .i64 x.Count, .int .i64 x.Op, .int .i64 x.OpCount, .int .i64 x.Wait, .int .i64 x.FindR, .int .i64 x.FindHow, .int .i64 x.Last, p1, p2, .int .i64 x.Nav, p3, .int .i64 x.Own.At, p4, .int .i64 x.Hit, p5, .int .i64 x.Back.At]] := S7
    clear S6 lc lf ls
    as_aux_lemma =>
      obtain ⟨lc, lf, ls⟩ := S7.cells 3 rfl
      go_wp2_with ((with_reducible refine wp_setA (k := 7) (u := .int .i64 x.Wait) (#[.bool x.Vi, .int .i64 x.Mode, .slice A0 n0 c0, .int .i64 x.Line.At, .int .i64 x.Count, .int .i64 x.Op, .int .i64 x.OpCount, .int .i64 x.Wait, .int .i64 0, .int .i64 0, .int .i64 0, .slice none 0 0, .slice none 0 0, .int .i64 0, .slice none 0 0, .int .i64 0, .slice none 0 0, .int .i64 0, .slice none 0 0, .int .i64 0]) S7 1 rfl ?_ ?_ ?_ ?_ ?_ ?_ ?_); go_must (exact rfl); go_must (exact rfl); go_must (kernel_rfl); go_must (kernel_rfl); go_must (exact Nat.le_of_ble_eq_true (by kernel_rfl)); go_must (kernel_rfl))
      intro w8 S8
      have S8 : St w w8 [own (.slice A0 n0 c0) (Dv.ints x.Line.Text), row (w.heap.size + 1 + 1) 43 #[.bool x.Vi, .int .i64 x.Mode, .slice A0 n0 c0, .int .i64 x.Line.At, .int .i64 x.Count, .int .i64 x.Op, .int .i64 x.OpCount, .int .i64 x.Wait, .int .i64 0, .int .i64 0, .int .i64 0, .slice none 0 0, .slice none 0 0, .int .i64 0, .slice none 0 0, .int .i64 0, .slice none 0 0, .int .i64 0, .slice none 0 0, .int .i64 0], row (w.heap.size + 1) 43 #[.bool false, .int .i64 0, .slice none 0 0, .int .i64 0, .int .i64 0, .int .i64 0, .int .i64 0, .int .i64 0, .int .i64 0, .int .i64 0, .int .i64 0, .slice none 0 0, .slice none 0 0, .int .i64 0, .slice none 0 0, .int .i64 0, .slice none 0 0, .int .i64 0, .slice none 0 0, .int .i64 0], row w.heap.size 32 #[.bool x.Vi, .int .i64 x.Mode, p0, .int .i64 x.Line.At, .int .i64 x.Count, .int .i64 x.Op, .int .i64 x.OpCount, .int .i64 x.Wait, .int .i64 x.FindR, .int .i64 x.FindHow, .int .i64 x.Last, p1, p2, .int .i64 x.Nav, p3, .int .i64 x.Own.At, p4, .int .i64 x.Hit, p5, .int .i64 x.Back.At]] := S8
      clear S7 lc lf ls
      obtain ⟨lc, lf, ls⟩ := S8.cells 3 rfl
      go_wp2_with ((with_reducible refine wp_setA (k := 8) (u := .int .i64 x.FindR) (#[.bool x.Vi, .int .i64 x.Mode, .slice A0 n0 c0, .int .i64 x.Line.At, .int .i64 x.Count, .int .i64 x.Op, .int .i64 x.OpCount, .int .i64 x.Wait, .int .i64 x.FindR, .int .i64 0, .int .i64 0, .slice none 0 0, .slice none 0 0, .int .i64 0, .slice none 0 0, .int .i64 0, .slice none 0 0, .int .i64 0, .slice none 0 0, .int .i64 0]) S8 1 rfl ?_ ?_ ?_ ?_ ?_ ?_ ?_); go_must (exact rfl); go_must (exact rfl); go_must (kernel_rfl); go_must (kernel_rfl); go_must (exact Nat.le_of_ble_eq_true (by kernel_rfl)); go_must (kernel_rfl))
      intro w9 S9
      have S9 : St w w9 [own (.slice A0 n0 c0) (Dv.ints x.Line.Text), row (w.heap.size + 1 + 1) 43 #[.bool x.Vi, .int .i64 x.Mode, .slice A0 n0 c0, .int .i64 x.Line.At, .int .i64 x.Count, .int .i64 x.Op, .int .i64 x.OpCount, .int .i64 x.Wait, .int .i64 x.FindR, .int .i64 0, .int .i64 0, .slice none 0 0, .slice none 0 0, .int .i64 0, .slice none 0 0, .int .i64 0, .slice none 0 0, .int .i64 0, .slice none 0 0, .int .i64 0], row (w.heap.size + 1) 43 #[.bool false, .int .i64 0, .slice none 0 0, .int .i64 0, .int .i64 0, .int .i64 0, .int .i64 0, .int .i64 0, .int .i64 0, .int .i64 0, .int .i64 0, .slice none 0 0, .slice none 0 0, .int .i64 0, .slice none 0 0, .int .i64 0, .slice none 0 0, .int .i64 0, .slice none 0 0, .int .i64 0], row w.heap.size 32 #[.bool x.Vi, .int .i64 x.Mode, p0, .int .i64 x.Line.At, .int .i64 x.Count, .int .i64 x.Op, .int .i64 x.OpCount, .int .i64 x.Wait, .int .i64 x.FindR, .int .i64 x.FindHow, .int .i64 x.Last, p1, p2, .int .i64 x.Nav, p3, .int .i64 x.Own.At, p4, .int .i64 x.Hit, p5, .int .i64 x.Back.At]] := S9
      clear S8 lc lf ls
      obtain ⟨lc, lf, ls⟩ := S9.cells 3 rfl
      go_wp2_with ((with_reducible refine wp_setA (k := 9) (u := .int .i64 x.FindHow) (#[.bool x.Vi, .int .i64 x.Mode, .slice A0 n0 c0, .int .i64 x.Line.At, .int .i64 x.Count, .int .i64 x.Op, .int .i64 x.OpCount, .int .i64 x.Wait, .int .i64 x.FindR, .int .i64 x.FindHow, .int .i64 0, .slice none 0 0, .slice none 0 0, .int .i64 0, .slice none 0 0, .int .i64 0, .slice none 0 0, .int .i64 0, .slice none 0 0, .int .i64 0]) S9 1 rfl ?_ ?_ ?_ ?_ ?_ ?_ ?_); go_must (exact rfl); go_must (exact rfl); go_must (kernel_rfl); go_must (kernel_rfl); go_must (exact Nat.le_of_ble_eq_true (by kernel_rfl)); go_must (kernel_rfl))
      intro w10 S10
      have S10 : St w w10 [own (.slice A0 n0 c0) (Dv.ints x.Line.Text), row (w.heap.size + 1 + 1) 43 #[.bool x.Vi, .int .i64 x.Mode, .slice A0 n0 c0, .int .i64 x.Line.At, .int .i64 x.Count, .int .i64 x.Op, .int .i64 x.OpCount, .int .i64 x.Wait, .int .i64 x.FindR, .int .i64 x.FindHow, .int .i64 0, .slice none 0 0, .slice none 0 0, .int .i64 0, .slice none 0 0, .int .i64 0, .slice none 0 0, .int .i64 0, .slice none 0 0, .int .i64 0], row (w.heap.size + 1) 43 #[.bool false, .int .i64 0, .slice none 0 0, .int .i64 0, .int .i64 0, .int .i64 0, .int .i64 0, .int .i64 0, .int .i64 0, .int .i64 0, .int .i64 0, .slice none 0 0, .slice none 0 0, .int .i64 0, .slice none 0 0, .int .i64 0, .slice none 0 0, .int .i64 0, .slice none 0 0, .int .i64 0], row w.heap.size 32 #[.bool x.Vi, .int .i64 x.Mode, p0, .int .i64 x.Line.At, .int .i64 x.Count, .int .i64 x.Op, .int .i64 x.OpCount, .int .i64 x.Wait, .int .i64 x.FindR, .int .i64 x.FindHow, .int .i64 x.Last, p1, p2, .int .i64 x.Nav, p3, .int .i64 x.Own.At, p4, .int .i64 x.Hit, p5, .int .i64 x.Back.At]] := S10
      clear S9 lc lf ls
      as_aux_lemma =>
        obtain ⟨lc, lf, ls⟩ := S10.cells 3 rfl
        go_wp2_with ((with_reducible refine wp_setA (k := 10) (u := .int .i64 x.Last) (#[.bool x.Vi, .int .i64 x.Mode, .slice A0 n0 c0, .int .i64 x.Line.At, .int .i64 x.Count, .int .i64 x.Op, .int .i64 x.OpCount, .int .i64 x.Wait, .int .i64 x.FindR, .int .i64 x.FindHow, .int .i64 x.Last, .slice none 0 0, .slice none 0 0, .int .i64 0, .slice none 0 0, .int .i64 0, .slice none 0 0, .int .i64 0, .slice none 0 0, .int .i64 0]) S10 1 rfl ?_ ?_ ?_ ?_ ?_ ?_ ?_); go_must (exact rfl); go_must (exact rfl); go_must (kernel_rfl); go_must (kernel_rfl); go_must (exact Nat.le_of_ble_eq_true (by kernel_rfl)); go_must (kernel_rfl))
        intro w11 S11
        have S11 : St w w11 [own (.slice A0 n0 c0) (Dv.ints x.Line.Text), row (w.heap.size + 1 + 1) 43 #[.bool x.Vi, .int .i64 x.Mode, .slice A0 n0 c0, .int .i64 x.Line.At, .int .i64 x.Count, .int .i64 x.Op, .int .i64 x.OpCount, .int .i64 x.Wait, .int .i64 x.FindR, .int .i64 x.FindHow, .int .i64 x.Last, .slice none 0 0, .slice none 0 0, .int .i64 0, .slice none 0 0, .int .i64 0, .slice none 0 0, .int .i64 0, .slice none 0 0, .int .i64 0], row (w.heap.size + 1) 43 #[.bool false, .int .i64 0, .slice none 0 0, .int .i64 0, .int .i64 0, .int .i64 0, .int .i64 0, .int .i64 0, .int .i64 0, .int .i64 0, .int .i64 0, .slice none 0 0, .slice none 0 0, .int .i64 0, .slice none 0 0, .int .i64 0, .slice none 0 0, .int .i64 0, .slice none 0 0, .int .i64 0], row w.heap.size 32 #[.bool x.Vi, .int .i64 x.Mode, p0, .int .i64 x.Line.At, .int .i64 x.Count, .int .i64 x.Op, .int .i64 x.OpCount, .int .i64 x.Wait, .int .i64 x.FindR, .int .i64 x.FindHow, .int .i64 x.Last, p1, p2, .int .i64 x.Nav, p3, .int .i64 x.Own.At, p4, .int .i64 x.Hit, p5, .int .i64 x.Back.At]] := S11
        clear S10 lc lf ls
        obtain ⟨lc, lf, ls⟩ := S11.cells 3 rfl
        go_wp2_with fail
        refine Calls.mono (laws_toRing x.Ring p1 _ (h1.ext S11.ext) (by omega)) ?_; rintro e w12 ⟨u1, rfl, T12⟩
        obtain ⟨A1, n1, c1, rfl⟩ := (T12.rd 0 rfl).isl
        have S12 : St w w12 [own (.slice A1 n1 c1) (.sl 1 (x.Ring.Pieces.flatMap dPiece)), own (.slice A0 n0 c0) (Dv.ints x.Line.Text), row (w.heap.size + 1 + 1) 43 #[.bool x.Vi, .int .i64 x.Mode, .slice A0 n0 c0, .int .i64 x.Line.At, .int .i64 x.Count, .int .i64 x.Op, .int .i64 x.OpCount, .int .i64 x.Wait, .int .i64 x.FindR, .int .i64 x.FindHow, .int .i64 x.Last, .slice none 0 0, .slice none 0 0, .int .i64 0, .slice none 0 0, .int .i64 0, .slice none 0 0, .int .i64 0, .slice none 0 0, .int .i64 0], row (w.heap.size + 1) 43 #[.bool false, .int .i64 0, .slice none 0 0, .int .i64 0, .int .i64 0, .int .i64 0, .int .i64 0, .int .i64 0, .int .i64 0, .int .i64 0, .int .i64 0, .slice none 0 0, .slice none 0 0, .int .i64 0, .slice none 0 0, .int .i64 0, .slice none 0 0, .int .i64 0, .slice none 0 0, .int .i64 0], row w.heap.size 32 #[.bool x.Vi, .int .i64 x.Mode, p0, .int .i64 x.Line.At, .int .i64 x.Count, .int .i64 x.Op, .int .i64 x.OpCount, .int .i64 x.Wait, .int .i64 x.FindR, .int .i64 x.FindHow, .int .i64 x.Last, p1, p2, .int .i64 x.Nav, p3, .int .i64 x.Own.At, p4, .int .i64 x.Hit, p5, .int .i64 x.Back.At]] := S11.joined T12
        clear S11 T12 lc lf ls
        obtain ⟨lc, lf, ls⟩ := S12.cells 4 rfl
        go_wp2_with ((with_reducible refine wp_setA (k := 11) (u := .agg #[.slice A1 n1 c1]) (#[.bool x.Vi, .int .i64 x.Mode, .slice A0 n0 c0, .int .i64 x.Line.At, .int .i64 x.Count, .int .i64 x.Op, .int .i64 x.OpCount, .int .i64 x.Wait, .int .i64 x.FindR, .int .i64 x.FindHow, .int .i64 x.Last, .slice A1 n1 c1, .slice none 0 0, .int .i64 0, .slice none 0 0, .int .i64 0, .slice none 0 0, .int .i64 0, .slice none 0 0, .int .i64 0]) S12 2 rfl ?_ ?_ ?_ ?_ ?_ ?_ ?_); go_must (exact rfl); go_must (exact rfl); go_must (kernel_rfl); go_must (kernel_rfl); go_must (exact Nat.le_of_ble_eq_true (by kernel_rfl)); go_must (kernel_rfl))
        intro w13 S13
        have S13 : St w w13 [own (.slice A1 n1 c1) (.sl 1 (x.Ring.Pieces.flatMap dPiece)), own (.slice A0 n0 c0) (Dv.ints x.Line.Text), row (w.heap.size + 1 + 1) 43 #[.bool x.Vi, .int .i64 x.Mode, .slice A0 n0 c0, .int .i64 x.Line.At, .int .i64 x.Count, .int .i64 x.Op, .int .i64 x.OpCount, .int .i64 x.Wait, .int .i64 x.FindR, .int .i64 x.FindHow, .int .i64 x.Last, .slice A1 n1 c1, .slice none 0 0, .int .i64 0, .slice none 0 0, .int .i64 0, .slice none 0 0, .int .i64 0, .slice none 0 0, .int .i64 0], row (w.heap.size + 1) 43 #[.bool false, .int .i64 0, .slice none 0 0, .int .i64 0, .int .i64 0, .int .i64 0, .int .i64 0, .int .i64 0, .int .i64 0, .int .i64 0, .int .i64 0, .slice none 0 0, .slice none 0 0, .int .i64 0, .slice none 0 0, .int .i64 0, .slice none 0 0, .int .i64 0, .slice none 0 0, .int .i64 0], row w.heap.size 32 #[.bool x.Vi, .int .i64 x.Mode, p0, .int .i64 x.Line.At, .int .i64 x.Count, .int .i64 x.Op, .int .i64 x.OpCount, .int .i64 x.Wait, .int .i64 x.FindR, .int .i64 x.FindHow, .int .i64 x.Last, p1, p2, .int .i64 x.Nav, p3, .int .i64 x.Own.At, p4, .int .i64 x.Hit, p5, .int .i64 x.Back.At]] := S13
        clear S12 lc lf ls
        obtain ⟨lc, lf, ls⟩ := S13.cells 4 rfl
        go_wp2_with fail
        refine Calls.mono (laws_toUndo x.Undo p2 _ (h2.ext S13.ext) (by omega)) ?_; rintro e w14 ⟨u2, rfl, T14⟩
        obtain ⟨A2, n2, c2, rfl⟩ := (T14.rd 0 rfl).isl
        have S14 : St w w14 [own (.slice A2 n2 c2) (.sl 2 (x.Undo.Lines.flatMap dLine)), own (.slice A1 n1 c1) (.sl 1 (x.Ring.Pieces.flatMap dPiece)), own (.slice A0 n0 c0) (Dv.ints x.Line.Text), row (w.heap.size + 1 + 1) 43 #[.bool x.Vi, .int .i64 x.Mode, .slice A0 n0 c0, .int .i64 x.Line.At, .int .i64 x.Count, .int .i64 x.Op, .int .i64 x.OpCount, .int .i64 x.Wait, .int .i64 x.FindR, .int .i64 x.FindHow, .int .i64 x.Last, .slice A1 n1 c1, .slice none 0 0, .int .i64 0, .slice none 0 0, .int .i64 0, .slice none 0 0, .int .i64 0, .slice none 0 0, .int .i64 0], row (w.heap.size + 1) 43 #[.bool false, .int .i64 0, .slice none 0 0, .int .i64 0, .int .i64 0, .int .i64 0, .int .i64 0, .int .i64 0, .int .i64 0, .int .i64 0, .int .i64 0, .slice none 0 0, .slice none 0 0, .int .i64 0, .slice none 0 0, .int .i64 0, .slice none 0 0, .int .i64 0, .slice none 0 0, .int .i64 0], row w.heap.size 32 #[.bool x.Vi, .int .i64 x.Mode, p0, .int .i64 x.Line.At, .int .i64 x.Count, .int .i64 x.Op, .int .i64 x.OpCount, .int .i64 x.Wait, .int .i64 x.FindR, .int .i64 x.FindHow, .int .i64 x.Last, p1, p2, .int .i64 x.Nav, p3, .int .i64 x.Own.At, p4, .int .i64 x.Hit, p5, .int .i64 x.Back.At]] := S13.joined T14
        clear S13 T14 lc lf ls
        obtain ⟨lc, lf, ls⟩ := S14.cells 5 rfl
        go_wp2_with ((with_reducible refine wp_setA (k := 12) (u := .agg #[.slice A2 n2 c2]) (#[.bool x.Vi, .int .i64 x.Mode, .slice A0 n0 c0, .int .i64 x.Line.At, .int .i64 x.Count, .int .i64 x.Op, .int .i64 x.OpCount, .int .i64 x.Wait, .int .i64 x.FindR, .int .i64 x.FindHow, .int .i64 x.Last, .slice A1 n1 c1, .slice A2 n2 c2, .int .i64 0, .slice none 0 0, .int .i64 0, .slice none 0 0, .int .i64 0, .slice none 0 0, .int .i64 0]) S14 3 rfl ?_ ?_ ?_ ?_ ?_ ?_ ?_); go_must (exact rfl); go_must (exact rfl); go_must (kernel_rfl); go_must (kernel_rfl); go_must (exact Nat.le_of_ble_eq_true (by kernel_rfl)); go_must (kernel_rfl))
        intro w15 S15
        have S15 : St w w15 [own (.slice A2 n2 c2) (.sl 2 (x.Undo.Lines.flatMap dLine)), own (.slice A1 n1 c1) (.sl 1 (x.Ring.Pieces.flatMap dPiece)), own (.slice A0 n0 c0) (Dv.ints x.Line.Text), row (w.heap.size + 1 + 1) 43 #[.bool x.Vi, .int .i64 x.Mode, .slice A0 n0 c0, .int .i64 x.Line.At, .int .i64 x.Count, .int .i64 x.Op, .int .i64 x.OpCount, .int .i64 x.Wait, .int .i64 x.FindR, .int .i64 x.FindHow, .int .i64 x.Last, .slice A1 n1 c1, .slice A2 n2 c2, .int .i64 0, .slice none 0 0, .int .i64 0, .slice none 0 0, .int .i64 0, .slice none 0 0, .int .i64 0], row (w.heap.size + 1) 43 #[.bool false, .int .i64 0, .slice none 0 0, .int .i64 0, .int .i64 0, .int .i64 0, .int .i64 0, .int .i64 0, .int .i64 0, .int .i64 0, .int .i64 0, .slice none 0 0, .slice none 0 0, .int .i64 0, .slice none 0 0, .int .i64 0, .slice none 0 0, .int .i64 0, .slice none 0 0, .int .i64 0], row w.heap.size 32 #[.bool x.Vi, .int .i64 x.Mode, p0, .int .i64 x.Line.At, .int .i64 x.Count, .int .i64 x.Op, .int .i64 x.OpCount, .int .i64 x.Wait, .int .i64 x.FindR, .int .i64 x.FindHow, .int .i64 x.Last, p1, p2, .int .i64 x.Nav, p3, .int .i64 x.Own.At, p4, .int .i64 x.Hit, p5, .int .i64 x.Back.At]] := S15
        clear S14 lc lf ls
        as_aux_lemma =>
          obtain ⟨lc, lf, ls⟩ := S15.cells 5 rfl
          go_wp2_with ((with_reducible refine wp_setA (k := 13) (u := .int .i64 x.Nav) (#[.bool x.Vi, .int .i64 x.Mode, .slice A0 n0 c0, .int .i64 x.Line.At, .int .i64 x.Count, .int .i64 x.Op, .int .i64 x.OpCount, .int .i64 x.Wait, .int .i64 x.FindR, .int .i64 x.FindHow, .int .i64 x.Last, .slice A1 n1 c1, .slice A2 n2 c2, .int .i64 x.Nav, .slice none 0 0, .int .i64 0, .slice none 0 0, .int .i64 0, .slice none 0 0, .int .i64 0]) S15 3 rfl ?_ ?_ ?_ ?_ ?_ ?_ ?_); go_must (exact rfl); go_must (exact rfl); go_must (kernel_rfl); go_must (kernel_rfl); go_must (exact Nat.le_of_ble_eq_true (by kernel_rfl)); go_must (kernel_rfl))
          intro w16 S16
          have S16 : St w w16 [own (.slice A2 n2 c2) (.sl 2 (x.Undo.Lines.flatMap dLine)), own (.slice A1 n1 c1) (.sl 1 (x.Ring.Pieces.flatMap dPiece)), own (.slice A0 n0 c0) (Dv.ints x.Line.Text), row (w.heap.size + 1 + 1) 43 #[.bool x.Vi, .int .i64 x.Mode, .slice A0 n0 c0, .int .i64 x.Line.At, .int .i64 x.Count, .int .i64 x.Op, .int .i64 x.OpCount, .int .i64 x.Wait, .int .i64 x.FindR, .int .i64 x.FindHow, .int .i64 x.Last, .slice A1 n1 c1, .slice A2 n2 c2, .int .i64 x.Nav, .slice none 0 0, .int .i64 0, .slice none 0 0, .int .i64 0, .slice none 0 0, .int .i64 0], row (w.heap.size + 1) 43 #[.bool false, .int .i64 0, .slice none 0 0, .int .i64 0, .int .i64 0, .int .i64 0, .int .i64 0, .int .i64 0, .int .i64 0, .int .i64 0, .int .i64 0, .slice none 0 0, .slice none 0 0, .int .i64 0, .slice none 0 0, .int .i64 0, .slice none 0 0, .int .i64 0, .slice none 0 0, .int .i64 0], row w.heap.size 32 #[.bool x.Vi, .int .i64 x.Mode, p0, .int .i64 x.Line.At, .int .i64 x.Count, .int .i64 x.Op, .int .i64 x.OpCount, .int .i64 x.Wait, .int .i64 x.FindR, .int .i64 x.FindHow, .int .i64 x.Last, p1, p2, .int .i64 x.Nav, p3, .int .i64 x.Own.At, p4, .int .i64 x.Hit, p5, .int .i64 x.Back.At]] := S16
          clear S15 lc lf ls
          obtain ⟨lc, lf, ls⟩ := S16.cells 5 rfl
          go_wp2_with fail
          refine Calls.mono (laws_toLine x.Own p3 _ (h3.ext S16.ext) (by omega)) ?_; rintro e w17 ⟨u3, rfl, T17⟩
          obtain ⟨A3, n3, c3, rfl⟩ := (T17.rd 0 rfl).isl
          have S17 : St w w17 [own (.slice A3 n3 c3) (Dv.ints x.Own.Text), own (.slice A2 n2 c2) (.sl 2 (x.Undo.Lines.flatMap dLine)), own (.slice A1 n1 c1) (.sl 1 (x.Ring.Pieces.flatMap dPiece)), own (.slice A0 n0 c0) (Dv.ints x.Line.Text), row (w.heap.size + 1 + 1) 43 #[.bool x.Vi, .int .i64 x.Mode, .slice A0 n0 c0, .int .i64 x.Line.At, .int .i64 x.Count, .int .i64 x.Op, .int .i64 x.OpCount, .int .i64 x.Wait, .int .i64 x.FindR, .int .i64 x.FindHow, .int .i64 x.Last, .slice A1 n1 c1, .slice A2 n2 c2, .int .i64 x.Nav, .slice none 0 0, .int .i64 0, .slice none 0 0, .int .i64 0, .slice none 0 0, .int .i64 0], row (w.heap.size + 1) 43 #[.bool false, .int .i64 0, .slice none 0 0, .int .i64 0, .int .i64 0, .int .i64 0, .int .i64 0, .int .i64 0, .int .i64 0, .int .i64 0, .int .i64 0, .slice none 0 0, .slice none 0 0, .int .i64 0, .slice none 0 0, .int .i64 0, .slice none 0 0, .int .i64 0, .slice none 0 0, .int .i64 0], row w.heap.size 32 #[.bool x.Vi, .int .i64 x.Mode, p0, .int .i64 x.Line.At, .int .i64 x.Count, .int .i64 x.Op, .int .i64 x.OpCount, .int .i64 x.Wait, .int .i64 x.FindR, .int .i64 x.FindHow, .int .i64 x.Last, p1, p2, .int .i64 x.Nav, p3, .int .i64 x.Own.At, p4, .int .i64 x.Hit, p5, .int .i64 x.Back.At]] := S16.joined T17
          clear S16 T17 lc lf ls
          obtain ⟨lc, lf, ls⟩ := S17.cells 6 rfl
          go_wp2_with ((with_reducible refine wp_setA (k := 14) (u := .agg #[.slice A3 n3 c3, .int .i64 x.Own.At]) (#[.bool x.Vi, .int .i64 x.Mode, .slice A0 n0 c0, .int .i64 x.Line.At, .int .i64 x.Count, .int .i64 x.Op, .int .i64 x.OpCount, .int .i64 x.Wait, .int .i64 x.FindR, .int .i64 x.FindHow, .int .i64 x.Last, .slice A1 n1 c1, .slice A2 n2 c2, .int .i64 x.Nav, .slice A3 n3 c3, .int .i64 x.Own.At, .slice none 0 0, .int .i64 0, .slice none 0 0, .int .i64 0]) S17 4 rfl ?_ ?_ ?_ ?_ ?_ ?_ ?_); go_must (exact rfl); go_must (exact rfl); go_must (kernel_rfl); go_must (kernel_rfl); go_must (exact Nat.le_of_ble_eq_true (by kernel_rfl)); go_must (kernel_rfl))
          intro w18 S18
          have S18 : St w w18 [own (.slice A3 n3 c3) (Dv.ints x.Own.Text), own (.slice A2 n2 c2) (.sl 2 (x.Undo.Lines.flatMap dLine)), own (.slice A1 n1 c1) (.sl 1 (x.Ring.Pieces.flatMap dPiece)), own (.slice A0 n0 c0) (Dv.ints x.Line.Text), row (w.heap.size + 1 + 1) 43 #[.bool x.Vi, .int .i64 x.Mode, .slice A0 n0 c0, .int .i64 x.Line.At, .int .i64 x.Count, .int .i64 x.Op, .int .i64 x.OpCount, .int .i64 x.Wait, .int .i64 x.FindR, .int .i64 x.FindHow, .int .i64 x.Last, .slice A1 n1 c1, .slice A2 n2 c2, .int .i64 x.Nav, .slice A3 n3 c3, .int .i64 x.Own.At, .slice none 0 0, .int .i64 0, .slice none 0 0, .int .i64 0], row (w.heap.size + 1) 43 #[.bool false, .int .i64 0, .slice none 0 0, .int .i64 0, .int .i64 0, .int .i64 0, .int .i64 0, .int .i64 0, .int .i64 0, .int .i64 0, .int .i64 0, .slice none 0 0, .slice none 0 0, .int .i64 0, .slice none 0 0, .int .i64 0, .slice none 0 0, .int .i64 0, .slice none 0 0, .int .i64 0], row w.heap.size 32 #[.bool x.Vi, .int .i64 x.Mode, p0, .int .i64 x.Line.At, .int .i64 x.Count, .int .i64 x.Op, .int .i64 x.OpCount, .int .i64 x.Wait, .int .i64 x.FindR, .int .i64 x.FindHow, .int .i64 x.Last, p1, p2, .int .i64 x.Nav, p3, .int .i64 x.Own.At, p4, .int .i64 x.Hit, p5, .int .i64 x.Back.At]] := S18
          clear S17 lc lf ls
          obtain ⟨lc, lf, ls⟩ := S18.cells 6 rfl
          go_wp2_with fail
          refine Calls.mono (laws_toIntS_d x.Query p4 _ (h4.ext S18.ext) (by omega)) ?_; rintro e w19 ⟨u4, rfl, T19⟩
          obtain ⟨A4, n4, c4, rfl⟩ := (T19.rd 0 rfl).isl
          have S19 : St w w19 [own (.slice A4 n4 c4) (Dv.ints x.Query), own (.slice A3 n3 c3) (Dv.ints x.Own.Text), own (.slice A2 n2 c2) (.sl 2 (x.Undo.Lines.flatMap dLine)), own (.slice A1 n1 c1) (.sl 1 (x.Ring.Pieces.flatMap dPiece)), own (.slice A0 n0 c0) (Dv.ints x.Line.Text), row (w.heap.size + 1 + 1) 43 #[.bool x.Vi, .int .i64 x.Mode, .slice A0 n0 c0, .int .i64 x.Line.At, .int .i64 x.Count, .int .i64 x.Op, .int .i64 x.OpCount, .int .i64 x.Wait, .int .i64 x.FindR, .int .i64 x.FindHow, .int .i64 x.Last, .slice A1 n1 c1, .slice A2 n2 c2, .int .i64 x.Nav, .slice A3 n3 c3, .int .i64 x.Own.At, .slice none 0 0, .int .i64 0, .slice none 0 0, .int .i64 0], row (w.heap.size + 1) 43 #[.bool false, .int .i64 0, .slice none 0 0, .int .i64 0, .int .i64 0, .int .i64 0, .int .i64 0, .int .i64 0, .int .i64 0, .int .i64 0, .int .i64 0, .slice none 0 0, .slice none 0 0, .int .i64 0, .slice none 0 0, .int .i64 0, .slice none 0 0, .int .i64 0, .slice none 0 0, .int .i64 0], row w.heap.size 32 #[.bool x.Vi, .int .i64 x.Mode, p0, .int .i64 x.Line.At, .int .i64 x.Count, .int .i64 x.Op, .int .i64 x.OpCount, .int .i64 x.Wait, .int .i64 x.FindR, .int .i64 x.FindHow, .int .i64 x.Last, p1, p2, .int .i64 x.Nav, p3, .int .i64 x.Own.At, p4, .int .i64 x.Hit, p5, .int .i64 x.Back.At]] := S18.joined T19
          clear S18 T19 lc lf ls
          obtain ⟨lc, lf, ls⟩ := S19.cells 7 rfl
          go_wp2_with ((with_reducible refine wp_setA (k := 16) (u := .slice A4 n4 c4) (#[.bool x.Vi, .int .i64 x.Mode, .slice A0 n0 c0, .int .i64 x.Line.At, .int .i64 x.Count, .int .i64 x.Op, .int .i64 x.OpCount, .int .i64 x.Wait, .int .i64 x.FindR, .int .i64 x.FindHow, .int .i64 x.Last, .slice A1 n1 c1, .slice A2 n2 c2, .int .i64 x.Nav, .slice A3 n3 c3, .int .i64 x.Own.At, .slice A4 n4 c4, .int .i64 0, .slice none 0 0, .int .i64 0]) S19 5 rfl ?_ ?_ ?_ ?_ ?_ ?_ ?_); go_must (exact rfl); go_must (exact rfl); go_must (kernel_rfl); go_must (kernel_rfl); go_must (exact Nat.le_of_ble_eq_true (by kernel_rfl)); go_must (kernel_rfl))
          intro w20 S20
          have S20 : St w w20 [own (.slice A4 n4 c4) (Dv.ints x.Query), own (.slice A3 n3 c3) (Dv.ints x.Own.Text), own (.slice A2 n2 c2) (.sl 2 (x.Undo.Lines.flatMap dLine)), own (.slice A1 n1 c1) (.sl 1 (x.Ring.Pieces.flatMap dPiece)), own (.slice A0 n0 c0) (Dv.ints x.Line.Text), row (w.heap.size + 1 + 1) 43 #[.bool x.Vi, .int .i64 x.Mode, .slice A0 n0 c0, .int .i64 x.Line.At, .int .i64 x.Count, .int .i64 x.Op, .int .i64 x.OpCount, .int .i64 x.Wait, .int .i64 x.FindR, .int .i64 x.FindHow, .int .i64 x.Last, .slice A1 n1 c1, .slice A2 n2 c2, .int .i64 x.Nav, .slice A3 n3 c3, .int .i64 x.Own.At, .slice A4 n4 c4, .int .i64 0, .slice none 0 0, .int .i64 0], row (w.heap.size + 1) 43 #[.bool false, .int .i64 0, .slice none 0 0, .int .i64 0, .int .i64 0, .int .i64 0, .int .i64 0, .int .i64 0, .int .i64 0, .int .i64 0, .int .i64 0, .slice none 0 0, .slice none 0 0, .int .i64 0, .slice none 0 0, .int .i64 0, .slice none 0 0, .int .i64 0, .slice none 0 0, .int .i64 0], row w.heap.size 32 #[.bool x.Vi, .int .i64 x.Mode, p0, .int .i64 x.Line.At, .int .i64 x.Count, .int .i64 x.Op, .int .i64 x.OpCount, .int .i64 x.Wait, .int .i64 x.FindR, .int .i64 x.FindHow, .int .i64 x.Last, p1, p2, .int .i64 x.Nav, p3, .int .i64 x.Own.At, p4, .int .i64 x.Hit, p5, .int .i64 x.Back.At]] := S20
          clear S19 lc lf ls
          as_aux_lemma =>
            obtain ⟨lc, lf, ls⟩ := S20.cells 7 rfl
            go_wp2_with ((with_reducible refine wp_setA (k := 17) (u := .int .i64 x.Hit) (#[.bool x.Vi, .int .i64 x.Mode, .slice A0 n0 c0, .int .i64 x.Line.At, .int .i64 x.Count, .int .i64 x.Op, .int .i64 x.OpCount, .int .i64 x.Wait, .int .i64 x.FindR, .int .i64 x.FindHow, .int .i64 x.Last, .slice A1 n1 c1, .slice A2 n2 c2, .int .i64 x.Nav, .slice A3 n3 c3, .int .i64 x.Own.At, .slice A4 n4 c4, .int .i64 x.Hit, .slice none 0 0, .int .i64 0]) S20 5 rfl ?_ ?_ ?_ ?_ ?_ ?_ ?_); go_must (exact rfl); go_must (exact rfl); go_must (kernel_rfl); go_must (kernel_rfl); go_must (exact Nat.le_of_ble_eq_true (by kernel_rfl)); go_must (kernel_rfl))
            intro w21 S21
            have S21 : St w w21 [own (.slice A4 n4 c4) (Dv.ints x.Query), own (.slice A3 n3 c3) (Dv.ints x.Own.Text), own (.slice A2 n2 c2) (.sl 2 (x.Undo.Lines.flatMap dLine)), own (.slice A1 n1 c1) (.sl 1 (x.Ring.Pieces.flatMap dPiece)), own (.slice A0 n0 c0) (Dv.ints x.Line.Text), row (w.heap.size + 1 + 1) 43 #[.bool x.Vi, .int .i64 x.Mode, .slice A0 n0 c0, .int .i64 x.Line.At, .int .i64 x.Count, .int .i64 x.Op, .int .i64 x.OpCount, .int .i64 x.Wait, .int .i64 x.FindR, .int .i64 x.FindHow, .int .i64 x.Last, .slice A1 n1 c1, .slice A2 n2 c2, .int .i64 x.Nav, .slice A3 n3 c3, .int .i64 x.Own.At, .slice A4 n4 c4, .int .i64 x.Hit, .slice none 0 0, .int .i64 0], row (w.heap.size + 1) 43 #[.bool false, .int .i64 0, .slice none 0 0, .int .i64 0, .int .i64 0, .int .i64 0, .int .i64 0, .int .i64 0, .int .i64 0, .int .i64 0, .int .i64 0, .slice none 0 0, .slice none 0 0, .int .i64 0, .slice none 0 0, .int .i64 0, .slice none 0 0, .int .i64 0, .slice none 0 0, .int .i64 0], row w.heap.size 32 #[.bool x.Vi, .int .i64 x.Mode, p0, .int .i64 x.Line.At, .int .i64 x.Count, .int .i64 x.Op, .int .i64 x.OpCount, .int .i64 x.Wait, .int .i64 x.FindR, .int .i64 x.FindHow, .int .i64 x.Last, p1, p2, .int .i64 x.Nav, p3, .int .i64 x.Own.At, p4, .int .i64 x.Hit, p5, .int .i64 x.Back.At]] := S21
            clear S20 lc lf ls
            obtain ⟨lc, lf, ls⟩ := S21.cells 7 rfl
            go_wp2_with fail
            refine Calls.mono (laws_toLine x.Back p5 _ (h5.ext S21.ext) (by omega)) ?_; rintro e w22 ⟨u5, rfl, T22⟩
            obtain ⟨A5, n5, c5, rfl⟩ := (T22.rd 0 rfl).isl
            have S22 : St w w22 [own (.slice A5 n5 c5) (Dv.ints x.Back.Text), own (.slice A4 n4 c4) (Dv.ints x.Query), own (.slice A3 n3 c3) (Dv.ints x.Own.Text), own (.slice A2 n2 c2) (.sl 2 (x.Undo.Lines.flatMap dLine)), own (.slice A1 n1 c1) (.sl 1 (x.Ring.Pieces.flatMap dPiece)), own (.slice A0 n0 c0) (Dv.ints x.Line.Text), row (w.heap.size + 1 + 1) 43 #[.bool x.Vi, .int .i64 x.Mode, .slice A0 n0 c0, .int .i64 x.Line.At, .int .i64 x.Count, .int .i64 x.Op, .int .i64 x.OpCount, .int .i64 x.Wait, .int .i64 x.FindR, .int .i64 x.FindHow, .int .i64 x.Last, .slice A1 n1 c1, .slice A2 n2 c2, .int .i64 x.Nav, .slice A3 n3 c3, .int .i64 x.Own.At, .slice A4 n4 c4, .int .i64 x.Hit, .slice none 0 0, .int .i64 0], row (w.heap.size + 1) 43 #[.bool false, .int .i64 0, .slice none 0 0, .int .i64 0, .int .i64 0, .int .i64 0, .int .i64 0, .int .i64 0, .int .i64 0, .int .i64 0, .int .i64 0, .slice none 0 0, .slice none 0 0, .int .i64 0, .slice none 0 0, .int .i64 0, .slice none 0 0, .int .i64 0, .slice none 0 0, .int .i64 0], row w.heap.size 32 #[.bool x.Vi, .int .i64 x.Mode, p0, .int .i64 x.Line.At, .int .i64 x.Count, .int .i64 x.Op, .int .i64 x.OpCount, .int .i64 x.Wait, .int .i64 x.FindR, .int .i64 x.FindHow, .int .i64 x.Last, p1, p2, .int .i64 x.Nav, p3, .int .i64 x.Own.At, p4, .int .i64 x.Hit, p5, .int .i64 x.Back.At]] := S21.joined T22
            clear S21 T22 lc lf ls
            obtain ⟨lc, lf, ls⟩ := S22.cells 8 rfl
            go_wp2_with ((with_reducible refine wp_setA (k := 18) (u := .agg #[.slice A5 n5 c5, .int .i64 x.Back.At]) (#[.bool x.Vi, .int .i64 x.Mode, .slice A0 n0 c0, .int .i64 x.Line.At, .int .i64 x.Count, .int .i64 x.Op, .int .i64 x.OpCount, .int .i64 x.Wait, .int .i64 x.FindR, .int .i64 x.FindHow, .int .i64 x.Last, .slice A1 n1 c1, .slice A2 n2 c2, .int .i64 x.Nav, .slice A3 n3 c3, .int .i64 x.Own.At, .slice A4 n4 c4, .int .i64 x.Hit, .slice A5 n5 c5, .int .i64 x.Back.At]) S22 6 rfl ?_ ?_ ?_ ?_ ?_ ?_ ?_); go_must (exact rfl); go_must (exact rfl); go_must (kernel_rfl); go_must (kernel_rfl); go_must (exact Nat.le_of_ble_eq_true (by kernel_rfl)); go_must (kernel_rfl))
            intro w23 S23
            have S23 : St w w23 [own (.slice A5 n5 c5) (Dv.ints x.Back.Text), own (.slice A4 n4 c4) (Dv.ints x.Query), own (.slice A3 n3 c3) (Dv.ints x.Own.Text), own (.slice A2 n2 c2) (.sl 2 (x.Undo.Lines.flatMap dLine)), own (.slice A1 n1 c1) (.sl 1 (x.Ring.Pieces.flatMap dPiece)), own (.slice A0 n0 c0) (Dv.ints x.Line.Text), row (w.heap.size + 1 + 1) 43 #[.bool x.Vi, .int .i64 x.Mode, .slice A0 n0 c0, .int .i64 x.Line.At, .int .i64 x.Count, .int .i64 x.Op, .int .i64 x.OpCount, .int .i64 x.Wait, .int .i64 x.FindR, .int .i64 x.FindHow, .int .i64 x.Last, .slice A1 n1 c1, .slice A2 n2 c2, .int .i64 x.Nav, .slice A3 n3 c3, .int .i64 x.Own.At, .slice A4 n4 c4, .int .i64 x.Hit, .slice A5 n5 c5, .int .i64 x.Back.At], row (w.heap.size + 1) 43 #[.bool false, .int .i64 0, .slice none 0 0, .int .i64 0, .int .i64 0, .int .i64 0, .int .i64 0, .int .i64 0, .int .i64 0, .int .i64 0, .int .i64 0, .slice none 0 0, .slice none 0 0, .int .i64 0, .slice none 0 0, .int .i64 0, .slice none 0 0, .int .i64 0, .slice none 0 0, .int .i64 0], row w.heap.size 32 #[.bool x.Vi, .int .i64 x.Mode, p0, .int .i64 x.Line.At, .int .i64 x.Count, .int .i64 x.Op, .int .i64 x.OpCount, .int .i64 x.Wait, .int .i64 x.FindR, .int .i64 x.FindHow, .int .i64 x.Last, p1, p2, .int .i64 x.Nav, p3, .int .i64 x.Own.At, p4, .int .i64 x.Hit, p5, .int .i64 x.Back.At]] := S23
            clear S22 lc lf ls
            obtain ⟨lc, lf, ls⟩ := S23.cells 6 rfl
            as_aux_lemma =>
              go_wp2_with (first | ((with_reducible refine wpList_load_row rfl 43 _ rfl (w.heap.size + 1 + 1) ?_ 43 #[.bool x.Vi, .int .i64 x.Mode, .slice A0 n0 c0, .int .i64 x.Line.At, .int .i64 x.Count, .int .i64 x.Op, .int .i64 x.OpCount, .int .i64 x.Wait, .int .i64 x.FindR, .int .i64 x.FindHow, .int .i64 x.Last, .slice A1 n1 c1, .slice A2 n2 c2, .int .i64 x.Nav, .slice A3 n3 c3, .int .i64 x.Own.At, .slice A4 n4 c4, .int .i64 x.Hit, .slice A5 n5 c5, .int .i64 x.Back.At] (0, 0) _ (S23.row 6 rfl) Try.underlying43 rfl ?_ ?_); go_must (exact rfl); go_must (kernel_rfl)) | ((with_reducible refine wp_setA (k := 0) (u := .agg #[.bool x.Vi, .int .i64 x.Mode, .slice A0 n0 c0, .int .i64 x.Line.At, .int .i64 x.Count, .int .i64 x.Op, .int .i64 x.OpCount, .int .i64 x.Wait, .int .i64 x.FindR, .int .i64 x.FindHow, .int .i64 x.Last, .slice A1 n1 c1, .slice A2 n2 c2, .int .i64 x.Nav, .slice A3 n3 c3, .int .i64 x.Own.At, .slice A4 n4 c4, .int .i64 x.Hit, .slice A5 n5 c5, .int .i64 x.Back.At]) (#[.bool x.Vi, .int .i64 x.Mode, .slice A0 n0 c0, .int .i64 x.Line.At, .int .i64 x.Count, .int .i64 x.Op, .int .i64 x.OpCount, .int .i64 x.Wait, .int .i64 x.FindR, .int .i64 x.FindHow, .int .i64 x.Last, .slice A1 n1 c1, .slice A2 n2 c2, .int .i64 x.Nav, .slice A3 n3 c3, .int .i64 x.Own.At, .slice A4 n4 c4, .int .i64 x.Hit, .slice A5 n5 c5, .int .i64 x.Back.At]) S23 7 rfl ?_ ?_ ?_ ?_ ?_ ?_ ?_); go_must (exact rfl); go_must (exact rfl); go_must (kernel_rfl); go_must (kernel_rfl); go_must (exact Nat.le_of_ble_eq_true (by kernel_rfl)); go_must (kernel_rfl)))
              intro w24 S24
              clear lc lf ls S23
              as_aux_lemma =>
                go_wp2_with fail
                refine bodyPost_ret (v := .agg #[.bool x.Vi, .int .i64 x.Mode, .slice A0 n0 c0, .int .i64 x.Line.At, .int .i64 x.Count, .int .i64 x.Op, .int .i64 x.OpCount, .int .i64 x.Wait, .int .i64 x.FindR, .int .i64 x.FindHow, .int .i64 x.Last, .slice A1 n1 c1, .slice A2 n2 c2, .int .i64 x.Nav, .slice A3 n3 c3, .int .i64 x.Own.At, .slice A4 n4 c4, .int .i64 x.Hit, .slice A5 n5 c5, .int .i64 x.Back.At]) (results_cell_row Try.results7 _ _ (w.heap.size + 1) 43 #[.bool x.Vi, .int .i64 x.Mode, .slice A0 n0 c0, .int .i64 x.Line.At, .int .i64 x.Count, .int .i64 x.Op, .int .i64 x.OpCount, .int .i64 x.Wait, .int .i64 x.FindR, .int .i64 x.FindHow, .int .i64 x.Last, .slice A1 n1 c1, .slice A2 n2 c2, .int .i64 x.Nav, .slice A3 n3 c3, .int .i64 x.Own.At, .slice A4 n4 c4, .int .i64 x.Hit, .slice A5 n5 c5, .int .i64 x.Back.At] (0, 0) _ rfl (S24.row 7 rfl) Try.underlying43 rfl (by kernel_rfl)) rfl ⟨_, _, _, _, _, _, rfl, ?_⟩
                exact St.keep (M := [own (.slice A5 n5 c5) (Dv.ints x.Back.Text), own (.slice A4 n4 c4) (Dv.ints x.Query), own (.slice A3 n3 c3) (Dv.ints x.Own.Text), own (.slice A2 n2 c2) (.sl 2 (x.Undo.Lines.flatMap dLine)), own (.slice A1 n1 c1) (.sl 1 (x.Ring.Pieces.flatMap dPiece)), own (.slice A0 n0 c0) (Dv.ints x.Line.Text)]) (L := _) S24
end Go.Proofs.Ytohjjhoobikioaa
