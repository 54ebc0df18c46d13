/-
  ScriptText, both.
-/
import Derived.Test.YtohjjhoobikioaaDoorScP
import Derived.Test.YtohjjhoobikioaaDoorCvM
import Derived.Test.YtohjjhoobikioaaDoorEv11
namespace Go.Proofs.YtohjjhoobikioaaDoor
open Go.RowKit

theorem sum_le {α : Type} (l : List α) (f : α → Nat) (k : Nat) : ((l.take k).map f).sum ≤ (l.map f).sum := by
  have e : l.map f = (l.take k).map f ++ (l.drop k).map f := by rw [← List.map_append, List.take_append_drop]
  rw [e, List.sum_append]; omega
theorem sc_beq {t : List UInt8} (h : t ≠ []) : ((⟨t.toArray⟩ : ByteArray) == ⟨#[]⟩) = false := by
  rw [show ((⟨t.toArray⟩ : ByteArray) == ⟨#[]⟩) = (t.toArray == #[]) from rfl]
  simpa using h
set_option maxRecDepth 100000 in
set_option maxHeartbeats 8000000 in
theorem impl_ScriptText (l : List SEvent) (v : Value) (w : World) (ht : Tab w) (h : Rd w v (.sl 4 (l.flatMap dEvent))) (hs : l.length + (l.map sizeEvent).sum ≤ 1048576) :
    Calls Tryd.prog 21 #[v] w fun e w' => e = .returned (.string ⟨(scriptText l []).toArray⟩) ∧ Ext w w' := by
  obtain ⟨A, c, rfl, hc, hcm, hA, hat⟩ := h.rows dEvent_len (by decide)
  obtain ⟨n, hn⟩ : ∃ n, n = l.length := ⟨_, rfl⟩
  have hsm := fun k (hk : k < l.length) => size_le l sizeEvent hk
  rw [← hn] at hc hat hs ⊢
  have HN := Lib.hid hn; clear hn
  have hcap : n ≤ 9223372036854775807 := by omega
  have HAT := Lib.hid hat; clear hat
  have HSM : Hid (∀ k (hk : k < l.length), sizeEvent (l[k]'hk) ≤ 1048576) := fun k hk => by have := hsm k hk; omega
  have HLS : Hid (40 * n + 11 * (l.map sizeEvent).sum ≤ 536870912) := by show _ ≤ _; omega
  clear hsm hs h
  have HT := Lib.hid ht; clear ht
  have S0 := St.nilB (St.refl w)
  go_enter Tryd.func21, Tryd.ntmps21
  go_wp2_with fail
  go_loopw [3, 9] (fun va vi wr => ∃ (k : Nat) (acc : List UInt8) (A : Option Addr) (m c : Nat), k ≤ n ∧ vi = .int .i64 k ∧ va = .slice A m c ∧ Hid (scriptText l [] = scriptText (l.drop k) acc) ∧ Hid (acc.length ≤ 41 * k + 11 * ((l.take k).map sizeEvent).sum) ∧ St w wr [ownB (.slice A m c) acc]) (fun _ vi _ => n - (intOf vi).toNat)
  case atStart => exact ⟨0, [], _, _, _, by omega, rfl, rfl, rfl, by show _ ≤ _; simp, S0⟩
  case round =>
    obtain ⟨k, acc, A', m, c', hk, rfl, rfl, HS, HL, S⟩ := hrel
    clear S0
    have hx := S.ext
    by_cases hlt : k < n
    · have hk2 : k < l.length := by rw [← HN.out]; exact hlt
      obtain ⟨b, o, rfl, hat2⟩ := HAT.out (by omega)
      have hg := List.getElem?_eq_getElem hk2
      have hy := HSM.out k hk2
      have HSTEP := Lib.hid (scriptText_step hk2 acc)
      have HSUM := Lib.hid (sum_take l sizeEvent hk2)
      have HSUM2 : Hid (((l.take (k + 1)).map sizeEvent).sum ≤ (l.map sizeEvent).sum) := sum_le l sizeEvent (k + 1)
      generalize l[k]'hk2 = e at *
      obtain ⟨u0, c0, d0⟩ := hat2 k e hg 0 _ rfl
      obtain ⟨u1, c1, d1⟩ := hat2 k e hg 1 _ rfl
      obtain ⟨u2, c2, d2⟩ := hat2 k e hg 2 _ rfl
      obtain ⟨u3, c3, d3⟩ := hat2 k e hg 3 _ rfl
      obtain rfl := d0.atv
      obtain rfl := d1.atv
      obtain rfl := d2.atv
      obtain ⟨Ae, ne, ce, rfl, re⟩ := d3.ints
      have c0 := hx.cell c0
      have c1 := hx.cell c1
      have c2 := hx.cell c2
      have c3 := hx.cell c3
      simp only [← Nat.add_assoc, Nat.add_zero] at c0 c1 c2 c3
      have hec : ne ≤ 1048576 := by
        rw [← re.len]
        have e1 : sizeEvent e = e.Cuts.length := rfl
        omega
      have HEL := Lib.hid (evText_len e)
      have HES : Hid (sizeEvent e = e.Cuts.length) := rfl
      clear hat2 hg hk2 hy d3
      have S1 := S.alloc #[.int .i64 0, .int .i64 0, .int .i64 0, .slice none 0 0] 27
      clear S
      have HSS := Lib.hid S1
      go_wp2_with ((with_reducible refine wp_setA (k := 0) (u := .agg #[.int .i64 e.Kind, .int .i64 e.A, .int .i64 e.B, .slice Ae ne ce]) (#[.int .i64 e.Kind, .int .i64 e.A, .int .i64 e.B, .slice Ae ne ce]) S1 0 rfl ?_ ?_ ?_ ?_ ?_ ?_ ?_); go_must (exact rfl); go_must (exact rfl); go_must (kernel_rfl); go_must (kernel_rfl); go_must (exact Nat.le_of_ble_eq_true (by kernel_rfl)); go_must (kernel_rfl))
      intro w2 S2
      have S2 : St w w2 [row wr.heap.size 27 #[.int .i64 e.Kind, .int .i64 e.A, .int .i64 e.B, .slice Ae ne ce], ownB (.slice A' m c') acc] := S2
      have re : RI w2 Ae ne ce e.Cuts := re.ext S2.ext
      clear S1 HSS c0 c1 c2 c3
      obtain ⟨lc, lf, ls⟩ := S2.cells 0 rfl
      have S3 := Lib.hid S2; clear S2
      go_wp2_with fail
      refine Calls.mono (impl_EventText e.Kind e.A e.B _ _ _ e.Cuts _ (HT.out.ext S3.out.ext) re hec) ?_; rintro e w4 ⟨rfl, x4⟩
      have S4 := S3.out.call x4
      clear S3 x4 lc lf ls
      obtain ⟨t, ht⟩ : ∃ t, t = eventText e.Kind e.A e.B e.Cuts := ⟨_, rfl⟩
      have hte : t = evText e := ht
      rw [← ht]
      rw [← hte] at HSTEP HEL
      clear ht hte
      by_cases h0 : t = []
      · subst h0
        go_wp2_with fail
        go_ret
        exact ⟨by rw [HS.out, HSTEP.out]; rfl, S4.ext⟩
      · have hb : ((⟨t.toArray⟩ : ByteArray) == ⟨#[]⟩) = false := by
          exact sc_beq h0
        have hb2 : t.isEmpty = false := by cases t with | nil => exact absurd rfl h0 | cons => rfl
        have HST : Hid (scriptText l [] = scriptText (l.drop (k + 1)) (acc ++ t ++ [10])) := by show _ = _; rw [HS.out, HSTEP.out, if_neg h0]
        have hlen : acc.length + t.length + 1 ≤ 1073741824 := by have := HL.out; have := HEL.out; have := HSUM.out; have := HSUM2.out; have := HLS.out; have := HES.out; omega
        have HL2 : Hid ((acc ++ t ++ [10]).length ≤ 41 * (k + 1) + 11 * ((l.take (k + 1)).map sizeEvent).sum) := by
          show _ ≤ _
          rw [HSUM.out, List.length_append, List.length_append, HES.out]
          have h1 := HL.out; have h2 := HEL.out
          rw [show ([10] : List UInt8).length = 1 from rfl]; omega
        clear h0
        go_wp2_with (at_builtin; refine wp_addStr (news := t) rfl _ _ rfl S4 1 rfl rfl rfl (by omega) ?_)
        intro v5 w5 S5
        have S5 : St w w5 [row wr.heap.size 27 #[.int .i64 e.Kind, .int .i64 e.A, .int .i64 e.B, .slice Ae ne ce], ownB v5 (acc ++ t)] := S5
        clear S4
        have HS5 := Lib.hid S5; clear S5
        go_wp2_with (at_builtin; refine wp_addB rfl _ _ rfl (HS5.out.skip _) 1 rfl rfl rfl (RB.lit _ _ [(10 : UInt8)] rfl (by simp)) (by rw [List.length_append]; omega) ?_)
        intro v6 w6 S6
        have S6 : St w w6 [row wr.heap.size 27 #[.int .i64 e.Kind, .int .i64 e.A, .int .i64 e.B, .slice Ae ne ce], ownB v6 (acc ++ t ++ [10])] := by rw [List.append_assoc]; exact S6
        clear HS5
        obtain ⟨A6, n6, c6, rfl⟩ := (S6.ownB 1 rfl).form'
        have HS6 := Lib.hid S6.drop; clear S6
        go_wp2_with fail
        go_roundw
        case rel => exact ⟨k + 1, acc ++ t ++ [10], _, _, _, by omega, by go_num, rfl, HST.out, HL2.out, HS6.out⟩
        case measure => simp [intOf]; omega
    · obtain rfl : k = n := by omega
      have HE : Hid (scriptText l [] = acc) := by show _ = _; rw [HS.out, scriptText_end (by rw [← HN.out]; omega)]
      have hr := (S.ownB 0 rfl).rb
      clear HS HL
      go_wp2_with ((with_reducible refine wp_toStr (A := A') (n := m) (c := c') (l := acc) ?_ hr ?_); go_must (exact rfl))
      go_ret
      exact ⟨by rw [HE.out]; rfl, S.ext⟩
set_option maxRecDepth 100000 in
set_option maxHeartbeats 8000000 in
theorem spec_ScriptText (l : List SEvent) (v : Value) (w : World) (h : Rd w v (.sl 4 (l.flatMap dEvent))) (hs : l.length + (l.map sizeEvent).sum ≤ 1048576) :
    Calls Tryd.prog 19 #[v] w fun e w' => e = .returned (.string ⟨(scriptText l []).toArray⟩) ∧ Ext w w' := by
  obtain ⟨A, c, rfl, hc, hcm, hA, hat⟩ := h.rows dEvent_len (by decide)
  obtain ⟨n, hn⟩ : ∃ n, n = l.length := ⟨_, rfl⟩
  have hsm := fun k (hk : k < l.length) => size_le l sizeEvent hk
  rw [← hn] at hc hat hs ⊢
  have HN := Lib.hid hn; clear hn
  have hcap : n ≤ 9223372036854775807 := by omega
  have HAT := Lib.hid hat; clear hat
  have HSM : Hid (∀ k (hk : k < l.length), sizeEvent (l[k]'hk) ≤ 1048576) := fun k hk => by have := hsm k hk; omega
  have HLS : Hid (40 * n + 11 * (l.map sizeEvent).sum ≤ 536870912) := by show _ ≤ _; omega
  clear hsm hs h
  have S0 := St.newB (St.refl w) (OwnB.empty (Nat.le_refl _)) ((Ext.refl w).alloc _)
  go_enter Tryd.func19, Tryd.ntmps19
  go_wp2_with fail
  go_loopw [3, 10] (fun va vi wr => ∃ (k : Nat) (acc : List UInt8) (A : Option Addr) (m c : Nat), k ≤ n ∧ vi = .int .i64 k ∧ va = .slice A m c ∧ Hid (scriptText l [] = scriptText (l.drop k) acc) ∧ Hid (acc.length ≤ 41 * k + 11 * ((l.take k).map sizeEvent).sum) ∧ St w wr [ownB (.slice A m c) acc]) (fun _ vi _ => n - (intOf vi).toNat)
  case atStart => exact ⟨0, [], _, _, _, by omega, rfl, rfl, rfl, by show _ ≤ _; simp, S0⟩
  case round =>
    obtain ⟨k, acc, A', m, c', hk, rfl, rfl, HS, HL, S⟩ := hrel
    clear S0
    have hx := S.ext
    by_cases hlt : k < n
    · have hk2 : k < l.length := by rw [← HN.out]; exact hlt
      obtain ⟨b, o, rfl, hat2⟩ := HAT.out (by omega)
      have hg := List.getElem?_eq_getElem hk2
      have hy := HSM.out k hk2
      have HSTEP := Lib.hid (scriptText_step hk2 acc)
      have HSUM := Lib.hid (sum_take l sizeEvent hk2)
      have HSUM2 : Hid (((l.take (k + 1)).map sizeEvent).sum ≤ (l.map sizeEvent).sum) := sum_le l sizeEvent (k + 1)
      generalize l[k]'hk2 = e at *
      obtain ⟨u0, c0, d0⟩ := hat2 k e hg 0 _ rfl
      obtain ⟨u1, c1, d1⟩ := hat2 k e hg 1 _ rfl
      obtain ⟨u2, c2, d2⟩ := hat2 k e hg 2 _ rfl
      obtain ⟨u3, c3, d3⟩ := hat2 k e hg 3 _ rfl
      obtain rfl := d0.atv
      obtain rfl := d1.atv
      obtain rfl := d2.atv
      obtain ⟨Ae, ne, ce, rfl, re⟩ := d3.ints
      have c0 := hx.cell c0
      have c1 := hx.cell c1
      have c2 := hx.cell c2
      have c3 := hx.cell c3
      simp only [← Nat.add_assoc, Nat.add_zero] at c0 c1 c2 c3
      have hec : ne ≤ 1048576 := by
        rw [← re.len]
        have e1 : sizeEvent e = e.Cuts.length := rfl
        omega
      have HEL := Lib.hid (evText_len e)
      have HES : Hid (sizeEvent e = e.Cuts.length) := rfl
      clear hat2 hg hk2 hy d3
      have S1 := S.alloc #[.int .i64 0, .int .i64 0, .int .i64 0, .slice none 0 0] 27
      clear S
      have HSS := Lib.hid S1
      go_wp2_with ((with_reducible refine wp_setA (k := 0) (u := .agg #[.int .i64 e.Kind, .int .i64 e.A, .int .i64 e.B, .slice Ae ne ce]) (#[.int .i64 e.Kind, .int .i64 e.A, .int .i64 e.B, .slice Ae ne ce]) S1 0 rfl ?_ ?_ ?_ ?_ ?_ ?_ ?_); go_must (exact rfl); go_must (exact rfl); go_must (kernel_rfl); go_must (kernel_rfl); go_must (exact Nat.le_of_ble_eq_true (by kernel_rfl)); go_must (kernel_rfl))
      intro w2 S2
      have S2 : St w w2 [row wr.heap.size 27 #[.int .i64 e.Kind, .int .i64 e.A, .int .i64 e.B, .slice Ae ne ce], ownB (.slice A' m c') acc] := S2
      have re : RI w2 Ae ne ce e.Cuts := re.ext S2.ext
      clear S1 HSS c0 c1 c2 c3
      obtain ⟨lc, lf, ls⟩ := S2.cells 0 rfl
      have S3 := Lib.hid S2; clear S2
      go_wp2_with fail
      refine Calls.mono (spec_EventText e.Kind e.A e.B _ _ _ e.Cuts _ re hec) ?_; rintro e w4 ⟨rfl, x4⟩
      have S4 := S3.out.call x4
      clear S3 x4 lc lf ls
      obtain ⟨t, ht⟩ : ∃ t, t = eventText e.Kind e.A e.B e.Cuts := ⟨_, rfl⟩
      have hte : t = evText e := ht
      rw [← ht]
      rw [← hte] at HSTEP HEL
      clear ht hte
      by_cases h0 : t = []
      · subst h0
        go_wp2_with fail
        go_ret
        exact ⟨by rw [HS.out, HSTEP.out]; rfl, S4.ext⟩
      · have hb : ((⟨t.toArray⟩ : ByteArray) == ⟨#[]⟩) = false := by
          exact sc_beq h0
        have hb2 : t.isEmpty = false := by cases t with | nil => exact absurd rfl h0 | cons => rfl
        have HST : Hid (scriptText l [] = scriptText (l.drop (k + 1)) (acc ++ t ++ [10])) := by show _ = _; rw [HS.out, HSTEP.out, if_neg h0]
        have hlen : acc.length + t.length + 1 ≤ 1073741824 := by have := HL.out; have := HEL.out; have := HSUM.out; have := HSUM2.out; have := HLS.out; have := HES.out; omega
        have HL2 : Hid ((acc ++ t ++ [10]).length ≤ 41 * (k + 1) + 11 * ((l.take (k + 1)).map sizeEvent).sum) := by
          show _ ≤ _
          rw [HSUM.out, List.length_append, List.length_append, HES.out]
          have h1 := HL.out; have h2 := HEL.out
          rw [show ([10] : List UInt8).length = 1 from rfl]; omega
        clear h0
        go_wp2_with (at_builtin; refine wp_addStr (news := t) rfl _ _ rfl S4 1 rfl rfl rfl (by omega) ?_)
        intro v5 w5 S5
        have S5 : St w w5 [row wr.heap.size 27 #[.int .i64 e.Kind, .int .i64 e.A, .int .i64 e.B, .slice Ae ne ce], ownB v5 (acc ++ t)] := S5
        clear S4
        have HS5 := Lib.hid S5; clear S5
        go_wp2_with (at_builtin; refine wp_addB rfl _ _ rfl (HS5.out.skip _) 1 rfl rfl rfl (RB.lit _ _ [(10 : UInt8)] rfl (by simp)) (by rw [List.length_append]; omega) ?_)
        intro v6 w6 S6
        have S6 : St w w6 [row wr.heap.size 27 #[.int .i64 e.Kind, .int .i64 e.A, .int .i64 e.B, .slice Ae ne ce], ownB v6 (acc ++ t ++ [10])] := by rw [List.append_assoc]; exact S6
        clear HS5
        obtain ⟨A6, n6, c6, rfl⟩ := (S6.ownB 1 rfl).form'
        have HS6 := Lib.hid S6.drop; clear S6
        go_wp2_with fail
        go_roundw
        case rel => exact ⟨k + 1, acc ++ t ++ [10], _, _, _, by omega, by go_num, rfl, HST.out, HL2.out, HS6.out⟩
        case measure => simp [intOf]; omega
    · obtain rfl : k = n := by omega
      have HE : Hid (scriptText l [] = acc) := by show _ = _; rw [HS.out, scriptText_end (by rw [← HN.out]; omega)]
      have hr := (S.ownB 0 rfl).rb
      clear HS HL
      go_wp2_with ((with_reducible refine wp_toStr (A := A') (n := m) (c := c') (l := acc) ?_ hr ?_); go_must (exact rfl))
      go_ret
      exact ⟨by rw [HE.out]; rfl, S.ext⟩
end Go.Proofs.YtohjjhoobikioaaDoor
