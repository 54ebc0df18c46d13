/- The statement of this claim is proved in the last of these texts: by an abstract evaluator that is sound, and by what the functions compute. -/
import Derived.Test.YtacnbajcignacaaPkShow9
import Derived.Test.YtacnbajcignacaaRows
import Derived.Test.YtacnbajcignacaaChecked
import Derived.ProofKit
import Derived.OpenShut
import Derived.Handy
import Derived.ShutString
import Derived.ChangeOld
import Derived.Deep.Slices
namespace Go.Proofs.Ytacnbajcignacaa
open Go.RowKit
set_option linter.unusedSimpArgs false
set_option linter.unusedVariables false
set_option maxHeartbeats 16000000
set_option maxRecDepth 100000
theorem bnd_ite {α β : Type} {c : Prop} [Decidable c] (a b : Option α) (f : α → Option β) : bnd (if c then a else b) f = if c then bnd a f else bnd b f := by split <;> rfl
theorem onQ_ite {c : Prop} [Decidable c] (a b : Option S) : onQ (if c then a else b) = if c then onQ a else onQ b := by split <;> rfl
theorem seqV_ite {c : Prop} [Decidable c] (a b : Option (Ex × Q)) (f : Q → Option (Ex × Q)) : seqV (if c then a else b) f = if c then seqV a f else seqV b f := by split <;> rfl
theorem E_ireach_if (w x y : Int) (c : Nat → Int) (W k Y : Nat) (hw : w = W) (hW : W ≤ 200) (hk : k ≤ 50000) (hY : Y ≤ 50000) (hc : ∀ i, k * W ≤ i → c i = 32) : M_i_sheet_reach [.ref 0 0, V.v (.int .i64 ((Y : Int)))] [[V.v (.int .i64 w), V.v (.int .i64 x), V.v (.int .i64 y), .own 0]] [intss (sheet c W k)] =
    if Y < k then some ⟨.tup [], [[V.v (.int .i64 w), V.v (.int .i64 x), V.v (.int .i64 y), .own 0]], [(0, intss (sheet c W (max k (Y + 1))))]⟩ else some ⟨.tup [], [[V.v (.int .i64 w), V.v (.int .i64 x), V.v (.int .i64 y), .own 1]], [(1, intss (sheet c W (max k (Y + 1))))]⟩ := by
  by_cases h : Y < k
  · rw [if_pos h, E_ireach_no w x y Y (sheet c W k) (by simp; omega), show max k (Y + 1) = k by omega]
  · rw [if_neg h, E_ireach w x y Y c W k (Y - k) hw hW (by omega) (by omega) hc, show max k (Y + 1) = k + (Y - k) + 1 by omega]
theorem E_iShow_no (e : TEd) (hsm : e.sm) (note ps : ByteArray) (ln lp : List Int) (rn rp : List UInt8) (hn : Reads note.data.toList ln rn) (hp : Reads ps.data.toList lp rp) (w h : Int) (hno : (gridNewOk w h && (e.ok && (fairB note ln rn && fairB ps lp rp))) = false) :
    M_iShow [V.v (.string note), V.v (.string ps), .agg [V.v (.bool e.Vi), V.v (.int .i64 e.Mode), .lst (some 0) (ints e.Line.Text), V.v (.int .i64 e.Line.At), V.v (.int .i64 e.Count), V.v (.int .i64 e.Op), V.v (.int .i64 e.OpCount), V.v (.int .i64 e.Wait), V.v (.int .i64 e.FindR), V.v (.int .i64 e.FindHow), V.v (.int .i64 e.Last), .lst (some 1) (dPieces e.Ring.Pieces), .lst (some 2) (dLines e.Undo.Lines), V.v (.int .i64 e.Nav), .lst (some 3) (ints e.Own.Text), V.v (.int .i64 e.Own.At), .lst (some 4) (ints e.Query), V.v (.int .i64 e.Hit), .lst (some 5) (ints e.Back.Text), V.v (.int .i64 e.Back.At)], V.v (.int .i64 w), V.v (.int .i64 h)] [] [] = some ⟨.tup [vGrid 0 0 (.own 0) 0 0 false, V.v (.bool false)], [], [(0, [])]⟩ := by
  unfold M_iShow
  have hE := E_iEdOk e.Vi e.Mode e.Line.Text e.Line.At e.Count e.Op e.OpCount e.Wait e.FindR e.FindHow e.Last e.Ring.Pieces e.Undo.Lines e.Nav e.Own.Text e.Own.At e.Query e.Hit e.Back.Text e.Back.At hsm.h1 hsm.h2 hsm.h3 hsm.h4 hsm.h5 hsm.h6
  have h0 : edOk e.Vi e.Mode e.Line.Text e.Line.At e.Count e.Op e.OpCount e.Wait e.FindR e.FindHow e.Last e.Ring.Pieces e.Undo.Lines e.Nav e.Own.Text e.Own.At e.Query e.Hit e.Back.Text e.Back.At = e.ok := rfl
  rw [h0] at hE
  have b1 := E_ishortRunes note ln rn hn
  have b2 := E_ishortRunes ps lp rp hp
  have hg : (∃ v : V, ∃ tr : List (List D), M_iGridNew [V.v (.int .i64 w), V.v (.int .i64 h)] [] [] = some ⟨.tup [.agg [V.v (.int .i64 w), V.v (.int .i64 h), .own 0, V.v (.int .i64 0), V.v (.int .i64 0), V.v (.bool false)], V.v (.bool true)], [], [(0, tr)]⟩ ∧ gridNewOk w h = true) ∨ (M_iGridNew [V.v (.int .i64 w), V.v (.int .i64 h)] [] [] = some ⟨.tup [.agg [V.v (.int .i64 0), V.v (.int .i64 0), .own 0, V.v (.int .i64 0), V.v (.int .i64 0), V.v (.bool false)], V.v (.bool false)], [], [(0, [])]⟩ ∧ gridNewOk w h = false) := by
    cases hg : gridNewOk w h
    · exact .inr ⟨E_iGridNew_no w h hg, rfl⟩
    · exact .inl ⟨.nil, _, E_iGridNew w h hg, rfl⟩
  generalize fairB note ln rn = fn at *
  generalize fairB ps lp rp = fp at *
  generalize e.ok = eo at *
  rcases hg with ⟨-, tr, g1, hg⟩ | ⟨g1, hg⟩
  · cases eo
    · simp [Try.func7, Try.f7, g1, hE, b1, b2, vGrid]
    cases fn
    · simp [Try.func7, Try.f7, g1, hE, b1, b2, vGrid]
    cases fp
    · simp [Try.func7, Try.f7, g1, hE, b1, b2, vGrid]
    rw [hg] at hno
    cases hno
  · cases eo
    · simp [Try.func7, Try.f7, g1, hE, b1, b2, vGrid]
    · simp [Try.func7, Try.f7, g1, hE, b1, b2, vGrid]
theorem wr (t : List Int) (W k : Nat) (hW : 2 ≤ W ∧ W ≤ 200) (c c' : Nat → Int) (x y : Int) (p' : Int × Int) (hx : 0 ≤ x ∧ x ≤ W) (hy : 0 ≤ y ∧ y ≤ 9000) (ht : t.all printable = true) (hl : t.length ≤ 1000) (hk : k ≤ 20000) (hc : ∀ i, k * W ≤ i → c i = 32) (hp : flow W t (x, y) = p') (hc' : (inks W t (c, (x, y))).1 = c') :
    ∃ k', k' ≤ max k 11000 ∧ (∀ i, k' * W ≤ i → c' i = 32) ∧ M_i_sheet_write [.ref 0 0, .lst (some 0) (ints t)] [[V.v (.int .i64 ((W : Int))), V.v (.int .i64 x), V.v (.int .i64 y), .own 0]] [intss (sheet c W k)] =
      if k' = k then some ⟨.tup [], [[V.v (.int .i64 ((W : Int))), V.v (.int .i64 p'.1), V.v (.int .i64 p'.2), .own 0]], [(0, intss (sheet c' W k'))]⟩ else some ⟨.tup [], [[V.v (.int .i64 ((W : Int))), V.v (.int .i64 p'.1), V.v (.int .i64 p'.2), .own 1]], [(1, intss (sheet c' W k'))]⟩ := by
  have h := E_iwrite t W k hW c x y hx (by omega) ht (by omega) hk hc
  have hb := inks_blank hW.1 (p := (x, y)) hx hy.1 ht hc t.length (Nat.le_refl _)
  rw [List.take_length] at hb
  have hf := flow_in (w := W) (by omega) t (x, y) hx
  rw [hp] at h hf
  rw [hc'] at h hb
  refine ⟨rise W (x, y) t k, ?_, hb, h⟩
  unfold rise
  split
  · omega
  · rw [hp]; simp only at hf; omega
theorem flow_nil (w : Int) (p : Int × Int) : flow w [] p = p := rfl
theorem inks_nil (w : Nat) (s : (Nat → Int) × (Int × Int)) : inks w [] s = s := rfl
theorem E_iShow (e : TEd) (hsm : e.sm) (note ps : ByteArray) (ln lp : List Int) (hn : Reads note.data.toList ln []) (hp : Reads ps.data.toList lp []) (W H : Nat) (hg : gridNewOk W H = true) (hok : e.ok = true) (f1 : fairB note ln [] = true) (f2 : fairB ps lp [] = true) (A : Nat) (hA : e.Line.At = A) :
    M_iShow [V.v (.string note), V.v (.string ps), .agg [V.v (.bool e.Vi), V.v (.int .i64 e.Mode), .lst (some 0) (ints e.Line.Text), V.v (.int .i64 e.Line.At), V.v (.int .i64 e.Count), V.v (.int .i64 e.Op), V.v (.int .i64 e.OpCount), V.v (.int .i64 e.Wait), V.v (.int .i64 e.FindR), V.v (.int .i64 e.FindHow), V.v (.int .i64 e.Last), .lst (some 1) (dPieces e.Ring.Pieces), .lst (some 2) (dLines e.Undo.Lines), V.v (.int .i64 e.Nav), .lst (some 3) (ints e.Own.Text), V.v (.int .i64 e.Own.At), .lst (some 4) (ints e.Query), V.v (.int .i64 e.Hit), .lst (some 5) (ints e.Back.Text), V.v (.int .i64 e.Back.At)], V.v (.int .i64 ((W : Int))), V.v (.int .i64 ((H : Int)))] [] [] = some ⟨.tup [vGrid W H (.own 0) (shCur W ln (promptRunes e.Mode e.Query lp) (shown (e.Line.Text.take A)) (shown (e.Line.Text.drop A))).1 ((shCur W ln (promptRunes e.Mode e.Query lp) (shown (e.Line.Text.take A)) (shown (e.Line.Text.drop A))).2 - shTop W H ln (promptRunes e.Mode e.Query lp) (shown (e.Line.Text.take A)) (shown (e.Line.Text.drop A))) false, V.v (.bool true)], [], [(0, ints (win (shC W ln (promptRunes e.Mode e.Query lp) (shown (e.Line.Text.take A)) (shown (e.Line.Text.drop A))) W (shTop W H ln (promptRunes e.Mode e.Query lp) (shown (e.Line.Text.take A)) (shown (e.Line.Text.drop A))) H))]⟩ := by
  unfold M_iShow
  have hE := E_iEdOk e.Vi e.Mode e.Line.Text e.Line.At e.Count e.Op e.OpCount e.Wait e.FindR e.FindHow e.Last e.Ring.Pieces e.Undo.Lines e.Nav e.Own.Text e.Own.At e.Query e.Hit e.Back.Text e.Back.At hsm.h1 hsm.h2 hsm.h3 hsm.h4 hsm.h5 hsm.h6
  have h0 : edOk e.Vi e.Mode e.Line.Text e.Line.At e.Count e.Op e.OpCount e.Wait e.FindR e.FindHow e.Last e.Ring.Pieces e.Undo.Lines e.Nav e.Own.Text e.Own.At e.Query e.Hit e.Back.Text e.Back.At = true := hok
  rw [h0] at hE
  have b1 := E_ishortRunes note ln [] hn
  have b2 := E_ishortRunes ps lp [] hp
  rw [f1] at b1
  rw [f2] at b2
  have g1 := E_iGridNew W H hg
  obtain ⟨⟨w1, w2⟩, ⟨h1, h2⟩, -, -⟩ := gridNewOk_of hg
  obtain ⟨n1, -, n3, n4⟩ := fair_of f1
  obtain ⟨p1, -, p3, p4⟩ := fair_of f2
  obtain ⟨ok1, ok2, ok3⟩ := TEd.ok_of hok
  obtain ⟨t1, t2, A', hA', t3⟩ := lineOk_of ok1
  obtain rfl : A' = A := by rw [hA] at hA'; omega
  have R2 := E_iRunesOf _ _ [] (reads_prompt ok3 hp) (prompt_size ok2 p1)
  have P1 := E_iPromptOf e ps (by omega)
  rw [hA] at hE P1
  have q1 := prompt_len (e := e) (l := lp) ok2 p3
  have q2 := prompt_print (e := e) ok3 p4
  have c1 := shown_len (e.Line.Text.take A')
  have c2 := shown_len (e.Line.Text.drop A')
  have d1 : (e.Line.Text.take A').length ≤ 400 := by simp; omega
  have d2 : (e.Line.Text.drop A').length ≤ 400 := by simp; omega
  have S1 := E_iShown (e.Line.Text.take A') (by omega)
  have S2 := E_iShown (e.Line.Text.drop A') (by omega)
  have s1 := shown_print (e.Line.Text.take A')
  have s2 := shown_print (e.Line.Text.drop A')
  have hfirst : (A' = e.Line.Text.length ∧ shown (e.Line.Text.drop A') = []) ∨ ∃ r x, A' < e.Line.Text.length ∧ (e.Line.Text.drop A').take 1 = [x] ∧ M_iShown [.lst (some 0) (ints [x])] [] [] = some ⟨.own 0, [], [(0, ints (r :: (shown1 x).tail))]⟩ ∧ (shown (e.Line.Text.drop A')).head? = some r := by
    by_cases ha : A' = e.Line.Text.length
    · exact .inl ⟨ha, by rw [ha, List.drop_length]; rfl⟩
    · have ha' : A' < e.Line.Text.length := by omega
      have hty := List.all_eq_true.1 t2 e.Line.Text[A'] (List.getElem_mem ha')
      have hne : ∃ r l, shown1 e.Line.Text[A'] = r :: l := by
        unfold shown1
        split
        · exact ⟨_, _, rfl⟩
        split
        · exact ⟨_, _, rfl⟩
        split
        · exact ⟨_, _, rfl⟩
        · rename_i h9 h10 hpr
          simp [typed, h9, h10, hpr] at hty
      obtain ⟨r, l, hrl⟩ := hne
      refine .inr ⟨r, e.Line.Text[A'], ha', ?_, ?_, ?_⟩
      · rw [List.drop_eq_getElem_cons ha']; rfl
      · rw [E_iShown _ (by simp)]
        simp [shown, hrl]
      · rw [List.drop_eq_getElem_cons ha', shown, List.flatMap_cons, hrl]; rfl
  generalize hP : promptRunes e.Mode e.Query lp = pr at *
  generalize hB : shown (e.Line.Text.take A') = bf at *
  generalize hR : shown (e.Line.Text.drop A') = rs at *
  have hb := shB (W := W) (by omega) (n := ln) (p := pr) (bf := bf) (rs := rs) n3 q1 (by omega) s2
  have hW2 : 2 ≤ W ∧ W ≤ 200 := by omega
  have z0 : (0 : Int) ≤ 0 ∧ (0 : Int) ≤ W := by omega
  have hc0 : ∀ i, 0 * W ≤ i → (fun _ : Nat => (32 : Int)) i = 32 := fun _ _ => rfl
  obtain ⟨B1, B2, B3, B4, B5, B6, B7⟩ := hb
  have hf0 := flow_in (w := W) (by omega) ln (0, 0) z0
  obtain ⟨K1, k1b, hc1, W1⟩ := wr ln W 0 hW2 (fun _ => 32) _ 0 0 _ z0 (by omega) n4 (by omega) (by omega) hc0 rfl rfl
  have W1 : M_i_sheet_write [.ref 0 0, .lst (some 0) (ints ln)] [[V.v (.int .i64 ((W : Int))), V.v (.int .i64 0), V.v (.int .i64 0), .own 0]] [[]] = _ := W1
  obtain ⟨K2, k2b, hc2, W2⟩ := wr pr W K1 hW2 _ _ 0 (shY0 W ln) (shP1 W ln pr) z0 (by omega) q2 (by omega) (by omega) hc1 rfl rfl
  obtain ⟨K3, k3b, hc3, W3⟩ := wr bf W K2 hW2 _ _ (shP1 W ln pr).1 (shP1 W ln pr).2 (shP2 W ln pr bf) B2 (by omega) s1 (by omega) (by omega) hc2 rfl rfl
  have hC : (inks W rs ((inks W bf ((inks W pr ((inks W ln (fun _ => 32, (0, 0))).1, (0, shY0 W ln))).1, ((shP1 W ln pr).1, (shP1 W ln pr).2))).1, ((shP2 W ln pr bf).1, (shP2 W ln pr bf).2))).1 = shC W ln pr bf rs := by
    unfold shC
    rw [inks_append]
    have := inks_flow (w := W) bf ((inks W pr ((inks W ln (fun _ => 32, (0, 0))).1, (0, shY0 W ln))).1, shP1 W ln pr) s1
    show (inks W rs (_, shP2 W ln pr bf)).1 = _
    unfold shP2
    rw [← this]
  obtain ⟨K4, k4b, hc4, W4⟩ := wr rs W K3 hW2 _ (shC W ln pr bf rs) (shP2 W ln pr bf).1 (shP2 W ln pr bf).2 _ B4 (by omega) s2 (by omega) (by omega) hc3 rfl hC
  obtain ⟨T, hT⟩ : ∃ T, T = shTop W H ln pr bf rs := ⟨_, rfl⟩
  have hT2 : T ≤ 922 := by rw [hT]; unfold shTop; omega
  have W5 := E_ireach_if W (flow W rs (shP2 W ln pr bf)).1 (flow W rs (shP2 W ln pr bf)).2 (shC W ln pr bf rs) W K4 (T + H - 1) rfl hW2.2 (by omega) (by omega) hc4
  have hT3 : T = ((shCur W ln pr bf rs).2 - H + 1).toNat := hT
  rw [← hT]
  have y0e : shY0 W ln = if ln.isEmpty then 0 else (flow W ln (0, 0)).2 + 1 := rfl
  have cure : shCur W ln pr bf rs = plc W (shP2 W ln pr bf) (rs.head?.getD 32) := rfl
  clear hT hC
  generalize shC W ln pr bf rs = C4 at *
  generalize (inks W bf ((inks W pr ((inks W ln (fun _ => 32, (0, 0))).1, (0, shY0 W ln))).1, ((shP1 W ln pr).1, (shP1 W ln pr).2))).1 = C3 at *
  generalize (inks W pr ((inks W ln (fun _ => 32, (0, 0))).1, (0, shY0 W ln))).1 = C2 at *
  generalize (inks W ln (fun _ => 32, (0, 0))).1 = C1 at *
  generalize shCur W ln pr bf rs = cur at *
  generalize flow W rs (shP2 W ln pr bf) = fe at *
  generalize shP2 W ln pr bf = P2 at *
  generalize shP1 W ln pr = P1' at *
  generalize shY0 W ln = y0 at *
  have hflnil : ln = [] → flow W ln (0, 0) = (0, 0) := fun h => by rw [h]; rfl
  generalize flow W ln (0, 0) = fl at *
  have k4 : (0 : Int) ≤ (A' : Int) := by omega
  have k5 : (A' : Int) ≤ (e.Line.Text.length : Int) := by omega
  have k6 : List.take (e.Line.Text.length - A') (List.drop A' e.Line.Text) = List.drop A' e.Line.Text := List.take_of_length_le (by simp)
  obtain ⟨K5, hK5⟩ : ∃ K5, K5 = max K4 (T + H - 1 + 1) := ⟨_, rfl⟩
  rw [← hK5, show ((T + H - 1 : Nat) : Int) = (T : Int) + (H : Int) - 1 by omega] at W5
  have m1 := w64 (cur.2 - H) (by omega)
  have m2 := w64 (cur.2 - H + 1) (by omega)
  have m3 : max (cur.2 - (H : Int) + 1) 0 = (T : Int) := by omega
  have m4 := w64 ((T : Int) + H) (by omega)
  have m5 := w64 ((T : Int) + H - 1) (by omega)
  have m6 := w64 (cur.2 - T) (by omega)
  have m7 : (0 : Int) ≤ (T : Int) := by omega
  have m8 : (T : Int) ≤ (T : Int) + H := by omega
  have m9 : (T : Int) + H ≤ (K5 : Int) := by omega
  have m10 : ((T : Int) + H).toNat = T + H := by omega
  have m11 : T + H - T = H := by omega
  have m12 : ∀ w : Int, w64 0 (by omega) = w64 0 (by omega) := fun _ => rfl
  clear m12
  have hws : (A' = e.Line.Text.length ∧ rs = [] ∧ ((P2.1 = W ∧ cur = (0, P2.2 + 1)) ∨ (¬ P2.1 = W ∧ cur = P2))) ∨ ∃ r x, A' < e.Line.Text.length ∧ (e.Line.Text.drop A').take 1 = [x] ∧ M_iShown [.lst (some 0) (ints [x])] [] [] = some ⟨.own 0, [], [(0, ints (r :: (shown1 x).tail))]⟩ ∧ M_iplaced [V.v (.int .i64 r), V.v (.int .i64 ((W : Int))), V.v (.int .i64 P2.1), V.v (.int .i64 P2.2)] [] [] = some ⟨.tup [V.v (.int .i64 cur.1), V.v (.int .i64 cur.2)], [], []⟩ := by
    rcases hfirst with ⟨ha, hr⟩ | ⟨r, x, x1, x2, x3, x4⟩
    · refine .inl ⟨ha, hr, ?_⟩
      rw [hr] at cure
      have h32 : wd 32 = 1 := by decide
      simp only [List.head?_nil, Option.getD_none, plc, h32] at cure
      by_cases hx : P2.1 = W
      · exact .inl ⟨hx, by rw [cure, if_pos (by omega)]⟩
      · exact .inr ⟨hx, by rw [cure, if_neg (by omega)]⟩
    · refine .inr ⟨r, x, x1, x2, x3, ?_⟩
      rw [x4] at cure
      simp only [Option.getD_some] at cure
      have := E_iplaced r W P2.1 P2.2 (by omega) (by omega)
      rw [this]
      rw [show ((P2.1, P2.2) : Int × Int) = P2 from rfl, ← cure]
  have wl := w64 ((A' : Int) + 1) (by omega)
  have m12 : min H (K5 - T) = H := by omega
  obtain ⟨RR, hRR⟩ : ∃ RR, RR = List.take H (List.drop T (sheet C4 W K5)) := ⟨_, rfl⟩
  have hRl : RR.length = H := by rw [hRR]; simp; omega
  have hRa : ∀ j (hj : j < RR.length), RR[j] = rowAt C4 W (T + j) := fun j hj => by
    subst hRR
    simp [sheet]
  have hwin : ∀ j, win C4 W T (j + 1) = win C4 W T j ++ rowAt C4 W (T + j) := fun j => by
    rw [← win_rows, ← win_rows, List.range_succ, List.map_append, List.flatten_append]; simp
  have hw0 : win C4 W T 0 = [] := by simp [win]
  by_cases hln : ln = []
  · subst hln
    simp at y0e
    subst y0e
    simp only [flow_nil] at hf0
    obtain ⟨W0, hW0⟩ : ∃ f : Int × Int, f = fl := ⟨_, rfl⟩
    have hfl : fl = (0, 0) := hflnil rfl
    subst hfl
    simp only at W1
    simp [Try.func7, Try.f7, g1, hE, b1, b2, R2, P1, S1, vGrid, hA, W1, bnd_ite, onQ_ite, seqV_ite]
    simp [W2, bnd_ite, onQ_ite, seqV_ite, k4, k5, S1]
    rcases hws with ⟨v1, v2, ⟨v3, v4⟩ | ⟨v3, v4⟩⟩ | ⟨r, x, v1, v2, v3, v4⟩
    · have v5 : ¬ ((A' : Int) < (e.Line.Text.length : Int)) := by omega
      have v6 := w64 (P2.2 + 1) (by omega)
      have v7 : cur.1 = 0 := by rw [v4]
      have v8 : cur.2 = P2.2 + 1 := by rw [v4]
      rw [v2] at W4 S2
      rw [v3] at W4
      rw [← v8] at v6
      clear v4 hfirst cure
      have v9 : A' ≤ e.Line.Text.length := by omega
      simp [W3, bnd_ite, onQ_ite, seqV_ite, v3, v5, v6, k4, k5, k6, S2, ← v8]
      simp [W4, bnd_ite, onQ_ite, seqV_ite, m1, m2, m3, m4, m5]
      simp [W5, bnd_ite, onQ_ite, seqV_ite, m4, m7, m8, m9, m10, m11, m12]
      rw [← hRR]
      rw [loopV_go (fun j => .on ⟨[(154, V.v (.int .i64 ((j : Int)))), (153, V.v (.int .i64 ((H : Int)))), (152, .fz (intss RR)), (23, V.v (.int .i64 ((T : Int)))), (22, V.v (.int .i64 cur.2)), (21, V.v (.int .i64 0)), (12, .ref 12 0), (10, .ref 10 0)], [(12, [V.v (.int .i64 ((W : Int))), V.v (.int .i64 ((H : Int))), .own 2000001000, V.v (.int .i64 0), V.v (.int .i64 0), V.v (.bool false)]), (10, [V.v (.int .i64 0), V.v (.int .i64 0), .own 2000001001, V.v (.int .i64 0), V.v (.int .i64 0), V.v (.bool false)])], [(2000001001, []), (2000001000, ints (win C4 W T j))], [(2000000000, intss (sheet C4 W K5))]⟩) H ?_ ?_]
      · simp [m6, v7]
      · simp [hw0, ints_nil]
      · intro j hj
        have hj2 : j < RR.length := by omega
        have hwj := w64 (j + 1) (by omega)
        have hjW : j * W + W ≤ 40000 := by
          have := Nat.mul_le_mul (show j + 1 ≤ 200 by omega) hW2.2
          rw [Nat.add_mul] at this; omega
        simp [hj, hj2, hwj, hRa, hRl]
        simp (disch := omega) only [grd_pos]
        simp [hwj, hwin]
    · have v5 : ¬ ((A' : Int) < (e.Line.Text.length : Int)) := by omega
      rw [v2] at W4 S2
      subst v4
      clear hfirst cure
      simp [W3, bnd_ite, onQ_ite, seqV_ite, v3, v5, k4, k5, k6, S2]
      simp [W4, bnd_ite, onQ_ite, seqV_ite, m1, m2, m3, m4, m5]
      simp [W5, bnd_ite, onQ_ite, seqV_ite, m4, m7, m8, m9, m10, m11, m12]
      rw [← hRR]
      rw [loopV_go (fun j => .on ⟨[(154, V.v (.int .i64 ((j : Int)))), (153, V.v (.int .i64 ((H : Int)))), (152, .fz (intss RR)), (23, V.v (.int .i64 ((T : Int)))), (22, V.v (.int .i64 cur.2)), (21, V.v (.int .i64 cur.1)), (12, .ref 12 0), (10, .ref 10 0)], [(12, [V.v (.int .i64 ((W : Int))), V.v (.int .i64 ((H : Int))), .own 2000001000, V.v (.int .i64 0), V.v (.int .i64 0), V.v (.bool false)]), (10, [V.v (.int .i64 0), V.v (.int .i64 0), .own 2000001001, V.v (.int .i64 0), V.v (.int .i64 0), V.v (.bool false)])], [(2000001001, []), (2000001000, ints (win C4 W T j))], [(2000000000, intss (sheet C4 W K5))]⟩) H ?_ ?_]
      · simp [m6]
      · simp [hw0, ints_nil]
      · intro j hj
        have hj2 : j < RR.length := by omega
        have hwj := w64 (j + 1) (by omega)
        have hjW : j * W + W ≤ 40000 := by
          have := Nat.mul_le_mul (show j + 1 ≤ 200 by omega) hW2.2
          rw [Nat.add_mul] at this; omega
        simp [hj, hj2, hwj, hRa, hRl]
        simp (disch := omega) only [grd_pos]
        simp [hwj, hwin]
    · have v5 : (A' : Int) < (e.Line.Text.length : Int) := by omega
      have v6 : (A' : Int) + 1 ≤ (e.Line.Text.length : Int) := by omega
      have v7 : (A' : Int) ≤ (A' : Int) + 1 := by omega
      have v8 : ((A' : Int) + 1).toNat = A' + 1 := by omega
      have v9 : A' + 1 - A' = 1 := by omega
      simp [W3, bnd_ite, onQ_ite, seqV_ite, v1, v2, v3, v4, v5, v6, v7, v8, v9, wl, k4, k5, k6, S2]
      simp [W4, bnd_ite, onQ_ite, seqV_ite, m1, m2, m3, m4, m5]
      simp [W5, bnd_ite, onQ_ite, seqV_ite, m4, m7, m8, m9, m10, m11, m12]
      rw [← hRR]
      rw [loopV_go (fun j => .on ⟨[(154, V.v (.int .i64 ((j : Int)))), (153, V.v (.int .i64 ((H : Int)))), (152, .fz (intss RR)), (23, V.v (.int .i64 ((T : Int)))), (22, V.v (.int .i64 cur.2)), (21, V.v (.int .i64 cur.1)), (12, .ref 12 0), (10, .ref 10 0)], [(12, [V.v (.int .i64 ((W : Int))), V.v (.int .i64 ((H : Int))), .own 2000001000, V.v (.int .i64 0), V.v (.int .i64 0), V.v (.bool false)]), (10, [V.v (.int .i64 0), V.v (.int .i64 0), .own 2000001001, V.v (.int .i64 0), V.v (.int .i64 0), V.v (.bool false)])], [(2000001001, []), (2000001000, ints (win C4 W T j))], [(2000000000, intss (sheet C4 W K5))]⟩) H ?_ ?_]
      · simp [m6]
      · simp [hw0, ints_nil]
      · intro j hj
        have hj2 : j < RR.length := by omega
        have hwj := w64 (j + 1) (by omega)
        have hjW : j * W + W ≤ 40000 := by
          have := Nat.mul_le_mul (show j + 1 ≤ 200 by omega) hW2.2
          rw [Nat.add_mul] at this; omega
        simp [hj, hj2, hwj, hRa, hRl]
        simp (disch := omega) only [grd_pos]
        simp [hwj, hwin]
  · have hl0 : 0 < ln.length := List.length_pos_iff.2 hln
    have hem : ln.isEmpty = false := by simpa using hln
    rw [hem] at y0e
    simp only [if_false, Bool.false_eq_true] at y0e
    have wf := w64 (fl.2 + 1) (by omega)
    rw [← y0e] at wf
    simp [Try.func7, Try.f7, g1, hE, b1, b2, R2, P1, S1, vGrid, hA, W1, bnd_ite, onQ_ite, seqV_ite, hl0, hln, ← y0e, wf]
    simp [W2, bnd_ite, onQ_ite, seqV_ite, k4, k5, S1]
    rcases hws with ⟨v1, v2, ⟨v3, v4⟩ | ⟨v3, v4⟩⟩ | ⟨r, x, v1, v2, v3, v4⟩
    · have v5 : ¬ ((A' : Int) < (e.Line.Text.length : Int)) := by omega
      have v6 := w64 (P2.2 + 1) (by omega)
      have v7 : cur.1 = 0 := by rw [v4]
      have v8 : cur.2 = P2.2 + 1 := by rw [v4]
      rw [v2] at W4 S2
      rw [v3] at W4
      rw [← v8] at v6
      clear v4 hfirst cure
      have v9 : A' ≤ e.Line.Text.length := by omega
      simp [W3, bnd_ite, onQ_ite, seqV_ite, v3, v5, v6, k4, k5, k6, S2, ← v8]
      simp [W4, bnd_ite, onQ_ite, seqV_ite, m1, m2, m3, m4, m5]
      simp [W5, bnd_ite, onQ_ite, seqV_ite, m4, m7, m8, m9, m10, m11, m12]
      rw [← hRR]
      rw [loopV_go (fun j => .on ⟨[(154, V.v (.int .i64 ((j : Int)))), (153, V.v (.int .i64 ((H : Int)))), (152, .fz (intss RR)), (23, V.v (.int .i64 ((T : Int)))), (22, V.v (.int .i64 cur.2)), (21, V.v (.int .i64 0)), (12, .ref 12 0), (10, .ref 10 0)], [(12, [V.v (.int .i64 ((W : Int))), V.v (.int .i64 ((H : Int))), .own 2000001000, V.v (.int .i64 0), V.v (.int .i64 0), V.v (.bool false)]), (10, [V.v (.int .i64 0), V.v (.int .i64 0), .own 2000001001, V.v (.int .i64 0), V.v (.int .i64 0), V.v (.bool false)])], [(2000001001, []), (2000001000, ints (win C4 W T j))], [(2000000000, intss (sheet C4 W K5))]⟩) H ?_ ?_]
      · simp [m6, v7]
      · simp [hw0, ints_nil]
      · intro j hj
        have hj2 : j < RR.length := by omega
        have hwj := w64 (j + 1) (by omega)
        have hjW : j * W + W ≤ 40000 := by
          have := Nat.mul_le_mul (show j + 1 ≤ 200 by omega) hW2.2
          rw [Nat.add_mul] at this; omega
        simp [hj, hj2, hwj, hRa, hRl]
        simp (disch := omega) only [grd_pos]
        simp [hwj, hwin]
    · have v5 : ¬ ((A' : Int) < (e.Line.Text.length : Int)) := by omega
      rw [v2] at W4 S2
      subst v4
      clear hfirst cure
      simp [W3, bnd_ite, onQ_ite, seqV_ite, v3, v5, k4, k5, k6, S2]
      simp [W4, bnd_ite, onQ_ite, seqV_ite, m1, m2, m3, m4, m5]
      simp [W5, bnd_ite, onQ_ite, seqV_ite, m4, m7, m8, m9, m10, m11, m12]
      rw [← hRR]
      rw [loopV_go (fun j => .on ⟨[(154, V.v (.int .i64 ((j : Int)))), (153, V.v (.int .i64 ((H : Int)))), (152, .fz (intss RR)), (23, V.v (.int .i64 ((T : Int)))), (22, V.v (.int .i64 cur.2)), (21, V.v (.int .i64 cur.1)), (12, .ref 12 0), (10, .ref 10 0)], [(12, [V.v (.int .i64 ((W : Int))), V.v (.int .i64 ((H : Int))), .own 2000001000, V.v (.int .i64 0), V.v (.int .i64 0), V.v (.bool false)]), (10, [V.v (.int .i64 0), V.v (.int .i64 0), .own 2000001001, V.v (.int .i64 0), V.v (.int .i64 0), V.v (.bool false)])], [(2000001001, []), (2000001000, ints (win C4 W T j))], [(2000000000, intss (sheet C4 W K5))]⟩) H ?_ ?_]
      · simp [m6]
      · simp [hw0, ints_nil]
      · intro j hj
        have hj2 : j < RR.length := by omega
        have hwj := w64 (j + 1) (by omega)
        have hjW : j * W + W ≤ 40000 := by
          have := Nat.mul_le_mul (show j + 1 ≤ 200 by omega) hW2.2
          rw [Nat.add_mul] at this; omega
        simp [hj, hj2, hwj, hRa, hRl]
        simp (disch := omega) only [grd_pos]
        simp [hwj, hwin]
    · have v5 : (A' : Int) < (e.Line.Text.length : Int) := by omega
      have v6 : (A' : Int) + 1 ≤ (e.Line.Text.length : Int) := by omega
      have v7 : (A' : Int) ≤ (A' : Int) + 1 := by omega
      have v8 : ((A' : Int) + 1).toNat = A' + 1 := by omega
      have v9 : A' + 1 - A' = 1 := by omega
      simp [W3, bnd_ite, onQ_ite, seqV_ite, v1, v2, v3, v4, v5, v6, v7, v8, v9, wl, k4, k5, k6, S2]
      simp [W4, bnd_ite, onQ_ite, seqV_ite, m1, m2, m3, m4, m5]
      simp [W5, bnd_ite, onQ_ite, seqV_ite, m4, m7, m8, m9, m10, m11, m12]
      rw [← hRR]
      rw [loopV_go (fun j => .on ⟨[(154, V.v (.int .i64 ((j : Int)))), (153, V.v (.int .i64 ((H : Int)))), (152, .fz (intss RR)), (23, V.v (.int .i64 ((T : Int)))), (22, V.v (.int .i64 cur.2)), (21, V.v (.int .i64 cur.1)), (12, .ref 12 0), (10, .ref 10 0)], [(12, [V.v (.int .i64 ((W : Int))), V.v (.int .i64 ((H : Int))), .own 2000001000, V.v (.int .i64 0), V.v (.int .i64 0), V.v (.bool false)]), (10, [V.v (.int .i64 0), V.v (.int .i64 0), .own 2000001001, V.v (.int .i64 0), V.v (.int .i64 0), V.v (.bool false)])], [(2000001001, []), (2000001000, ints (win C4 W T j))], [(2000000000, intss (sheet C4 W K5))]⟩) H ?_ ?_]
      · simp [m6]
      · simp [hw0, ints_nil]
      · intro j hj
        have hj2 : j < RR.length := by omega
        have hwj := w64 (j + 1) (by omega)
        have hjW : j * W + W ≤ 40000 := by
          have := Nat.mul_le_mul (show j + 1 ≤ 200 by omega) hW2.2
          rw [Nat.add_mul] at this; omega
        simp [hj, hj2, hwj, hRa, hRl]
        simp (disch := omega) only [grd_pos]
        simp [hwj, hwin]
end Go.Proofs.Ytacnbajcignacaa
namespace Go.Proofs.Ytacnbajcignacaa
open Go.RowKit
set_option linter.unusedSimpArgs false
set_option linter.unusedVariables false
set_option maxHeartbeats 4000000
set_option maxRecDepth 100000
theorem E_leqIntS (r : List (List D)) (k : is_ints r = true) (s : smL r = true) : M_leqIntS [.lst (some 0) r, .lst (some 1) r] [] [] = some ⟨V.v (.bool true), [], []⟩ := by
  obtain ⟨l, rfl⟩ := of_is_ints k
  have hb : l.length ≤ 1000000000 := by simpa using smL_len s
  unfold M_leqIntS
  simp [Try.func57, Try.f57]
  rw [loopV_go (fun k => .on ⟨[(5, V.v (.int .i64 ((k : Int)))), (1, .lst (some 1) (ints l)), (0, .lst (some 0) (ints l))], [], [], []⟩) l.length ?_ ?_]
  · simp
  · simp
  · intro j hj
    have hw := w64 (j + 1) (by omega)
    have hs := smL_at s (ints_get hj)
    simp at hs
    simp [hj, hw, hs, ints_get hj]
theorem E_leqGrid (v0 : Int) (v1 : Int) (r2 : List (List D)) (v3 : Int) (v4 : Int) (v5 : Bool) (k2 : is_ints r2 = true) (s2 : smL r2 = true) : M_leqGrid [.agg [V.v (.int .i64 v0), V.v (.int .i64 v1), .lst (some 0) r2, V.v (.int .i64 v3), V.v (.int .i64 v4), V.v (.bool v5)], .agg [V.v (.int .i64 v0), V.v (.int .i64 v1), .lst (some 1) r2, V.v (.int .i64 v3), V.v (.int .i64 v4), V.v (.bool v5)]] [] [] = some ⟨V.v (.bool true), [], []⟩ := by
  unfold M_leqGrid
  simp [Try.func13, Try.f13, E_leqIntS, k2, s2]
theorem E_leqLine (r0 : List (List D)) (v1 : Int) (k0 : is_ints r0 = true) (s0 : smL r0 = true) : M_leqLine [.agg [.lst (some 0) r0, V.v (.int .i64 v1)], .agg [.lst (some 1) r0, V.v (.int .i64 v1)]] [] [] = some ⟨V.v (.bool true), [], []⟩ := by
  unfold M_leqLine
  simp [Try.func58, Try.f58, E_leqIntS, k0, s0]
theorem E_leqPiece (r0 : List (List D)) (k0 : is_ints r0 = true) (s0 : smL r0 = true) : M_leqPiece [.agg [.lst (some 0) r0], .agg [.lst (some 1) r0]] [] [] = some ⟨V.v (.bool true), [], []⟩ := by
  unfold M_leqPiece
  simp [Try.func166, Try.f166, E_leqIntS, k0, s0]
theorem E_leqPieceS (r : List (List D)) (k : is_dPieces r = true) (s : smL r = true) : M_leqPieceS [.lst (some 0) r, .lst (some 1) r] [] [] = some ⟨V.v (.bool true), [], []⟩ := by
  obtain ⟨l, rfl⟩ := of_is_dPieces k
  have hb : l.length ≤ 1000000000 := by simpa using smL_len s
  unfold M_leqPieceS
  simp [Try.func120, Try.f120]
  rw [loopV_go (fun k => .on ⟨[(5, V.v (.int .i64 ((k : Int)))), (1, .lst (some 1) (dPieces l)), (0, .lst (some 0) (dPieces l))], [], [], []⟩) l.length ?_ ?_]
  · simp
  · simp
  · intro j hj
    have hw := w64 (j + 1) (by omega)
    have hs := smL_at s (dPieces_get hj)
    simp at hs
    simp [hj, hw, hs, dPieces_get hj, E_leqPiece]
theorem E_leqRing (r0 : List (List D)) (k0 : is_dPieces r0 = true) (s0 : smL r0 = true) : M_leqRing [.agg [.lst (some 0) r0], .agg [.lst (some 1) r0]] [] [] = some ⟨V.v (.bool true), [], []⟩ := by
  unfold M_leqRing
  simp [Try.func59, Try.f59, E_leqPieceS, k0, s0]
theorem E_leqLineS (r : List (List D)) (k : is_dLines r = true) (s : smL r = true) : M_leqLineS [.lst (some 0) r, .lst (some 1) r] [] [] = some ⟨V.v (.bool true), [], []⟩ := by
  obtain ⟨l, rfl⟩ := of_is_dLines k
  have hb : l.length ≤ 1000000000 := by simpa using smL_len s
  unfold M_leqLineS
  simp [Try.func121, Try.f121]
  rw [loopV_go (fun k => .on ⟨[(5, V.v (.int .i64 ((k : Int)))), (1, .lst (some 1) (dLines l)), (0, .lst (some 0) (dLines l))], [], [], []⟩) l.length ?_ ?_]
  · simp
  · simp
  · intro j hj
    have hw := w64 (j + 1) (by omega)
    have hs := smL_at s (dLines_get hj)
    simp at hs
    simp [hj, hw, hs, dLines_get hj, E_leqLine]
theorem E_leqUndo (r0 : List (List D)) (k0 : is_dLines r0 = true) (s0 : smL r0 = true) : M_leqUndo [.agg [.lst (some 0) r0], .agg [.lst (some 1) r0]] [] [] = some ⟨V.v (.bool true), [], []⟩ := by
  unfold M_leqUndo
  simp [Try.func60, Try.f60, E_leqLineS, k0, s0]
theorem E_leqEd (v0 : Bool) (v1 : Int) (r2 : List (List D)) (v3 : Int) (v4 : Int) (v5 : Int) (v6 : Int) (v7 : Int) (v8 : Int) (v9 : Int) (v10 : Int) (r11 : List (List D)) (r12 : List (List D)) (v13 : Int) (r14 : List (List D)) (v15 : Int) (r16 : List (List D)) (v17 : Int) (r18 : List (List D)) (v19 : Int) (k2 : is_ints r2 = true) (s2 : smL r2 = true) (k11 : is_dPieces r11 = true) (s11 : smL r11 = true) (k12 : is_dLines r12 = true) (s12 : smL r12 = true) (k14 : is_ints r14 = true) (s14 : smL r14 = true) (k16 : is_ints r16 = true) (s16 : smL r16 = true) (k18 : is_ints r18 = true) (s18 : smL r18 = true) : M_leqEd [.agg [V.v (.bool v0), V.v (.int .i64 v1), .lst (some 0) r2, V.v (.int .i64 v3), V.v (.int .i64 v4), V.v (.int .i64 v5), V.v (.int .i64 v6), V.v (.int .i64 v7), V.v (.int .i64 v8), V.v (.int .i64 v9), V.v (.int .i64 v10), .lst (some 1) r11, .lst (some 2) r12, V.v (.int .i64 v13), .lst (some 3) r14, V.v (.int .i64 v15), .lst (some 4) r16, V.v (.int .i64 v17), .lst (some 5) r18, V.v (.int .i64 v19)], .agg [V.v (.bool v0), V.v (.int .i64 v1), .lst (some 6) r2, V.v (.int .i64 v3), V.v (.int .i64 v4), V.v (.int .i64 v5), V.v (.int .i64 v6), V.v (.int .i64 v7), V.v (.int .i64 v8), V.v (.int .i64 v9), V.v (.int .i64 v10), .lst (some 7) r11, .lst (some 8) r12, V.v (.int .i64 v13), .lst (some 9) r14, V.v (.int .i64 v15), .lst (some 10) r16, V.v (.int .i64 v17), .lst (some 11) r18, V.v (.int .i64 v19)]] [] [] = some ⟨V.v (.bool true), [], []⟩ := by
  unfold M_leqEd
  simp [Try.func14, Try.f14, E_leqLine, E_leqRing, E_leqUndo, E_leqIntS, k2, s2, k11, s11, k12, s12, k14, s14, k16, s16, k18, s18]
end Go.Proofs.Ytacnbajcignacaa
namespace Go.Proofs.Ytacnbajcignacaa
open Go.RowKit
set_option linter.unusedSimpArgs false
set_option linter.unusedVariables false
set_option maxHeartbeats 4000000
set_option maxRecDepth 100000
theorem E0_lmarkIntS (k : Int) : M_lmarkIntS [.own 0, V.v (.int .i64 k)] [] [[]] = some ⟨V.v (.int .i64 k), [], [(0, [])]⟩ := by
  unfold M_lmarkIntS
  simp [Try.func64, Try.f64]
  rw [loopV_unf]
  simp
theorem E0_lmarkLine (v1 : Int) (k : Int) : M_lmarkLine [.agg [.own 0, V.v (.int .i64 v1)], V.v (.int .i64 k)] [] [[]] = some ⟨V.v (.int .i64 k), [], [(0, [])]⟩ := by
  unfold M_lmarkLine
  simp [Try.func61, Try.f61, E0_lmarkIntS]
theorem E0_lmarkPieceS (k : Int) : M_lmarkPieceS [.own 0, V.v (.int .i64 k)] [] [[]] = some ⟨V.v (.int .i64 k), [], [(0, [])]⟩ := by
  unfold M_lmarkPieceS
  simp [Try.func122, Try.f122]
  rw [loopV_unf]
  simp
theorem E0_lmarkRing  (k : Int) : M_lmarkRing [.agg [.own 0], V.v (.int .i64 k)] [] [[]] = some ⟨V.v (.int .i64 k), [], [(0, [])]⟩ := by
  unfold M_lmarkRing
  simp [Try.func62, Try.f62, E0_lmarkPieceS]
theorem E0_lmarkLineS (k : Int) : M_lmarkLineS [.own 0, V.v (.int .i64 k)] [] [[]] = some ⟨V.v (.int .i64 k), [], [(0, [])]⟩ := by
  unfold M_lmarkLineS
  simp [Try.func123, Try.f123]
  rw [loopV_unf]
  simp
theorem E0_lmarkUndo  (k : Int) : M_lmarkUndo [.agg [.own 0], V.v (.int .i64 k)] [] [[]] = some ⟨V.v (.int .i64 k), [], [(0, [])]⟩ := by
  unfold M_lmarkUndo
  simp [Try.func63, Try.f63, E0_lmarkLineS]
theorem E0_lmarkEd (v0 : Bool) (v1 : Int) (v3 : Int) (v4 : Int) (v5 : Int) (v6 : Int) (v7 : Int) (v8 : Int) (v9 : Int) (v10 : Int) (v13 : Int) (v15 : Int) (v17 : Int) (v19 : Int) (k : Int) : M_lmarkEd [.agg [V.v (.bool v0), V.v (.int .i64 v1), .own 0, V.v (.int .i64 v3), V.v (.int .i64 v4), V.v (.int .i64 v5), V.v (.int .i64 v6), V.v (.int .i64 v7), V.v (.int .i64 v8), V.v (.int .i64 v9), V.v (.int .i64 v10), .own 1, .own 2, V.v (.int .i64 v13), .own 3, V.v (.int .i64 v15), .own 4, V.v (.int .i64 v17), .own 5, V.v (.int .i64 v19)], V.v (.int .i64 k)] [] [[], [], [], [], [], []] = some ⟨V.v (.int .i64 k), [], [(0, []), (1, []), (2, []), (3, []), (4, []), (5, [])]⟩ := by
  unfold M_lmarkEd
  simp [Try.func15, Try.f15, E0_lmarkLine, E0_lmarkRing, E0_lmarkUndo, E0_lmarkIntS]
theorem E0_lmarkGrid (v0 : Int) (v1 : Int) (v3 : Int) (v4 : Int) (v5 : Bool) (k : Int) : M_lmarkGrid [.agg [V.v (.int .i64 v0), V.v (.int .i64 v1), .own 0, V.v (.int .i64 v3), V.v (.int .i64 v4), V.v (.bool v5)], V.v (.int .i64 k)] [] [[]] = some ⟨V.v (.int .i64 k), [], [(0, [])]⟩ := by
  unfold M_lmarkGrid
  simp [Try.func16, Try.f16, E0_lmarkIntS]
theorem E0_lheldIntS (k : Int) : M_lheldIntS [.lst (some 0) [], V.v (.int .i64 k)] [] [] = some ⟨V.v (.int .i64 k), [], []⟩ := by
  unfold M_lheldIntS
  simp [Try.func65, Try.f65]
  rw [loopV_unf]
  simp
theorem E0_lheldGrid (v0 : Int) (v1 : Int) (v3 : Int) (v4 : Int) (v5 : Bool) (k : Int) (hk : ¬ k < 0) : M_lheldGrid [.agg [V.v (.int .i64 v0), V.v (.int .i64 v1), .lst (some 0) [], V.v (.int .i64 v3), V.v (.int .i64 v4), V.v (.bool v5)], V.v (.int .i64 k)] [] [] = some ⟨V.v (.int .i64 k), [], []⟩ := by
  unfold M_lheldGrid
  simp [Try.func17, Try.f17, E0_lheldIntS, hk]
end Go.Proofs.Ytacnbajcignacaa
namespace Go.Proofs.Ytacnbajcignacaa
open Go.RowKit
set_option linter.unusedSimpArgs false
set_option linter.unusedVariables false
set_option maxHeartbeats 8000000
set_option maxRecDepth 100000
def mkInts (k : Int) (n : Nat) : List Int := (List.range n).map fun i : Nat => k + (i : Int)
@[simp] theorem mkInts_len (k : Int) (n : Nat) : (mkInts k n).length = n := by simp [mkInts]
theorem mkInts_at {k : Int} {n j : Nat} (h : j < (mkInts k n).length) : (mkInts k n)[j] = k + j := by simp [mkInts]
theorem mkInts_snoc (k : Int) (n : Nat) : mkInts k (n + 1) = mkInts k n ++ [k + n] := by simp [mkInts, List.range_succ]
theorem set_step {α : Type} (p : List α) (l : List α) (x : α) (h : p.length < l.length) : (p ++ l.drop p.length).set p.length x = (p ++ [x]) ++ l.drop (p.length + 1) := by
  rw [List.set_append_right _ _ (Nat.le_refl _), Nat.sub_self, List.drop_eq_getElem_cons h, List.set_cons_zero, List.append_assoc]; rfl
theorem ints_set0 (l : List Int) (j : Nat) (x : Int) : (ints l).set j [D.a (.int .i64 x)] = ints (l.set j x) := by
  show (l.map _).set j _ = (l.set j x).map _
  rw [List.map_set]; rfl
def mkUpto (k : Int) (l : List Int) (j : Nat) : List Int := mkInts k j ++ l.drop j
theorem mkUpto_zero (k : Int) (l : List Int) : mkUpto k l 0 = l := by simp [mkUpto, mkInts]
theorem mkUpto_end (k : Int) (l : List Int) : mkUpto k l l.length = mkInts k l.length := by simp [mkUpto]
theorem mkUpto_len {k : Int} {l : List Int} {j : Nat} (h : j ≤ l.length) : (mkUpto k l j).length = l.length := by simp [mkUpto]; omega
theorem mkUpto_set {k : Int} {l : List Int} {j : Nat} (h : j < l.length) : (ints (mkUpto k l j)).set j [D.a (.int .i64 (k + j))] = ints (mkUpto k l (j + 1)) := by
  rw [ints_set0]
  have := set_step (mkInts k j) l (k + j) (by simpa using h)
  rw [mkInts_len] at this
  unfold mkUpto
  rw [this, ← mkInts_snoc]
theorem E_lmarkIntS (l : List Int) (k : Int) (hl : l.length ≤ 1000000000) (hk : 0 ≤ k ∧ k ≤ 9000000000000000000) : M_lmarkIntS [.own 0, V.v (.int .i64 k)] [] [ints l] = some ⟨V.v (.int .i64 (k + l.length)), [], [(0, ints (mkInts k l.length))]⟩ := by
  unfold M_lmarkIntS
  simp [Try.func64, Try.f64]
  rw [loopV_go (fun j => .on ⟨[(5, V.v (.int .i64 ((j : Int)))), (1, V.v (.int .i64 (k + j))), (0, .own 1000000000)], [], [(1000000000, ints (mkUpto k l j))], []⟩) l.length ?_ ?_]
  · simp [mkUpto_len (k := k) (Nat.le_refl _), mkUpto_end]
  · simp [mkUpto_zero]
  · intro j hj
    have hw := w64 (j + 1) (by omega)
    have hw2 := w64 (k + j + 1) (by omega)
    have hw3 := w64 (k + j) (by omega)
    have hlen := mkUpto_len (k := k) (l := l) (j := j) (by omega)
    simp [hj, hw, hw2, hw3, hlen, mkUpto_set hj]
    omega
theorem E_lheldIntS (n : Nat) (k : Int) (hl : n ≤ 1000000000) (hk : 0 ≤ k ∧ k ≤ 9000000000000000000) : M_lheldIntS [.lst (some 0) (ints (mkInts k n)), V.v (.int .i64 k)] [] [] = some ⟨V.v (.int .i64 (k + n)), [], []⟩ := by
  unfold M_lheldIntS
  simp [Try.func65, Try.f65]
  rw [loopV_go (fun j => .on ⟨[(5, V.v (.int .i64 ((j : Int)))), (1, V.v (.int .i64 (k + j))), (0, .lst (some 0) (ints (mkInts k n)))], [], [], []⟩) n ?_ ?_]
  · simp
  · simp
  · intro j hj
    have hw := w64 (j + 1) (by omega)
    have hw2 := w64 (k + j + 1) (by omega)
    have hw3 := w64 (k + j) (by omega)
    simp [hj, hw, hw2, hw3, mkInts_at]
    omega
theorem E_lmarkGrid (w h x y : Int) (b : Bool) (l : List Int) (k : Int) (hl : l.length ≤ 1000000000) (hk : 0 ≤ k ∧ k ≤ 9000000000000000000) : M_lmarkGrid [.agg [V.v (.int .i64 w), V.v (.int .i64 h), .own 0, V.v (.int .i64 x), V.v (.int .i64 y), V.v (.bool b)], V.v (.int .i64 k)] [] [ints l] = some ⟨V.v (.int .i64 (k + l.length)), [], [(0, ints (mkInts k l.length))]⟩ := by
  unfold M_lmarkGrid
  simp [Try.func16, Try.f16, E_lmarkIntS l k hl hk]
theorem E_lheldGrid (w h x y : Int) (b : Bool) (n : Nat) (k : Int) (hl : n ≤ 1000000000) (hk : 0 ≤ k ∧ k ≤ 9000000000000000000) : M_lheldGrid [.agg [V.v (.int .i64 w), V.v (.int .i64 h), .lst (some 0) (ints (mkInts k n)), V.v (.int .i64 x), V.v (.int .i64 y), V.v (.bool b)], V.v (.int .i64 k)] [] [] = some ⟨V.v (.int .i64 (k + n)), [], []⟩ := by
  unfold M_lheldGrid
  have : ¬ (k + n < 0) := by omega
  simp [Try.func17, Try.f17, E_lheldIntS n k hl hk, this]
end Go.Proofs.Ytacnbajcignacaa
namespace Go.Proofs.Ytacnbajcignacaa
open Go.RowKit
set_option linter.unusedSimpArgs false
set_option linter.unusedVariables false
set_option maxHeartbeats 4000000
set_option maxRecDepth 100000
theorem EX_lmarkIntS (r : List (List D)) (k : is_ints r = true) (s : smL r = true) (x : Int) (hx : 0 ≤ x ∧ x ≤ 7000000000000000000) : ∃ y r', M_lmarkIntS [.own 0, V.v (.int .i64 x)] [] [r] = some ⟨V.v (.int .i64 y), [], [(0, r')]⟩ ∧ x ≤ y ∧ y ≤ x + 1000000000 := by
  obtain ⟨l, rfl⟩ := of_is_ints k
  have hb : l.length ≤ 1000000000 := by simpa using smL_len s
  exact ⟨_, _, E_lmarkIntS l x hb (by omega), by omega, by omega⟩
theorem EX_lmarkLine (r0 : List (List D)) (v1 : Int) (k0 : is_ints r0 = true) (s0 : smL r0 = true) (x : Int) (hx : 0 ≤ x ∧ x ≤ 6999999998999999999) : ∃ y r0', M_lmarkLine [.agg [.own 0, V.v (.int .i64 v1)], V.v (.int .i64 x)] [] [r0] = some ⟨V.v (.int .i64 y), [], [(0, r0')]⟩ ∧ x ≤ y ∧ y ≤ x + 1000000001 := by
  unfold M_lmarkLine
  obtain ⟨y0, q0, e0, a0, b0⟩ := EX_lmarkIntS r0 k0 s0 x ⟨by omega, by omega⟩
  exact ⟨y0, q0, by simp [Try.func61, Try.f61, e0], by omega, by omega⟩
theorem dPieces_set (m : List TPiece) (j : Nat) (x : TPiece) : (dPieces m).set j [.l (ints x.Text)] = dPieces (m.set j x) := c_dPieces.rows_set m j x
theorem EX_lmarkPieceS (r : List (List D)) (k : is_dPieces r = true) (s : smL r = true) (x : Int) (hx : 0 ≤ x ∧ x ≤ 7000000000000000000) : ∃ y r', M_lmarkPieceS [.own 0, V.v (.int .i64 x)] [] [r] = some ⟨V.v (.int .i64 y), [], [(0, r')]⟩ ∧ x ≤ y ∧ y ≤ x + 1000000000000000000 := by
  obtain ⟨l, rfl⟩ := of_is_dPieces k
  have hb : l.length ≤ 1000000000 := by simpa using smL_len s
  obtain ⟨xs, x0, hI, hP⟩ := runsG l.length (fun j (a : Int × List TPiece) => a.2.length = l.length ∧ (∀ i, j ≤ i → a.2[i]? = l[i]?) ∧ x ≤ a.1 ∧ a.1 ≤ x + 1000000000 * j) (x, l) ⟨rfl, fun _ _ => rfl, by omega, by omega⟩ (fun j a b => ∀ h : j < a.2.length, b = (a.1 + ((a.2[j]'h).Text.length : Int), a.2.set j ⟨mkInts (a.1) (a.2[j]'h).Text.length⟩)) (fun j a hj ⟨h1, h2, h3, h4⟩ => by
    have hj' : j < a.2.length := by omega
    have e := h2 j (Nat.le_refl _)
    rw [List.getElem?_eq_getElem hj', List.getElem?_eq_getElem hj] at e
    injection e with e
    have hs := smL_at s (dPieces_get hj)
    simp only [bnR_cons, bnR_nil, bnD_a, bnD_l, Bool.and_true, Bool.true_and, Bool.and_eq_true] at hs
    have hs0 := hs
    have hl0 : l[j].Text.length ≤ 1000000000 := by simpa using bnL_len hs0
    refine ⟨(a.1 + ((a.2[j]'hj').Text.length : Int), a.2.set j ⟨mkInts (a.1) (a.2[j]'hj').Text.length⟩), fun _ => rfl, by simpa using h1, fun i hi => ?_, ?_, ?_⟩
    · simp only
      rw [List.getElem?_set_ne (by omega)]; exact h2 i (by omega)
    · simp only [e]; omega
    · simp only [e]; push_cast; omega)
  refine ⟨(xs l.length).1, dPieces (xs l.length).2, ?_, (hI _ (Nat.le_refl _)).2.2.1, ?_⟩
  · unfold M_lmarkPieceS
    simp [Try.func122, Try.f122]
    rw [loopV_go (fun j => .on ⟨[(5, V.v (.int .i64 ((j : Int)))), (1, V.v (.int .i64 ((xs j).1))), (0, .own 1000000000)], [], [(1000000000, dPieces (xs j).2)], []⟩) l.length ?_ ?_]
    · have h1 := (hI l.length (Nat.le_refl _)).1
      simp [h1]
    · simp [x0]
    · intro j hj
      obtain ⟨h1, h2, h3, h4⟩ := hI j (by omega)
      have hj' : j < (xs j).2.length := by omega
      have hq := hP j hj hj'
      have e := h2 j (Nat.le_refl _)
      rw [List.getElem?_eq_getElem hj', List.getElem?_eq_getElem hj] at e
      injection e with e
      have hs := smL_at s (dPieces_get hj)
      simp only [bnR_cons, bnR_nil, bnD_a, bnD_l, Bool.and_true, Bool.true_and, Bool.and_eq_true] at hs
      have hs0 := hs
      have hl0 : l[j].Text.length ≤ 1000000000 := by simpa using bnL_len hs0
      have hw := w64 (j + 1) (by omega)
      rw [e] at hq
      generalize xs (j + 1) = b at hq
      subst hq
      generalize xs j = a at *
      obtain ⟨x1, m⟩ := a
      simp only at *
      have hm0 := E_lmarkIntS l[j].Text (x1) hl0 (by omega)
      have hv0 := w64 (x1 + (l[j].Text.length : Int)) (by omega)
      have hset := dPieces_set m j ⟨mkInts (x1) l[j].Text.length⟩
      simp only at hset hj'
      simp [h1, hj, hj', hw, e, hset, hm0, hv0]
  · have := (hI l.length (Nat.le_refl _)).2.2.2
    omega
theorem EX_lmarkRing (r0 : List (List D)) (k0 : is_dPieces r0 = true) (s0 : smL r0 = true) (x : Int) (hx : 0 ≤ x ∧ x ≤ 6000000000000000000) : ∃ y r0', M_lmarkRing [.agg [.own 0], V.v (.int .i64 x)] [] [r0] = some ⟨V.v (.int .i64 y), [], [(0, r0')]⟩ ∧ x ≤ y ∧ y ≤ x + 1000000000000000000 := by
  unfold M_lmarkRing
  obtain ⟨y0, q0, e0, a0, b0⟩ := EX_lmarkPieceS r0 k0 s0 x ⟨by omega, by omega⟩
  exact ⟨y0, q0, by simp [Try.func62, Try.f62, e0], by omega, by omega⟩
theorem dLines_set (m : List TLine) (j : Nat) (x : TLine) : (dLines m).set j [.l (ints x.Text), .a (.int .i64 x.At)] = dLines (m.set j x) := c_dLines.rows_set m j x
theorem EX_lmarkLineS (r : List (List D)) (k : is_dLines r = true) (s : smL r = true) (x : Int) (hx : 0 ≤ x ∧ x ≤ 7000000000000000000) : ∃ y r', M_lmarkLineS [.own 0, V.v (.int .i64 x)] [] [r] = some ⟨V.v (.int .i64 y), [], [(0, r')]⟩ ∧ x ≤ y ∧ y ≤ x + 1000000001000000000 := by
  obtain ⟨l, rfl⟩ := of_is_dLines k
  have hb : l.length ≤ 1000000000 := by simpa using smL_len s
  obtain ⟨xs, x0, hI, hP⟩ := runsG l.length (fun j (a : Int × List TLine) => a.2.length = l.length ∧ (∀ i, j ≤ i → a.2[i]? = l[i]?) ∧ x ≤ a.1 ∧ a.1 ≤ x + 1000000001 * j) (x, l) ⟨rfl, fun _ _ => rfl, by omega, by omega⟩ (fun j a b => ∀ h : j < a.2.length, b = (a.1 + ((a.2[j]'h).Text.length : Int) + 1, a.2.set j ⟨mkInts (a.1) (a.2[j]'h).Text.length, a.1 + ((a.2[j]'h).Text.length : Int)⟩)) (fun j a hj ⟨h1, h2, h3, h4⟩ => by
    have hj' : j < a.2.length := by omega
    have e := h2 j (Nat.le_refl _)
    rw [List.getElem?_eq_getElem hj', List.getElem?_eq_getElem hj] at e
    injection e with e
    have hs := smL_at s (dLines_get hj)
    simp only [bnR_cons, bnR_nil, bnD_a, bnD_l, Bool.and_true, Bool.true_and, Bool.and_eq_true] at hs
    have hs0 := hs
    have hl0 : l[j].Text.length ≤ 1000000000 := by simpa using bnL_len hs0
    refine ⟨(a.1 + ((a.2[j]'hj').Text.length : Int) + 1, a.2.set j ⟨mkInts (a.1) (a.2[j]'hj').Text.length, a.1 + ((a.2[j]'hj').Text.length : Int)⟩), fun _ => rfl, by simpa using h1, fun i hi => ?_, ?_, ?_⟩
    · simp only
      rw [List.getElem?_set_ne (by omega)]; exact h2 i (by omega)
    · simp only [e]; omega
    · simp only [e]; push_cast; omega)
  refine ⟨(xs l.length).1, dLines (xs l.length).2, ?_, (hI _ (Nat.le_refl _)).2.2.1, ?_⟩
  · unfold M_lmarkLineS
    simp [Try.func123, Try.f123]
    rw [loopV_go (fun j => .on ⟨[(5, V.v (.int .i64 ((j : Int)))), (1, V.v (.int .i64 ((xs j).1))), (0, .own 1000000000)], [], [(1000000000, dLines (xs j).2)], []⟩) l.length ?_ ?_]
    · have h1 := (hI l.length (Nat.le_refl _)).1
      simp [h1]
    · simp [x0]
    · intro j hj
      obtain ⟨h1, h2, h3, h4⟩ := hI j (by omega)
      have hj' : j < (xs j).2.length := by omega
      have hq := hP j hj hj'
      have e := h2 j (Nat.le_refl _)
      rw [List.getElem?_eq_getElem hj', List.getElem?_eq_getElem hj] at e
      injection e with e
      have hs := smL_at s (dLines_get hj)
      simp only [bnR_cons, bnR_nil, bnD_a, bnD_l, Bool.and_true, Bool.true_and, Bool.and_eq_true] at hs
      have hs0 := hs
      have hl0 : l[j].Text.length ≤ 1000000000 := by simpa using bnL_len hs0
      have hw := w64 (j + 1) (by omega)
      rw [e] at hq
      generalize xs (j + 1) = b at hq
      subst hq
      generalize xs j = a at *
      obtain ⟨x1, m⟩ := a
      simp only at *
      have hm0 := E_lmarkIntS l[j].Text (x1) hl0 (by omega)
      have hv0 := w64 (x1 + (l[j].Text.length : Int)) (by omega)
      have hv1 := w64 (x1 + (l[j].Text.length : Int) + 1) (by omega)
      have hset := dLines_set m j ⟨mkInts (x1) l[j].Text.length, x1 + (l[j].Text.length : Int)⟩
      simp only at hset hj'
      simp [h1, hj, hj', hw, e, hset, hm0, hv0, hv1]
  · have := (hI l.length (Nat.le_refl _)).2.2.2
    omega
theorem EX_lmarkUndo (r0 : List (List D)) (k0 : is_dLines r0 = true) (s0 : smL r0 = true) (x : Int) (hx : 0 ≤ x ∧ x ≤ 5999999999000000000) : ∃ y r0', M_lmarkUndo [.agg [.own 0], V.v (.int .i64 x)] [] [r0] = some ⟨V.v (.int .i64 y), [], [(0, r0')]⟩ ∧ x ≤ y ∧ y ≤ x + 1000000001000000000 := by
  unfold M_lmarkUndo
  obtain ⟨y0, q0, e0, a0, b0⟩ := EX_lmarkLineS r0 k0 s0 x ⟨by omega, by omega⟩
  exact ⟨y0, q0, by simp [Try.func63, Try.f63, e0], by omega, by omega⟩
theorem EX_lmarkEd (v0 : Bool) (v1 : Int) (r2 : List (List D)) (v3 : Int) (v4 : Int) (v5 : Int) (v6 : Int) (v7 : Int) (v8 : Int) (v9 : Int) (v10 : Int) (r11 : List (List D)) (r12 : List (List D)) (v13 : Int) (r14 : List (List D)) (v15 : Int) (r16 : List (List D)) (v17 : Int) (r18 : List (List D)) (v19 : Int) (k2 : is_ints r2 = true) (s2 : smL r2 = true) (k11 : is_dPieces r11 = true) (s11 : smL r11 = true) (k12 : is_dLines r12 = true) (s12 : smL r12 = true) (k14 : is_ints r14 = true) (s14 : smL r14 = true) (k16 : is_ints r16 = true) (s16 : smL r16 = true) (k18 : is_ints r18 = true) (s18 : smL r18 = true) (x : Int) (hx : 0 ≤ x ∧ x ≤ 4999999994999999987) : ∃ y r2' r11' r12' r14' r16' r18', M_lmarkEd [.agg [V.v (.bool v0), V.v (.int .i64 v1), .own 0, V.v (.int .i64 v3), V.v (.int .i64 v4), V.v (.int .i64 v5), V.v (.int .i64 v6), V.v (.int .i64 v7), V.v (.int .i64 v8), V.v (.int .i64 v9), V.v (.int .i64 v10), .own 1, .own 2, V.v (.int .i64 v13), .own 3, V.v (.int .i64 v15), .own 4, V.v (.int .i64 v17), .own 5, V.v (.int .i64 v19)], V.v (.int .i64 x)] [] [r2, r11, r12, r14, r16, r18] = some ⟨V.v (.int .i64 y), [], [(0, r2'), (1, r11'), (2, r12'), (3, r14'), (4, r16'), (5, r18')]⟩ ∧ x ≤ y ∧ y ≤ x + 2000000005000000013 := by
  unfold M_lmarkEd
  obtain ⟨y0, q2, e0, a0, b0⟩ := EX_lmarkLine r2 v3 k2 s2 x ⟨by omega, by omega⟩
  obtain ⟨y1, q11, e1, a1, b1⟩ := EX_lmarkRing r11 k11 s11 y0 ⟨by omega, by omega⟩
  obtain ⟨y2, q12, e2, a2, b2⟩ := EX_lmarkUndo r12 k12 s12 y1 ⟨by omega, by omega⟩
  obtain ⟨y3, q14, e3, a3, b3⟩ := EX_lmarkLine r14 v15 k14 s14 y2 ⟨by omega, by omega⟩
  obtain ⟨y4, q16, e4, a4, b4⟩ := EX_lmarkIntS r16 k16 s16 y3 ⟨by omega, by omega⟩
  obtain ⟨y5, q18, e5, a5, b5⟩ := EX_lmarkLine r18 v19 k18 s18 y4 ⟨by omega, by omega⟩
  exact ⟨y5, q2, q11, q12, q14, q16, q18, by simp [Try.func15, Try.f15, e0, e1, e2, e3, e4, e5], by omega, by omega⟩
theorem EX_lmarkGrid (v0 : Int) (v1 : Int) (r2 : List (List D)) (v3 : Int) (v4 : Int) (v5 : Bool) (k2 : is_ints r2 = true) (s2 : smL r2 = true) (x : Int) (hx : 0 ≤ x ∧ x ≤ 6999999998999999996) : ∃ y r2', M_lmarkGrid [.agg [V.v (.int .i64 v0), V.v (.int .i64 v1), .own 0, V.v (.int .i64 v3), V.v (.int .i64 v4), V.v (.bool v5)], V.v (.int .i64 x)] [] [r2] = some ⟨V.v (.int .i64 y), [], [(0, r2')]⟩ ∧ x ≤ y ∧ y ≤ x + 1000000004 := by
  unfold M_lmarkGrid
  obtain ⟨y0, q2, e0, a0, b0⟩ := EX_lmarkIntS r2 k2 s2 x ⟨by omega, by omega⟩
  exact ⟨y0, q2, by simp [Try.func16, Try.f16, e0], by omega, by omega⟩
end Go.Proofs.Ytacnbajcignacaa
namespace Go.Proofs.Ytacnbajcignacaa
open Go.RowKit
set_option linter.unusedSimpArgs false
set_option linter.unusedVariables false
set_option maxHeartbeats 4000000
set_option maxRecDepth 100000
theorem E_lszIntS (r : List (List D)) (k : is_ints r = true) (s : lgL r = true) (left : Int) (h : 0 ≤ left ∧ left ≤ 1048576) : ∃ m, M_lszIntS [.lst (some 0) r, V.v (.int .i64 left)] [] [] = some ⟨V.v (.int .i64 m), [], []⟩ ∧ -1 ≤ m ∧ m ≤ left ∧ (0 ≤ m → smL r = true) := by
  obtain ⟨l, rfl⟩ := of_is_ints k
  have hb : l.length ≤ 9223372036854775807 := by simpa using bnL_len s
  have hw0 := w64 (left - l.length) (by omega)
  unfold M_lszIntS
  by_cases n0 : left - (l.length : Int) < 0
  · exact ⟨-1, by simp [Try.func43, Try.f43, hw0, n0], by omega, by omega, fun h => by omega⟩
  exact ⟨left - l.length, by simp [Try.func43, Try.f43, hw0, n0], by omega, by omega, fun _ => bnL_ints (by omega)⟩
theorem E_lszLine (r0 : List (List D)) (k0 : is_ints r0 = true) (s0 : lgL r0 = true) (v1 : Int) (left : Int) (h : 0 ≤ left ∧ left ≤ 1048576) : ∃ m, M_lszLine [.agg [.lst (some 0) r0, V.v (.int .i64 v1)], V.v (.int .i64 left)] [] [] = some ⟨V.v (.int .i64 m), [], []⟩ ∧ -1 ≤ m ∧ m ≤ left ∧ (0 ≤ m → smL r0 = true) := by
  unfold M_lszLine
  obtain ⟨m0, e0, a0, b0, c0⟩ := E_lszIntS r0 k0 s0 left ⟨by omega, by omega⟩
  by_cases n0 : m0 < 0
  · exact ⟨-1, by simp [Try.func40, Try.f40, e0, n0], by omega, by omega, fun h => by omega⟩
  exact ⟨m0, by simp [Try.func40, Try.f40, e0, n0], by omega, by omega, fun _ => (c0 (by omega))⟩
theorem E_lszPiece (r0 : List (List D)) (k0 : is_ints r0 = true) (s0 : lgL r0 = true) (left : Int) (h : 0 ≤ left ∧ left ≤ 1048576) : ∃ m, M_lszPiece [.agg [.lst (some 0) r0], V.v (.int .i64 left)] [] [] = some ⟨V.v (.int .i64 m), [], []⟩ ∧ -1 ≤ m ∧ m ≤ left ∧ (0 ≤ m → smL r0 = true) := by
  unfold M_lszPiece
  obtain ⟨m0, e0, a0, b0, c0⟩ := E_lszIntS r0 k0 s0 left ⟨by omega, by omega⟩
  by_cases n0 : m0 < 0
  · exact ⟨-1, by simp [Try.func158, Try.f158, e0, n0], by omega, by omega, fun h => by omega⟩
  exact ⟨m0, by simp [Try.func158, Try.f158, e0, n0], by omega, by omega, fun _ => (c0 (by omega))⟩
theorem E_lszPieceS (r : List (List D)) (k : is_dPieces r = true) (s : lgL r = true) (left : Int) (h : 0 ≤ left ∧ left ≤ 1048576) : ∃ m, M_lszPieceS [.lst (some 0) r, V.v (.int .i64 left)] [] [] = some ⟨V.v (.int .i64 m), [], []⟩ ∧ -1 ≤ m ∧ m ≤ left ∧ (0 ≤ m → smL r = true) := by
  obtain ⟨l, rfl⟩ := of_is_dPieces k
  have hb : l.length ≤ 9223372036854775807 := by simpa using bnL_len s
  have hw0 := w64 (left - l.length) (by omega)
  unfold M_lszPieceS
  by_cases n0 : left - (l.length : Int) < 0
  · exact ⟨-1, by simp [Try.func107, Try.f107, hw0, n0], by omega, by omega, fun h => by omega⟩
  obtain ⟨xs, x0, hxs⟩ := runs l.length (left - l.length) (by omega) (fun j x m => ∀ h : j < l.length, M_lszPiece [.agg [.lst (some 0) (ints l[j].Text)], V.v (.int .i64 x)] [] [] = some ⟨V.v (.int .i64 m), [], []⟩ ∧ (0 ≤ m → smL (ints l[j].Text) = true)) (fun j x hj h1 h2 => by
    have hl := bnL_at s (dPieces_get hj)
    simp only [bnR_cons, bnR_nil, bnD_a, bnD_l, Bool.and_true, Bool.true_and, Bool.and_eq_true] at hl
    have hl0 := hl
    obtain ⟨m, e1, e2, e3, e4⟩ := E_lszPiece (ints l[j].Text) (by simp) (by simpa using hl0) x ⟨h1, by omega⟩
    exact ⟨m, fun _ => ⟨e1, e4⟩, e2, e3⟩)
  rcases hxs with ⟨hx, hp⟩ | ⟨N, hN, hx, hp, hm⟩
  · refine ⟨xs l.length, ?_, by have := hx l.length (Nat.le_refl _); omega, by have := hx l.length (Nat.le_refl _); omega, fun _ => bnL_of (by simp; omega) fun j r e => ?_⟩
    · simp [Try.func107, Try.f107, hw0, n0]
      rw [loopV_go (fun j => .on ⟨[(5, V.v (.int .i64 ((j : Int)))), (1, V.v (.int .i64 (xs j))), (0, .lst (some 0) (dPieces l))], [], [], []⟩) l.length ?_ ?_]
      · simp
      · simp [x0]
      · intro j hj
        have hw := w64 (j + 1) (by omega)
        have h1 := (hp j hj hj).1
        have h2 : ¬ (xs (j + 1) < 0) := by have := hx (j + 1) (by omega); omega
        simp [hj, hw, h1, h2, dPieces_get hj]
    · have hj : j < l.length := by have := (List.getElem?_eq_some_iff.1 e).1; simpa using this
      have h1 := (hp j hj hj).2 (hx (j + 1) (by omega)).1
      rw [dPieces_get hj] at e
      injection e with e
      subst e
      simpa using h1
  · refine ⟨-1, ?_, by omega, by omega, fun h => by omega⟩
    simp [Try.func107, Try.f107, hw0, n0]
    rw [loopV_go (fun j => .on ⟨[(5, V.v (.int .i64 ((j : Int)))), (1, V.v (.int .i64 (xs j))), (0, .lst (some 0) (dPieces l))], [], [], []⟩) N ?_ ?_]
    · have h1 := (hp N (Nat.le_refl _) hN).1
      simp [hN, h1, hm, dPieces_get hN]
    · simp [x0]
    · intro j hj
      have hj' : j < l.length := by omega
      have hw := w64 (j + 1) (by omega)
      have h1 := (hp j (by omega) hj').1
      have h2 : ¬ (xs (j + 1) < 0) := by have := hx (j + 1) (by omega); omega
      simp [hj', hw, h1, h2, dPieces_get hj']
theorem E_lszRing (r0 : List (List D)) (k0 : is_dPieces r0 = true) (s0 : lgL r0 = true) (left : Int) (h : 0 ≤ left ∧ left ≤ 1048576) : ∃ m, M_lszRing [.agg [.lst (some 0) r0], V.v (.int .i64 left)] [] [] = some ⟨V.v (.int .i64 m), [], []⟩ ∧ -1 ≤ m ∧ m ≤ left ∧ (0 ≤ m → smL r0 = true) := by
  unfold M_lszRing
  obtain ⟨m0, e0, a0, b0, c0⟩ := E_lszPieceS r0 k0 s0 left ⟨by omega, by omega⟩
  by_cases n0 : m0 < 0
  · exact ⟨-1, by simp [Try.func41, Try.f41, e0, n0], by omega, by omega, fun h => by omega⟩
  exact ⟨m0, by simp [Try.func41, Try.f41, e0, n0], by omega, by omega, fun _ => (c0 (by omega))⟩
theorem E_lszLineS (r : List (List D)) (k : is_dLines r = true) (s : lgL r = true) (left : Int) (h : 0 ≤ left ∧ left ≤ 1048576) : ∃ m, M_lszLineS [.lst (some 0) r, V.v (.int .i64 left)] [] [] = some ⟨V.v (.int .i64 m), [], []⟩ ∧ -1 ≤ m ∧ m ≤ left ∧ (0 ≤ m → smL r = true) := by
  obtain ⟨l, rfl⟩ := of_is_dLines k
  have hb : l.length ≤ 9223372036854775807 := by simpa using bnL_len s
  have hw0 := w64 (left - l.length) (by omega)
  unfold M_lszLineS
  by_cases n0 : left - (l.length : Int) < 0
  · exact ⟨-1, by simp [Try.func108, Try.f108, hw0, n0], by omega, by omega, fun h => by omega⟩
  obtain ⟨xs, x0, hxs⟩ := runs l.length (left - l.length) (by omega) (fun j x m => ∀ h : j < l.length, M_lszLine [.agg [.lst (some 0) (ints l[j].Text), V.v (.int .i64 (l[j].At))], V.v (.int .i64 x)] [] [] = some ⟨V.v (.int .i64 m), [], []⟩ ∧ (0 ≤ m → smL (ints l[j].Text) = true)) (fun j x hj h1 h2 => by
    have hl := bnL_at s (dLines_get hj)
    simp only [bnR_cons, bnR_nil, bnD_a, bnD_l, Bool.and_true, Bool.true_and, Bool.and_eq_true] at hl
    have hl0 := hl
    obtain ⟨m, e1, e2, e3, e4⟩ := E_lszLine (ints l[j].Text) (by simp) (by simpa using hl0) l[j].At x ⟨h1, by omega⟩
    exact ⟨m, fun _ => ⟨e1, e4⟩, e2, e3⟩)
  rcases hxs with ⟨hx, hp⟩ | ⟨N, hN, hx, hp, hm⟩
  · refine ⟨xs l.length, ?_, by have := hx l.length (Nat.le_refl _); omega, by have := hx l.length (Nat.le_refl _); omega, fun _ => bnL_of (by simp; omega) fun j r e => ?_⟩
    · simp [Try.func108, Try.f108, hw0, n0]
      rw [loopV_go (fun j => .on ⟨[(5, V.v (.int .i64 ((j : Int)))), (1, V.v (.int .i64 (xs j))), (0, .lst (some 0) (dLines l))], [], [], []⟩) l.length ?_ ?_]
      · simp
      · simp [x0]
      · intro j hj
        have hw := w64 (j + 1) (by omega)
        have h1 := (hp j hj hj).1
        have h2 : ¬ (xs (j + 1) < 0) := by have := hx (j + 1) (by omega); omega
        simp [hj, hw, h1, h2, dLines_get hj]
    · have hj : j < l.length := by have := (List.getElem?_eq_some_iff.1 e).1; simpa using this
      have h1 := (hp j hj hj).2 (hx (j + 1) (by omega)).1
      rw [dLines_get hj] at e
      injection e with e
      subst e
      simpa using h1
  · refine ⟨-1, ?_, by omega, by omega, fun h => by omega⟩
    simp [Try.func108, Try.f108, hw0, n0]
    rw [loopV_go (fun j => .on ⟨[(5, V.v (.int .i64 ((j : Int)))), (1, V.v (.int .i64 (xs j))), (0, .lst (some 0) (dLines l))], [], [], []⟩) N ?_ ?_]
    · have h1 := (hp N (Nat.le_refl _) hN).1
      simp [hN, h1, hm, dLines_get hN]
    · simp [x0]
    · intro j hj
      have hj' : j < l.length := by omega
      have hw := w64 (j + 1) (by omega)
      have h1 := (hp j (by omega) hj').1
      have h2 : ¬ (xs (j + 1) < 0) := by have := hx (j + 1) (by omega); omega
      simp [hj', hw, h1, h2, dLines_get hj']
theorem E_lszUndo (r0 : List (List D)) (k0 : is_dLines r0 = true) (s0 : lgL r0 = true) (left : Int) (h : 0 ≤ left ∧ left ≤ 1048576) : ∃ m, M_lszUndo [.agg [.lst (some 0) r0], V.v (.int .i64 left)] [] [] = some ⟨V.v (.int .i64 m), [], []⟩ ∧ -1 ≤ m ∧ m ≤ left ∧ (0 ≤ m → smL r0 = true) := by
  unfold M_lszUndo
  obtain ⟨m0, e0, a0, b0, c0⟩ := E_lszLineS r0 k0 s0 left ⟨by omega, by omega⟩
  by_cases n0 : m0 < 0
  · exact ⟨-1, by simp [Try.func42, Try.f42, e0, n0], by omega, by omega, fun h => by omega⟩
  exact ⟨m0, by simp [Try.func42, Try.f42, e0, n0], by omega, by omega, fun _ => (c0 (by omega))⟩
theorem E_lszEd (v0 : Bool) (v1 : Int) (r2 : List (List D)) (k2 : is_ints r2 = true) (s2 : lgL r2 = true) (v3 : Int) (v4 : Int) (v5 : Int) (v6 : Int) (v7 : Int) (v8 : Int) (v9 : Int) (v10 : Int) (r11 : List (List D)) (k11 : is_dPieces r11 = true) (s11 : lgL r11 = true) (r12 : List (List D)) (k12 : is_dLines r12 = true) (s12 : lgL r12 = true) (v13 : Int) (r14 : List (List D)) (k14 : is_ints r14 = true) (s14 : lgL r14 = true) (v15 : Int) (r16 : List (List D)) (k16 : is_ints r16 = true) (s16 : lgL r16 = true) (v17 : Int) (r18 : List (List D)) (k18 : is_ints r18 = true) (s18 : lgL r18 = true) (v19 : Int) (left : Int) (h : 0 ≤ left ∧ left ≤ 1048576) : ∃ m, M_lszEd [.agg [V.v (.bool v0), V.v (.int .i64 v1), .lst (some 0) r2, V.v (.int .i64 v3), V.v (.int .i64 v4), V.v (.int .i64 v5), V.v (.int .i64 v6), V.v (.int .i64 v7), V.v (.int .i64 v8), V.v (.int .i64 v9), V.v (.int .i64 v10), .lst (some 1) r11, .lst (some 2) r12, V.v (.int .i64 v13), .lst (some 3) r14, V.v (.int .i64 v15), .lst (some 4) r16, V.v (.int .i64 v17), .lst (some 5) r18, V.v (.int .i64 v19)], V.v (.int .i64 left)] [] [] = some ⟨V.v (.int .i64 m), [], []⟩ ∧ -1 ≤ m ∧ m ≤ left ∧ (0 ≤ m → smL r2 = true ∧ smL r11 = true ∧ smL r12 = true ∧ smL r14 = true ∧ smL r16 = true ∧ smL r18 = true) := by
  unfold M_lszEd
  obtain ⟨m0, e0, a0, b0, c0⟩ := E_lszLine r2 k2 s2 v3 left ⟨by omega, by omega⟩
  by_cases n0 : m0 < 0
  · exact ⟨-1, by simp [Try.func10, Try.f10, e0, n0], by omega, by omega, fun h => by omega⟩
  obtain ⟨m1, e1, a1, b1, c1⟩ := E_lszRing r11 k11 s11 m0 ⟨by omega, by omega⟩
  by_cases n1 : m1 < 0
  · exact ⟨-1, by simp [Try.func10, Try.f10, e0, n0, e1, n1], by omega, by omega, fun h => by omega⟩
  obtain ⟨m2, e2, a2, b2, c2⟩ := E_lszUndo r12 k12 s12 m1 ⟨by omega, by omega⟩
  by_cases n2 : m2 < 0
  · exact ⟨-1, by simp [Try.func10, Try.f10, e0, n0, e1, n1, e2, n2], by omega, by omega, fun h => by omega⟩
  obtain ⟨m3, e3, a3, b3, c3⟩ := E_lszLine r14 k14 s14 v15 m2 ⟨by omega, by omega⟩
  by_cases n3 : m3 < 0
  · exact ⟨-1, by simp [Try.func10, Try.f10, e0, n0, e1, n1, e2, n2, e3, n3], by omega, by omega, fun h => by omega⟩
  obtain ⟨m4, e4, a4, b4, c4⟩ := E_lszIntS r16 k16 s16 m3 ⟨by omega, by omega⟩
  by_cases n4 : m4 < 0
  · exact ⟨-1, by simp [Try.func10, Try.f10, e0, n0, e1, n1, e2, n2, e3, n3, e4, n4], by omega, by omega, fun h => by omega⟩
  obtain ⟨m5, e5, a5, b5, c5⟩ := E_lszLine r18 k18 s18 v19 m4 ⟨by omega, by omega⟩
  by_cases n5 : m5 < 0
  · exact ⟨-1, by simp [Try.func10, Try.f10, e0, n0, e1, n1, e2, n2, e3, n3, e4, n4, e5, n5], by omega, by omega, fun h => by omega⟩
  exact ⟨m5, by simp [Try.func10, Try.f10, e0, n0, e1, n1, e2, n2, e3, n3, e4, n4, e5, n5], by omega, by omega, fun _ => ⟨(c0 (by omega)), (c1 (by omega)), (c2 (by omega)), (c3 (by omega)), (c4 (by omega)), (c5 (by omega))⟩⟩
end Go.Proofs.Ytacnbajcignacaa
namespace Go.Proofs.Ytacnbajcignacaa
open Go.RowKit
set_option linter.unusedSimpArgs false
set_option linter.unusedVariables false
set_option maxHeartbeats 4000000
set_option maxRecDepth 100000
theorem E_ltoIntS (r : List (List D)) (k : is_ints r = true) (s : smL r = true) : M_ltoIntS [.lst (some 0) r] [] [] = some ⟨.own 0, [], [(0, r)]⟩ := by
  obtain ⟨l, rfl⟩ := of_is_ints k
  have hb : l.length ≤ 1000000000 := by simpa using smL_len s
  have u0 := upTo_zero [D.a (.int .i64 0)] (ints l)
  have u1 := upTo_end [D.a (.int .i64 0)] (ints l)
  simp at u0 u1
  unfold M_ltoIntS
  simp [Try.func56, Try.f56]
  simp (disch := omega) only [grd_pos]
  simp
  rw [loopV_go (fun j => .on ⟨[(4, V.v (.int .i64 ((j : Int)))), (3, .own 2000000000), (0, .lst (some 0) (ints l))], [], [(2000000000, upTo [D.a (.int .i64 0)] (ints l) j)], []⟩) l.length ?_ ?_]
  · simp [u1]
  · simp [u0]
  · intro j hj
    have hw := w64 (j + 1) (by omega)
    have hs := smL_at s (ints_get hj)
    have h1 := upTo_len (z := [D.a (.int .i64 0)]) (rows := ints l) (j := j) (by simp; omega)
    have h2 := upTo_at (z := [D.a (.int .i64 0)]) (rows := ints l) (j := j) (by simpa using hj)
    have h3 := upTo_set (z := [D.a (.int .i64 0)]) (ints_get hj)
    simp at hs h1
    dsimp only at h3
    simp [hj, hw, hs, ints_get hj, h1, h2, h3]
theorem E_ltoLine (r0 : List (List D)) (v1 : Int) (k0 : is_ints r0 = true) (s0 : smL r0 = true) : M_ltoLine [.agg [.lst (some 0) r0, V.v (.int .i64 v1)]] [] [] = some ⟨.agg [.own 0, V.v (.int .i64 v1)], [], [(0, r0)]⟩ := by
  unfold M_ltoLine
  simp [Try.func53, Try.f53, E_ltoIntS, k0, s0]
theorem E_ltoPiece (r0 : List (List D)) (k0 : is_ints r0 = true) (s0 : smL r0 = true) : M_ltoPiece [.agg [.lst (some 0) r0]] [] [] = some ⟨.agg [.own 0], [], [(0, r0)]⟩ := by
  unfold M_ltoPiece
  simp [Try.func165, Try.f165, E_ltoIntS, k0, s0]
theorem E_ltoPieceS (r : List (List D)) (k : is_dPieces r = true) (s : smL r = true) : M_ltoPieceS [.lst (some 0) r] [] [] = some ⟨.own 0, [], [(0, r)]⟩ := by
  obtain ⟨l, rfl⟩ := of_is_dPieces k
  have hb : l.length ≤ 1000000000 := by simpa using smL_len s
  have u0 := upTo_zero [.l []] (dPieces l)
  have u1 := upTo_end [.l []] (dPieces l)
  simp at u0 u1
  unfold M_ltoPieceS
  simp [Try.func118, Try.f118]
  simp (disch := omega) only [grd_pos]
  simp
  rw [loopV_go (fun j => .on ⟨[(4, V.v (.int .i64 ((j : Int)))), (3, .own 2000000000), (0, .lst (some 0) (dPieces l))], [], [(2000000000, upTo [.l []] (dPieces l) j)], []⟩) l.length ?_ ?_]
  · simp [u1]
  · simp [u0]
  · intro j hj
    have hw := w64 (j + 1) (by omega)
    have hs := smL_at s (dPieces_get hj)
    have h1 := upTo_len (z := [.l []]) (rows := dPieces l) (j := j) (by simp; omega)
    have h2 := upTo_at (z := [.l []]) (rows := dPieces l) (j := j) (by simpa using hj)
    have h3 := upTo_set (z := [.l []]) (dPieces_get hj)
    simp at hs h1
    dsimp only at h3
    simp [hj, hw, hs, dPieces_get hj, h1, h2, h3, E_ltoPiece]
theorem E_ltoRing (r0 : List (List D)) (k0 : is_dPieces r0 = true) (s0 : smL r0 = true) : M_ltoRing [.agg [.lst (some 0) r0]] [] [] = some ⟨.agg [.own 0], [], [(0, r0)]⟩ := by
  unfold M_ltoRing
  simp [Try.func54, Try.f54, E_ltoPieceS, k0, s0]
theorem E_ltoLineS (r : List (List D)) (k : is_dLines r = true) (s : smL r = true) : M_ltoLineS [.lst (some 0) r] [] [] = some ⟨.own 0, [], [(0, r)]⟩ := by
  obtain ⟨l, rfl⟩ := of_is_dLines k
  have hb : l.length ≤ 1000000000 := by simpa using smL_len s
  have u0 := upTo_zero [.l [], D.a (.int .i64 0)] (dLines l)
  have u1 := upTo_end [.l [], D.a (.int .i64 0)] (dLines l)
  simp at u0 u1
  unfold M_ltoLineS
  simp [Try.func119, Try.f119]
  simp (disch := omega) only [grd_pos]
  simp
  rw [loopV_go (fun j => .on ⟨[(4, V.v (.int .i64 ((j : Int)))), (3, .own 2000000000), (0, .lst (some 0) (dLines l))], [], [(2000000000, upTo [.l [], D.a (.int .i64 0)] (dLines l) j)], []⟩) l.length ?_ ?_]
  · simp [u1]
  · simp [u0]
  · intro j hj
    have hw := w64 (j + 1) (by omega)
    have hs := smL_at s (dLines_get hj)
    have h1 := upTo_len (z := [.l [], D.a (.int .i64 0)]) (rows := dLines l) (j := j) (by simp; omega)
    have h2 := upTo_at (z := [.l [], D.a (.int .i64 0)]) (rows := dLines l) (j := j) (by simpa using hj)
    have h3 := upTo_set (z := [.l [], D.a (.int .i64 0)]) (dLines_get hj)
    simp at hs h1
    dsimp only at h3
    simp [hj, hw, hs, dLines_get hj, h1, h2, h3, E_ltoLine]
theorem E_ltoUndo (r0 : List (List D)) (k0 : is_dLines r0 = true) (s0 : smL r0 = true) : M_ltoUndo [.agg [.lst (some 0) r0]] [] [] = some ⟨.agg [.own 0], [], [(0, r0)]⟩ := by
  unfold M_ltoUndo
  simp [Try.func55, Try.f55, E_ltoLineS, k0, s0]
theorem E_ltoEd (v0 : Bool) (v1 : Int) (r2 : List (List D)) (v3 : Int) (v4 : Int) (v5 : Int) (v6 : Int) (v7 : Int) (v8 : Int) (v9 : Int) (v10 : Int) (r11 : List (List D)) (r12 : List (List D)) (v13 : Int) (r14 : List (List D)) (v15 : Int) (r16 : List (List D)) (v17 : Int) (r18 : List (List D)) (v19 : Int) (k2 : is_ints r2 = true) (s2 : smL r2 = true) (k11 : is_dPieces r11 = true) (s11 : smL r11 = true) (k12 : is_dLines r12 = true) (s12 : smL r12 = true) (k14 : is_ints r14 = true) (s14 : smL r14 = true) (k16 : is_ints r16 = true) (s16 : smL r16 = true) (k18 : is_ints r18 = true) (s18 : smL r18 = true) : M_ltoEd [.agg [V.v (.bool v0), V.v (.int .i64 v1), .lst (some 0) r2, V.v (.int .i64 v3), V.v (.int .i64 v4), V.v (.int .i64 v5), V.v (.int .i64 v6), V.v (.int .i64 v7), V.v (.int .i64 v8), V.v (.int .i64 v9), V.v (.int .i64 v10), .lst (some 1) r11, .lst (some 2) r12, V.v (.int .i64 v13), .lst (some 3) r14, V.v (.int .i64 v15), .lst (some 4) r16, V.v (.int .i64 v17), .lst (some 5) r18, V.v (.int .i64 v19)]] [] [] = some ⟨.agg [V.v (.bool v0), V.v (.int .i64 v1), .own 0, V.v (.int .i64 v3), V.v (.int .i64 v4), V.v (.int .i64 v5), V.v (.int .i64 v6), V.v (.int .i64 v7), V.v (.int .i64 v8), V.v (.int .i64 v9), V.v (.int .i64 v10), .own 1, .own 2, V.v (.int .i64 v13), .own 3, V.v (.int .i64 v15), .own 4, V.v (.int .i64 v17), .own 5, V.v (.int .i64 v19)], [], [(0, r2), (1, r11), (2, r12), (3, r14), (4, r16), (5, r18)]⟩ := by
  unfold M_ltoEd
  simp [Try.func12, Try.f12, E_ltoLine, E_ltoRing, E_ltoUndo, E_ltoIntS, k2, s2, k11, s11, k12, s12, k14, s14, k16, s16, k18, s18]
end Go.Proofs.Ytacnbajcignacaa
namespace Go.Proofs.Ytacnbajcignacaa
open Go.ChangeShapes Go.WideShapes Go.ChangeAt Go.RowKit Go.Deep
theorem ownKnob_none : ownKnob Try.prog.godebug = none := by kernel_rfl
theorem laidOut_prog : laidOutB Try.prog = true := by kernel_rfl
theorem int_range {x : Int} (w : (Lit.int .i64 x).wf = true) : -9223372036854775808 ≤ x ∧ x ≤ 9223372036854775807 := by
  simpa [Lit.wf, IntKind.min, IntKind.max, IntKind.signed, IntKind.bits] using w
end Go.Proofs.Ytacnbajcignacaa
namespace Go.Proofs.Ytacnbajcignacaa
open Go.ChangeShapes Go.WideShapes Go.ChangeAt Go.RowKit Go.Deep
set_option linter.unusedSimpArgs false
set_option linter.unusedVariables false
def wfV : Value → Bool
  | .int k n => (Lit.int k n).wf
  | .string s => decide (s.size ≤ 9223372036854775807)
  | _ => true
mutual
def okD : D → Bool
  | .a v => wfV v
  | .l rows => decide (rows.length ≤ 9223372036854775807) && okT rows
  | .gone => false
def okR : List D → Bool
  | [] => true
  | d :: r => okD d && okR r
def okT : List (List D) → Bool
  | [] => true
  | r :: rows => okR r && okT rows
end
mutual
theorem okD_bn : ∀ (d : D), okD d = true → bnD 9223372036854775807 d = true
  | .a _, _ => rfl
  | .l rows, h => by
    have h : (decide (rows.length ≤ 9223372036854775807) && okT rows) = true := h
    rw [Bool.and_eq_true] at h
    show (decide (rows.length ≤ 9223372036854775807) && bnT 9223372036854775807 rows) = true
    rw [h.1, okT_bn rows h.2]; rfl
  | .gone, h => by cases h
theorem okR_bn : ∀ (r : List D), okR r = true → bnR 9223372036854775807 r = true
  | [], _ => rfl
  | d :: r, h => by
    have h : (okD d && okR r) = true := h
    rw [Bool.and_eq_true] at h
    show (bnD _ d && bnR _ r) = true
    rw [okD_bn d h.1, okR_bn r h.2]; rfl
theorem okT_bn : ∀ (rows : List (List D)), okT rows = true → bnT 9223372036854775807 rows = true
  | [], _ => rfl
  | r :: rows, h => by
    have h : (okR r && okT rows) = true := h
    rw [Bool.and_eq_true] at h
    show (bnR _ r && bnT _ rows) = true
    rw [okR_bn r h.1, okT_bn rows h.2]; rfl
end
theorem okR_app : ∀ {r q : List D}, okR r = true → okR q = true → okR (r ++ q) = true
  | [], q, _, k => k
  | d :: r, q, h, k => by
    have h : (okD d && okR r) = true := h
    rw [Bool.and_eq_true] at h
    show (okD d && okR (r ++ q)) = true
    rw [h.1, okR_app h.2 k]; rfl
theorem okR_cons {d : D} {r : List D} (h : okR (d :: r) = true) : okD d = true ∧ okR r = true := by
  have h : (okD d && okR r) = true := h
  rwa [Bool.and_eq_true] at h
theorem okD_lg {rows : List (List D)} (h : okD (.l rows) = true) : lgL rows = true := okD_bn _ h
theorem okD_int {n : Int} (h : okD (.a (.int .i64 n)) = true) : R64 n := int_range h
theorem okD_str {s : ByteArray} (h : okD (.a (.string s)) = true) : s.size ≤ 9223372036854775807 := of_decide_eq_true h
theorem okT_of : ∀ {rows : List (List D)}, (∀ r ∈ rows, okR r = true) → okT rows = true
  | [], _ => rfl
  | r :: rows, h => by
    show (okR r && okT rows) = true
    rw [h r (by simp), okT_of fun q hq => h q (by simp [hq])]; rfl
inductive RdR (G : Nat → Obj → Prop) : List Value → List D → Prop
  | nil : RdR G [] []
  | cons {v : Value} {d : D} {vs : List Value} {ds : List D} : RdD G d v → RdR G vs ds → RdR G (v :: vs) (d :: ds)
theorem RdR.app {G : Nat → Obj → Prop} : ∀ {us vs : List Value} {ds es : List D}, RdR G us ds → RdR G vs es → RdR G (us ++ vs) (ds ++ es)
  | _, _, _, _, .nil, h => h
  | _, _, _, _, .cons a b, h => .cons a (b.app h)
theorem RdR.part {G : Nat → Obj → Prop} {cs : List Value} (o c : Nat) {ds es : List D} (h : RdR G ((cs.drop o).take c) ds) (k : RdR G (cs.drop (o + c)) es) : RdR G (cs.drop o) (ds ++ es) := by
  have := h.app k
  rwa [← List.drop_drop, List.take_append_drop] at this
theorem RdR.one {G : Nat → Obj → Prop} {v : Value} {d : D} (h : RdR G [v] [d]) : RdD G d v := by cases h; assumption
theorem RdR.uncons {G : Nat → Obj → Prop} {cs : List Value} {d : D} {ds : List D} (h : RdR G cs (d :: ds)) : ∃ v vs, cs = v :: vs ∧ RdD G d v ∧ RdR G vs ds := by cases h with | cons a b => exact ⟨_, _, rfl, a, b⟩
theorem RdR.unnil {G : Nat → Obj → Prop} {cs : List Value} (h : RdR G cs []) : cs = [] := by cases h; rfl
theorem RdR.get {G : Nat → Obj → Prop} : ∀ {vs : List Value} {ds : List D} {i : Nat} {d : D}, RdR G vs ds → ds[i]? = some d → ∃ u, vs[i]? = some u ∧ RdD G d u
  | _, _, i, d, .nil, e => by simp at e
  | _, _, 0, d, .cons a _, e => by simp at e; subst e; exact ⟨_, rfl, a⟩
  | _, _, i + 1, d, .cons _ b, e => by simpa using b.get (i := i) (by simpa using e)
theorem cell_heap {W : World} {b o : Nat} {u : Value} (h : W.cell? ⟨b, o, none⟩ = some u) : ∃ cs T fr, W.heap[b]? = some (.cells cs T fr) ∧ cs[o]? = some u := by
  unfold World.cell? at h
  split at h
  · rename_i cs T fr e
    exact ⟨cs, T, fr, e, by simpa using h⟩
  · cases h
theorem rows_len_flat {α : Type} (C : Codec α) (l : List α) : (C.rows l).flatten.length = l.length * C.k := by
  have := flat_len (k := C.k) (C.rows l) (fun r hr => by obtain ⟨x, _, rfl⟩ := List.mem_map.1 hr; exact C.len x)
  rw [this, C.rows_len]
section
variable {H : Type} {enc : TypeId × Value → H} {W : World} {fuel : Nat} {cs : List Value} {x : DataW H × List MemPlace}
set_option maxRecDepth 100000 in
theorem opn_slice {t e : TypeId} {α : Type} [Inhabited α] (C : Codec α) (h0 : 0 < C.k) (ht : Try.prog.underlying t = some (.slice e)) (hc : Try.prog.cellsOf e = C.k)
    (he : ∀ {fuel cs x}, DataW.trod enc Try.prog W 0 (fun _ => true) true fuel e cs = some x → ∃ a : α, okR (C.enc a) = true ∧ RdR (heapOf W) cs (C.enc a))
    (h : DataW.trod enc Try.prog W 0 (fun _ => true) true fuel t cs = some x) : ∃ l : List α, okD (.l (C.rows l)) = true ∧ RdR (heapOf W) cs [.l (C.rows l)] := by
  rcases open_slice ht h with ⟨rfl, _⟩ | ⟨a, len, cap, m, n, D', Pl, rfl, hb, hl, hm, hmm, rfl, hx⟩
  · exact ⟨[], rfl, .cons (.nil none 0 (by omega) (fun _ => rfl)) .nil⟩
  have hlm : len ≤ m := by rw [hmm]; split <;> omega
  rw [hc] at hx
  obtain ⟨g, hg⟩ := choose_lt (α := α) (p := fun i y => okR (C.enc y) = true ∧ ∀ j d, (C.enc y)[j]? = some d → ∃ u, W.cell? (a.add (i * C.k + j)) = some u ∧ RdD (heapOf W) d u) (n := m) (fun i hi => by
    obtain ⟨cs', h1, h2⟩ := hx i hi
    obtain ⟨_, hlen, hcell⟩ := World.cells?_some h1
    obtain ⟨y, hp, hy⟩ := he h2
    refine ⟨y, hp, fun j d e => ?_⟩
    obtain ⟨u, e1, e2⟩ := hy.get e
    have hj : j < C.k := by rw [← C.len y]; exact (List.getElem?_eq_some_iff.1 e).1
    refine ⟨u, ?_, e2⟩
    rw [← e1, ← hcell j hj, add_add])
  have hlen : (C.rows ((List.range len).map g)).length = len := by rw [C.rows_len]; simp
  unfold maxLen at hm
  refine ⟨(List.range len).map g, ?_, .cons ?_ .nil⟩
  · show (decide _ && okT _) = true
    rw [hlen, decide_eq_true (by omega), Bool.true_and]
    refine okT_of fun r hr => ?_
    obtain ⟨z, hz, rfl⟩ := List.mem_map.1 hr
    obtain ⟨i, hi, rfl⟩ := List.mem_map.1 hz
    exact (hg i (by have := List.mem_range.1 hi; omega)).1
  have hu : ∀ r ∈ C.rows ((List.range len).map g), r.length = C.k := fun r hr => by obtain ⟨z, _, rfl⟩ := List.mem_map.1 hr; exact C.len z
  have key : ∀ i d, (C.rows ((List.range len).map g)).flatten[i]? = some d → ∃ u, W.cell? (a.add i) = some u ∧ RdD (heapOf W) d u := by
    intro i d e
    have hi : i < len * C.k := by
      have := (List.getElem?_eq_some_iff.1 e).1
      rw [rows_len_flat, List.length_map, List.length_range] at this; exact this
    have e1 : i / C.k * C.k + i % C.k = i := by rw [Nat.mul_comm]; exact Nat.div_add_mod i C.k
    have h1 : i / C.k < len := Nat.div_lt_of_lt_mul (by rw [Nat.mul_comm]; exact hi)
    have hlt : i % C.k < (C.enc (g (i / C.k))).length := by rw [C.len]; exact Nat.mod_lt _ h0
    have e2 := flat_get (k := C.k) (C.rows ((List.range len).map g)) (i / C.k) (i % C.k) (C.enc (g (i / C.k))) _ hu (by
      unfold Codec.rows
      rw [List.getElem?_map, List.getElem?_map, List.getElem?_range h1]; rfl) (List.getElem?_eq_getElem hlt)
    rw [e1, e] at e2
    obtain ⟨u, h2, h3⟩ := (hg (i / C.k) (by omega)).2 (i % C.k) d (by rw [List.getElem?_eq_getElem hlt]; exact e2.symm)
    rw [e1] at h2
    exact ⟨u, h2, h3⟩
  rcases Nat.eq_zero_or_pos len with h1 | h1
  · subst h1
    exact .nil _ _ (by omega) (fun h => nomatch h)
  have hpos : 0 < (C.rows ((List.range len).map g)).flatten.length := by rw [rows_len_flat, List.length_map, List.length_range]; exact Nat.mul_pos h1 h0
  obtain ⟨b, o, spot⟩ := a
  obtain ⟨u0, h2, -⟩ := key 0 _ (List.getElem?_eq_getElem hpos)
  have hs : spot = none := by simpa [Addr.add] using World.cell?_spot h2
  subst hs
  rw [Addr.add_lit] at h2
  obtain ⟨hcs, T, fr, hh, -⟩ := cell_heap h2
  refine .l _ len cap b o C.k T fr hcs (fun i => (W.cell? ⟨b, o + i, none⟩).getD undef) hlen h1 hl (by omega) h0 hu hh (fun i d e => ?_) (fun i d e => ?_)
  · obtain ⟨u, h3, -⟩ := key i d e
    rw [Addr.add_lit] at h3
    rw [h3]
    obtain ⟨cs2, T2, fr2, hh2, h4⟩ := cell_heap h3
    rw [hh] at hh2
    injection hh2 with hh2; injection hh2 with q1 q2 q3
    rw [q1]; exact h4
  · obtain ⟨u, h3, h4⟩ := key i d e
    rw [Addr.add_lit] at h3
    rw [h3]; exact h4
set_option maxRecDepth 100000 in
theorem opn_int (h : DataW.trod enc Try.prog W 0 (fun _ => true) true fuel 3 cs = some x) : ∃ a : Int, okR [.a (.int .i64 a)] = true ∧ RdR (heapOf W) cs [.a (.int .i64 a)] := by
  obtain ⟨n, rfl, _, wf⟩ := DataW.trod_int Try.underlying3 h
  exact ⟨n, by show (_ && true) = true; rw [Bool.and_true]; exact wf, .cons (.a _) .nil⟩
set_option maxRecDepth 100000 in
theorem opn_bool (h : DataW.trod enc Try.prog W 0 (fun _ => true) true fuel 4 cs = some x) : ∃ a : Bool, okR [.a (.bool a)] = true ∧ RdR (heapOf W) cs [.a (.bool a)] := by
  obtain ⟨n, rfl, _⟩ := DataW.trod_bool Try.underlying4 h
  exact ⟨n, rfl, .cons (.a _) .nil⟩
set_option maxRecDepth 100000 in
theorem opn_string (h : DataW.trod enc Try.prog W 0 (fun _ => true) true fuel 9 cs = some x) : ∃ a : ByteArray, okR [.a (.string a)] = true ∧ RdR (heapOf W) cs [.a (.string a)] := by
  obtain ⟨s, rfl, _, wf⟩ := DataW.trod_string Try.underlying9 h
  exact ⟨s, by show (decide _ && true) = true; rw [Bool.and_true]; unfold maxLen at wf; exact decide_eq_true (by omega), .cons (.a _) .nil⟩
theorem cop_int : Try.prog.cellsOf 3 = 1 := by kernel_rfl
theorem cop_bool : Try.prog.cellsOf 4 = 1 := by kernel_rfl
theorem cop_string : Try.prog.cellsOf 9 = 1 := by kernel_rfl
theorem cop_ints : Try.prog.cellsOf 23 = 1 := by kernel_rfl
theorem opn_ints (h : DataW.trod enc Try.prog W 0 (fun _ => true) true fuel 23 cs = some x) : ∃ l : List Int, okR [.l (ints l)] = true ∧ RdR (heapOf W) cs [.l (ints l)] := by
  obtain ⟨l, a, b⟩ := opn_slice c_ints (by decide) Try.underlying23 cop_int opn_int h
  exact ⟨l, by show (_ && true) = true; rw [Bool.and_true]; exact a, b⟩
set_option maxRecDepth 100000 in
theorem open_ints_top {base : Nat} {v : Value} {d : DataW H} {ps : List MemPlace} (hv : Value.okWide Try.prog W .any base 23 v) (h : DataW.Trod enc Try.prog W 0 (fun _ => true) true 23 v d ps) :
    ∃ l : List Int, okR [.l (ints l)] = true ∧ RdD (heapOf W) (.l (ints l)) v := by
  obtain ⟨a0, len, cap, rfl⟩ := okWide_slice Try.underlying23 hv
  obtain ⟨f, hf⟩ := h
  obtain ⟨l, g, r⟩ := opn_ints hf
  exact ⟨l, g, r.one⟩
theorem cop_u8 : Try.prog.cellsOf 5 = 1 := by kernel_rfl
theorem cop_bytes : Try.prog.cellsOf 22 = 1 := by kernel_rfl
theorem u8_rng {x : Int} (w : (Lit.int .u8 x).wf = true) : 0 ≤ x ∧ x ≤ 255 := by
  simpa [Lit.wf, IntKind.min, IntKind.max, IntKind.signed, IntKind.bits] using w
set_option maxRecDepth 100000 in
theorem opn_byte (h : DataW.trod enc Try.prog W 0 (fun _ => true) true fuel 5 cs = some x) : ∃ a : UInt8, okR (c_byts.enc a) = true ∧ RdR (heapOf W) cs (c_byts.enc a) := by
  obtain ⟨n, rfl, _, wf⟩ := DataW.trod_int Try.underlying5 h
  obtain ⟨h0, h1⟩ := u8_rng wf
  have e : c_byts.enc (UInt8.ofNat n.toNat) = [.a (.int .u8 n)] := by
    show [D.a (.int .u8 ((UInt8.ofNat n.toNat).toNat : Int))] = _
    congr 3; simp; omega
  refine ⟨UInt8.ofNat n.toNat, ?_, ?_⟩
  · rw [e]; show (_ && true) = true; rw [Bool.and_true]; exact wf
  · rw [e]; exact .cons (.a _) .nil
theorem opn_bytes (h : DataW.trod enc Try.prog W 0 (fun _ => true) true fuel 22 cs = some x) : ∃ l : List UInt8, okR [.l (byts l)] = true ∧ RdR (heapOf W) cs [.l (byts l)] := by
  obtain ⟨l, a, b⟩ := opn_slice c_byts (by decide) Try.underlying22 cop_u8 opn_byte h
  exact ⟨l, by show (_ && true) = true; rw [Bool.and_true]; exact a, b⟩
set_option maxRecDepth 100000 in
theorem open_bytes_top {base : Nat} {v : Value} {d : DataW H} {ps : List MemPlace} (hv : Value.okWide Try.prog W .any base 22 v) (h : DataW.Trod enc Try.prog W 0 (fun _ => true) true 22 v d ps) :
    ∃ l : List UInt8, okR [.l (byts l)] = true ∧ RdD (heapOf W) (.l (byts l)) v := by
  obtain ⟨a0, len, cap, rfl⟩ := okWide_slice Try.underlying22 hv
  obtain ⟨f, hf⟩ := h
  obtain ⟨l, g, r⟩ := opn_bytes hf
  exact ⟨l, g, r.one⟩
theorem cop_strs : Try.prog.cellsOf 71 = 1 := by kernel_rfl
theorem opn_strs (h : DataW.trod enc Try.prog W 0 (fun _ => true) true fuel 71 cs = some x) : ∃ l : List ByteArray, okR [.l (strs l)] = true ∧ RdR (heapOf W) cs [.l (strs l)] := by
  obtain ⟨l, a, b⟩ := opn_slice c_strs (by decide) Try.underlying71 cop_string opn_string h
  exact ⟨l, by show (_ && true) = true; rw [Bool.and_true]; exact a, b⟩
set_option maxRecDepth 100000 in
theorem open_strs_top {base : Nat} {v : Value} {d : DataW H} {ps : List MemPlace} (hv : Value.okWide Try.prog W .any base 71 v) (h : DataW.Trod enc Try.prog W 0 (fun _ => true) true 71 v d ps) :
    ∃ l : List ByteArray, okR [.l (strs l)] = true ∧ RdD (heapOf W) (.l (strs l)) v := by
  obtain ⟨a0, len, cap, rfl⟩ := okWide_slice Try.underlying71 hv
  obtain ⟨f, hf⟩ := h
  obtain ⟨l, g, r⟩ := opn_strs hf
  exact ⟨l, g, r.one⟩
end
end Go.Proofs.Ytacnbajcignacaa
namespace Go.Proofs.Ytacnbajcignacaa
open Go.ChangeShapes Go.WideShapes Go.ChangeAt Go.RowKit Go.Deep
set_option linter.unusedSimpArgs false
set_option linter.unusedVariables false
section
variable {H : Type} {enc : TypeId × Value → H} {W : World} {fuel : Nat} {cs : List Value} {x : DataW H × List MemPlace}
instance : Inhabited TLine := ⟨zLine⟩
theorem cop_Line : Try.prog.cellsOf 43 = 2 := by kernel_rfl
set_option maxRecDepth 100000 in
theorem opn_Line (h : DataW.trod enc Try.prog W 0 (fun _ => true) true fuel 43 cs = some x) : ∃ a : TLine, okR (c_dLines.enc a) = true ∧ RdR (heapOf W) cs (c_dLines.enc a) := by
  obtain ⟨ys, m, _, _, hlen, hyl, hf⟩ := DataW.trod_struct Try.underlying43 h
  rw [cop_Line] at hlen
  have e0 : DataW.trod enc Try.prog W 0 (fun _ => true) true m 23 ((cs.drop 0).take 1) = ys[0]? := by
    have g := hf 0 _ rfl
    exact (congrArg (fun z => DataW.trod enc Try.prog W 0 (fun _ => true) true m 23 ((cs.drop 0).take z)) cop_ints).symm.trans g
  rw [List.getElem?_eq_getElem (show 0 < ys.length by rw [hyl]; exact Nat.le_of_ble_eq_true rfl)] at e0
  obtain ⟨a0, g0, r0⟩ := opn_ints e0
  have e1 : DataW.trod enc Try.prog W 0 (fun _ => true) true m 3 ((cs.drop 1).take 1) = ys[1]? := by
    have g := hf 1 _ rfl
    exact (congrArg (fun z => DataW.trod enc Try.prog W 0 (fun _ => true) true m 3 ((cs.drop 1).take z)) cop_int).symm.trans g
  rw [List.getElem?_eq_getElem (show 1 < ys.length by rw [hyl]; exact Nat.le_of_ble_eq_true rfl)] at e1
  obtain ⟨a1, g1, r1⟩ := opn_int e1
  have z2 : RdR (heapOf W) (cs.drop 2) [] := by rw [List.drop_eq_nil_of_le (by omega)]; exact .nil
  have y2 : okR [] = true := rfl
  have z1 := RdR.part 1 1 r1 z2
  have y1 := okR_app g1 y2
  have z0 := RdR.part 0 1 r0 z1
  have y0 := okR_app g0 y1
  exact ⟨⟨a0, a1⟩, y0, z0⟩
theorem cop_slLine : Try.prog.cellsOf 47 = 1 := by kernel_rfl
theorem opn_slLine (h : DataW.trod enc Try.prog W 0 (fun _ => true) true fuel 47 cs = some x) : ∃ l : List TLine, okR [.l (dLines l)] = true ∧ RdR (heapOf W) cs [.l (dLines l)] := by
  obtain ⟨l, a, b⟩ := opn_slice c_dLines (Nat.le_of_ble_eq_true rfl) Try.underlying47 cop_Line opn_Line h
  exact ⟨l, by show (_ && true) = true; rw [Bool.and_true]; exact a, b⟩
set_option maxRecDepth 100000 in
theorem open_Line_in {base : Nat} {v : Value} {d : DataW H} {ps : List MemPlace} (hv : Value.okWide Try.prog W .any base 43 v) (h : DataW.Trod enc Try.prog W 0 (fun _ => true) true 43 v d ps) :
    ∃ (y : TLine) (p0 : Value), v = .agg #[p0, .int .i64 y.At] ∧ okR (c_dLines.enc y) = true ∧ RdD (heapOf W) (.l (ints y.Text)) p0 := by
  obtain ⟨cs, rfl, hsz⟩ := okWide_struct Try.underlying43 hv
  obtain ⟨f, hf⟩ := h
  obtain ⟨a, g, r0⟩ := opn_Line hf
  obtain ⟨v0, w0, e0, q0, r1⟩ := r0.uncons
  obtain ⟨v1, w1, e1, q1, r2⟩ := r1.uncons
  have e2 := r2.unnil
  have u1 := q1.atom
  have e0 : cs.toList = v0 :: w0 := e0
  refine ⟨a, v0, ?_, g, q0⟩
  apply congrArg Value.agg
  apply Array.toList_inj.1
  show cs.toList = [v0, .int .i64 a.At]
  rw [e0, e1, e2]
  rw [u1]
theorem okc_Line {y : TLine} (h0 : okR (c_dLines.enc y) = true) : okD (.l (ints y.Text)) = true ∧ okD (.a (.int .i64 y.At)) = true := by
  obtain ⟨k0, h1⟩ := okR_cons h0
  obtain ⟨k1, h2⟩ := okR_cons h1
  exact ⟨k0, k1⟩
set_option maxRecDepth 100000 in
theorem open_slLine_in {base : Nat} {v : Value} {d : DataW H} {ps : List MemPlace} (hv : Value.okWide Try.prog W .any base 47 v) (h : DataW.Trod enc Try.prog W 0 (fun _ => true) true 47 v d ps) :
    ∃ l : List TLine, okR [.l (dLines l)] = true ∧ RdD (heapOf W) (.l (dLines l)) v := by
  obtain ⟨a0, len, cap, rfl⟩ := okWide_slice Try.underlying47 hv
  obtain ⟨f, hf⟩ := h
  obtain ⟨l, g, r⟩ := opn_slLine hf
  exact ⟨l, g, r.one⟩
instance : Inhabited TPiece := ⟨zPiece⟩
theorem cop_Piece : Try.prog.cellsOf 192 = 1 := by kernel_rfl
set_option maxRecDepth 100000 in
theorem opn_Piece (h : DataW.trod enc Try.prog W 0 (fun _ => true) true fuel 192 cs = some x) : ∃ a : TPiece, okR (c_dPieces.enc a) = true ∧ RdR (heapOf W) cs (c_dPieces.enc a) := by
  obtain ⟨ys, m, _, _, hlen, hyl, hf⟩ := DataW.trod_struct Try.underlying192 h
  rw [cop_Piece] at hlen
  have e0 : DataW.trod enc Try.prog W 0 (fun _ => true) true m 23 ((cs.drop 0).take 1) = ys[0]? := by
    have g := hf 0 _ rfl
    exact (congrArg (fun z => DataW.trod enc Try.prog W 0 (fun _ => true) true m 23 ((cs.drop 0).take z)) cop_ints).symm.trans g
  rw [List.getElem?_eq_getElem (show 0 < ys.length by rw [hyl]; exact Nat.le_of_ble_eq_true rfl)] at e0
  obtain ⟨a0, g0, r0⟩ := opn_ints e0
  have z1 : RdR (heapOf W) (cs.drop 1) [] := by rw [List.drop_eq_nil_of_le (by omega)]; exact .nil
  have y1 : okR [] = true := rfl
  have z0 := RdR.part 0 1 r0 z1
  have y0 := okR_app g0 y1
  exact ⟨⟨a0⟩, y0, z0⟩
theorem cop_slPiece : Try.prog.cellsOf 44 = 1 := by kernel_rfl
theorem opn_slPiece (h : DataW.trod enc Try.prog W 0 (fun _ => true) true fuel 44 cs = some x) : ∃ l : List TPiece, okR [.l (dPieces l)] = true ∧ RdR (heapOf W) cs [.l (dPieces l)] := by
  obtain ⟨l, a, b⟩ := opn_slice c_dPieces (Nat.le_of_ble_eq_true rfl) Try.underlying44 cop_Piece opn_Piece h
  exact ⟨l, by show (_ && true) = true; rw [Bool.and_true]; exact a, b⟩
set_option maxRecDepth 100000 in
theorem open_Piece_in {base : Nat} {v : Value} {d : DataW H} {ps : List MemPlace} (hv : Value.okWide Try.prog W .any base 192 v) (h : DataW.Trod enc Try.prog W 0 (fun _ => true) true 192 v d ps) :
    ∃ (y : TPiece) (p0 : Value), v = .agg #[p0] ∧ okR (c_dPieces.enc y) = true ∧ RdD (heapOf W) (.l (ints y.Text)) p0 := by
  obtain ⟨cs, rfl, hsz⟩ := okWide_struct Try.underlying192 hv
  obtain ⟨f, hf⟩ := h
  obtain ⟨a, g, r0⟩ := opn_Piece hf
  obtain ⟨v0, w0, e0, q0, r1⟩ := r0.uncons
  have e1 := r1.unnil
  have e0 : cs.toList = v0 :: w0 := e0
  refine ⟨a, v0, ?_, g, q0⟩
  apply congrArg Value.agg
  apply Array.toList_inj.1
  show cs.toList = [v0]
  rw [e0, e1]
theorem okc_Piece {y : TPiece} (h0 : okR (c_dPieces.enc y) = true) : okD (.l (ints y.Text)) = true := by
  obtain ⟨k0, h1⟩ := okR_cons h0
  exact k0
set_option maxRecDepth 100000 in
theorem open_slPiece_in {base : Nat} {v : Value} {d : DataW H} {ps : List MemPlace} (hv : Value.okWide Try.prog W .any base 44 v) (h : DataW.Trod enc Try.prog W 0 (fun _ => true) true 44 v d ps) :
    ∃ l : List TPiece, okR [.l (dPieces l)] = true ∧ RdD (heapOf W) (.l (dPieces l)) v := by
  obtain ⟨a0, len, cap, rfl⟩ := okWide_slice Try.underlying44 hv
  obtain ⟨f, hf⟩ := h
  obtain ⟨l, g, r⟩ := opn_slPiece hf
  exact ⟨l, g, r.one⟩
instance : Inhabited TRing := ⟨zRing⟩
theorem cop_Ring : Try.prog.cellsOf 46 = 1 := by kernel_rfl
set_option maxRecDepth 100000 in
theorem opn_Ring (h : DataW.trod enc Try.prog W 0 (fun _ => true) true fuel 46 cs = some x) : ∃ a : TRing, okR (c_dRings.enc a) = true ∧ RdR (heapOf W) cs (c_dRings.enc a) := by
  obtain ⟨ys, m, _, _, hlen, hyl, hf⟩ := DataW.trod_struct Try.underlying46 h
  rw [cop_Ring] at hlen
  have e0 : DataW.trod enc Try.prog W 0 (fun _ => true) true m 44 ((cs.drop 0).take 1) = ys[0]? := by
    have g := hf 0 _ rfl
    exact (congrArg (fun z => DataW.trod enc Try.prog W 0 (fun _ => true) true m 44 ((cs.drop 0).take z)) cop_slPiece).symm.trans g
  rw [List.getElem?_eq_getElem (show 0 < ys.length by rw [hyl]; exact Nat.le_of_ble_eq_true rfl)] at e0
  obtain ⟨a0, g0, r0⟩ := opn_slPiece e0
  have z1 : RdR (heapOf W) (cs.drop 1) [] := by rw [List.drop_eq_nil_of_le (by omega)]; exact .nil
  have y1 : okR [] = true := rfl
  have z0 := RdR.part 0 1 r0 z1
  have y0 := okR_app g0 y1
  exact ⟨⟨a0⟩, y0, z0⟩
set_option maxRecDepth 100000 in
theorem open_Ring_in {base : Nat} {v : Value} {d : DataW H} {ps : List MemPlace} (hv : Value.okWide Try.prog W .any base 46 v) (h : DataW.Trod enc Try.prog W 0 (fun _ => true) true 46 v d ps) :
    ∃ (y : TRing) (p0 : Value), v = .agg #[p0] ∧ okR (c_dRings.enc y) = true ∧ RdD (heapOf W) (.l (dPieces y.Pieces)) p0 := by
  obtain ⟨cs, rfl, hsz⟩ := okWide_struct Try.underlying46 hv
  obtain ⟨f, hf⟩ := h
  obtain ⟨a, g, r0⟩ := opn_Ring hf
  obtain ⟨v0, w0, e0, q0, r1⟩ := r0.uncons
  have e1 := r1.unnil
  have e0 : cs.toList = v0 :: w0 := e0
  refine ⟨a, v0, ?_, g, q0⟩
  apply congrArg Value.agg
  apply Array.toList_inj.1
  show cs.toList = [v0]
  rw [e0, e1]
theorem okc_Ring {y : TRing} (h0 : okR (c_dRings.enc y) = true) : okD (.l (dPieces y.Pieces)) = true := by
  obtain ⟨k0, h1⟩ := okR_cons h0
  exact k0
instance : Inhabited TUndo := ⟨zUndo⟩
theorem cop_Undo : Try.prog.cellsOf 49 = 1 := by kernel_rfl
set_option maxRecDepth 100000 in
theorem opn_Undo (h : DataW.trod enc Try.prog W 0 (fun _ => true) true fuel 49 cs = some x) : ∃ a : TUndo, okR (c_dUndos.enc a) = true ∧ RdR (heapOf W) cs (c_dUndos.enc a) := by
  obtain ⟨ys, m, _, _, hlen, hyl, hf⟩ := DataW.trod_struct Try.underlying49 h
  rw [cop_Undo] at hlen
  have e0 : DataW.trod enc Try.prog W 0 (fun _ => true) true m 47 ((cs.drop 0).take 1) = ys[0]? := by
    have g := hf 0 _ rfl
    exact (congrArg (fun z => DataW.trod enc Try.prog W 0 (fun _ => true) true m 47 ((cs.drop 0).take z)) cop_slLine).symm.trans g
  rw [List.getElem?_eq_getElem (show 0 < ys.length by rw [hyl]; exact Nat.le_of_ble_eq_true rfl)] at e0
  obtain ⟨a0, g0, r0⟩ := opn_slLine e0
  have z1 : RdR (heapOf W) (cs.drop 1) [] := by rw [List.drop_eq_nil_of_le (by omega)]; exact .nil
  have y1 : okR [] = true := rfl
  have z0 := RdR.part 0 1 r0 z1
  have y0 := okR_app g0 y1
  exact ⟨⟨a0⟩, y0, z0⟩
set_option maxRecDepth 100000 in
theorem open_Undo_in {base : Nat} {v : Value} {d : DataW H} {ps : List MemPlace} (hv : Value.okWide Try.prog W .any base 49 v) (h : DataW.Trod enc Try.prog W 0 (fun _ => true) true 49 v d ps) :
    ∃ (y : TUndo) (p0 : Value), v = .agg #[p0] ∧ okR (c_dUndos.enc y) = true ∧ RdD (heapOf W) (.l (dLines y.Lines)) p0 := by
  obtain ⟨cs, rfl, hsz⟩ := okWide_struct Try.underlying49 hv
  obtain ⟨f, hf⟩ := h
  obtain ⟨a, g, r0⟩ := opn_Undo hf
  obtain ⟨v0, w0, e0, q0, r1⟩ := r0.uncons
  have e1 := r1.unnil
  have e0 : cs.toList = v0 :: w0 := e0
  refine ⟨a, v0, ?_, g, q0⟩
  apply congrArg Value.agg
  apply Array.toList_inj.1
  show cs.toList = [v0]
  rw [e0, e1]
theorem okc_Undo {y : TUndo} (h0 : okR (c_dUndos.enc y) = true) : okD (.l (dLines y.Lines)) = true := by
  obtain ⟨k0, h1⟩ := okR_cons h0
  exact k0
instance : Inhabited TEd := ⟨zEd⟩
theorem cop_Ed : Try.prog.cellsOf 51 = 20 := by kernel_rfl
set_option maxRecDepth 100000 in
theorem opn_Ed (h : DataW.trod enc Try.prog W 0 (fun _ => true) true fuel 51 cs = some x) : ∃ a : TEd, okR (c_dEds.enc a) = true ∧ RdR (heapOf W) cs (c_dEds.enc a) := by
  obtain ⟨ys, m, _, _, hlen, hyl, hf⟩ := DataW.trod_struct Try.underlying51 h
  rw [cop_Ed] at hlen
  have e0 : DataW.trod enc Try.prog W 0 (fun _ => true) true m 4 ((cs.drop 0).take 1) = ys[0]? := by
    have g := hf 0 _ rfl
    exact (congrArg (fun z => DataW.trod enc Try.prog W 0 (fun _ => true) true m 4 ((cs.drop 0).take z)) cop_bool).symm.trans g
  rw [List.getElem?_eq_getElem (show 0 < ys.length by rw [hyl]; exact Nat.le_of_ble_eq_true rfl)] at e0
  obtain ⟨a0, g0, r0⟩ := opn_bool e0
  have e1 : DataW.trod enc Try.prog W 0 (fun _ => true) true m 3 ((cs.drop 1).take 1) = ys[1]? := by
    have g := hf 1 _ rfl
    exact (congrArg (fun z => DataW.trod enc Try.prog W 0 (fun _ => true) true m 3 ((cs.drop 1).take z)) cop_int).symm.trans g
  rw [List.getElem?_eq_getElem (show 1 < ys.length by rw [hyl]; exact Nat.le_of_ble_eq_true rfl)] at e1
  obtain ⟨a1, g1, r1⟩ := opn_int e1
  have e2 : DataW.trod enc Try.prog W 0 (fun _ => true) true m 43 ((cs.drop 2).take 2) = ys[2]? := by
    have g := hf 2 _ rfl
    exact (congrArg (fun z => DataW.trod enc Try.prog W 0 (fun _ => true) true m 43 ((cs.drop 2).take z)) cop_Line).symm.trans g
  rw [List.getElem?_eq_getElem (show 2 < ys.length by rw [hyl]; exact Nat.le_of_ble_eq_true rfl)] at e2
  obtain ⟨a2, g2, r2⟩ := opn_Line e2
  have e3 : DataW.trod enc Try.prog W 0 (fun _ => true) true m 3 ((cs.drop 4).take 1) = ys[3]? := by
    have g := hf 3 _ rfl
    exact (congrArg (fun z => DataW.trod enc Try.prog W 0 (fun _ => true) true m 3 ((cs.drop 4).take z)) cop_int).symm.trans g
  rw [List.getElem?_eq_getElem (show 3 < ys.length by rw [hyl]; exact Nat.le_of_ble_eq_true rfl)] at e3
  obtain ⟨a3, g3, r3⟩ := opn_int e3
  have e4 : DataW.trod enc Try.prog W 0 (fun _ => true) true m 3 ((cs.drop 5).take 1) = ys[4]? := by
    have g := hf 4 _ rfl
    exact (congrArg (fun z => DataW.trod enc Try.prog W 0 (fun _ => true) true m 3 ((cs.drop 5).take z)) cop_int).symm.trans g
  rw [List.getElem?_eq_getElem (show 4 < ys.length by rw [hyl]; exact Nat.le_of_ble_eq_true rfl)] at e4
  obtain ⟨a4, g4, r4⟩ := opn_int e4
  have e5 : DataW.trod enc Try.prog W 0 (fun _ => true) true m 3 ((cs.drop 6).take 1) = ys[5]? := by
    have g := hf 5 _ rfl
    exact (congrArg (fun z => DataW.trod enc Try.prog W 0 (fun _ => true) true m 3 ((cs.drop 6).take z)) cop_int).symm.trans g
  rw [List.getElem?_eq_getElem (show 5 < ys.length by rw [hyl]; exact Nat.le_of_ble_eq_true rfl)] at e5
  obtain ⟨a5, g5, r5⟩ := opn_int e5
  have e6 : DataW.trod enc Try.prog W 0 (fun _ => true) true m 3 ((cs.drop 7).take 1) = ys[6]? := by
    have g := hf 6 _ rfl
    exact (congrArg (fun z => DataW.trod enc Try.prog W 0 (fun _ => true) true m 3 ((cs.drop 7).take z)) cop_int).symm.trans g
  rw [List.getElem?_eq_getElem (show 6 < ys.length by rw [hyl]; exact Nat.le_of_ble_eq_true rfl)] at e6
  obtain ⟨a6, g6, r6⟩ := opn_int e6
  have e7 : DataW.trod enc Try.prog W 0 (fun _ => true) true m 3 ((cs.drop 8).take 1) = ys[7]? := by
    have g := hf 7 _ rfl
    exact (congrArg (fun z => DataW.trod enc Try.prog W 0 (fun _ => true) true m 3 ((cs.drop 8).take z)) cop_int).symm.trans g
  rw [List.getElem?_eq_getElem (show 7 < ys.length by rw [hyl]; exact Nat.le_of_ble_eq_true rfl)] at e7
  obtain ⟨a7, g7, r7⟩ := opn_int e7
  have e8 : DataW.trod enc Try.prog W 0 (fun _ => true) true m 3 ((cs.drop 9).take 1) = ys[8]? := by
    have g := hf 8 _ rfl
    exact (congrArg (fun z => DataW.trod enc Try.prog W 0 (fun _ => true) true m 3 ((cs.drop 9).take z)) cop_int).symm.trans g
  rw [List.getElem?_eq_getElem (show 8 < ys.length by rw [hyl]; exact Nat.le_of_ble_eq_true rfl)] at e8
  obtain ⟨a8, g8, r8⟩ := opn_int e8
  have e9 : DataW.trod enc Try.prog W 0 (fun _ => true) true m 3 ((cs.drop 10).take 1) = ys[9]? := by
    have g := hf 9 _ rfl
    exact (congrArg (fun z => DataW.trod enc Try.prog W 0 (fun _ => true) true m 3 ((cs.drop 10).take z)) cop_int).symm.trans g
  rw [List.getElem?_eq_getElem (show 9 < ys.length by rw [hyl]; exact Nat.le_of_ble_eq_true rfl)] at e9
  obtain ⟨a9, g9, r9⟩ := opn_int e9
  have e10 : DataW.trod enc Try.prog W 0 (fun _ => true) true m 46 ((cs.drop 11).take 1) = ys[10]? := by
    have g := hf 10 _ rfl
    exact (congrArg (fun z => DataW.trod enc Try.prog W 0 (fun _ => true) true m 46 ((cs.drop 11).take z)) cop_Ring).symm.trans g
  rw [List.getElem?_eq_getElem (show 10 < ys.length by rw [hyl]; exact Nat.le_of_ble_eq_true rfl)] at e10
  obtain ⟨a10, g10, r10⟩ := opn_Ring e10
  have e11 : DataW.trod enc Try.prog W 0 (fun _ => true) true m 49 ((cs.drop 12).take 1) = ys[11]? := by
    have g := hf 11 _ rfl
    exact (congrArg (fun z => DataW.trod enc Try.prog W 0 (fun _ => true) true m 49 ((cs.drop 12).take z)) cop_Undo).symm.trans g
  rw [List.getElem?_eq_getElem (show 11 < ys.length by rw [hyl]; exact Nat.le_of_ble_eq_true rfl)] at e11
  obtain ⟨a11, g11, r11⟩ := opn_Undo e11
  have e12 : DataW.trod enc Try.prog W 0 (fun _ => true) true m 3 ((cs.drop 13).take 1) = ys[12]? := by
    have g := hf 12 _ rfl
    exact (congrArg (fun z => DataW.trod enc Try.prog W 0 (fun _ => true) true m 3 ((cs.drop 13).take z)) cop_int).symm.trans g
  rw [List.getElem?_eq_getElem (show 12 < ys.length by rw [hyl]; exact Nat.le_of_ble_eq_true rfl)] at e12
  obtain ⟨a12, g12, r12⟩ := opn_int e12
  have e13 : DataW.trod enc Try.prog W 0 (fun _ => true) true m 43 ((cs.drop 14).take 2) = ys[13]? := by
    have g := hf 13 _ rfl
    exact (congrArg (fun z => DataW.trod enc Try.prog W 0 (fun _ => true) true m 43 ((cs.drop 14).take z)) cop_Line).symm.trans g
  rw [List.getElem?_eq_getElem (show 13 < ys.length by rw [hyl]; exact Nat.le_of_ble_eq_true rfl)] at e13
  obtain ⟨a13, g13, r13⟩ := opn_Line e13
  have e14 : DataW.trod enc Try.prog W 0 (fun _ => true) true m 23 ((cs.drop 16).take 1) = ys[14]? := by
    have g := hf 14 _ rfl
    exact (congrArg (fun z => DataW.trod enc Try.prog W 0 (fun _ => true) true m 23 ((cs.drop 16).take z)) cop_ints).symm.trans g
  rw [List.getElem?_eq_getElem (show 14 < ys.length by rw [hyl]; exact Nat.le_of_ble_eq_true rfl)] at e14
  obtain ⟨a14, g14, r14⟩ := opn_ints e14
  have e15 : DataW.trod enc Try.prog W 0 (fun _ => true) true m 3 ((cs.drop 17).take 1) = ys[15]? := by
    have g := hf 15 _ rfl
    exact (congrArg (fun z => DataW.trod enc Try.prog W 0 (fun _ => true) true m 3 ((cs.drop 17).take z)) cop_int).symm.trans g
  rw [List.getElem?_eq_getElem (show 15 < ys.length by rw [hyl]; exact Nat.le_of_ble_eq_true rfl)] at e15
  obtain ⟨a15, g15, r15⟩ := opn_int e15
  have e16 : DataW.trod enc Try.prog W 0 (fun _ => true) true m 43 ((cs.drop 18).take 2) = ys[16]? := by
    have g := hf 16 _ rfl
    exact (congrArg (fun z => DataW.trod enc Try.prog W 0 (fun _ => true) true m 43 ((cs.drop 18).take z)) cop_Line).symm.trans g
  rw [List.getElem?_eq_getElem (show 16 < ys.length by rw [hyl]; exact Nat.le_of_ble_eq_true rfl)] at e16
  obtain ⟨a16, g16, r16⟩ := opn_Line e16
  have z17 : RdR (heapOf W) (cs.drop 20) [] := by rw [List.drop_eq_nil_of_le (by omega)]; exact .nil
  have y17 : okR [] = true := rfl
  have z16 := RdR.part 18 2 r16 z17
  have y16 := okR_app g16 y17
  have z15 := RdR.part 17 1 r15 z16
  have y15 := okR_app g15 y16
  have z14 := RdR.part 16 1 r14 z15
  have y14 := okR_app g14 y15
  have z13 := RdR.part 14 2 r13 z14
  have y13 := okR_app g13 y14
  have z12 := RdR.part 13 1 r12 z13
  have y12 := okR_app g12 y13
  have z11 := RdR.part 12 1 r11 z12
  have y11 := okR_app g11 y12
  have z10 := RdR.part 11 1 r10 z11
  have y10 := okR_app g10 y11
  have z9 := RdR.part 10 1 r9 z10
  have y9 := okR_app g9 y10
  have z8 := RdR.part 9 1 r8 z9
  have y8 := okR_app g8 y9
  have z7 := RdR.part 8 1 r7 z8
  have y7 := okR_app g7 y8
  have z6 := RdR.part 7 1 r6 z7
  have y6 := okR_app g6 y7
  have z5 := RdR.part 6 1 r5 z6
  have y5 := okR_app g5 y6
  have z4 := RdR.part 5 1 r4 z5
  have y4 := okR_app g4 y5
  have z3 := RdR.part 4 1 r3 z4
  have y3 := okR_app g3 y4
  have z2 := RdR.part 2 2 r2 z3
  have y2 := okR_app g2 y3
  have z1 := RdR.part 1 1 r1 z2
  have y1 := okR_app g1 y2
  have z0 := RdR.part 0 1 r0 z1
  have y0 := okR_app g0 y1
  exact ⟨⟨a0, a1, a2, a3, a4, a5, a6, a7, a8, a9, a10, a11, a12, a13, a14, a15, a16⟩, y0, z0⟩
set_option maxRecDepth 100000 in
theorem open_Ed_in {base : Nat} {v : Value} {d : DataW H} {ps : List MemPlace} (hv : Value.okWide Try.prog W .any base 51 v) (h : DataW.Trod enc Try.prog W 0 (fun _ => true) true 51 v d ps) :
    ∃ (y : TEd) (p0 p1 p2 p3 p4 p5 : Value), v = .agg #[.bool y.Vi, .int .i64 y.Mode, p0, .int .i64 y.Line.At, .int .i64 y.Count, .int .i64 y.Op, .int .i64 y.OpCount, .int .i64 y.Wait, .int .i64 y.FindR, .int .i64 y.FindHow, .int .i64 y.Last, p1, p2, .int .i64 y.Nav, p3, .int .i64 y.Own.At, p4, .int .i64 y.Hit, p5, .int .i64 y.Back.At] ∧ okR (c_dEds.enc y) = true ∧ RdD (heapOf W) (.l (ints y.Line.Text)) p0 ∧ RdD (heapOf W) (.l (dPieces y.Ring.Pieces)) p1 ∧ RdD (heapOf W) (.l (dLines y.Undo.Lines)) p2 ∧ RdD (heapOf W) (.l (ints y.Own.Text)) p3 ∧ RdD (heapOf W) (.l (ints y.Query)) p4 ∧ RdD (heapOf W) (.l (ints y.Back.Text)) p5 := by
  obtain ⟨cs, rfl, hsz⟩ := okWide_struct Try.underlying51 hv
  obtain ⟨f, hf⟩ := h
  obtain ⟨a, g, r0⟩ := opn_Ed hf
  obtain ⟨v0, w0, e0, q0, r1⟩ := r0.uncons
  obtain ⟨v1, w1, e1, q1, r2⟩ := r1.uncons
  obtain ⟨v2, w2, e2, q2, r3⟩ := r2.uncons
  obtain ⟨v3, w3, e3, q3, r4⟩ := r3.uncons
  obtain ⟨v4, w4, e4, q4, r5⟩ := r4.uncons
  obtain ⟨v5, w5, e5, q5, r6⟩ := r5.uncons
  obtain ⟨v6, w6, e6, q6, r7⟩ := r6.uncons
  obtain ⟨v7, w7, e7, q7, r8⟩ := r7.uncons
  obtain ⟨v8, w8, e8, q8, r9⟩ := r8.uncons
  obtain ⟨v9, w9, e9, q9, r10⟩ := r9.uncons
  obtain ⟨v10, w10, e10, q10, r11⟩ := r10.uncons
  obtain ⟨v11, w11, e11, q11, r12⟩ := r11.uncons
  obtain ⟨v12, w12, e12, q12, r13⟩ := r12.uncons
  obtain ⟨v13, w13, e13, q13, r14⟩ := r13.uncons
  obtain ⟨v14, w14, e14, q14, r15⟩ := r14.uncons
  obtain ⟨v15, w15, e15, q15, r16⟩ := r15.uncons
  obtain ⟨v16, w16, e16, q16, r17⟩ := r16.uncons
  obtain ⟨v17, w17, e17, q17, r18⟩ := r17.uncons
  obtain ⟨v18, w18, e18, q18, r19⟩ := r18.uncons
  obtain ⟨v19, w19, e19, q19, r20⟩ := r19.uncons
  have e20 := r20.unnil
  have u0 := q0.atom
  have u1 := q1.atom
  have u3 := q3.atom
  have u4 := q4.atom
  have u5 := q5.atom
  have u6 := q6.atom
  have u7 := q7.atom
  have u8 := q8.atom
  have u9 := q9.atom
  have u10 := q10.atom
  have u13 := q13.atom
  have u15 := q15.atom
  have u17 := q17.atom
  have u19 := q19.atom
  have e0 : cs.toList = v0 :: w0 := e0
  refine ⟨a, v2, v11, v12, v14, v16, v18, ?_, g, q2, q11, q12, q14, q16, q18⟩
  apply congrArg Value.agg
  apply Array.toList_inj.1
  show cs.toList = [.bool a.Vi, .int .i64 a.Mode, v2, .int .i64 a.Line.At, .int .i64 a.Count, .int .i64 a.Op, .int .i64 a.OpCount, .int .i64 a.Wait, .int .i64 a.FindR, .int .i64 a.FindHow, .int .i64 a.Last, v11, v12, .int .i64 a.Nav, v14, .int .i64 a.Own.At, v16, .int .i64 a.Hit, v18, .int .i64 a.Back.At]
  rw [e0, e1, e2, e3, e4, e5, e6, e7, e8, e9, e10, e11, e12, e13, e14, e15, e16, e17, e18, e19, e20]
  rw [u0]
  rw [u1]
  rw [u3]
  rw [u4]
  rw [u5]
  rw [u6]
  rw [u7]
  rw [u8]
  rw [u9]
  rw [u10]
  rw [u13]
  rw [u15]
  rw [u17]
  rw [u19]
theorem okc_Ed {y : TEd} (h0 : okR (c_dEds.enc y) = true) : okD (.a (.bool y.Vi)) = true ∧ okD (.a (.int .i64 y.Mode)) = true ∧ okD (.l (ints y.Line.Text)) = true ∧ okD (.a (.int .i64 y.Line.At)) = true ∧ okD (.a (.int .i64 y.Count)) = true ∧ okD (.a (.int .i64 y.Op)) = true ∧ okD (.a (.int .i64 y.OpCount)) = true ∧ okD (.a (.int .i64 y.Wait)) = true ∧ okD (.a (.int .i64 y.FindR)) = true ∧ okD (.a (.int .i64 y.FindHow)) = true ∧ okD (.a (.int .i64 y.Last)) = true ∧ okD (.l (dPieces y.Ring.Pieces)) = true ∧ okD (.l (dLines y.Undo.Lines)) = true ∧ okD (.a (.int .i64 y.Nav)) = true ∧ okD (.l (ints y.Own.Text)) = true ∧ okD (.a (.int .i64 y.Own.At)) = true ∧ okD (.l (ints y.Query)) = true ∧ okD (.a (.int .i64 y.Hit)) = true ∧ okD (.l (ints y.Back.Text)) = true ∧ okD (.a (.int .i64 y.Back.At)) = true := by
  obtain ⟨k0, h1⟩ := okR_cons h0
  obtain ⟨k1, h2⟩ := okR_cons h1
  obtain ⟨k2, h3⟩ := okR_cons h2
  obtain ⟨k3, h4⟩ := okR_cons h3
  obtain ⟨k4, h5⟩ := okR_cons h4
  obtain ⟨k5, h6⟩ := okR_cons h5
  obtain ⟨k6, h7⟩ := okR_cons h6
  obtain ⟨k7, h8⟩ := okR_cons h7
  obtain ⟨k8, h9⟩ := okR_cons h8
  obtain ⟨k9, h10⟩ := okR_cons h9
  obtain ⟨k10, h11⟩ := okR_cons h10
  obtain ⟨k11, h12⟩ := okR_cons h11
  obtain ⟨k12, h13⟩ := okR_cons h12
  obtain ⟨k13, h14⟩ := okR_cons h13
  obtain ⟨k14, h15⟩ := okR_cons h14
  obtain ⟨k15, h16⟩ := okR_cons h15
  obtain ⟨k16, h17⟩ := okR_cons h16
  obtain ⟨k17, h18⟩ := okR_cons h17
  obtain ⟨k18, h19⟩ := okR_cons h18
  obtain ⟨k19, h20⟩ := okR_cons h19
  exact ⟨k0, k1, k2, k3, k4, k5, k6, k7, k8, k9, k10, k11, k12, k13, k14, k15, k16, k17, k18, k19⟩
end
end Go.Proofs.Ytacnbajcignacaa
namespace Go.Proofs.Ytacnbajcignacaa
open Go.RowKit
set_option linter.unusedSimpArgs false
set_option linter.unusedVariables false
set_option maxHeartbeats 16000000
set_option maxRecDepth 100000
theorem show_same (e : TEd) (hsm : e.sm) (note ps : ByteArray) (w h : Int) : ∃ (gw gh gx gy : Int) (wr ok : Bool) (l : List Int), l.length ≤ 1000000 ∧
    M_sShow [V.v (.string note), V.v (.string ps), .agg [V.v (.bool e.Vi), V.v (.int .i64 e.Mode), .lst (some 0) (ints e.Line.Text), V.v (.int .i64 e.Line.At), V.v (.int .i64 e.Count), V.v (.int .i64 e.Op), V.v (.int .i64 e.OpCount), V.v (.int .i64 e.Wait), V.v (.int .i64 e.FindR), V.v (.int .i64 e.FindHow), V.v (.int .i64 e.Last), .lst (some 1) (dPieces e.Ring.Pieces), .lst (some 2) (dLines e.Undo.Lines), V.v (.int .i64 e.Nav), .lst (some 3) (ints e.Own.Text), V.v (.int .i64 e.Own.At), .lst (some 4) (ints e.Query), V.v (.int .i64 e.Hit), .lst (some 5) (ints e.Back.Text), V.v (.int .i64 e.Back.At)], V.v (.int .i64 w), V.v (.int .i64 h)] [] [] = some ⟨.tup [.agg [V.v (.int .i64 gw), V.v (.int .i64 gh), .own 0, V.v (.int .i64 gx), V.v (.int .i64 gy), V.v (.bool wr)], V.v (.bool ok)], [], [(0, ints l)]⟩ ∧
    M_iShow [V.v (.string note), V.v (.string ps), .agg [V.v (.bool e.Vi), V.v (.int .i64 e.Mode), .lst (some 0) (ints e.Line.Text), V.v (.int .i64 e.Line.At), V.v (.int .i64 e.Count), V.v (.int .i64 e.Op), V.v (.int .i64 e.OpCount), V.v (.int .i64 e.Wait), V.v (.int .i64 e.FindR), V.v (.int .i64 e.FindHow), V.v (.int .i64 e.Last), .lst (some 1) (dPieces e.Ring.Pieces), .lst (some 2) (dLines e.Undo.Lines), V.v (.int .i64 e.Nav), .lst (some 3) (ints e.Own.Text), V.v (.int .i64 e.Own.At), .lst (some 4) (ints e.Query), V.v (.int .i64 e.Hit), .lst (some 5) (ints e.Back.Text), V.v (.int .i64 e.Back.At)], V.v (.int .i64 w), V.v (.int .i64 h)] [] [] = some ⟨.tup [.agg [V.v (.int .i64 gw), V.v (.int .i64 gh), .own 0, V.v (.int .i64 gx), V.v (.int .i64 gy), V.v (.bool wr)], V.v (.bool ok)], [], [(0, ints l)]⟩ := by
  obtain ⟨ln, rn, hn⟩ := reads_ex _ note.data.toList (Nat.le_refl _)
  obtain ⟨lp, rp, hp⟩ := reads_ex _ ps.data.toList (Nat.le_refl _)
  cases hall : (gridNewOk w h && (e.ok && (fairB note ln rn && fairB ps lp rp)))
  · exact ⟨0, 0, 0, 0, false, false, [], by simp, E_sShow_no e hsm note ps ln lp rn rp hn hp w h hall, E_iShow_no e hsm note ps ln lp rn rp hn hp w h hall⟩
  · simp only [Bool.and_eq_true] at hall
    obtain ⟨hg, hok, f1, f2⟩ := hall
    obtain ⟨W, H, rfl, rfl, hW, hH⟩ := grid_nat hg
    obtain ⟨-, rfl, -, -⟩ := fair_of f1
    obtain ⟨-, rfl, -, -⟩ := fair_of f2
    obtain ⟨-, -, A, hA, -⟩ := lineOk_of (TEd.ok_of hok).1
    refine ⟨_, _, _, _, _, _, _, ?_, E_sShow e hsm note ps ln lp hn hp W H hg hok f1 f2 A hA, E_iShow e hsm note ps ln lp hn hp W H hg hok f1 f2 A hA⟩
    rw [win_len]
    exact Nat.le_trans (Nat.mul_le_mul hH.2 hW.2) (by omega)
theorem E_lFnExactShow (note ps : ByteArray) (e : TEd) (w h : Int) (_ : note.size ≤ 9223372036854775807) (_ : ps.size ≤ 9223372036854775807) (hok : okR (c_dEds.enc e) = true) (_ : R64 w) (_ : R64 h) :
    M_lFnExactShow [V.v (.string note), V.v (.string ps), .agg [V.v (.bool e.Vi), V.v (.int .i64 e.Mode), .lst (some 0) (ints e.Line.Text), V.v (.int .i64 e.Line.At), V.v (.int .i64 e.Count), V.v (.int .i64 e.Op), V.v (.int .i64 e.OpCount), V.v (.int .i64 e.Wait), V.v (.int .i64 e.FindR), V.v (.int .i64 e.FindHow), V.v (.int .i64 e.Last), .lst (some 1) (dPieces e.Ring.Pieces), .lst (some 2) (dLines e.Undo.Lines), V.v (.int .i64 e.Nav), .lst (some 3) (ints e.Own.Text), V.v (.int .i64 e.Own.At), .lst (some 4) (ints e.Query), V.v (.int .i64 e.Hit), .lst (some 5) (ints e.Back.Text), V.v (.int .i64 e.Back.At)], V.v (.int .i64 w), V.v (.int .i64 h)] [] [] = some ⟨V.v (.bool true), [], []⟩ := by
  unfold M_lFnExactShow
  obtain ⟨-, -, t1, -, -, -, -, -, -, -, -, t2, t3, -, t4, -, t5, -, t6, -⟩ := okc_Ed hok
  have s1 := okD_lg t1
  have s2 := okD_lg t2
  have s3 := okD_lg t3
  have s4 := okD_lg t4
  have s5 := okD_lg t5
  have s6 := okD_lg t6
  by_cases h1 : 1048576 < note.size
  · have h1' : (1048576 : Int) < note.size := by omega
    simp [Try.func4, Try.f4, h1, h1']
  have h1' : ¬ (1048576 : Int) < note.size := by omega
  by_cases h2 : 1048576 < ps.size
  · have h2' : (1048576 : Int) < ps.size := by omega
    simp [Try.func4, Try.f4, h1, h1', h2, h2']
  have h2' : ¬ (1048576 : Int) < ps.size := by omega
  have wl := w64 1048576 (by omega)
  obtain ⟨m, em, m1, m2, m3⟩ := E_lszEd e.Vi e.Mode (ints e.Line.Text) (is_ints_rows _) s1 e.Line.At e.Count e.Op e.OpCount e.Wait e.FindR e.FindHow e.Last (dPieces e.Ring.Pieces) (is_dPieces_rows _) s2 (dLines e.Undo.Lines) (is_dLines_rows _) s3 e.Nav (ints e.Own.Text) (is_ints_rows _) s4 e.Own.At (ints e.Query) (is_ints_rows _) s5 e.Hit (ints e.Back.Text) (is_ints_rows _) s6 e.Back.At 1048576 (by omega)
  by_cases h3 : m < 0
  · simp [Try.func4, Try.f4, h1, h1', h2, h2', wl, em, h3]
  obtain ⟨q1, q2, q3, q4, q5, q6⟩ := m3 (by omega)
  have hsm : e.sm := ⟨by simpa using smL_len q1, by simpa using smL_len q4, by simpa using smL_len q6, by simpa using smL_len q5, q2, q3⟩
  obtain ⟨gw, gh, gx, gy, wr, ok, l, hl, hS, hI⟩ := show_same e hsm note ps w h
  have hTo := E_ltoEd e.Vi e.Mode (ints e.Line.Text) e.Line.At e.Count e.Op e.OpCount e.Wait e.FindR e.FindHow e.Last (dPieces e.Ring.Pieces) (dLines e.Undo.Lines) e.Nav (ints e.Own.Text) e.Own.At (ints e.Query) e.Hit (ints e.Back.Text) e.Back.At (is_ints_rows _) q1 (is_dPieces_rows _) q2 (is_dLines_rows _) q3 (is_ints_rows _) q4 (is_ints_rows _) q5 (is_ints_rows _) q6
  have hEq := E_leqEd e.Vi e.Mode (ints e.Line.Text) e.Line.At e.Count e.Op e.OpCount e.Wait e.FindR e.FindHow e.Last (dPieces e.Ring.Pieces) (dLines e.Undo.Lines) e.Nav (ints e.Own.Text) e.Own.At (ints e.Query) e.Hit (ints e.Back.Text) e.Back.At (is_ints_rows _) q1 (is_dPieces_rows _) q2 (is_dLines_rows _) q3 (is_ints_rows _) q4 (is_ints_rows _) q5 (is_ints_rows _) q6
  obtain ⟨y, r0, r1, r2, r3, r4, r5, hM, hy1, hy2⟩ := EX_lmarkEd e.Vi e.Mode (ints e.Line.Text) e.Line.At e.Count e.Op e.OpCount e.Wait e.FindR e.FindHow e.Last (dPieces e.Ring.Pieces) (dLines e.Undo.Lines) e.Nav (ints e.Own.Text) e.Own.At (ints e.Query) e.Hit (ints e.Back.Text) e.Back.At (is_ints_rows _) q1 (is_dPieces_rows _) q2 (is_dLines_rows _) q3 (is_ints_rows _) q4 (is_ints_rows _) q5 (is_ints_rows _) q6 1 (by omega)
  have hG := E_leqGrid gw gh (ints l) gx gy wr (is_ints_rows _) (smL_ints (by omega))
  have hMG := E_lmarkGrid gw gh gx gy wr l 1 (by omega) (by omega)
  have hHG := E_lheldGrid gw gh gx gy wr l.length 1 (by omega) (by omega)
  have hn : ¬ y < 0 := by omega
  have hn2 : ¬ (1 + (l.length : Int) < 0) := by omega
  simp [Try.func4, Try.f4, h1, h1', h2, h2', wl, em, h3, hTo, hS, hI, hEq, hM, hG, hMG, hHG, hn, hn2]
end Go.Proofs.Ytacnbajcignacaa
namespace Go.Proofs.Ytacnbajcignacaa.fnExactShow
open Go.ChangeShapes Go.WideShapes Go.ChangeAt Go.RowKit
open Go.ChangeMaps (open_string shut_string)
set_option linter.unusedVariables false
theorem law_FnExactShow (x0 : ByteArray) (x1 : ByteArray) (y2 : TEd) (p2_0 p2_1 p2_2 p2_3 p2_4 p2_5 : Value) (x3 : Int) (x4 : Int) (W : World) (g0 : x0.size ≤ 9223372036854775807) (g1 : x1.size ≤ 9223372036854775807) (g2 : okR (c_dEds.enc y2) = true) (z2_0 : RdD (heapOf W) (.l (ints y2.Line.Text)) p2_0) (z2_1 : RdD (heapOf W) (.l (dPieces y2.Ring.Pieces)) p2_1) (z2_2 : RdD (heapOf W) (.l (dLines y2.Undo.Lines)) p2_2) (z2_3 : RdD (heapOf W) (.l (ints y2.Own.Text)) p2_3) (z2_4 : RdD (heapOf W) (.l (ints y2.Query)) p2_4) (z2_5 : RdD (heapOf W) (.l (ints y2.Back.Text)) p2_5) (g3 : R64 x3) (g4 : R64 x4) :
    Calls Try.prog 4 #[.string x0, .string x1, .agg #[.bool y2.Vi, .int .i64 y2.Mode, p2_0, .int .i64 y2.Line.At, .int .i64 y2.Count, .int .i64 y2.Op, .int .i64 y2.OpCount, .int .i64 y2.Wait, .int .i64 y2.FindR, .int .i64 y2.FindHow, .int .i64 y2.Last, p2_1, p2_2, .int .i64 y2.Nav, p2_3, .int .i64 y2.Own.At, p2_4, .int .i64 y2.Hit, p2_5, .int .i64 y2.Back.At], .int .i64 x3, .int .i64 x4] W fun e W' => e = .returned (.bool true) ∧ Ext W W' :=
  S_lFnExactShow.top_v (us := [.string x0, .string x1, .agg #[.bool y2.Vi, .int .i64 y2.Mode, p2_0, .int .i64 y2.Line.At, .int .i64 y2.Count, .int .i64 y2.Op, .int .i64 y2.OpCount, .int .i64 y2.Wait, .int .i64 y2.FindR, .int .i64 y2.FindHow, .int .i64 y2.Last, p2_1, p2_2, .int .i64 y2.Nav, p2_3, .int .i64 y2.Own.At, p2_4, .int .i64 y2.Hit, p2_5, .int .i64 y2.Back.At], .int .i64 x3, .int .i64 x4]) (ls := [p2_0, p2_1, p2_2, p2_3, p2_4, p2_5]) (E_lFnExactShow x0 x1 y2 x3 x4 g0 g1 g2 g3 g4)
    ⟨_, _, rfl, rfl, _, _, rfl, rfl, _, _, rfl, ⟨[.bool y2.Vi, .int .i64 y2.Mode, p2_0, .int .i64 y2.Line.At, .int .i64 y2.Count, .int .i64 y2.Op, .int .i64 y2.OpCount, .int .i64 y2.Wait, .int .i64 y2.FindR, .int .i64 y2.FindHow, .int .i64 y2.Last, p2_1, p2_2, .int .i64 y2.Nav, p2_3, .int .i64 y2.Own.At, p2_4, .int .i64 y2.Hit, p2_5, .int .i64 y2.Back.At], rfl, ⟨_, _, rfl, rfl, _, _, rfl, rfl, _, _, rfl, top_arg_l rfl z2_0, _, _, rfl, rfl, _, _, rfl, rfl, _, _, rfl, rfl, _, _, rfl, rfl, _, _, rfl, rfl, _, _, rfl, rfl, _, _, rfl, rfl, _, _, rfl, rfl, _, _, rfl, top_arg_l rfl z2_1, _, _, rfl, top_arg_l rfl z2_2, _, _, rfl, rfl, _, _, rfl, top_arg_l rfl z2_3, _, _, rfl, rfl, _, _, rfl, top_arg_l rfl z2_4, _, _, rfl, rfl, _, _, rfl, top_arg_l rfl z2_5, _, _, rfl, rfl, rfl⟩⟩, _, _, rfl, rfl, _, _, rfl, rfl, rfl⟩
set_option maxRecDepth 100000 in
theorem lifted (os : Os) (started : os.Started) (H : Type) (enc : TypeId × Value → H) :
    ReturnsInHanded {} Try.checked os 4 .any (Rows.fnExactShowSpec.pre6 enc Try.prog Try.f4 Rows.fnExactShowRow.domain false) (Rows.fnExactShowSpec.post enc Try.prog Try.f4 false true false false) := by
  refine returnsInHanded_of_change (C := Try.checked) ownKnob_none started (by kernel_rfl) Try.func4
    (ChangeSpec.witness6 (enc := enc) (C := Try.checked) false ⟨#[], #[.string .empty, .string .empty, .agg #[.bool false, .int .i64 0, .slice none 0 0, .int .i64 0, .int .i64 0, .int .i64 0, .int .i64 0, .int .i64 0, .int .i64 0, .int .i64 0, .int .i64 0, .slice none 0 0, .slice none 0 0, .int .i64 0, .slice none 0 0, .int .i64 0, .slice none 0 0, .int .i64 0, .slice none 0 0, .int .i64 0], .int .i64 0, .int .i64 0], []⟩ 8 (by kernel_rfl) (by kernel_rfl) (by kernel_rfl) (by kernel_rfl)) ?_
  intro W base args ds gs before hval0 hW hcnd _
  have hval : ∀ (j : Nat) t v, Try.f4.params[j]? = some t → args[j]? = some v → Value.okWide Try.prog W .any base t v := hval0
  have hW' := hW
  obtain ⟨p, q, hA0, hV, rfl, hfz, hnd⟩ := hW
  have hA : DataW.TrodAll enc Try.prog W 0 (fun _ => true) true Try.f4.params.toList args.toList ds p := hA0
  rw [Try.params4] at hA hval
  obtain ⟨v0, vs0, d0, ds0, pp0, q0, hargs, rfl, rfl, h0, r0⟩ := trodAll_cons hA
  obtain ⟨v1, vs1, d1, ds1, pp1, q1, rfl, rfl, rfl, h1, r1⟩ := trodAll_cons r0
  obtain ⟨v2, vs2, d2, ds2, pp2, q2, rfl, rfl, rfl, h2, r2⟩ := trodAll_cons r1
  obtain ⟨v3, vs3, d3, ds3, pp3, q3, rfl, rfl, rfl, h3, r3⟩ := trodAll_cons r2
  obtain ⟨v4, vs4, d4, ds4, pp4, q4, rfl, rfl, rfl, h4, r4⟩ := trodAll_cons r3
  obtain ⟨rfl, rfl, rfl⟩ := trodAll_nil r4
  obtain rfl : args = #[v0, v1, v2, v3, v4] := by cases args; simp_all
  obtain ⟨rfl, rfl⟩ := trodVars_none hV
  obtain ⟨x0, rfl, rfl, rfl, w0⟩ := open_string Try.underlying9 (hval 0 9 v0 rfl rfl) h0
  have e0 : x0.size ≤ 9223372036854775807 := by unfold maxLen at w0; omega
  obtain ⟨x1, rfl, rfl, rfl, w1⟩ := open_string Try.underlying9 (hval 1 9 v1 rfl rfl) h1
  have e1 : x1.size ≤ 9223372036854775807 := by unfold maxLen at w1; omega
  have k2 := h2
  have lt2 : ∀ x ∈ pp2, x.block < W.heap.size := by obtain ⟨m, hm⟩ := k2; exact DataW.trod_lt m _ _ _ hm
  obtain ⟨y2, p2_0, p2_1, p2_2, p2_3, p2_4, p2_5, rfl, g2, z2_0, z2_1, z2_2, z2_3, z2_4, z2_5⟩ := open_Ed_in (hval 2 51 v2 rfl rfl) h2
  obtain ⟨x3, rfl, rfl, rfl, w3⟩ := open_int Try.underlying3 (hval 3 3 v3 rfl rfl) h3
  obtain ⟨x4, rfl, rfl, rfl, w4⟩ := open_int Try.underlying3 (hval 4 3 v4 rfl rfl) h4
  clear hA0 hval0
  refine (law_FnExactShow x0 x1 y2 p2_0 p2_1 p2_2 p2_3 p2_4 p2_5 x3 x4 W e0 e1 g2 z2_0 z2_1 z2_2 z2_3 z2_4 z2_5 (int_range w3) (int_range w4)).mono fun e W' ⟨he, bel⟩ => ?_
  subst he
  exact ⟨_, rfl, _, _, _, [], _, [], hW', trodAll_mk1 (shut_bool Try.underlying4 _), (trodAll_cons_mk (shut_string Try.underlying9 w0) (trodAll_cons_mk (shut_string Try.underlying9 w1) (trodAll_cons_mk (Below.trod laidOut_prog (by kernel_rfl) (of_decide_eq_true (by kernel_rfl)) k2 bel lt2) (trodAll_cons_mk (shut_int Try.underlying3 w3) (trodAll_cons_mk (shut_int Try.underlying3 w4) trodAll_mk0))))), rfl, Below.frame bel _, fun h => by cases h⟩
theorem proved : Rows.FnExactShowSaid :=
  OpenClaim.holds_of_wide 4 Try.f4 rfl rfl rfl rfl rfl rfl rfl ⟨rfl, rfl, rfl, rfl, rfl⟩ rfl rfl rfl rfl rfl (by kernel_rfl) Try.func4 (by kernel_rfl)
    (of_decide_eq_true (by kernel_rfl)) (by unfold Func.isWrapper; first | (rw [if_pos (by decide +kernel)]; kernel_rfl) | (rw [if_neg (by decide +kernel)]; exact ⟨rfl, rfl⟩))
    (fun os started H enc _ => lifted os started H enc)
#print axioms proved
end Go.Proofs.Ytacnbajcignacaa.fnExactShow
