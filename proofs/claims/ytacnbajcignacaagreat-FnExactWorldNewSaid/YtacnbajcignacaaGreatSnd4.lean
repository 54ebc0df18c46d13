/-
  Soundness of the evaluator, fourth part: addresses, parts, conversions.
-/
import Derived.Test.YtacnbajcignacaaGreatSnd3
namespace Go.Proofs.YtacnbajcignacaaGreat
open Go.RowKit
set_option linter.unusedSimpArgs false
set_option linter.unusedVariables false

section
variable {P : Program} {c : Ctx} {s : S}
theorem addOff_sound {ρ : Rel} {v v' : V} {n : Nat} (h : addOff v n = some v') {u : Value} (hu : RV ρ v u) : ∃ b o, u = .pointer (some ⟨b, o, none⟩) ∧ RV ρ v' (.pointer (some ⟨b, o + n, none⟩)) := by
  unfold addOff at h
  split at h
  · injection h with h; subst h
    exact ⟨_, _, hu.2, hu.1, rfl⟩
  · injection h with h; subst h
    rename_i base k i off
    obtain ⟨ub, h1, g, o, n', c', h2, h3, h4⟩ := hu
    exact ⟨g, _, h4, ub, h1, g, o, n', c', h2, h3, by rw [show o + (i * k + (off + n)) = o + (i * k + off) + n by omega]⟩
  · cases h
theorem fieldOf_some {t : TypeId} {f off : Nat} {ft : TypeId} (h : fieldOf P t f = some (off, ft)) : ∃ fs fd, P.underlying t = some (.struct fs) ∧ fs[f]? = some fd ∧ fd.offset = off ∧ fd.type = ft ∧ P.cellsOf ft ≠ 0 := by
  unfold fieldOf at h
  obtain ⟨d, h1, h⟩ := bnd_eq_some h
  unfold fieldD at h
  split at h
  · obtain ⟨fd, h2, h⟩ := bnd_eq_some h
    obtain ⟨h3, h⟩ := grd_eq_some h
    injection h with h; injection h with e1 e2
    exact ⟨_, fd, h1, h2, e1, e2, by rw [← e2]; exact h3⟩
  · cases h
theorem step_fieldAddr {o : Oper} {t : TypeId} {x : Operand} {f : Nat} (ho : o.op = .fieldAddr t x f) (hd' : dstOk c.n o.dst = true) {vx v : V} {q : Nat × TypeId} (hx : s.ev x = some vx) (hf : fieldOf P t f = some q) (h : addOff vx q.1 = some v) :
    Step P c o s (s.put o.dst v) := step_value hd' fun yy a w A => by
  obtain ⟨off, ft⟩ := q
  obtain ⟨fs, fd, h1, h2, h3, h4, h5⟩ := fieldOf_some hf
  obtain ⟨b, oo, e1, e2⟩ := addOff_sound h (A.ev hx)
  refine ⟨_, ?_, e2⟩
  have hsz : P.cellsOf fd.type ≠ 0 := by rw [h4]; exact h5
  unfold Program.cellsOf at hsz
  cases hi : P.info? fd.type with
  | none => rw [hi] at hsz; simp at hsz
  | some i =>
    rw [hi] at hsz; simp at hsz
    unfold execOp; simp only [ho, e1]
    simp [Instr.fieldAt, run_underlying h1, h2, Instr.sureAddr, fieldPlace, sizeOf, typeInfo, hi, hsz, h3, Addr.add_mid]
theorem elemOfT_some {t : TypeId} {e : TypeId × Option Nat} (h : elemOfT P t = some e) : (∃ q, e = (q, none) ∧ P.underlying t = some (.slice q)) ∨ ∃ q n, e = (q, some n) ∧ P.underlying t = some (.array n q) := by
  unfold elemOfT at h
  obtain ⟨d, h1, h⟩ := bnd_eq_some h
  unfold elemD at h
  split at h
  · injection h with h; subst h; exact .inl ⟨_, rfl, h1⟩
  · injection h with h; subst h; exact .inr ⟨_, _, rfl, h1⟩
  · cases h
theorem run_sizeOf_some {t : TypeId} (h : sizedT P t = true) (w : World) : (sizeOf t).run P w = .ok (P.cellsOf t) w := by
  unfold sizedT at h
  cases hi : P.info? t with
  | none => rw [hi] at h; cases h
  | some i => simp [sizeOf, typeInfo, hi, Program.cellsOf]
theorem step_indexAddr {o : Oper} {t : TypeId} {x i : Operand} (ho : o.op = .indexAddr t x i) (hd' : dstOk c.n o.dst = true) {vx vi v : V} {n : Int} {e : TypeId × Option Nat} (hx : s.ev x = some vx) (hi : s.ev i = some vi) (hn : idxOf vi = some n) (he : elemOfT P t = some e)
    (h : indexAddrV P s vx n e.1 e.2 = some v) : Step P c o s (s.put o.dst v) := step_value hd' fun yy a w A => by
  obtain ⟨k, rfl⟩ := idxOf_some hn
  have hn : k = k := rfl
  have ei : a.eval i = .int k n := by have := A.ev hi; rw [show idxOf (.v (.int k n)) = some n from rfl] at *; exact this
  have ex := A.ev hx
  rcases elemOfT_some he with ⟨q, rfl, hu⟩ | ⟨q, m, rfl, hu⟩
  · simp only [indexAddrV] at h
    obtain ⟨rows, hr, h⟩ := bnd_eq_some h
    obtain ⟨⟨hz, h0, h1⟩, h⟩ := grd_eq_some h
    injection h with h; subst h
    obtain ⟨A', cc, e1, e2, e3, e4⟩ := (A.rows ex hr).len
    have hlt : n.toNat < rows.length := by omega
    obtain ⟨r, hrr⟩ : ∃ r, rows[n.toNat]? = some r := ⟨_, List.getElem?_eq_getElem hlt⟩
    obtain ⟨c2, b, oo, T, fr, cs, k1, k2, k3⟩ := A.cellsAt ex hr hrr
    have ha : A' = some ⟨b, oo, none⟩ := by rw [e1] at k1; injection k1
    refine ⟨.pointer (some ⟨b, oo + (n.toNat * P.cellsOf q + 0), none⟩), ?_, _, ex, b, oo, rows.length, cc, by rw [e1, ha], hlt, rfl⟩
    unfold execOp; simp only [ho, ei, e1, ha]
    simp [Instr.indexAt, asIntOf, run_underlying hu, h0, h1, run_sizeOf_some hz, Addr.add_mid]
  · simp only [indexAddrV] at h
    obtain ⟨⟨hz, h0, h1⟩, h⟩ := grd_eq_some h
    obtain ⟨b, oo, e1, e2⟩ := addOff_sound h ex
    refine ⟨_, ?_, e2⟩
    unfold execOp; simp only [ho, ei, e1]
    simp [Instr.indexAt, asIntOf, run_underlying hu, h0, h1, run_sizeOf_some hz, Addr.add_mid, Instr.sureAddr]
theorem part_sound {ρ : Rel} {cs : List V} {us : List Value} {off : Nat} {t : TypeId} {g : Bool} {v : V} (hv : RVs ρ cs us) (hg : aggT P t = some g) (h : span cs off (P.cellsOf t) g = some v) (w : World) : ∃ u, (part t us.toArray off).run P w = .ok u w ∧ RV ρ v u := by
  obtain ⟨d, hu, hd⟩ := aggT_some hg
  obtain ⟨i, hi⟩ := info_of hu
  unfold span at h
  have hagg : (isAgg t).run P w = .ok g w := by
    unfold isAgg
    rw [Sem.run_bind, run_underlying hu w]
    cases d <;> simp_all [isAggD]
  cases g with
  | true =>
    rw [if_pos rfl] at h
    obtain ⟨hle, h⟩ := grd_eq_some h
    injection h with h; subst h
    refine ⟨.agg (us.toArray.extract off (off + P.cellsOf t)), ?_, ((us.drop off).take (P.cellsOf t)), ?_, (hv.drop off).take _⟩
    · simp [part, hagg, sizeOf, typeInfo, hi, Program.cellsOf]
    · first | rfl | simp
  | false =>
    rw [if_neg (by simp)] at h
    obtain ⟨u, h1, h2⟩ := hv.get h
    exact ⟨u, by simp [part, hagg, h1], h2⟩
theorem step_field {o : Oper} {t : TypeId} {x : Operand} {f : Nat} (ho : o.op = .field t x f) (hd' : dstOk c.n o.dst = true) {cs : List V} {v : V} {q : Nat × TypeId} {g : Bool} (hx : s.ev x = some (.agg cs)) (hf : fieldOf P t f = some q) (hg : aggT P q.2 = some g) (h : span cs q.1 (P.cellsOf q.2) g = some v) :
    Step P c o s (s.put o.dst v) := step_value hd' fun yy a w A => by
  obtain ⟨off, ft⟩ := q
  obtain ⟨fs, fd, h1, h2, h3, h4, h5⟩ := fieldOf_some hf
  obtain ⟨us, e1, e2⟩ := A.ev hx
  obtain ⟨u, k1, k2⟩ := part_sound (P := P) e2 hg h w
  refine ⟨u, ?_, k2⟩
  unfold execOp; simp only [ho, e1]
  simp only at k1
  simp [Instr.field, run_underlying h1, h2, asAgg, h3, h4, k1]
theorem step_index {o : Oper} {t : TypeId} {x i : Operand} (ho : o.op = .index t x i) (hd' : dstOk c.n o.dst = true) {vx vi v : V} {n : Int} (hx : s.ev x = some vx) (hi : s.ev i = some vi) (hn : idxOf vi = some n) (h : indexV P t vx n = some v) : Step P c o s (s.put o.dst v) := step_value hd' fun yy a w A => by
  obtain ⟨k, rfl⟩ := idxOf_some hn
  have ei : a.eval i = .int k n := A.ev hi
  have ex := A.ev hx
  unfold indexV at h
  split at h
  · rename_i b
    obtain ⟨d, hu, h⟩ := bnd_eq_some h
    obtain ⟨⟨hs, h0, h1⟩, h⟩ := grd_eq_some h
    injection h with h; subst h
    have hd : d = .string := by unfold isStrD at hs; split at hs <;> first | rfl | cases hs
    subst hd
    have hlt : n.toNat < b.size := by omega
    refine ⟨_, ?_, rfl⟩
    unfold execOp; simp only [ho, ei, show a.eval x = _ from ex]
    have e1 : b[n.toNat]? = some (b[n.toNat]'hlt) := by simp [hlt]
    have e2 : b.toList[n.toNat]? = some (b[n.toNat]'hlt) := by
      rw [ByteArray.toList_eq]
      simp [hlt]
      rfl
    simp [Instr.index, asIntOf, run_underlying hu, h0, e1, e2]
  · rename_i cs
    obtain ⟨e, he, ha⟩ := bnd_eq_some h
    obtain ⟨m, hm, hb⟩ := bnd_eq_some ha
    obtain ⟨⟨hz, h0, h1⟩, hc⟩ := grd_eq_some hb
    obtain ⟨g, hg, hl⟩ := bnd_eq_some hc
    clear h ha hb hc
    rcases elemOfT_some he with ⟨q, rfl, hu⟩ | ⟨q, m', rfl, hu⟩
    · cases hm
    injection hm with hm; subst hm
    obtain ⟨us, e1, e2⟩ := ex
    obtain ⟨u, k1, k2⟩ := part_sound (P := P) e2 hg hl w
    refine ⟨u, ?_, k2⟩
    unfold execOp; simp only [ho, ei, e1]
    simp only at k1
    simp [Instr.index, asIntOf, run_underlying hu, h0, h1, run_sizeOf_some hz, k1]
  · cases h
theorem optV_some {ρ : Rel} {d n : Int} {x : Option V} (h : optV d x = some n) : (x = none ∧ n = d) ∨ ∃ k, x = some (.v (.int k n)) := by
  cases x with
  | none => simp only [optV] at h; injection h with h; exact .inl ⟨rfl, h.symm⟩
  | some v => obtain ⟨k, rfl⟩ := idxOf_some h; exact .inr ⟨k, rfl⟩
theorem evOptOp_some {x : Option Operand} {v : Option V} (h : evOptOp s x = some v) : (x = none ∧ v = none) ∨ ∃ y u, x = some y ∧ v = some u ∧ s.ev y = some u := by
  cases x with
  | none => simp only [evOptOp] at h; injection h with h; exact .inl ⟨rfl, h.symm⟩
  | some y => simp only [evOptOp] at h; obtain ⟨u, h1, h2⟩ := bnd_eq_some h; injection h2 with h2; exact .inr ⟨y, u, rfl, h2.symm, h1⟩
/-- the bounds of a slice expression, as the model reckons them -/
theorem bounds_sound {y : Lay} {a : Act} {w : World} (A : At c s y a w) {lo hi : Option Operand} {vl vh : Option V} {n cap : Nat} {p : Nat × Nat} (hlo : evOptOp s lo = some vl) (hhi : evOptOp s hi = some vh) (h : bounds n vl vh = some p) (hc : n ≤ cap) (isS : Bool) :
    p.1 ≤ p.2 ∧ p.2 ≤ n ∧ (Instr.sliceBounds isS n cap (lo.map a.eval) (hi.map a.eval) none).run P w = .ok (p.1, p.2, cap) w := by
  unfold bounds at h
  obtain ⟨l, h1, h⟩ := bnd_eq_some h
  obtain ⟨q, h2, h⟩ := bnd_eq_some h
  obtain ⟨⟨h3, h4, h5⟩, h⟩ := grd_eq_some h
  injection h with h; subst h
  refine ⟨by simp only; omega, by simp only; omega, ?_⟩
  rcases evOptOp_some hlo with ⟨rfl, rfl⟩ | ⟨xl, ul, rfl, rfl, el⟩ <;> rcases evOptOp_some hhi with ⟨rfl, rfl⟩ | ⟨xh, uh, rfl, rfl, eh⟩ <;>
    (rcases optV_some (ρ := relOf c s y) h1 with ⟨k1, rfl⟩ | ⟨kl, k1⟩ <;> first | (cases k1; done) | skip) <;>
    (rcases optV_some (ρ := relOf c s y) h2 with ⟨k2, rfl⟩ | ⟨kh, k2⟩ <;> first | (cases k2; done) | skip)
  · simp [Instr.sliceBounds]
  · injection k2 with k2; subst k2
    have e : a.eval xh = .int kh q := A.ev eh
    simp [Instr.sliceBounds, Instr.sliceBound, e, asIntOf, show 0 ≤ q by omega, show q ≤ (cap : Int) by omega]
  · injection k1 with k1; subst k1
    have e : a.eval xl = .int kl l := A.ev el
    simp [Instr.sliceBounds, Instr.sliceBound, e, asIntOf, h3, show l ≤ (n : Int) by omega]
  · injection k1 with k1; subst k1
    injection k2 with k2; subst k2
    have e : a.eval xl = .int kl l := A.ev el
    have e2 : a.eval xh = .int kh q := A.ev eh
    have e3 : (q.toNat : Int) = q := by omega
    simp [Instr.sliceBounds, Instr.sliceBound, e, e2, asIntOf, h3, show 0 ≤ q by omega, show q ≤ (cap : Int) by omega]
    intro hh; exfalso; rw [Int.max_def] at hh; split at hh <;> omega
theorem wid_spec {k : Nat} : ∀ {rows : List (List D)}, wid k rows = true → ∀ r ∈ rows, r.length = k
  | [], _, r, h => by cases h
  | x :: rows, e, r, h => by
    simp only [wid, Bool.and_eq_true, decide_eq_true_eq] at e
    rcases List.mem_cons.1 h with h | h
    · rw [h]; exact e.1.1
    · exact wid_spec e.2 r h
theorem wid_one {k : Nat} : ∀ {rows : List (List D)}, wid k rows = true → ∀ r ∈ rows, ∀ d ∈ r, oneD d = true
  | [], _, r, h => by cases h
  | x :: rows, e, r, h => by
    simp only [wid, Bool.and_eq_true, decide_eq_true_eq] at e
    rcases List.mem_cons.1 h with h | h
    · rw [h]; exact List.all_eq_true.1 e.1.2
    · exact wid_one e.2 r h
theorem flat_sub {α : Type} {k l m i : Nat} {rows : List (List α)} {d : α} (u : ∀ r ∈ rows, r.length = k) (hl : l ≤ rows.length) (e : ((rows.drop l).take m).flatten[i]? = some d) : rows.flatten[l * k + i]? = some d := by
  have h1 : rows = rows.take l ++ ((rows.drop l).take m ++ (rows.drop l).drop m) := by rw [List.take_append_drop, List.take_append_drop]
  have h2 : (rows.take l).flatten.length = l * k := by rw [flat_len _ (fun r h => u r (List.mem_of_mem_take h)), List.length_take]; congr 1; omega
  rw [h1, List.flatten_append, List.flatten_append, List.getElem?_append_right (by rw [h2]; omega), h2, show l * k + i - l * k = i by omega, List.getElem?_append_left (List.getElem?_eq_some_iff.1 e).1]
  exact e
theorem RdD.sub {G : Nat → Obj → Prop} {rows : List (List D)} {A : Option Addr} {n c k l h : Nat} (hr : RdD G (.l rows) (.slice A n c)) (hw : ∀ r ∈ rows, r.length = k) (h1 : l ≤ h) (h2 : h ≤ n) :
    RdD G (.l ((rows.drop l).take (h - l))) (.slice (if c = l then A else A.map (·.add (l * k))) (h - l) (c - l)) := by
  obtain ⟨A', c', e1, e2, e3, e4⟩ := hr.len
  injection e1 with e1 e5 e6
  subst e1; subst e5; subst e6
  by_cases hz : h - l = 0
  · rw [hz, List.take_zero]
    refine .nil _ _ (by omega) fun hn => ?_
    by_cases hc : c = l
    · omega
    · rw [if_neg hc] at hn
      cases A with
      | none => have := e4 rfl; omega
      | some a => cases hn
  · cases hr with
    | nil => simp at h2; omega
    | l _ n' c b o k' T fr cs us q1 q2 q3 q4 q5 q6 q7 q8 q9 =>
      have hk : k' = k := by
        cases rows with
        | nil => simp at h2; omega
        | cons r rs => rw [← q6 r (by simp), hw r (by simp)]
      subst hk
      have hcl : ¬ c = l := by omega
      rw [if_neg hcl, Option.map_some, Addr.add_mid]
      have hlen : ((rows.drop l).take (h - l)).length = h - l := by rw [List.length_take, List.length_drop]; omega
      refine .l _ (h - l) (c - l) b (o + l * k') k' T fr cs (fun i => us (l * k' + i)) hlen (by omega) (by omega) (by omega) q5 (fun r hr => q6 r (List.mem_of_mem_drop (List.mem_of_mem_take hr))) q7 (fun i d e => ?_) (fun i d e => ?_)
      · have := flat_sub q6 (by omega) e
        rw [show o + l * k' + i = o + (l * k' + i) by omega]
        exact q8 _ _ this
      · exact q9 _ _ (flat_sub q6 (by omega) e)
theorem step_slice {o : Oper} {t : TypeId} {x : Operand} {lo hi : Option Operand} (ho : o.op = .slice t x lo hi none) (hd' : dstOk c.n o.dst = true) {vx v : V} {vl vh : Option V} {d : TypeDesc} (hx : s.ev x = some vx) (hlo : evOptOp s lo = some vl) (hhi : evOptOp s hi = some vh) (hu : P.underlying t = some d)
    (h : sliceV P s vx vl vh d = some v) : Step P c o s (s.put o.dst v) := step_value hd' fun yy a w A => by
  have ex := A.ev hx
  unfold sliceV at h
  split at h
  · unfold sliceStr at h
    split at h
    · rename_i b
      obtain ⟨p, hp, h⟩ := bnd_eq_some h
      injection h with h; subst h
      obtain ⟨_, _, hb⟩ := bounds_sound (P := P) A hlo hhi hp (Nat.le_refl _) false
      refine ⟨_, ?_, rfl⟩
      unfold execOp; simp only [ho, show a.eval x = _ from ex]
      simp [Instr.sliceAt, Instr.slice, run_underlying hu, hb]
    · cases h
  · rename_i e
    obtain ⟨hz, h2⟩ := grd_eq_some h
    clear h
    have h := h2
    clear h2
    have key : ∀ (rows : List (List D)) (p : Nat × Nat) (u : Value), a.eval x = u → RdD (heapOf w) (.l rows) u → bounds rows.length vl vh = some p → ∃ A' n' c', u = .slice A' n' c' ∧ p.1 ≤ p.2 ∧ p.2 ≤ n' ∧
        (execOp a.eval o).run P w = .ok (.value (.slice (if c' = p.1 then A' else A'.map (·.add (p.1 * P.cellsOf e))) (p.2 - p.1) (c' - p.1))) w := by
      intro rows p u hu' hr hp
      obtain ⟨A', c', e1, e2, e3, e4⟩ := hr.len
      obtain ⟨b1, b2, hb⟩ := bounds_sound (P := P) A hlo hhi hp e2 true
      refine ⟨A', _, c', e1, b1, b2, ?_⟩
      unfold execOp; simp only [ho, hu', e1]
      simp [Instr.sliceAt, Instr.slice, run_underlying hu, hb, run_sizeOf_some hz]
    unfold sliceL at h
    split at h
    · obtain ⟨p, hp, h⟩ := bnd_eq_some h
      injection h with h; subst h
      obtain ⟨A', n', c', e1, b1, b2, hr⟩ := key [] p _ rfl (A.rows ex rfl) hp
      rw [show a.eval x = _ from ex] at e1
      injection e1 with e1 e2 e3
      subst e1; subst e2; subst e3
      refine ⟨_, hr, ?_⟩
      have : p.1 = 0 := by omega
      have h2 : p.2 = 0 := by omega
      rw [this, h2]; simp; rfl
    · rename_i o' rows
      unfold cutV at h
      obtain ⟨p, hp, h⟩ := bnd_eq_some h
      obtain ⟨hw, h⟩ := grd_eq_some h
      injection h with h; subst h
      obtain ⟨A', n', c', e1, b1, b2, hr⟩ := key rows p _ rfl (A.rows ex rfl) hp
      refine ⟨_, hr, ?_, fun j h => by cases h⟩
      have e3 := ex.1
      rw [e1] at e3
      exact e3.sub (wid_spec hw) b1 b2
    · rename_i rows
      unfold cutV at h
      obtain ⟨p, hp, h⟩ := bnd_eq_some h
      obtain ⟨hw, h⟩ := grd_eq_some h
      injection h with h; subst h
      obtain ⟨A', n', c', e1, b1, b2, hr⟩ := key rows p _ rfl (A.rows ex rfl) hp
      refine ⟨_, hr, ?_⟩
      have e3 : RdD _ _ _ := ex
      rw [e1] at e3
      exact e3.sub (wid_spec hw) b1 b2
    · rename_i q
      obtain ⟨rows, hq, h⟩ := bnd_eq_some h
      unfold cutV at h
      obtain ⟨p, hp, h⟩ := bnd_eq_some h
      obtain ⟨hw, h⟩ := grd_eq_some h
      injection h with h; subst h
      have e3 := A.froAt hq
      obtain ⟨A', n', c', e1, b1, b2, hr⟩ := key rows p _ ex.2 (e3.mono A.zw) hp
      refine ⟨_, hr, ?_⟩
      have e1 : yy.hd q = _ := e1
      rw [e1] at e3
      exact e3.sub (wid_spec hw) b1 b2
    · cases h
  · cases h
end
end Go.Proofs.YtacnbajcignacaaGreat
