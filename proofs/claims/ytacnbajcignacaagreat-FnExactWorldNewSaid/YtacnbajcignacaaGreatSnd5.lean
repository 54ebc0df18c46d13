/-
  Soundness of the evaluator, fifth part: conversions, len, max, min.
-/
import Derived.Test.YtacnbajcignacaaGreatSnd4
import Derived.Laws.BytesString
namespace Go.Proofs.YtacnbajcignacaaGreat
open Go.RowKit
set_option linter.unusedSimpArgs false
set_option linter.unusedVariables false

section
variable {P : Program} {c : Ctx} {s : S}
theorem bytesOfRow_some {r : List D} {b : UInt8} (h : bytesOfRow r = some b) : ∃ n : Int, r = [.a (.int .u8 n)] ∧ b = UInt8.ofNat n.toNat := by
  unfold bytesOfRow at h
  split at h
  · injection h with h; exact ⟨_, rfl, h.symm⟩
  · cases h
theorem push_fold (l : List Int) : ∀ (r : ByteArray), l.foldl (fun r n => r.push (UInt8.ofNat n.toNat)) r = ⟨r.data ++ (l.map fun n => UInt8.ofNat n.toNat).toArray⟩ := by
  induction l with
  | nil => intro r; simp
  | cons x l ih => intro r; rw [List.foldl_cons, ih]; simp [ByteArray.push]
theorem bytes_rows {rows : List (List D)} {l : List UInt8} (h : mapSome bytesOfRow rows = some l) : ∃ ns : List Int, rows = ns.map (fun n => [.a (.int .u8 n)]) ∧ l = ns.map fun n => UInt8.ofNat n.toNat := by
  induction rows generalizing l with
  | nil => simp only [mapSome] at h; injection h with h; exact ⟨[], rfl, h.symm⟩
  | cons r rows ih =>
    simp only [mapSome] at h
    obtain ⟨b, h1, h⟩ := bnd_eq_some h
    obtain ⟨q, h2, h⟩ := bnd_eq_some h
    injection h with h
    obtain ⟨n, rfl, rfl⟩ := bytesOfRow_some h1
    obtain ⟨ns, rfl, rfl⟩ := ih h2
    exact ⟨n :: ns, rfl, h.symm⟩
theorem run_bytesOf {w : World} {rows : List (List D)} {l : List UInt8} {u : Value} (hr : RdD (heapOf w) (.l rows) u) (h : mapSome bytesOfRow rows = some l) : (Conv.bytesToString u).run P w = .ok (.string ⟨l.toArray⟩) w := by
  obtain ⟨ns, hrows, rfl⟩ := bytes_rows h
  clear h
  cases hr with
  | nil A c h1 h2 =>
    obtain rfl : ns = [] := by cases ns with | nil => rfl | cons => simp at hrows
    cases A with
    | none => simp [Conv.bytesToString]; rfl
    | some a =>
      have := run_bytesToString (P := P) w a 0 c [] (by simp [loadCells, loadCellsFrom])
      rw [this]; simp; rfl
  | l _ n c b o k T fr cs us q1 q2 q3 q4 q5 q6 q7 q8 q9 =>
    subst hrows
    have hk : k = 1 := by
      cases ns with
      | nil => simp at q1; omega
      | cons x ns => exact (q6 [.a (.int .u8 x)] (by simp)).symm
    subst hk
    have hn : n = ns.length := by rw [← q1, List.length_map]
    have hl : (loadCells ⟨b, o, none⟩ n).run P w = .ok (ns.map (Value.int .u8)).toArray w := by
      have := run_loadCells_list (P := P) w ⟨b, o, none⟩ (ns.map (Value.int .u8)) (fun j v hv => ?_)
      · rw [List.length_map, ← hn] at this; exact this
      · rw [Addr.add_mid, cell_of_row w b _ cs T fr q7]
        rw [List.getElem?_map] at hv
        obtain ⟨x, hx, rfl⟩ := Option.map_eq_some_iff.1 hv
        have e : (ns.map (fun n => [D.a (.int .u8 n)])).flatten[j]? = some (.a (.int .u8 x)) := by
          have := flat_get (k := 1) (ns.map (fun n => [D.a (.int .u8 n)])) j 0 [.a (.int .u8 x)] (.a (.int .u8 x)) q6 (by rw [List.getElem?_map, hx]; rfl) rfl
          rw [show j * 1 + 0 = j by omega] at this; exact this
        rw [q8 _ _ e, (q9 _ _ e).atom]
    rw [run_bytesToString (P := P) w _ n c ns hl, push_fold]
    simp
theorem step_convert {o : Oper} {t0 t : TypeId} {x : Operand} (ho : o.op = .convert t0 t x) (hd' : dstOk c.n o.dst = true) {vx v : V} {d0 d : TypeDesc} (hx : s.ev x = some vx) (h0 : P.underlying t0 = some d0) (h1 : P.underlying t = some d) (h : convD P s vx d0 d = some v) :
    Step P c o s (s.put o.dst v) := step_value hd' fun yy a w A => by
  have ex := A.ev hx
  have fin : ∀ u, (convert t0 t (a.eval x)).run P w = .ok u w → RV (relOf c s yy) v u → ∃ u, (execOp a.eval o).run P w = .ok (.value u) w ∧ RV (relOf c s yy) v u := by
    intro u hr hv
    refine ⟨u, ?_, hv⟩
    unfold execOp; simp only [ho]; rw [Sem.run_bind, hr]; rfl
  have bytes : bytesV P s vx d0 = some v → d = .string → (∀ u, a.eval x = u → (∃ A n c, u = .slice A n c)) → ∃ u, (execOp a.eval o).run P w = .ok (.value u) w ∧ RV (relOf c s yy) v u := by
    intro hb hd hsl
    subst hd
    unfold bytesV at hb
    obtain ⟨e, he, hb⟩ := bnd_eq_some hb
    obtain ⟨de, hde, hb⟩ := bnd_eq_some hb
    obtain ⟨hby, hb⟩ := grd_eq_some hb
    obtain ⟨rows, hrows, hb⟩ := bnd_eq_some hb
    obtain ⟨l, hl, hb⟩ := bnd_eq_some hb
    injection hb with hb; subst hb
    have hde2 : de = .int .u8 := by unfold isByteD at hby; split at hby <;> first | rfl | cases hby
    subst hde2
    have hd0 : d0 = .slice e := by unfold sliceElem at he; split at he <;> first | (injection he with he; subst he; rfl) | cases he
    subst hd0
    have hr := run_bytesOf (P := P) (A.rows ex hrows) hl
    obtain ⟨A', n', c', hu⟩ := hsl _ rfl
    refine fin _ ?_ rfl
    rw [hu] at hr ⊢
    simp [convert, run_underlying h0, run_underlying h1, run_underlying hde, hr]
  unfold convD at h
  split at h
  · obtain ⟨n, hn, h⟩ := bnd_eq_some h
    injection h with h; subst h
    obtain ⟨k, rfl⟩ := idxOf_some hn
    refine fin _ ?_ rfl
    rw [show a.eval x = _ from ex]
    simp [convert, run_underlying h0, run_underlying h1, Conv.intToInt]
  · split at h
    · injection h with h; subst h
      refine fin _ ?_ rfl
      rw [show a.eval x = _ from ex]
      simp [convert, run_underlying h0, run_underlying h1]
    · cases h
    · refine bytes h rfl fun u hu => ?_
      have h2 := h
      unfold bytesV at h2
      obtain ⟨e, he, h2⟩ := bnd_eq_some h2
      obtain ⟨de, hde, h2⟩ := bnd_eq_some h2
      obtain ⟨hby, h2⟩ := grd_eq_some h2
      obtain ⟨rows, hrows, h2⟩ := bnd_eq_some h2
      obtain ⟨A', c', e1, -⟩ := (A.rows ex hrows).len
      exact ⟨A', _, c', by rw [← hu]; exact e1⟩
  · cases h
end
end Go.Proofs.YtacnbajcignacaaGreat
