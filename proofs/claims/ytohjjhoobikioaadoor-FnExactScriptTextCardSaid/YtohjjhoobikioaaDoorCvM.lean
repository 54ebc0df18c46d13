/-
  Slices of structs that a call makes, element by element.
-/
import Derived.Test.YtohjjhoobikioaaDoorCvT
namespace Go.Proofs.YtohjjhoobikioaaDoor
open Go.RowKit

theorem Rd.isl {w : World} {v : Value} {k : Nat} {es : List Dv} (h : Rd w v (.sl k es)) : ∃ A n c, v = .slice A n c := by
  obtain ⟨A, n, c, b, o, us, rfl, -⟩ := h.slv
  exact ⟨_, _, _, rfl⟩
theorem size_le {α : Type} (l : List α) (f : α → Nat) {k : Nat} (hk : k < l.length) : f (l[k]'hk) ≤ (l.map f).sum := by
  induction l generalizing k with
  | nil => cases hk
  | cons x l ih =>
    cases k with
    | zero => simp
    | succ k =>
      have := ih (k := k) (by simpa using hk)
      simp only [List.getElem_cons_succ, List.map_cons, List.sum_cons]
      omega
theorem flat_take1 {α β : Type} (l : List α) (f : α → List β) {k : Nat} (hk : k < l.length) : (l.take (k + 1)).flatMap f = (l.take k).flatMap f ++ f (l[k]'hk) := by
  rw [List.take_add_one, List.getElem?_eq_getElem hk, List.flatMap_append]; simp
/-- n times the cells z -/
def zz (z : List Value) (n : Nat) : List Value := (List.replicate n z).flatten
theorem zz_len (z : List Value) (n : Nat) : (zz z n).length = n * z.length := by simp [zz]
theorem zz_succ (z : List Value) (n : Nat) : zz z (n + 1) = z ++ zz z n := by simp [zz, List.replicate_succ]
theorem made_zz (z : Value) (k : Nat) {zl : List Value} (hz : z.cells.toList = zl := by rfl) (hk : zl.length = k := by rfl) (n : Nat) : madeCells z.cells (n * k) = ([] ++ zz zl n).toArray := by
  subst hz; subst hk
  apply Array.toList_inj.1
  rw [List.nil_append]
  apply List.ext_getElem?
  intro i
  induction n generalizing i with
  | zero => simp [madeCells, zz]
  | succ n ih =>
    rw [zz_succ]
    by_cases hi : i < z.cells.toList.length
    · rw [List.getElem?_append_left hi]
      have h1 : i < z.cells.size := by simpa using hi
      have h2 : i < (n + 1) * z.cells.size := by rw [Nat.succ_mul]; omega
      simp only [madeCells]
      simp [h1, h2, Nat.mod_eq_of_lt h1]
    · have hi' : z.cells.size ≤ i := by simpa using hi
      rw [List.getElem?_append_right (by omega), ← ih]
      simp only [madeCells, Array.length_toList]
      by_cases hlt : i < (n + 1) * z.cells.size
      · have h3 : i - z.cells.size < n * z.cells.size := by rw [Nat.succ_mul] at hlt; omega
        have h4 : i % z.cells.size = (i - z.cells.size) % z.cells.size := Nat.mod_eq_sub_mod hi'
        simp [hlt, h3, h4]
      · have h3 : ¬ i - z.cells.size < n * z.cells.size := by rw [Nat.succ_mul] at hlt; omega
        simp [hlt, h3]
theorem fit_zz {us cu z : List Value} {k n m : Nat} {u : Value} (hlt : k < n) (hu : us.length = k * m) (hcu : u.cells.toList = cu) (hm : cu.length = m) (hz : z.length = m := by rfl) :
    k * m + u.cells.toList.length ≤ (us ++ zz z (n - k)).toArray.size := by
  rw [hcu, hm]
  simp only [List.size_toArray, List.length_append, hu, zz_len, hz]
  obtain ⟨j, rfl⟩ : ∃ j, n = k + 1 + j := ⟨n - (k + 1), by omega⟩
  rw [show k + 1 + j - k = j + 1 by omega, Nat.succ_mul]
  omega
theorem set_zz {us cu z : List Value} {k n m : Nat} {u : Value} (hlt : k < n) (hu : us.length = k * m) (hcu : u.cells.toList = cu) (hm : cu.length = m) (hz : z.length = m := by rfl) :
    ((us ++ zz z (n - k)).toArray.toList.take (k * m) ++ u.cells.toList ++ (us ++ zz z (n - k)).toArray.toList.drop (k * m + u.cells.toList.length)).toArray = ((us ++ cu) ++ zz z (n - (k + 1))).toArray := by
  obtain ⟨j, rfl⟩ : ∃ j, n = k + 1 + j := ⟨n - (k + 1), by omega⟩
  rw [show k + 1 + j - k = j + 1 by omega, show k + 1 + j - (k + 1) = j by omega, zz_succ]
  congr 1
  simp only [hcu, hm]
  rw [List.take_append_of_le_length (by omega), List.take_of_length_le (by omega), List.drop_append, hu, List.drop_eq_nil_of_le (by omega), List.nil_append, Nat.add_sub_cancel_left, List.drop_append, hz, Nat.sub_self, List.drop_eq_nil_of_le (by omega)]
  simp
theorem fit_z1 {us cu z : List Value} {k n : Nat} {u : Value} (hlt : k < n) (hu : us.length = k * 1) (hcu : u.cells.toList = cu) (hm : cu.length = 1) (hz : z.length = 1 := by rfl) :
    k + u.cells.toList.length ≤ (us ++ zz z (n - k)).toArray.size := by
  have := fit_zz hlt hu hcu hm hz
  rwa [Nat.mul_one] at this
theorem set_z1 {us cu z : List Value} {k n : Nat} {u : Value} (hlt : k < n) (hu : us.length = k * 1) (hcu : u.cells.toList = cu) (hm : cu.length = 1) (hz : z.length = 1 := by rfl) :
    ((us ++ zz z (n - k)).toArray.toList.take k ++ u.cells.toList ++ (us ++ zz z (n - k)).toArray.toList.drop (k + u.cells.toList.length)).toArray = ((us ++ cu) ++ zz z (n - (k + 1))).toArray := by
  have := set_zz hlt hu hcu hm hz
  rwa [Nat.mul_one] at this
theorem perm_mid {α : Type} (C : List α) (r : α) (O : List α) : (C ++ r :: O).Perm (r :: (O ++ C)) :=
  List.perm_middle.trans (List.Perm.cons _ List.perm_append_comm)
/-- make([]T, n) -/
theorem wp_makeR {ops : Array Oper} {rest : List Oper} {o : Oper} {a : Act} {Q : Exit → Act → World → Prop} {W w : World} {L : List Pc} (hgd : o.guard = none) (l c : Operand) (t : TypeId) (hop : o.op = Op.makeSlice t l c)
    (e : TypeId) (z : Value) (k : Nat) (h1 : Tryd.prog.underlying t = some (.slice e)) (hi : (Tryd.prog.info? e).map (fun i => (i.zero, i.size, decide (i.bytes ≤ 4096))) = some (some z, k, true))
    {n : Nat} (hl : a.eval l = .int .i64 n) (hc : a.eval c = .int .i64 n) (hn : n ≤ 1048576) (S : St W w L)
    (h : ∀ w', St W w' (row w.heap.size e (madeCells z.cells (n * k)) :: L) → wpList Tryd.prog ops Q rest (a.put o.dst (.slice (some ⟨w.heap.size, 0, none⟩) n n)) w') : wpList Tryd.prog ops Q (o :: rest) a w := by
  cases hi2 : Tryd.prog.info? e with
  | none => rw [hi2] at hi; cases hi
  | some i =>
    rw [hi2] at hi
    simp only [Option.map_some, Option.some.injEq, Prod.mk.injEq, decide_eq_true_eq] at hi
    obtain ⟨hz, hs, hb⟩ := hi
    refine wpList_make_full w hgd l c t hop w.heap.size e i z k h1 hi2 hz hs .i64 .i64 n n n hl hc rfl rfl (Nat.le_trans (Nat.mul_le_mul hb hn) (by decide)) (by unfold maxLen; omega) (Nat.le_refl _) ?_
    intro w' h3 h4
    refine h w' ?_
    rcases h3.2 with ⟨h5, -⟩ | ⟨g, cap, cur, hv, -, hg, hcap, -, hsz, ht⟩
    · cases h5
    · injection hv with hv1 hv2 hv3
      injection hv1 with hv1; injection hv1 with hv1
      subst hv1; subst hv3
      rw [List.take_of_length_le (by rw [Array.length_toList, hsz]; exact Nat.le_refl _)] at ht
      have hcur := Array.toList_inj.1 ht
      subst hcur
      have x : Ext w w' := (Ext.refl w).grown (v := .slice none 0 0) (OwnI.nil _ _) h4
      exact S.more x (F := [w.heap.size]) ⟨rfl, hg⟩ (by simp) (fun b hb2 => by simp at hb2; subst hb2; exact ⟨Nat.le_refl _, (Array.getElem?_eq_some_iff.1 hg).1⟩)
end Go.Proofs.YtohjjhoobikioaaDoor
