/-
  Of several texts: Dv, Dv2.
-/
import Derived.Test.YtohjjhoobikioaaDoorGrp
/-! Values in memory, however deep: what can be read; what is a call's own. -/
namespace Go.Proofs.YtohjjhoobikioaaDoor
open Go.RowKit

/-- a value as data: one cell that leads nowhere, or a slice of elements of k cells each (the cells of all elements, in order) -/
inductive Dv where
  | one (v : Value)
  | sl (k : Nat) (es : List Dv)
def Dv.ints (l : List Int) : Dv := .sl 1 (l.map fun x => .one (.int .i64 x))

/-- v reads as d in w -/
inductive Rd (w : World) : Value → Dv → Prop
  | one (v : Value) : Rd w v (.one v)
  | sl (k : Nat) (es : List Dv) (A : Option Addr) (n c b o : Nat) (us : Nat → Value) (hl : es.length = n * k) (hc : n ≤ c) (hm : c ≤ 9223372036854775807) (hn : A = none → c = 0) (hA : 0 < n → A = some ⟨b, o, none⟩)
      (hcell : ∀ i d, es[i]? = some d → w.cell? ⟨b, o + i, none⟩ = some (us i)) (hr : ∀ i d, es[i]? = some d → Rd w (us i) d) : Rd w (.slice A n c) (.sl k es)
theorem Rd.ext {w w' : World} {v : Value} {d : Dv} (h : Rd w v d) (x : Ext w w') : Rd w' v d := by
  induction h with
  | one v => exact .one v
  | sl k es A n c b o us hl hc hm hn hA hcell _ ih => exact .sl k es A n c b o us hl hc hm hn hA (fun i d e => x.cell (hcell i d e)) ih
theorem Rd.atv {w : World} {v u : Value} (h : Rd w v (.one u)) : v = u := by cases h; rfl
theorem Rd.slv {w : World} {v : Value} {k : Nat} {es : List Dv} (h : Rd w v (.sl k es)) :
    ∃ (A : Option Addr) (n c b o : Nat) (us : Nat → Value), v = .slice A n c ∧ es.length = n * k ∧ n ≤ c ∧ c ≤ 9223372036854775807 ∧ (A = none → c = 0) ∧ (0 < n → A = some ⟨b, o, none⟩) ∧ (∀ i d, es[i]? = some d → w.cell? ⟨b, o + i, none⟩ = some (us i)) ∧ (∀ i d, es[i]? = some d → Rd w (us i) d) := by
  cases h with
  | sl _ _ A n c b o us h1 h2 h3 h4 h5 h6 h7 => exact ⟨A, n, c, b, o, us, rfl, h1, h2, h3, h4, h5, h6, h7⟩
theorem RI.rd {w : World} {A : Option Addr} {n c : Nat} {l : List Int} (h : RI w A n c l) : Rd w (.slice A n c) (Dv.ints l) := by
  obtain ⟨b, o, hA⟩ : ∃ b o, 0 < n → A = some ⟨b, o, none⟩ ∧ ∀ j, j < n → w.cell? ⟨b, o + j, none⟩ = some (.int .i64 (l.getD j 0)) := by
    by_cases hn : 0 < n
    · obtain ⟨b, o, e, hc⟩ := h.at_ hn
      exact ⟨b, o, fun _ => ⟨e, hc⟩⟩
    · exact ⟨0, 0, fun h => absurd h hn⟩
  have hlt : ∀ i (d : Dv), (l.map fun x => Dv.one (.int .i64 x))[i]? = some d → i < n ∧ d = .one (.int .i64 (l.getD i 0)) := by
    intro i d e
    rw [List.getElem?_map] at e
    by_cases hi : i < l.length
    · rw [List.getElem?_eq_getElem hi] at e
      refine ⟨by rw [← h.len]; exact hi, ?_⟩
      simp only [Option.map_some, Option.some.injEq] at e
      rw [← e]; simp [hi]
    · rw [List.getElem?_eq_none (by omega)] at e; cases e
  refine .sl 1 _ A n c b o (fun i => .int .i64 (l.getD i 0)) (by rw [List.length_map, h.len]; omega) h.cap h.cmax h.none_ (fun hn => (hA hn).1) (fun i d e => ?_) (fun i d e => ?_)
  · have := (hlt i d e).1
    exact (hA (by omega)).2 i this
  · rw [(hlt i d e).2]; exact .one _
theorem Rd.ints {w : World} {v : Value} {l : List Int} (h : Rd w v (Dv.ints l)) : ∃ A n c, v = .slice A n c ∧ RI w A n c l := by
  obtain ⟨A, n, c, b, o, us, rfl, h1, h2, h3, h4, h5, h6, h7⟩ := h.slv
  rw [List.length_map, Nat.mul_one] at h1
  refine ⟨A, n, c, rfl, h1, h2, h3, h4, fun hn => ⟨b, o, h5 hn, fun j hj => ?_⟩⟩
  have e : (l.map fun x => Dv.one (.int .i64 x))[j]? = some (.one (.int .i64 (l.getD j 0))) := by
    rw [List.getElem?_map, List.getElem?_eq_getElem (by omega)]
    simp [show j < l.length by omega]
  rw [h6 j _ e, (h7 j _ e).atv]

/-- v reads as d in w, in blocks F that are v's own -/
inductive Own (w : World) : Value → Dv → List Nat → Prop
  | one (v : Value) : Own w v (.one v) []
  | nil (k : Nat) : Own w (.slice none 0 0) (.sl k []) []
  | sl (k : Nat) (es : List Dv) (n c g : Nat) (T : TypeId) (cs : Array Value) (us : Nat → Value) (fs : Nat → List Nat) (hl : es.length = n * k) (hc : n ≤ c) (hm : c ≤ maxLen) (hs : cs.size = c * k) (hb : w.heap[g]? = some (.cells cs T (0, 0)))
      (hcell : ∀ i d, es[i]? = some d → cs[i]? = some (us i)) (hr : ∀ i d, es[i]? = some d → Own w (us i) d (fs i)) : Own w (.slice (some ⟨g, 0, none⟩) n c) (.sl k es) (g :: (List.range es.length).flatMap fs)
theorem Own.st {w w' : World} {v : Value} {d : Dv} {F : List Nat} (h : Own w v d F) (hk : ∀ b ∈ F, w'.heap[b]? = w.heap[b]?) : Own w' v d F := by
  induction h with
  | one v => exact .one v
  | nil k => exact .nil k
  | sl k es n c g T cs us fs hl hc hm hs hb hcell _ ih =>
    refine .sl k es n c g T cs us fs hl hc hm hs ((hk g List.mem_cons_self).trans hb) hcell (fun i d e => ih i d e fun b hb => hk b (List.mem_cons_of_mem _ (List.mem_flatMap.2 ⟨i, ?_, hb⟩)))
    exact List.mem_range.2 (List.getElem?_eq_some_iff.1 e).1
theorem Own.rd {w : World} {v : Value} {d : Dv} {F : List Nat} (h : Own w v d F) : Rd w v d := by
  induction h with
  | one v => exact .one v
  | nil k => exact .sl k [] none 0 0 0 0 (fun _ => undef) (by simp) (Nat.le_refl _) (by omega) (fun _ => rfl) (fun h => absurd h (by omega)) (fun i d e => by simp at e) (fun i d e => by simp at e)
  | sl k es n c g T cs us fs hl hc hm hs hb hcell _ ih =>
    refine .sl k es _ n c g 0 us hl hc (by unfold maxLen at hm; omega) (fun h => nomatch h) (fun _ => rfl) (fun i d e => ?_) ih
    rw [Nat.zero_add, cell_of_row _ g i _ _ _ hb]
    exact hcell i d e
def own (v : Value) (d : Dv) : Pc := ⟨fun w F => Own w v d F, fun h k => h.st k⟩
def owns (us : List Value) (es : List Dv) : List Pc := List.zipWith own us es
theorem owns_nil {es : List Dv} : owns [] es = [] := rfl
theorem owns_cons {v : Value} {vs : List Value} {d : Dv} {ds : List Dv} : owns (v :: vs) (d :: ds) = own v d :: owns vs ds := rfl
theorem owns_app {us vs : List Value} {es ds : List Dv} (h : us.length = es.length) : owns (us ++ vs) (es ++ ds) = owns us es ++ owns vs ds := List.zipWith_append h
/-- several own values, as one -/
theorem Sep.owns_of {w : World} : ∀ {es : List Dv} {m : Nat} (us : Nat → Value) (fs : Nat → List Nat), (∀ i d, es[i]? = some d → Own w (us (m + i)) d (fs (m + i))) →
    Sep w (owns ((List.range es.length).map fun i => us (m + i)) es) ((List.range es.length).flatMap fun i => fs (m + i))
  | [], _, _, _, _ => .nil
  | d :: es, m, us, fs, h => by
    rw [List.length_cons, List.range_succ_eq_map, List.map_cons, List.flatMap_cons, List.map_map, List.flatMap_map]
    refine .cons (h 0 d rfl) ?_
    have := Sep.owns_of (m := m + 1) (es := es) us fs (fun i d e => by rw [show m + 1 + i = m + (i + 1) by omega]; exact h (i + 1) d e)
    have e1 : (List.range es.length).map (fun i => us (m + 1 + i)) = (List.range es.length).map ((fun i => us (m + i)) ∘ Nat.succ) := List.map_congr_left fun i _ => by simp only [Function.comp]; congr 1; omega
    have e2 : (List.range es.length).flatMap (fun i => fs (m + 1 + i)) = (List.range es.length).flatMap (fun a => fs (m + Nat.succ a)) := by congr 1; funext i; congr 1; omega
    rw [e1, e2] at this
    exact this
theorem Sep.of_owns {w : World} : ∀ {es : List Dv} {vs : List Value} {F : List Nat}, vs.length = es.length → Sep w (owns vs es) F → ∃ fs : Nat → List Nat, (∀ i d, es[i]? = some d → Own w (vs.getD i undef) d (fs i)) ∧ F = (List.range es.length).flatMap fs
  | [], [], F, _, s => by cases s; exact ⟨fun _ => [], fun i d e => (by simp at e), rfl⟩
  | d :: es, v :: vs, F, hl, s => by
    obtain ⟨F1, G, rfl, a, g⟩ := s.uncons
    obtain ⟨fs, h, rfl⟩ := Sep.of_owns (es := es) (vs := vs) (by simpa using hl) g
    refine ⟨fun i => match i with | 0 => F1 | i + 1 => fs i, fun i d' e => ?_, ?_⟩
    · cases i with
      | zero => simp at e; subst e; exact a
      | succ i => exact h i d' (by simpa using e)
    · rw [List.length_cons, List.range_succ_eq_map, List.flatMap_cons, List.flatMap_map]
theorem range_getD {es : List Dv} {cs : Array Value} {us : Nat → Value} (h : ∀ i d, es[i]? = some d → cs[i]? = some (us i)) : (List.range es.length).map us = cs.toList.take es.length := by
  apply List.ext_getElem?
  intro i
  rw [List.getElem?_map, List.getElem?_take]
  by_cases hi : i < es.length
  · rw [if_pos hi, List.getElem?_range hi]
    have := h i _ (List.getElem?_eq_getElem hi)
    rw [Array.getElem?_toList, this]; rfl
  · rw [if_neg hi, List.getElem?_eq_none (by simpa using hi)]; rfl
/-- a slice of the call's own, opened: its block, and what its elements lead to -/
theorem St.open {W w : World} {L : List Pc} {v : Value} {k : Nat} {es : List Dv} (S : St W w (own v (.sl k es) :: L)) :
    (v = .slice none 0 0 ∧ es = [] ∧ St W w L) ∨ ∃ (g n c : Nat) (T : TypeId) (cs : Array Value), v = .slice (some ⟨g, 0, none⟩) n c ∧ es.length = n * k ∧ n ≤ c ∧ c ≤ maxLen ∧ cs.size = c * k ∧ St W w (YtohjjhoobikioaaDoor.row g T cs :: (owns (cs.toList.take es.length) es ++ L)) := by
  obtain ⟨F, s, n, hb⟩ := S.sep
  obtain ⟨F1, G, rfl, a, g⟩ := s.uncons
  have a : Own w v (.sl k es) F1 := a
  cases a with
  | nil => exact .inl ⟨rfl, rfl, S.ext, G, g, by simpa using n, fun b h => hb b (by simpa using h)⟩
  | sl _ _ n' c g' T cs us fs hl hc hm hs hh hcell hr =>
    refine .inr ⟨g', n', c, T, cs, rfl, hl, hc, hm, hs, S.ext, ([g'] ++ ((List.range es.length).flatMap fs ++ G)), .cons ⟨rfl, hh⟩ (.app ?_ g), n, hb⟩
    rw [← range_getD hcell]
    have := Sep.owns_of (m := 0) (es := es) us fs (fun i d e => by rw [Nat.zero_add]; exact hr i d e)
    simpa using this
/-- .. and shut again -/
theorem St.shut {W w : World} {L : List Pc} {k n c g : Nat} {T : TypeId} {cs : Array Value} {es : List Dv} (S : St W w (YtohjjhoobikioaaDoor.row g T cs :: (owns (cs.toList.take es.length) es ++ L))) (hl : es.length = n * k) (hc : n ≤ c) (hm : c ≤ maxLen) (hs : cs.size = c * k) :
    St W w (own (.slice (some ⟨g, 0, none⟩) n c) (.sl k es) :: L) := by
  obtain ⟨F, s, nd, hb⟩ := S.sep
  obtain ⟨F1, G, rfl, ⟨rfl, hh⟩, s2⟩ := s.uncons
  obtain ⟨F2, G2, rfl, s3, s4⟩ := s2.unapp
  have hle : es.length ≤ cs.toList.length := by rw [hl, Array.length_toList, hs]; exact Nat.mul_le_mul_right k hc
  obtain ⟨fs, h, rfl⟩ := Sep.of_owns (by rw [List.length_take]; omega) s3
  have key : ∀ i d, es[i]? = some d → cs[i]? = some ((cs.toList.take es.length).getD i undef) := by
    intro i d e
    have hi : i < es.length := (List.getElem?_eq_some_iff.1 e).1
    have hi2 : i < cs.size := Nat.lt_of_lt_of_le hi (by simpa using hle)
    simp [List.getD, hi, hi2]
  refine ⟨S.ext, (g :: (List.range es.length).flatMap fs) ++ G2, .cons (Own.sl k es n c g T cs _ fs hl hc hm hs hh key h) s4, nd, hb⟩
theorem St.rd {W w : World} {v : Value} {d : Dv} {L : List Pc} (S : St W w L) (i : Nat) (e : L[i]? = some (own v d)) : Rd w v d := by
  obtain ⟨F, s, _, _⟩ := (S.bring i e).sep
  obtain ⟨F1, _, rfl, a, _⟩ := s.uncons
  exact Own.rd a
/-- a piece that says the same -/
theorem St.same {W w : World} {h h' : Pc} {L : List Pc} (S : St W w (h :: L)) (k : ∀ F, h.P w F → h'.P w F) : St W w (h' :: L) := by
  obtain ⟨F, s, n, hb⟩ := S.sep
  obtain ⟨F1, G, rfl, a, g⟩ := s.uncons
  exact ⟨S.ext, _, .cons (k _ a) g, n, hb⟩
/-- a cell that leads nowhere is no one's -/
theorem St.atom {W w : World} {L : List Pc} (S : St W w L) (v : Value) : St W w (own v (.one v) :: L) := S.more (Ext.refl w) (F := []) (Own.one v) List.nodup_nil (fun _ h => nomatch h)
theorem Own.of_I {w : World} {v : Value} {l : List Int} (h : OwnI w 0 v l) : Own w v (Dv.ints l) v.ownBlock.toList := by
  obtain ⟨h0, h⟩ := h
  rcases h with ⟨rfl, hn⟩ | ⟨g, cap, cur, rfl, -, hb, hc, hm, hs, ht⟩
  · have : l = [] := List.length_eq_zero_iff.1 hn
    subst this; exact .nil 1
  · have hcell : ∀ i (d : Dv), (l.map fun x => Dv.one (.int .i64 x))[i]? = some d → cur[i]? = some (.int .i64 (l.getD i 0)) ∧ d = .one (.int .i64 (l.getD i 0)) := by
      intro i d e
      rw [List.getElem?_map] at e
      by_cases hi : i < l.length
      · rw [List.getElem?_eq_getElem hi] at e
        simp only [Option.map_some, Option.some.injEq] at e
        have e2 : (cur.toList.take (l.length * 1))[i]? = (l.map (Value.int .i64))[i]? := by rw [ht]
        rw [List.getElem?_take, if_pos (by omega), Array.getElem?_toList, List.getElem?_map, List.getElem?_eq_getElem hi] at e2
        refine ⟨by rw [e2]; simp [hi], ?_⟩
        rw [← e]; simp [hi]
      · rw [List.getElem?_eq_none (by omega)] at e; cases e
    have hF : (g :: (List.range (l.map fun x => Dv.one (.int .i64 x)).length).flatMap fun _ => ([] : List Nat)) = (Value.slice (some ⟨g, 0, none⟩) l.length cap).ownBlock.toList := by
      have : ∀ m, ((List.range m).flatMap fun _ => ([] : List Nat)) = [] := by intro m; simp
      rw [this]; rfl
    rw [← hF]
    exact .sl 1 _ l.length cap g 3 cur (fun i => .int .i64 (l.getD i 0)) (fun _ => []) (by simp) hc hm hs hb (fun i d e => (hcell i d e).1) (fun i d e => by rw [(hcell i d e).2]; exact .one _)
theorem St.ofI {W w : World} {v : Value} {l : List Int} {L : List Pc} (S : St W w (YtohjjhoobikioaaDoor.ownI v l :: L)) : St W w (YtohjjhoobikioaaDoor.own v (Dv.ints l) :: L) :=
  S.same fun F h => by obtain ⟨rfl, h⟩ := h; exact Own.of_I h

/-! elements of k cells each -/
theorem flat_len {α : Type} {f : α → List Dv} {k : Nat} (hk : ∀ x, (f x).length = k) : ∀ (l : List α), (l.flatMap f).length = l.length * k
  | [] => by simp
  | x :: l => by rw [List.flatMap_cons, List.length_append, hk, flat_len hk l, List.length_cons, Nat.succ_mul]; omega
theorem flat_get {α : Type} {f : α → List Dv} {k : Nat} (hk : ∀ x, (f x).length = k) : ∀ (l : List α) (i j : Nat) (x : α), l[i]? = some x → j < k → (l.flatMap f)[i * k + j]? = (f x)[j]?
  | [], i, j, x, e, _ => by simp at e
  | y :: l, 0, j, x, e, hj => by
    simp at e; subst e
    rw [List.flatMap_cons, Nat.zero_mul, Nat.zero_add, List.getElem?_append_left (by rw [hk]; exact hj)]
  | y :: l, i + 1, j, x, e, hj => by
    rw [List.flatMap_cons, List.getElem?_append_right (by rw [hk, Nat.succ_mul]; omega), hk, Nat.succ_mul, show i * k + k + j - k = i * k + j by omega]
    exact flat_get hk l i j x (by simpa using e) hj
theorem flat_take {α : Type} {f : α → List Dv} {k : Nat} (hk : ∀ x, (f x).length = k) : ∀ (l : List α) (i : Nat), (l.take i).flatMap f = (l.flatMap f).take (i * k)
  | [], i => by simp
  | y :: l, 0 => by simp
  | y :: l, i + 1 => by
    rw [List.take_succ_cons, List.flatMap_cons, List.flatMap_cons, flat_take hk l i, List.take_append, hk, Nat.succ_mul, List.take_of_length_le (l := f y) (by rw [hk]; omega), show i * k + k - k = i * k by omega]
/-- a slice of structs: what a round needs -/
theorem Rd.rows {α : Type} {f : α → List Dv} {k : Nat} (hk : ∀ x, (f x).length = k) (h0 : 0 < k) {w : World} {v : Value} {l : List α} (h : Rd w v (.sl k (l.flatMap f))) :
    ∃ A c, v = .slice A l.length c ∧ l.length ≤ c ∧ c ≤ 9223372036854775807 ∧ (A = none → c = 0) ∧ (0 < l.length → ∃ b o, A = some ⟨b, o, none⟩ ∧ ∀ i x, l[i]? = some x → ∀ j d, (f x)[j]? = some d → ∃ u, w.cell? ⟨b, o + (i * k + j), none⟩ = some u ∧ Rd w u d) := by
  obtain ⟨A, n, c, b, o, us, rfl, h1, h2, h3, h4, h5, h6, h7⟩ := h.slv
  rw [flat_len hk] at h1
  obtain rfl : l.length = n := Nat.eq_of_mul_eq_mul_right h0 h1
  refine ⟨A, c, rfl, h2, h3, h4, fun hn => ⟨b, o, h5 hn, fun i x e j d e2 => ?_⟩⟩
  have hj : j < k := by rw [← hk x]; exact (List.getElem?_eq_some_iff.1 e2).1
  have e3 := flat_get hk l i j x e hj
  rw [e2] at e3
  exact ⟨_, h6 _ _ e3, h7 _ _ e3⟩
end Go.Proofs.YtohjjhoobikioaaDoor
/-! Values in memory, however deep: bytes and strings; cells in a row. -/
namespace Go.Proofs.YtohjjhoobikioaaDoor
open Go.RowKit

def Dv.bytes (l : List UInt8) : Dv := .sl 1 (l.map fun x => .one (byteC x))
def Dv.strs (l : List (List UInt8)) : Dv := .sl 1 (l.map fun x => .one (strC x))
theorem RB.rd {w : World} {A : Option Addr} {n c : Nat} {l : List UInt8} (h : RB w A n c l) : Rd w (.slice A n c) (Dv.bytes l) := by
  obtain ⟨b, o, hA⟩ : ∃ b o, 0 < n → A = some ⟨b, o, none⟩ ∧ ∀ j, j < n → w.cell? ⟨b, o + j, none⟩ = some (byteC (l.getD j 0)) := by
    by_cases hn : 0 < n
    · obtain ⟨b, o, e, hc⟩ := h.at_ hn
      exact ⟨b, o, fun _ => ⟨e, hc⟩⟩
    · exact ⟨0, 0, fun h => absurd h hn⟩
  have hlt : ∀ i (d : Dv), (l.map fun x => Dv.one (byteC x))[i]? = some d → i < n ∧ d = .one (byteC (l.getD i 0)) := by
    intro i d e
    rw [List.getElem?_map] at e
    by_cases hi : i < l.length
    · rw [List.getElem?_eq_getElem hi] at e
      refine ⟨by rw [← h.len]; exact hi, ?_⟩
      simp only [Option.map_some, Option.some.injEq] at e
      rw [← e]; simp [hi]
    · rw [List.getElem?_eq_none (by omega)] at e; cases e
  refine .sl 1 _ A n c b o (fun i => byteC (l.getD i 0)) (by rw [List.length_map, h.len]; omega) h.cap h.cmax h.none_ (fun hn => (hA hn).1) (fun i d e => ?_) (fun i d e => ?_)
  · have := (hlt i d e).1
    exact (hA (by omega)).2 i this
  · rw [(hlt i d e).2]; exact .one _
theorem Rd.bytes {w : World} {v : Value} {l : List UInt8} (h : Rd w v (Dv.bytes l)) : ∃ A n c, v = .slice A n c ∧ RB w A n c l := by
  obtain ⟨A, n, c, b, o, us, rfl, h1, h2, h3, h4, h5, h6, h7⟩ := h.slv
  rw [List.length_map, Nat.mul_one] at h1
  refine ⟨A, n, c, rfl, h1, h2, h3, h4, fun hn => ⟨b, o, h5 hn, fun j hj => ?_⟩⟩
  have e : (l.map fun x => Dv.one (byteC x))[j]? = some (.one (byteC (l.getD j 0))) := by
    rw [List.getElem?_map, List.getElem?_eq_getElem (by omega)]
    simp [show j < l.length by omega]
  rw [h6 j _ e, (h7 j _ e).atv]; rfl

theorem Own.of_B {w : World} {v : Value} {l : List UInt8} (h : OwnB w 0 v l) : Own w v (Dv.bytes l) v.ownBlock.toList := by
  obtain ⟨h0, h⟩ := h
  rcases h with ⟨rfl, hn⟩ | ⟨g, cap, cur, rfl, -, hb, hc, hm, hs, ht⟩
  · have : l = [] := List.length_eq_zero_iff.1 hn
    subst this; exact .nil 1
  · have hcell : ∀ i (d : Dv), (l.map fun x => Dv.one (byteC x))[i]? = some d → cur[i]? = some (byteC (l.getD i 0)) ∧ d = .one (byteC (l.getD i 0)) := by
      intro i d e
      rw [List.getElem?_map] at e
      by_cases hi : i < l.length
      · rw [List.getElem?_eq_getElem hi] at e
        simp only [Option.map_some, Option.some.injEq] at e
        have e2 : (cur.toList.take (l.length * 1))[i]? = (l.map (byteC))[i]? := by rw [ht]
        rw [List.getElem?_take, if_pos (by omega), Array.getElem?_toList, List.getElem?_map, List.getElem?_eq_getElem hi] at e2
        refine ⟨by rw [e2]; simp [hi], ?_⟩
        rw [← e]; simp [hi]
      · rw [List.getElem?_eq_none (by omega)] at e; cases e
    have hF : (g :: (List.range (l.map fun x => Dv.one (byteC x)).length).flatMap fun _ => ([] : List Nat)) = (Value.slice (some ⟨g, 0, none⟩) l.length cap).ownBlock.toList := by
      have : ∀ m, ((List.range m).flatMap fun _ => ([] : List Nat)) = [] := by intro m; simp
      rw [this]; rfl
    rw [← hF]
    exact .sl 1 _ l.length cap g 5 cur (fun i => byteC (l.getD i 0)) (fun _ => []) (by simp) hc hm hs hb (fun i d e => (hcell i d e).1) (fun i d e => by rw [(hcell i d e).2]; exact .one _)
theorem St.ofB {W w : World} {v : Value} {l : List UInt8} {L : List Pc} (S : St W w (YtohjjhoobikioaaDoor.ownB v l :: L)) : St W w (YtohjjhoobikioaaDoor.own v (Dv.bytes l) :: L) :=
  S.same fun F h => by obtain ⟨rfl, h⟩ := h; exact Own.of_B h


theorem RS.rd {w : World} {A : Option Addr} {n c : Nat} {l : List (List UInt8)} (h : RS w A n c l) : Rd w (.slice A n c) (Dv.strs l) := by
  obtain ⟨b, o, hA⟩ : ∃ b o, 0 < n → A = some ⟨b, o, none⟩ ∧ ∀ j, j < n → w.cell? ⟨b, o + j, none⟩ = some (strC (l.getD j [])) := by
    by_cases hn : 0 < n
    · obtain ⟨b, o, e, hc⟩ := h.at_ hn
      exact ⟨b, o, fun _ => ⟨e, hc⟩⟩
    · exact ⟨0, 0, fun h => absurd h hn⟩
  have hlt : ∀ i (d : Dv), (l.map fun x => Dv.one (strC x))[i]? = some d → i < n ∧ d = .one (strC (l.getD i [])) := by
    intro i d e
    rw [List.getElem?_map] at e
    by_cases hi : i < l.length
    · rw [List.getElem?_eq_getElem hi] at e
      refine ⟨by rw [← h.len]; exact hi, ?_⟩
      simp only [Option.map_some, Option.some.injEq] at e
      rw [← e]; simp [hi]
    · rw [List.getElem?_eq_none (by omega)] at e; cases e
  refine .sl 1 _ A n c b o (fun i => strC (l.getD i [])) (by rw [List.length_map, h.len]; omega) h.cap h.cmax h.none_ (fun hn => (hA hn).1) (fun i d e => ?_) (fun i d e => ?_)
  · have := (hlt i d e).1
    exact (hA (by omega)).2 i this
  · rw [(hlt i d e).2]; exact .one _
theorem Rd.strs {w : World} {v : Value} {l : List (List UInt8)} (h : Rd w v (Dv.strs l)) : ∃ A n c, v = .slice A n c ∧ RS w A n c l := by
  obtain ⟨A, n, c, b, o, us, rfl, h1, h2, h3, h4, h5, h6, h7⟩ := h.slv
  rw [List.length_map, Nat.mul_one] at h1
  refine ⟨A, n, c, rfl, h1, h2, h3, h4, fun hn => ⟨b, o, h5 hn, fun j hj => ?_⟩⟩
  have e : (l.map fun x => Dv.one (strC x))[j]? = some (.one (strC (l.getD j []))) := by
    rw [List.getElem?_map, List.getElem?_eq_getElem (by omega)]
    simp [show j < l.length by omega]
  rw [h6 j _ e, (h7 j _ e).atv]

theorem Own.of_S {w : World} {v : Value} {l : List (List UInt8)} (h : OwnS w 0 v l) : Own w v (Dv.strs l) v.ownBlock.toList := by
  obtain ⟨h0, h⟩ := h
  rcases h with ⟨rfl, hn⟩ | ⟨g, cap, cur, rfl, -, hb, hc, hm, hs, ht⟩
  · have : l = [] := List.length_eq_zero_iff.1 hn
    subst this; exact .nil 1
  · have hcell : ∀ i (d : Dv), (l.map fun x => Dv.one (strC x))[i]? = some d → cur[i]? = some (strC (l.getD i [])) ∧ d = .one (strC (l.getD i [])) := by
      intro i d e
      rw [List.getElem?_map] at e
      by_cases hi : i < l.length
      · rw [List.getElem?_eq_getElem hi] at e
        simp only [Option.map_some, Option.some.injEq] at e
        have e2 : (cur.toList.take (l.length * 1))[i]? = (l.map (strC))[i]? := by rw [ht]
        rw [List.getElem?_take, if_pos (by omega), Array.getElem?_toList, List.getElem?_map, List.getElem?_eq_getElem hi] at e2
        refine ⟨by rw [e2]; simp [hi], ?_⟩
        rw [← e]; simp [hi]
      · rw [List.getElem?_eq_none (by omega)] at e; cases e
    have hF : (g :: (List.range (l.map fun x => Dv.one (strC x)).length).flatMap fun _ => ([] : List Nat)) = (Value.slice (some ⟨g, 0, none⟩) l.length cap).ownBlock.toList := by
      have : ∀ m, ((List.range m).flatMap fun _ => ([] : List Nat)) = [] := by intro m; simp
      rw [this]; rfl
    rw [← hF]
    exact .sl 1 _ l.length cap g 9 cur (fun i => strC (l.getD i [])) (fun _ => []) (by simp) hc hm hs hb (fun i d e => (hcell i d e).1) (fun i d e => by rw [(hcell i d e).2]; exact .one _)
theorem St.ofS {W w : World} {v : Value} {l : List (List UInt8)} {L : List Pc} (S : St W w (YtohjjhoobikioaaDoor.ownS v l :: L)) : St W w (YtohjjhoobikioaaDoor.own v (Dv.strs l) :: L) :=
  S.same fun F h => by obtain ⟨rfl, h⟩ := h; exact Own.of_S h


/-- cells in a row read as data -/
inductive Rds (w : World) : List Value → List Dv → Prop
  | nil : Rds w [] []
  | cons {v : Value} {d : Dv} {vs : List Value} {ds : List Dv} : Rd w v d → Rds w vs ds → Rds w (v :: vs) (d :: ds)
theorem Rds.app {w : World} : ∀ {us vs : List Value} {ds es : List Dv}, Rds w us ds → Rds w vs es → Rds w (us ++ vs) (ds ++ es)
  | _, _, _, _, .nil, h => h
  | _, _, _, _, .cons a b, h => .cons a (b.app h)
theorem Rds.part {w : World} {cs : List Value} (o c : Nat) {ds es : List Dv} (h : Rds w ((cs.drop o).take c) ds) (k : Rds w (cs.drop (o + c)) es) : Rds w (cs.drop o) (ds ++ es) := by
  have := h.app k
  rwa [← List.drop_drop, List.take_append_drop] at this
theorem Rds.one {w : World} {v : Value} {d : Dv} (h : Rds w [v] [d]) : Rd w v d := by cases h; assumption
theorem Rds.ext {w w' : World} {vs : List Value} {ds : List Dv} (h : Rds w vs ds) (x : Ext w w') : Rds w' vs ds := by
  induction h with
  | nil => exact .nil
  | cons a _ ih => exact .cons (a.ext x) ih
theorem Rds.uncons {w : World} {cs : List Value} {d : Dv} {ds : List Dv} (h : Rds w cs (d :: ds)) : ∃ v vs, cs = v :: vs ∧ Rd w v d ∧ Rds w vs ds := by cases h with | cons a b => exact ⟨_, _, rfl, a, b⟩
theorem Rds.unnil {w : World} {cs : List Value} (h : Rds w cs []) : cs = [] := by cases h; rfl
theorem Rds.get {w : World} : ∀ {vs : List Value} {ds : List Dv} {i : Nat} {d : Dv}, Rds w vs ds → ds[i]? = some d → ∃ u, vs[i]? = some u ∧ Rd w u d
  | _, _, i, d, .nil, e => by simp at e
  | _, _, 0, d, .cons a _, e => by simp at e; subst e; exact ⟨_, rfl, a⟩
  | _, _, i + 1, d, .cons _ b, e => by simpa using b.get (i := i) (by simpa using e)
/-- a 64-bit number -/
def R64 (x : Int) : Prop := -9223372036854775808 ≤ x ∧ x ≤ 9223372036854775807
theorem sum_take {α : Type} (l : List α) (f : α → Nat) {k : Nat} (hk : k < l.length) : ((l.take (k + 1)).map f).sum = ((l.take k).map f).sum + f (l[k]'hk) := by
  rw [List.take_add_one, List.getElem?_eq_getElem hk, List.map_append, List.sum_append]; simp
end Go.Proofs.YtohjjhoobikioaaDoor
