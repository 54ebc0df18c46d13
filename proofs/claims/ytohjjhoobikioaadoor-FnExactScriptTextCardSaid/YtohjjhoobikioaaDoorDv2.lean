/-
  Values in memory, however deep: bytes and strings; cells in a row.
-/
import Derived.Test.YtohjjhoobikioaaDoorDv
namespace Go.Proofs.YtohjjhoobikioaaDoor
open Go.RowKit

def Dv.bytes (l : List UInt8) : Dv := .sl 1 (l.map fun x => .one (byteC x))
def Dv.strs (l : List (List UInt8)) : Dv := .sl 1 (l.map fun x => .one (strC x))
theorem RB.rd {w : World} {A : Option Addr} {n c : Nat} {l : List UInt8} (h : RB w A n c l) : Rd w (.slice A n c) (Dv.bytes l) := by
  obtain ⟨b, o, hA⟩ : ∃ b o, 0 < n → A = some ⟨b, o, none⟩ ∧ ∀ j, j < n → w.cell? ⟨b, o + j, none⟩ = some (byteC (l.getD j 0)) := by
    by_cases hn : 0 < n
    · obtain ⟨b, o, e, hc⟩ := h.at_ hn
      exact ⟨b, o, fun _ => ⟨e, hc⟩⟩
    · exact ⟨0, 0, fun h => absurd h hn⟩
  have hlt : ∀ i (d : Dv), (l.map fun x => Dv.one (byteC x))[i]? = some d → i < n ∧ d = .one (byteC (l.getD i 0)) := by
    intro i d e
    rw [List.getElem?_map] at e
    by_cases hi : i < l.length
    · rw [List.getElem?_eq_getElem hi] at e
      refine ⟨by rw [← h.len]; exact hi, ?_⟩
      simp only [Option.map_some, Option.some.injEq] at e
      rw [← e]; simp [hi]
    · rw [List.getElem?_eq_none (by omega)] at e; cases e
  refine .sl 1 _ A n c b o (fun i => byteC (l.getD i 0)) (by rw [List.length_map, h.len]; omega) h.cap h.cmax h.none_ (fun hn => (hA hn).1) (fun i d e => ?_) (fun i d e => ?_)
  · have := (hlt i d e).1
    exact (hA (by omega)).2 i this
  · rw [(hlt i d e).2]; exact .one _
theorem Rd.bytes {w : World} {v : Value} {l : List UInt8} (h : Rd w v (Dv.bytes l)) : ∃ A n c, v = .slice A n c ∧ RB w A n c l := by
  obtain ⟨A, n, c, b, o, us, rfl, h1, h2, h3, h4, h5, h6, h7⟩ := h.slv
  rw [List.length_map, Nat.mul_one] at h1
  refine ⟨A, n, c, rfl, h1, h2, h3, h4, fun hn => ⟨b, o, h5 hn, fun j hj => ?_⟩⟩
  have e : (l.map fun x => Dv.one (byteC x))[j]? = some (.one (byteC (l.getD j 0))) := by
    rw [List.getElem?_map, List.getElem?_eq_getElem (by omega)]
    simp [show j < l.length by omega]
  rw [h6 j _ e, (h7 j _ e).atv]; rfl

theorem Own.of_B {w : World} {v : Value} {l : List UInt8} (h : OwnB w 0 v l) : Own w v (Dv.bytes l) v.ownBlock.toList := by
  obtain ⟨h0, h⟩ := h
  rcases h with ⟨rfl, hn⟩ | ⟨g, cap, cur, rfl, -, hb, hc, hm, hs, ht⟩
  · have : l = [] := List.length_eq_zero_iff.1 hn
    subst this; exact .nil 1
  · have hcell : ∀ i (d : Dv), (l.map fun x => Dv.one (byteC x))[i]? = some d → cur[i]? = some (byteC (l.getD i 0)) ∧ d = .one (byteC (l.getD i 0)) := by
      intro i d e
      rw [List.getElem?_map] at e
      by_cases hi : i < l.length
      · rw [List.getElem?_eq_getElem hi] at e
        simp only [Option.map_some, Option.some.injEq] at e
        have e2 : (cur.toList.take (l.length * 1))[i]? = (l.map (byteC))[i]? := by rw [ht]
        rw [List.getElem?_take, if_pos (by omega), Array.getElem?_toList, List.getElem?_map, List.getElem?_eq_getElem hi] at e2
        refine ⟨by rw [e2]; simp [hi], ?_⟩
        rw [← e]; simp [hi]
      · rw [List.getElem?_eq_none (by omega)] at e; cases e
    have hF : (g :: (List.range (l.map fun x => Dv.one (byteC x)).length).flatMap fun _ => ([] : List Nat)) = (Value.slice (some ⟨g, 0, none⟩) l.length cap).ownBlock.toList := by
      have : ∀ m, ((List.range m).flatMap fun _ => ([] : List Nat)) = [] := by intro m; simp
      rw [this]; rfl
    rw [← hF]
    exact .sl 1 _ l.length cap g 5 cur (fun i => byteC (l.getD i 0)) (fun _ => []) (by simp) hc hm hs hb (fun i d e => (hcell i d e).1) (fun i d e => by rw [(hcell i d e).2]; exact .one _)
theorem St.ofB {W w : World} {v : Value} {l : List UInt8} {L : List Pc} (S : St W w (YtohjjhoobikioaaDoor.ownB v l :: L)) : St W w (YtohjjhoobikioaaDoor.own v (Dv.bytes l) :: L) :=
  S.same fun F h => by obtain ⟨rfl, h⟩ := h; exact Own.of_B h


theorem RS.rd {w : World} {A : Option Addr} {n c : Nat} {l : List (List UInt8)} (h : RS w A n c l) : Rd w (.slice A n c) (Dv.strs l) := by
  obtain ⟨b, o, hA⟩ : ∃ b o, 0 < n → A = some ⟨b, o, none⟩ ∧ ∀ j, j < n → w.cell? ⟨b, o + j, none⟩ = some (strC (l.getD j [])) := by
    by_cases hn : 0 < n
    · obtain ⟨b, o, e, hc⟩ := h.at_ hn
      exact ⟨b, o, fun _ => ⟨e, hc⟩⟩
    · exact ⟨0, 0, fun h => absurd h hn⟩
  have hlt : ∀ i (d : Dv), (l.map fun x => Dv.one (strC x))[i]? = some d → i < n ∧ d = .one (strC (l.getD i [])) := by
    intro i d e
    rw [List.getElem?_map] at e
    by_cases hi : i < l.length
    · rw [List.getElem?_eq_getElem hi] at e
      refine ⟨by rw [← h.len]; exact hi, ?_⟩
      simp only [Option.map_some, Option.some.injEq] at e
      rw [← e]; simp [hi]
    · rw [List.getElem?_eq_none (by omega)] at e; cases e
  refine .sl 1 _ A n c b o (fun i => strC (l.getD i [])) (by rw [List.length_map, h.len]; omega) h.cap h.cmax h.none_ (fun hn => (hA hn).1) (fun i d e => ?_) (fun i d e => ?_)
  · have := (hlt i d e).1
    exact (hA (by omega)).2 i this
  · rw [(hlt i d e).2]; exact .one _
theorem Rd.strs {w : World} {v : Value} {l : List (List UInt8)} (h : Rd w v (Dv.strs l)) : ∃ A n c, v = .slice A n c ∧ RS w A n c l := by
  obtain ⟨A, n, c, b, o, us, rfl, h1, h2, h3, h4, h5, h6, h7⟩ := h.slv
  rw [List.length_map, Nat.mul_one] at h1
  refine ⟨A, n, c, rfl, h1, h2, h3, h4, fun hn => ⟨b, o, h5 hn, fun j hj => ?_⟩⟩
  have e : (l.map fun x => Dv.one (strC x))[j]? = some (.one (strC (l.getD j []))) := by
    rw [List.getElem?_map, List.getElem?_eq_getElem (by omega)]
    simp [show j < l.length by omega]
  rw [h6 j _ e, (h7 j _ e).atv]

theorem Own.of_S {w : World} {v : Value} {l : List (List UInt8)} (h : OwnS w 0 v l) : Own w v (Dv.strs l) v.ownBlock.toList := by
  obtain ⟨h0, h⟩ := h
  rcases h with ⟨rfl, hn⟩ | ⟨g, cap, cur, rfl, -, hb, hc, hm, hs, ht⟩
  · have : l = [] := List.length_eq_zero_iff.1 hn
    subst this; exact .nil 1
  · have hcell : ∀ i (d : Dv), (l.map fun x => Dv.one (strC x))[i]? = some d → cur[i]? = some (strC (l.getD i [])) ∧ d = .one (strC (l.getD i [])) := by
      intro i d e
      rw [List.getElem?_map] at e
      by_cases hi : i < l.length
      · rw [List.getElem?_eq_getElem hi] at e
        simp only [Option.map_some, Option.some.injEq] at e
        have e2 : (cur.toList.take (l.length * 1))[i]? = (l.map (strC))[i]? := by rw [ht]
        rw [List.getElem?_take, if_pos (by omega), Array.getElem?_toList, List.getElem?_map, List.getElem?_eq_getElem hi] at e2
        refine ⟨by rw [e2]; simp [hi], ?_⟩
        rw [← e]; simp [hi]
      · rw [List.getElem?_eq_none (by omega)] at e; cases e
    have hF : (g :: (List.range (l.map fun x => Dv.one (strC x)).length).flatMap fun _ => ([] : List Nat)) = (Value.slice (some ⟨g, 0, none⟩) l.length cap).ownBlock.toList := by
      have : ∀ m, ((List.range m).flatMap fun _ => ([] : List Nat)) = [] := by intro m; simp
      rw [this]; rfl
    rw [← hF]
    exact .sl 1 _ l.length cap g 9 cur (fun i => strC (l.getD i [])) (fun _ => []) (by simp) hc hm hs hb (fun i d e => (hcell i d e).1) (fun i d e => by rw [(hcell i d e).2]; exact .one _)
theorem St.ofS {W w : World} {v : Value} {l : List (List UInt8)} {L : List Pc} (S : St W w (YtohjjhoobikioaaDoor.ownS v l :: L)) : St W w (YtohjjhoobikioaaDoor.own v (Dv.strs l) :: L) :=
  S.same fun F h => by obtain ⟨rfl, h⟩ := h; exact Own.of_S h


/-- cells in a row read as data -/
inductive Rds (w : World) : List Value → List Dv → Prop
  | nil : Rds w [] []
  | cons {v : Value} {d : Dv} {vs : List Value} {ds : List Dv} : Rd w v d → Rds w vs ds → Rds w (v :: vs) (d :: ds)
theorem Rds.app {w : World} : ∀ {us vs : List Value} {ds es : List Dv}, Rds w us ds → Rds w vs es → Rds w (us ++ vs) (ds ++ es)
  | _, _, _, _, .nil, h => h
  | _, _, _, _, .cons a b, h => .cons a (b.app h)
theorem Rds.part {w : World} {cs : List Value} (o c : Nat) {ds es : List Dv} (h : Rds w ((cs.drop o).take c) ds) (k : Rds w (cs.drop (o + c)) es) : Rds w (cs.drop o) (ds ++ es) := by
  have := h.app k
  rwa [← List.drop_drop, List.take_append_drop] at this
theorem Rds.one {w : World} {v : Value} {d : Dv} (h : Rds w [v] [d]) : Rd w v d := by cases h; assumption
theorem Rds.ext {w w' : World} {vs : List Value} {ds : List Dv} (h : Rds w vs ds) (x : Ext w w') : Rds w' vs ds := by
  induction h with
  | nil => exact .nil
  | cons a _ ih => exact .cons (a.ext x) ih
theorem Rds.uncons {w : World} {cs : List Value} {d : Dv} {ds : List Dv} (h : Rds w cs (d :: ds)) : ∃ v vs, cs = v :: vs ∧ Rd w v d ∧ Rds w vs ds := by cases h with | cons a b => exact ⟨_, _, rfl, a, b⟩
theorem Rds.unnil {w : World} {cs : List Value} (h : Rds w cs []) : cs = [] := by cases h; rfl
theorem Rds.get {w : World} : ∀ {vs : List Value} {ds : List Dv} {i : Nat} {d : Dv}, Rds w vs ds → ds[i]? = some d → ∃ u, vs[i]? = some u ∧ Rd w u d
  | _, _, i, d, .nil, e => by simp at e
  | _, _, 0, d, .cons a _, e => by simp at e; subst e; exact ⟨_, rfl, a⟩
  | _, _, i + 1, d, .cons _ b, e => by simpa using b.get (i := i) (by simpa using e)
/-- a 64-bit number -/
def R64 (x : Int) : Prop := -9223372036854775808 ≤ x ∧ x ≤ 9223372036854775807
theorem sum_take {α : Type} (l : List α) (f : α → Nat) {k : Nat} (hk : k < l.length) : ((l.take (k + 1)).map f).sum = ((l.take k).map f).sum + f (l[k]'hk) := by
  rw [List.take_add_one, List.getElem?_eq_getElem hk, List.map_append, List.sum_append]; simp
end Go.Proofs.YtohjjhoobikioaaDoor
