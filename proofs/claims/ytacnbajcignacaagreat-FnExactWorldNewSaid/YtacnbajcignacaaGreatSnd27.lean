/-
  The evaluator at the top: a function called from outside, on memory that can be read.
-/
import Derived.Test.YtacnbajcignacaaGreatSnd26
namespace Go.Proofs.YtacnbajcignacaaGreat
open Go.RowKit
set_option linter.unusedSimpArgs false
set_option linter.unusedVariables false
/-- outside: all memory may be read -/
def topC (w : World) (us : List Value) : Ctx where
  W := w
  L := []
  K := heapOf w
  src := fun j => us[j]?.getD undef
  n := 0
  hK := fun _ S _ _ h => row_ext h S.ext
  bF := fun _ => 0
  hF := fun _ => undef
def topY (w : World) : Lay where
  bl := fun _ => 0
  hd := fun _ => undef
  T := fun _ => 0
  us := fun _ => #[]
  w0 := fun _ => w
  F := fun _ => []
/-- what names from outside stand for: argument j of the lists us -/
def topR (w : World) (us : List Value) : Rel := relOf (topC w us) (resS [] (withIdx 0 [])) (topY w)
theorem top_mem (w : World) (us : List Value) : Mem (topC w us) (resS [] (withIdx 0 [])) (topY w) w :=
  ⟨St.refl w, (fun _ _ h => nomatch h), (fun _ _ h => nomatch h), List.nodup_nil, List.nodup_nil⟩
theorem Sound.top {P : Program} {f : FuncId} {M : Mean} (h : Sound P f M) {w : World} {ls us : List Value} {args : List V} {r : Res} (hM : M args [] [] = some r) (ha : RVs (topR w ls) args us) :
    Calls P f us.toArray w fun e w' => ∃ u y', e = .returned u ∧ Ends (topC w ls) 0 0 r (topY w) u y' w' :=
  h.run (topC w ls) args [] [] r hM (topY w) us w (top_mem w ls) ha
/-- a result that leads nowhere -/
theorem Sound.top_v {P : Program} {f : FuncId} {M : Mean} (h : Sound P f M) {w : World} {ls us : List Value} {args : List V} {x : Value} {bs : List (List V)} {ts : List (Nat × List (List D))} (hM : M args [] [] = some ⟨.v x, bs, ts⟩) (ha : RVs (topR w ls) args us) :
    Calls P f us.toArray w fun e w' => e = .returned x ∧ Ext w w' :=
  (h.top hM ha).mono fun e w' ⟨u, y', he, E⟩ => ⟨by rw [he, show u = x from E.val], E.mem.st.ext⟩
/-- a number, a truth, a string as an argument -/
theorem top_arg_v (w : World) (ls : List Value) (x : Value) : RV (topR w ls) (.v x) x := rfl
/-- a list as an argument -/
theorem top_arg_l {w : World} {ls : List Value} {j : Nat} {u : Value} {rows : List (List D)} (hj : ls[j]? = some u) (h : RdD (heapOf w) (.l rows) u) : RV (topR w ls) (.lst (some j) rows) u :=
  ⟨h, fun i e => by injection e with e; subst e; show ls[j]?.getD undef = u; rw [hj]; rfl⟩
/-- the list that is handed back -/
theorem Sound.top_own {P : Program} {f : FuncId} {M : Mean} (h : Sound P f M) {w : World} {ls us : List Value} {args : List V} {q : Nat} {rows : List (List D)} {bs : List (List V)} (hM : M args [] [] = some ⟨.own q, bs, [(q, rows)]⟩) (ha : RVs (topR w ls) args us) :
    Calls P f us.toArray w fun e w' => ∃ u, e = .returned u ∧ Ext w w' ∧ RdD (heapOf w') (.l rows) u := by
  refine (h.top hM ha).mono fun e w' ⟨u, y', he, E⟩ => ⟨u, he, E.mem.st.ext, ?_⟩
  have hu : u = y'.hd q := E.val.2
  obtain ⟨F, o⟩ := E.mem.st.own_at (u := y'.hd q) (rows := rows) (List.mem_append_right _ (List.mem_append_left _ (by show ownP _ _ ∈ treePs y'.hd [(q, rows)]; exact List.mem_cons_self)))
  rw [hu]
  exact o.rd fun _ _ _ e => e
end Go.Proofs.YtacnbajcignacaaGreat
