/-
  Several pieces of memory as one; slices of structs with a slice of ints in each.
-/
import Derived.Test.YtohjjhoobikioaaDoorSep
namespace Go.Proofs.YtohjjhoobikioaaDoor
open Go.RowKit

theorem Sep.app {w : World} : ∀ {M L : List Pc} {F G : List Nat}, Sep w M F → Sep w L G → Sep w (M ++ L) (F ++ G)
  | [], _, _, _, s, t => by cases s; exact t
  | h :: M, L, F, G, s, t => by
    obtain ⟨F1, F2, rfl, a, g⟩ := s.uncons
    rw [List.append_assoc]
    exact .cons a (Sep.app g t)
theorem Sep.unapp {w : World} : ∀ {M L : List Pc} {F : List Nat}, Sep w (M ++ L) F → ∃ F1 G, F = F1 ++ G ∧ Sep w M F1 ∧ Sep w L G
  | [], _, F, s => ⟨[], F, rfl, .nil, s⟩
  | h :: M, L, F, s => by
    obtain ⟨F1, F2, rfl, a, g⟩ := s.uncons
    obtain ⟨F3, G, rfl, m, l⟩ := Sep.unapp g
    exact ⟨F1 ++ F3, G, (List.append_assoc _ _ _).symm, .cons a m, l⟩
/-- several pieces as one -/
def grp (M : List Pc) : Pc := ⟨fun w F => Sep w M F, fun h k => h.st k⟩
theorem St.into {W w : World} {M L : List Pc} (S : St W w (M ++ L)) : St W w (grp M :: L) := by
  obtain ⟨F, s, n, hb⟩ := S.sep
  obtain ⟨F1, G, rfl, m, l⟩ := s.unapp
  exact ⟨S.ext, _, .cons m l, n, hb⟩
theorem St.outof {W w : World} {M L : List Pc} (S : St W w (grp M :: L)) : St W w (M ++ L) := by
  obtain ⟨F, s, n, hb⟩ := S.sep
  obtain ⟨F1, G, rfl, m, l⟩ := s.uncons
  exact ⟨S.ext, _, .app m l, n, hb⟩
theorem Sep.perm {w : World} {L L' : List Pc} (p : L.Perm L') : ∀ {F : List Nat}, Sep w L F → ∃ F', Sep w L' F' ∧ F'.Perm F := by
  induction p with
  | nil => intro F s; exact ⟨F, s, List.Perm.refl _⟩
  | cons h _ ih =>
    intro F s
    obtain ⟨F1, G, rfl, a, g⟩ := s.uncons
    obtain ⟨G', g', q⟩ := ih g
    exact ⟨F1 ++ G', .cons a g', List.Perm.append_left _ q⟩
  | swap h k L => intro F s; exact s.swap
  | trans _ _ i1 i2 =>
    intro F s
    obtain ⟨F1, s1, q1⟩ := i1 s
    obtain ⟨F2, s2, q2⟩ := i2 s1
    exact ⟨F2, s2, q2.trans q1⟩
/-- the pieces in another order -/
theorem St.perm {W w : World} {L L' : List Pc} (S : St W w L) (p : L.Perm L') : St W w L' := by
  obtain ⟨F, s, n, hb⟩ := S.sep
  obtain ⟨F', s', q⟩ := s.perm p
  exact ⟨S.ext, F', s', q.nodup_iff.2 n, fun b h => hb b (q.mem_iff.1 h)⟩
/-- drop all but the first -/
theorem St.keep {W w : World} {M L : List Pc} (S : St W w (M ++ L)) : St W w M := by
  obtain ⟨F, s, n, hb⟩ := S.sep
  obtain ⟨F1, G, rfl, m, l⟩ := s.unapp
  exact ⟨S.ext, F1, m, (List.nodup_append.1 n).1, fun b h => hb b (List.mem_append_left _ h)⟩
/-- what a call has made, beside what there was -/
theorem St.joined {W w w' : World} {L M : List Pc} (S : St W w L) (T : St w w' M) : St W w' (M ++ L) := by
  obtain ⟨F, s, n, hb⟩ := S.sep
  obtain ⟨G, t, m, hc⟩ := T.sep
  have hs := S.ext.size
  have ht := T.ext.size
  have s' : Sep w' L F := s.st fun b h => Below.block T.ext b (hb b h).2
  refine ⟨S.ext.trans T.ext, G ++ F, .app t s', List.nodup_append.2 ⟨m, n, fun b h1 c h2 e => ?_⟩, fun b h => ?_⟩
  · subst e; have := (hc b h1).1; have := (hb b h2).2; omega
  · rcases List.mem_append.1 h with h1 | h1
    · have := hc b h1; exact ⟨by omega, this.2⟩
    · have := hb b h1; exact ⟨this.1, by omega⟩
end Go.Proofs.YtohjjhoobikioaaDoor
