/-
  The text of a script, plainly.
-/
import Derived.Test.YtohjjhoobikioaaDoorEvPure
import Derived.Test.YtohjjhoobikioaaDoorCvT
namespace Go.Proofs.YtohjjhoobikioaaDoor
open Go.RowKit

def evText (e : SEvent) : List UInt8 := eventText e.Kind e.A e.B e.Cuts
def scriptText : List SEvent → List UInt8 → List UInt8
  | [], acc => acc
  | e :: t, acc => if evText e = [] then [] else scriptText t (acc ++ evText e ++ [10])
theorem nums_len (w : List UInt8) (l : List Int) : (nums w l).length ≤ w.length + 11 * l.length := by
  have := words_len l
  unfold nums; split
  · rw [List.length_append]; omega
  · simp
theorem evText_len (e : SEvent) : (evText e).length ≤ 40 + 11 * e.Cuts.length := by
  unfold evText eventText
  have h3 := nums_len [115, 105, 122, 101] [e.A, e.B]
  have h4 := nums_len [114, 111, 111, 109] [e.A]
  have h5 := nums_len [102, 117, 115, 101] [e.A]
  have h6 := nums_len [99, 114, 97, 115, 104] (e.A :: e.Cuts)
  simp only [List.length_cons, List.length_nil] at h3 h4 h5 h6
  (repeat' split) <;> first | omega | (simp [hex2] <;> omega) | (simp <;> omega)
theorem scriptText_step {l : List SEvent} {k : Nat} (hk : k < l.length) (acc : List UInt8) : scriptText (l.drop k) acc = if evText (l[k]'hk) = [] then [] else scriptText (l.drop (k + 1)) (acc ++ evText (l[k]'hk) ++ [10]) := by
  rw [List.drop_eq_getElem_cons hk]; rfl
theorem scriptText_end {l : List SEvent} {k : Nat} (hk : l.length ≤ k) (acc : List UInt8) : scriptText (l.drop k) acc = acc := by rw [List.drop_eq_nil_of_le hk]; rfl
end Go.Proofs.YtohjjhoobikioaaDoor
