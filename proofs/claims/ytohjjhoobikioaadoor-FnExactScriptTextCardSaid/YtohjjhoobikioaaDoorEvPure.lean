/-
  The text of an event, plainly.
-/
import Derived.Test.YtohjjhoobikioaaDoorRows2
namespace Go.Proofs.YtohjjhoobikioaaDoor

def hexD (k : Int) : UInt8 := if k < 10 then by8 (48 + k) else by8 (87 + k)
def hex2 (u : Int) : List UInt8 := [hexD (u / 16), hexD (u % 16)]
def isNum (n : Int) : Bool := inB n 0 4294967295
def words : List Int → List UInt8
  | [] => []
  | n :: t => 32 :: (numText n ++ words t)
def nums (w : List UInt8) (l : List Int) : List UInt8 := if l.all isNum = true then w ++ words l else []
def eventText (kind a b : Int) (cuts : List Int) : List UInt8 :=
  if kind = 1 then (if 0 ≤ a ∧ a ≤ 255 ∧ b = 0 ∧ cuts = [] then [104, 101, 120, 32] ++ hex2 a else [])
  else if kind = 2 then (if a = 0 ∧ b = 0 ∧ cuts = [] then [116, 105, 99, 107] else [])
  else if kind = 7 then (if a = 0 ∧ b = 0 ∧ cuts = [] then [115, 116, 97, 114, 116] else [])
  else if kind = 3 then (if cuts = [] then nums [115, 105, 122, 101] [a, b] else [])
  else if kind = 4 then (if b = 0 ∧ cuts = [] then nums [114, 111, 111, 109] [a] else [])
  else if kind = 5 then (if b = 0 ∧ cuts = [] then (if a = -1 then [102, 117, 115, 101, 32, 110, 111, 110, 101] else nums [102, 117, 115, 101] [a]) else [])
  else if kind = 6 then (if b = 0 then nums [99, 114, 97, 115, 104] (a :: cuts) else [])
  else []
theorem words_len (l : List Int) : (words l).length ≤ 11 * l.length := by
  induction l with
  | nil => simp [words]
  | cons n t ih => have := numText_len n; simp [words]; omega
theorem words_append (l m : List Int) : words (l ++ m) = words l ++ words m := by
  induction l with
  | nil => rfl
  | cons n t ih => simp [words, ih]
theorem words_snoc {l : List Int} {k : Nat} (hk : k < l.length) : words (l.take (k + 1)) = words (l.take k) ++ (32 :: numText (l[k]?.getD 0)) := by
  rw [take_snoc hk, words_append]; simp [words]
theorem all_snoc {l : List Int} {k : Nat} (hk : k < l.length) : (l.take (k + 1)).all isNum = ((l.take k).all isNum && isNum (l[k]?.getD 0)) := by
  rw [take_snoc hk, List.all_append]; simp
theorem all_take_no {l : List Int} {k : Nat} (hk : k < l.length) (h : isNum (l[k]?.getD 0) = false) : l.all isNum = false := by
  rw [List.all_eq_false]
  refine ⟨l[k], List.getElem_mem hk, ?_⟩
  rw [List.getElem?_eq_getElem hk] at h; simpa using h
end Go.Proofs.YtohjjhoobikioaaDoor
