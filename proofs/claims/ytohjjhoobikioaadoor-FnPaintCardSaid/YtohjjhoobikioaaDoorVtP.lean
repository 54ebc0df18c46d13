/-
  The terminal, plainly.
-/
import Derived.Test.YtohjjhoobikioaaDoorDiffP
namespace Go.Proofs.YtohjjhoobikioaaDoor
open Go.RowKit

def seqLen (x : Nat) : Nat := if x < 128 then 1 else if 192 ≤ x ∧ x ≤ 223 then 2 else if 224 ≤ x ∧ x ≤ 239 then 3 else if 240 ≤ x ∧ x ≤ 247 then 4 else 0
def lead (x n : Nat) : Int := if n = 2 then (x : Int) - 192 else if n = 3 then (x : Int) - 224 else (x : Int) - 240
def foldR (r : Int) (l : List UInt8) : Int := l.foldl (fun r y => r * 64 + y.toNat - 128) r
/-- the rune that bytes begin with, and its size; (0, 0) where there is none -/
def runeRead : List UInt8 → Int × Int
  | [] => (0, 0)
  | x :: t =>
    if x.toNat < 128 then ((x.toNat : Int), 1)
    else if seqLen x.toNat = 0 ∨ t.length + 1 < seqLen x.toNat then (0, 0)
    else if runeBytes (foldR (lead x.toNat (seqLen x.toNat)) (t.take (seqLen x.toNat - 1))) = (x :: t).take (seqLen x.toNat) then (foldR (lead x.toNat (seqLen x.toNat)) (t.take (seqLen x.toNat - 1)), (seqLen x.toNat : Int))
    else (0, 0)

/-- the least and the greatest number that bytes may become, k of n bytes read; none: a byte that can't be -/
def span1 (p : Int × Int) (b : Option UInt8) : Option (Int × Int) :=
  match b with
  | none => some (p.1 * 64, p.2 * 64 + 63)
  | some y => if 128 ≤ y.toNat ∧ y.toNat ≤ 191 then some (p.1 * 64 + y.toNat - 128, p.2 * 64 + y.toNat - 128) else none
def spans (b : List UInt8) (p : Int × Int) (k : Nat) : Nat → Option (Int × Int)
  | 0 => some p
  | m + 1 => match spans b p k m with
    | none => none
    | some q => span1 q b[k + m]?
def leastOf (n : Nat) : Int := if n = 2 then 128 else if n = 3 then 2048 else 65536
def spanOk (n : Nat) : Option (Int × Int) → Bool
  | none => false
  | some q => decide (max q.1 (leastOf n) ≤ min q.2 1114111) && !(decide (55296 ≤ max q.1 (leastOf n)) && decide (min q.2 1114111 ≤ 57343))
def runeBegin : List UInt8 → Bool
  | [] => false
  | x :: t => if x.toNat < 128 ∨ seqLen x.toNat ≤ t.length + 1 then false else spanOk (seqLen x.toNat) (spans (x :: t) (lead x.toNat (seqLen x.toNat), lead x.toNat (seqLen x.toNat)) 1 (seqLen x.toNat - 1))

structure VtS where
  G : Gr
  S : Int
  P : List Int
  B : List UInt8
  N : Int

def vtPlain (v : VtS) (b : Nat) : VtS :=
  if 128 ≤ b then
    (if (runeRead (v.B ++ [UInt8.ofNat b])).2 = (v.B.length : Int) + 1 then { v with G := putG v.G (runeRead (v.B ++ [UInt8.ofNat b])).1, B := [] }
     else if runeBegin (v.B ++ [UInt8.ofNat b]) = true then { v with B := v.B ++ [UInt8.ofNat b] } else { v with B := [] })
  else if b = 7 then { v with N := min (v.N + 1) 1000000, B := [] }
  else if b = 8 then { v with G := goG v.G (v.G.X - 1) v.G.Y, B := [] }
  else if b = 13 then { v with G := goG v.G 0 v.G.Y, B := [] }
  else if b = 10 then { v with G := (if v.G.Y = v.G.H - 1 then goG (scrollG v.G) v.G.X (v.G.Y + 1) else goG v.G v.G.X (v.G.Y + 1)), B := [] }
  else if b = 27 then { v with S := 1, B := [] }
  else if 32 ≤ b ∧ b ≤ 126 then { v with G := putG v.G b, B := [] }
  else { v with B := [] }
def argV (l : List Int) (i : Nat) : Int := if l[i]?.getD 0 = 0 then 1 else l[i]?.getD 0
def eraseV (g : Gr) (n : Int) (f t : Int) : Gr :=
  if n = 0 then clearG g (g.Y * g.W + g.X) t else if n = 1 then clearG g f (g.Y * g.W + g.X + 1) else if n = 2 then clearG g f t else g
def ctlG (g : Gr) (P : List Int) (b : Nat) : Gr :=
  if b = 65 then goG g g.X (g.Y - argV P 0)
  else if b = 66 then goG g g.X (g.Y + argV P 0)
  else if b = 67 then goG g (g.X + argV P 0) g.Y
  else if b = 68 then goG g (g.X - argV P 0) g.Y
  else if b = 72 then goG g (argV P 1 - 1) (argV P 0 - 1)
  else if b = 74 then eraseV g (P[0]?.getD 0) 0 g.C.length
  else if b = 75 then eraseV g (P[0]?.getD 0) (g.Y * g.W) ((g.Y + 1) * g.W)
  else g
def P1 (P : List Int) : List Int := if P = [] then [0] else P
def digP (P : List Int) (b : Nat) : List Int := (P1 P).set ((P1 P).length - 1) (min (10 * (P1 P)[(P1 P).length - 1]?.getD 0 + b - 48) 9999)
def semP (P : List Int) : List Int := if (P1 P).length < 4 then P1 P ++ [0] else P1 P
def vtSeq (v : VtS) (b : Nat) : VtS :=
  if 48 ≤ b ∧ b ≤ 57 then { v with P := digP v.P b }
  else if b = 59 then { v with P := semP v.P }
  else if 64 ≤ b ∧ b ≤ 126 then { v with G := ctlG v.G v.P b, S := 0, P := [] }
  else { v with S := 0, P := [] }
def vtStep (v : VtS) (b : Nat) : VtS :=
  if v.S = 0 then vtPlain v b else if v.S = 1 then (if b = 91 then { v with S := 2 } else { v with S := 0 }) else vtSeq v b
def feed (v : VtS) (l : List UInt8) : VtS := l.foldl (fun v b => vtStep v b.toNat) v
def argsB (l : List Int) : Bool := l.all fun n => inB n 0 9999
def vtOk (v : VtS) : Bool :=
  gridOk v.G && inB v.S 0 2 && decide (v.P.length ≤ 4) && (decide (v.P = []) || decide (v.S = 2)) && inB v.N 0 1000000 && argsB v.P && (decide (v.B = []) || (decide (v.S = 0) && runeBegin v.B))

theorem feed_nil (v : VtS) : feed v [] = v := rfl
theorem feed_cons (v : VtS) (b : UInt8) (l : List UInt8) : feed v (b :: l) = feed (vtStep v b.toNat) l := rfl
theorem feed_append (v : VtS) (l m : List UInt8) : feed v (l ++ m) = feed (feed v l) m := List.foldl_append ..
end Go.Proofs.YtohjjhoobikioaaDoor
