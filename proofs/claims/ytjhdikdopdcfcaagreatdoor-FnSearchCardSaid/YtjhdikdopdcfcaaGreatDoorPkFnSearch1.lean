/- Part 1 of a proof in several texts (an abstract evaluator, what the functions compute). -/
import Derived.WalkKit
import Derived.RowKit
import Derived.Below
import Derived.Laws.AppendOwn
import Derived.Laws.BytesArg
import Derived.KernelRfl
import Derived.Deep.Draws
namespace Go.Proofs.YtjhdikdopdcfcaaGreatDoor
open Go.RowKit
inductive D where
  | a (v : Value)
  | l (rows : List (List D))
  | gone
inductive V where
  | v (x : Value)
  | nil
  | lst (src : Option Nat) (rows : List (List D))
  | own (p : Nat)
  | inn (p i j k : Nat)
  | fz (rows : List (List D))
  | ref (b off : Nat)
  | pe (base : V) (k i off : Nat)
  | agg (cs : List V)
  | tup (vs : List V)
  | fn (f : FuncId) (caps : List V)
  | mp (es : List (Int × Int))
  | dead
theorem eqOf {α : Type} {a b : α} (h : a = b) : a = b := h
def bnd {α β : Type} (x : Option α) (f : α → Option β) : Option β := match x with | some a => f a | none => none
@[simp ↓, go_sem ↓] theorem bnd_some {α β : Type} (a : α) (f : α → Option β) : bnd (some a) f = f a := _root_.id rfl
@[simp ↓, go_sem ↓] theorem bnd_none {α β : Type} (f : α → Option β) : bnd none f = none := _root_.id rfl
@[congr] theorem bnd_congr {α β : Type} {x x' : Option α} (f : α → Option β) (h : x = x') : bnd x f = bnd x' f := by rw [h]
theorem bnd_eq_some {α β : Type} {x : Option α} {f : α → Option β} {b : β} (h : bnd x f = some b) : ∃ a, x = some a ∧ f a = some b := by
  cases x with
  | none => cases h
  | some a => exact ⟨a, rfl, h⟩
def grd {α : Type} (c : Prop) [Decidable c] (x : Option α) : Option α := if c then x else none
theorem grd_eq_some {α : Type} {c : Prop} [Decidable c] {x : Option α} {a : α} (h : grd c x = some a) : c ∧ x = some a := by
  unfold grd at h; split at h
  · exact ⟨‹_›, h⟩
  · cases h
@[simp] theorem grd_pos {α : Type} {c : Prop} [Decidable c] (x : Option α) (h : c) : grd c x = x := if_pos h
@[simp, go_sem] theorem grd_true {α : Type} (x : Option α) : grd True x = x := if_pos trivial
@[congr] theorem grd_congr {α : Type} {c c' : Prop} [Decidable c] [Decidable c'] (x : Option α) (h : c = c') : grd c x = grd c' x := by subst h; unfold grd; congr
def look {α : Type} (k : Nat) : List (Nat × α) → Option α
  | [] => none
  | (j, x) :: r => if k = j then some x else look k r
def put {α : Type} (k : Nat) (x : α) : List (Nat × α) → List (Nat × α)
  | [] => [(k, x)]
  | (j, y) :: r => if k = j then (k, x) :: r else if j < k then (k, x) :: (j, y) :: r else (j, y) :: put k x r
def drop1 {α : Type} (k : Nat) : List (Nat × α) → List (Nat × α)
  | [] => []
  | (j, y) :: r => if k = j then drop1 k r else (j, y) :: drop1 k r
def upd {α : Type} (k : Nat) (x : α) : List (Nat × α) → List (Nat × α)
  | [] => []
  | (j, y) :: r => if k = j then (k, x) :: r else (j, y) :: upd k x r
def desc : List Nat → Bool
  | a :: b :: r => decide (b < a) && desc (b :: r)
  | _ => true
structure S where
  env : List (Nat × V)
  box : List (Nat × List V)
  tree : List (Nat × List (List D))
  fro : List (Nat × List (List D))
def S.put (s : S) (t : Option Nat) (v : V) : S := match t with | some t => { s with env := YtjhdikdopdcfcaaGreatDoor.put t v s.env } | none => s
def S.skip (s : S) (t : Option Nat) : S := match t with | some t => { s with env := drop1 t s.env } | none => s
def constC : Value → V
  | .slice none 0 0 => .nil
  | c => .v c
def constV : Value → Option V
  | .bool b => some (.v (.bool b))
  | .int k n => some (.v (.int k n))
  | .string s => some (.v (.string s))
  | .slice none 0 0 => some .nil
  | .pointer none => some (.v (.pointer none))
  | .agg cs => some (.agg (cs.toList.map constC))
  | _ => none
def S.ev (s : S) : Operand → Option V
  | .tmp t => look t s.env
  | .const v => constV v
  | .func f => some (.fn f [])
  | .global _ => none
def V.cells : V → List V
  | .agg cs => cs
  | x => [x]
def orElse1 (x y : Option (List (List D))) : Option (List (List D)) := match x with
  | some r => some r
  | none => y
def rowsD : D → Option (List (List D))
  | .l rows => some rows
  | _ => none
def S.rows (s : S) : V → Option (List (List D))
  | .nil => some []
  | .lst _ rows => some rows
  | .fz rows => some rows
  | .own p => orElse1 (look p s.tree) (look p s.fro)
  | .inn p i j k => bnd (look p s.tree) fun rows => bnd rows[i]? fun r => grd (r.length = k) (bnd r[j]? rowsD)
  | _ => none
def underOwn (p i j k : Nat) (rows : List (List D)) : Option (List (List D)) → Option V
  | some _ => some (.fz rows)
  | none => some (.inn p i j k)
def S.under (s : S) (base : V) (k i j : Nat) : D → Option V
  | .a x => some (.v x)
  | .l rows => match base with
    | .lst _ _ => some (.lst none rows)
    | .fz _ => some (.fz rows)
    | .own p => underOwn p i j k rows (look p s.fro)
    | _ => none
  | .gone => none
def mapSome {α β : Type} (f : α → Option β) : List α → Option (List β)
  | [] => some []
  | x :: r => bnd (f x) fun y => bnd (mapSome f r) fun r => some (y :: r)
def isAggD : TypeDesc → Bool
  | .struct _ => true
  | .array _ _ => true
  | _ => false
def aggT (P : Program) (t : TypeId) : Option Bool := bnd (P.underlying t) fun d => some (isAggD d)
def span (cs : List V) (off n : Nat) (agg : Bool) : Option V :=
  if agg then grd (off + n ≤ cs.length) (some (.agg ((cs.drop off).take n))) else cs[off]?
def underL (s : S) (base : V) (k i j : Nat) : List D → Option (List V)
  | [] => some []
  | d :: l => bnd (s.under base k i j d) fun v => bnd (underL s base k i (j + 1) l) fun l => some (v :: l)
def S.loadRow (s : S) (base : V) (k i : Nat) (r : List D) (off n : Nat) (agg : Bool) : Option V :=
  if agg then grd (off + n ≤ r.length) (bnd (underL s base k i off ((r.drop off).take n)) fun cs => some (.agg cs)) else bnd r[off]? (s.under base k i off)
def S.load (P : Program) (s : S) (t : TypeId) : V → Option V
  | .ref b off => bnd (aggT P t) fun g => bnd (look b s.box) fun cs => span cs off (P.cellsOf t) g
  | .pe base k i off => bnd (aggT P t) fun g => bnd (s.rows base) fun rows => bnd rows[i]? fun r => grd (r.length = k) (s.loadRow base k i r off (P.cellsOf t) g)
  | _ => none
def setAt (cs : List V) (off : Nat) : List V → List V
  | [] => cs
  | v :: vs => setAt (cs.set off v) (off + 1) vs
def V.one : V → Bool
  | .v x => x.oneCell'
  | .agg _ => false
  | .tup _ => false
  | .dead => false
  | _ => true
def V.atom : V → Option D
  | .v x => some (.a x)
  | _ => none
def flatD : D → Bool
  | .a _ => true
  | .l _ => false
  | .gone => false
def oneD : D → Bool
  | .a x => x.oneCell'
  | .l _ => true
  | .gone => true
def sizedT (P : Program) (t : TypeId) : Bool := (P.info? t).isSome
def arith (op : BinOp) (k : IntKind) (x y : Int) : Option Value :=
  match op with
  | .add => some (.int k (k.wrap (x + y)))
  | .sub => some (.int k (k.wrap (x - y)))
  | .mul => some (.int k (k.wrap (x * y)))
  | .quo => grd (y ≠ 0) (some (.int k (k.wrap (x.tdiv y))))
  | .rem => grd (y ≠ 0) (some (.int k (x.tmod y)))
  | .and => some (.int k (k.wrap (BitVec.ofInt k.bits x &&& BitVec.ofInt k.bits y).toNat))
  | .or => some (.int k (k.wrap (BitVec.ofInt k.bits x ||| BitVec.ofInt k.bits y).toNat))
  | .xor => some (.int k (k.wrap (BitVec.ofInt k.bits x ^^^ BitVec.ofInt k.bits y).toNat))
  | .eql => some (.bool (x == y))
  | .neq => some (.bool (x != y))
  | .lss => some (.bool (decide (x < y)))
  | .leq => some (.bool (decide (x ≤ y)))
  | .gtr => some (.bool (decide (x > y)))
  | .geq => some (.bool (decide (x ≥ y)))
  | _ => none
def binS (op : BinOp) (x y : ByteArray) : Option Value :=
  match op with
  | .add => grd (x.size + y.size ≤ 9223372036854775807) (some (.string (x ++ y)))
  | .eql => some (.bool (x.toList == y.toList))
  | .neq => some (.bool (!(x.toList == y.toList)))
  | .lss => some (.bool (Op.bytesLess x.toList y.toList))
  | .leq => some (.bool (Op.bytesLess x.toList y.toList || x.toList == y.toList))
  | .gtr => some (.bool (!(Op.bytesLess x.toList y.toList || x.toList == y.toList)))
  | .geq => some (.bool (!(Op.bytesLess x.toList y.toList)))
  | _ => none
def binI (op : BinOp) (k k' : IntKind) (x y : Int) : Option Value :=
  match op with
  | .shl => grd (0 ≤ y) (some (.int k (k.wrap (x * 2 ^ (min y.toNat k.bits)))))
  | .shr => grd (0 ≤ y) (some (.int k (x.fdiv (2 ^ (min y.toNat k.bits)))))
  | op => grd (k = k') (arith op k x y)
def binB (op : BinOp) (x y : Bool) : TypeDesc → Option Value
  | .bool => match op with
    | .eql => some (.bool (x == y))
    | .neq => some (.bool (x != y))
    | _ => none
  | _ => none
def binP (op : BinOp) : TypeDesc → Option Value
  | .pointer _ => match op with
    | .eql => some (.bool false)
    | .neq => some (.bool true)
    | _ => none
  | _ => none
def i64D : TypeDesc → Bool
  | .int .i64 => true
  | _ => false
def i64T (P : Program) (t : TypeId) : Bool := ((P.underlying t).map i64D).getD false
def flatFs (P : Program) : Nat → List Field → Bool
  | _, [] => true
  | n, f :: fs => f.name != "_" && f.offset == n && i64T P f.type && flatFs P (n + 1) fs
def structFs : TypeDesc → Option (List Field)
  | .struct fs => some fs.toList
  | _ => none
def eqT (P : Program) (t : TypeId) : Option Nat :=
  bnd (P.underlying t) fun d => bnd (structFs d) fun fs => grd (flatFs P 0 fs = true ∧ P.stoodInHeld t = false ∧ P.eqGuardType P.depth t = false) (some fs.length)
def intsEq : List V → List V → Option Bool
  | [], [] => some true
  | .v (.int .i64 a) :: r, .v (.int .i64 b) :: q => bnd (intsEq r q) fun e => some (a == b && e)
  | _, _ => none
def eqOp (e : Bool) : BinOp → Option V
  | .eql => some (.v (.bool e))
  | .neq => some (.v (.bool !e))
  | _ => none
def bin (P : Program) (t : TypeId) (op : BinOp) : V → V → Option V
  | .v (.int k x), .v (.int k' y) => bnd (binI op k k' x y) fun v => some (.v v)
  | .v (.string x), .v (.string y) => bnd (binS op x y) fun v => some (.v v)
  | .v (.bool x), .v (.bool y) => bnd (P.underlying t) fun d => bnd (binB op x y d) fun v => some (.v v)
  | .ref _ _, .v (.pointer none) => bnd (P.underlying t) fun d => bnd (binP op d) fun v => some (.v v)
  | .agg cs, .agg ds => bnd (eqT P t) fun n => grd (cs.length = n) (bnd (intsEq cs ds) fun e => eqOp e op)
  | _, _ => none
def un (op : UnOp) : V → Option V
  | .v (.int k n) => match op with
    | .neg => some (.v (.int k (k.wrap (0 - n))))
    | _ => none
  | .v (.bool b) => match op with
    | .not => some (.v (.bool !b))
    | _ => none
  | _ => none
def idxOf : V → Option Int
  | .v (.int _ n) => some n
  | _ => none
def boolOf : V → Option Bool
  | .v (.bool b) => some b
  | _ => none
def optV (d : Int) : Option V → Option Int
  | none => some d
  | some v => idxOf v
def bounds (n : Nat) (lo hi : Option V) : Option (Nat × Nat) :=
  bnd (optV 0 lo) fun l => bnd (optV n hi) fun h => grd (0 ≤ l ∧ l ≤ h ∧ h ≤ n) (some (l.toNat, h.toNat))
def wid (k : Nat) : List (List D) → Bool
  | [] => true
  | r :: rows => decide (r.length = k) && r.all oneD && wid k rows
def cutV (k : Nat) (rows : List (List D)) (lo hi : Option V) (f : List (List D) → V) : Option V :=
  bnd (bounds rows.length lo hi) fun p => grd (wid k rows = true) (some (f ((rows.drop p.1).take (p.2 - p.1))))
def sliceL (k : Nat) (s : S) (x : V) (lo hi : Option V) : Option V :=
  match x with
  | .nil => bnd (bounds 0 lo hi) fun _ => some .nil
  | .lst _ rows => cutV k rows lo hi (.lst none)
  | .fz rows => cutV k rows lo hi .fz
  | .own p => bnd (look p s.fro) fun rows => cutV k rows lo hi .fz
  | _ => none
def sliceStr (x : V) (lo hi : Option V) : Option V :=
  match x with
  | .v (.string b) => bnd (bounds b.size lo hi) fun p => some (.v (.string (b.extract p.1 p.2)))
  | _ => none
def sliceV (P : Program) (s : S) (x : V) (lo hi : Option V) : TypeDesc → Option V
  | .string => sliceStr x lo hi
  | .slice e => grd (sizedT P e = true) (sliceL (P.cellsOf e) s x lo hi)
  | _ => none
def fieldD (P : Program) (f : Nat) : TypeDesc → Option (Nat × TypeId)
  | .struct fs => bnd fs[f]? fun d => grd (P.cellsOf d.type ≠ 0) (some (d.offset, d.type))
  | _ => none
def fieldOf (P : Program) (t : TypeId) (f : Nat) : Option (Nat × TypeId) := bnd (P.underlying t) (fieldD P f)
def addOff : V → Nat → Option V
  | .ref b off, n => some (.ref b (off + n))
  | .pe base k i off, n => some (.pe base k i (off + n))
  | _, _ => none
def elemD : TypeDesc → Option (TypeId × Option Nat)
  | .slice e => some (e, none)
  | .array n e => some (e, some n)
  | _ => none
def elemOfT (P : Program) (t : TypeId) : Option (TypeId × Option Nat) := bnd (P.underlying t) elemD
def zeroV (P : Program) (t : TypeId) : Option (List V) :=
  bnd (P.info? t) fun i => bnd i.zero fun z => bnd (constV z) fun v => some v.cells
def indexAddrV (P : Program) (s : S) (x : V) (i : Int) (e : TypeId) : Option Nat → Option V
  | some n => grd (sizedT P e = true ∧ 0 ≤ i ∧ i < n) (addOff x (i.toNat * P.cellsOf e))
  | none => bnd (s.rows x) fun rows => grd (sizedT P e = true ∧ 0 ≤ i ∧ i < rows.length) (some (.pe x (P.cellsOf e) i.toNat 0))
def isStrD : TypeDesc → Bool
  | .string => true
  | _ => false
def indexV (P : Program) (t : TypeId) (x : V) (i : Int) : Option V :=
  match x with
  | .v (.string b) => bnd (P.underlying t) fun d => grd (isStrD d = true ∧ 0 ≤ i ∧ i < b.size) (some (.v (.int .u8 ((b.toList[i.toNat]?.getD 0).toNat : Int))))
  | .agg cs => bnd (elemOfT P t) fun e => bnd e.2 fun n => grd (sizedT P e.1 = true ∧ 0 ≤ i ∧ i < n) (bnd (aggT P e.1) fun g => span cs (i.toNat * P.cellsOf e.1) (P.cellsOf e.1) g)
  | _ => none
def packV : V → Option D
  | .v x => some (.a x)
  | .nil => some (.l [])
  | _ => none
def mentions (p : Nat) : V → Bool
  | .own q => p = q
  | .inn q _ _ _ => p = q
  | .pe base _ _ _ => mentions p base
  | .agg cs => any cs
  | .tup cs => any cs
  | .fn _ cs => any cs
  | _ => false
where any : List V → Bool
  | [] => false
  | c :: r => mentions p c || any r
def killE (p : Nat) : List (Nat × V) → List (Nat × V)
  | [] => []
  | x :: r => (x.1, if mentions p x.2 then .dead else x.2) :: killE p r
def killC (p : Nat) : List V → List V
  | [] => []
  | c :: r => (if mentions p c then .dead else c) :: killC p r
def killB (p : Nat) : List (Nat × List V) → List (Nat × List V)
  | [] => []
  | x :: r => (x.1, killC p x.2) :: killB p r
def S.kill (s : S) (p : Nat) : S := { s with env := killE p s.env, box := killB p s.box, tree := drop1 p s.tree }
def packRow (s : S) : List V → Option (List D × S)
  | [] => some ([], s)
  | .own p :: r => bnd (look p s.tree) fun rows => bnd (packRow (s.kill p) r) fun x => some (.l rows :: x.1, x.2)
  | v :: r => bnd (packV v) fun d => bnd (packRow s r) fun x => some (d :: x.1, x.2)
def packRows (s : S) : List V → Option (List (List D) × S)
  | [] => some ([], s)
  | v :: r => bnd (packRow s v.cells) fun x => bnd (packRows x.2 r) fun y => some (x.1 :: y.1, y.2)
def innOf (p : Nat) : V → Bool
  | .inn q _ _ _ => p = q
  | .pe base _ _ _ => innOf p base
  | .agg cs => any cs
  | .tup cs => any cs
  | .fn _ cs => any cs
  | _ => false
where any : List V → Bool
  | [] => false
  | c :: r => innOf p c || any r
def innE (p : Nat) : List (Nat × V) → List (Nat × V)
  | [] => []
  | x :: r => (x.1, if innOf p x.2 then .dead else x.2) :: innE p r
def innC (p : Nat) : List V → List V
  | [] => []
  | c :: r => (if innOf p c then .dead else c) :: innC p r
def innB (p : Nat) : List (Nat × List V) → List (Nat × List V)
  | [] => []
  | x :: r => (x.1, innC p x.2) :: innB p r
def S.turned (s : S) (p : Nat) (rows : List (List D)) : S := { s with env := innE p s.env, box := innB p s.box, tree := upd p rows s.tree }
def setD (r : List D) (off : Nat) : List D → List D
  | [] => r
  | d :: ds => setD (r.set off d) (off + 1) ds
def storeOwn (s : S) (q k i off : Nat) (v : V) : Option D → Option S
  | some d => bnd (look q s.tree) fun rows => bnd rows[i]? fun r => bnd r[off]? fun d0 => grd (r.length = k ∧ flatD d0 = true ∧ oneD d = true) (some { s with tree := upd q (rows.set i (r.set off d)) s.tree })
  | none => bnd (packRow s v.cells) fun x => bnd (look q x.2.tree) fun rows => bnd rows[i]? fun r => grd (r.length = k ∧ off + x.1.length ≤ r.length ∧ v.cells.all V.one = true ∧ ¬ (1000000000 ≤ q ∧ q < 2000000000)) (some (x.2.turned q (rows.set i (setD r off x.1))))
def storeInn (s : S) (p i j k k' i' off : Nat) : Option D → Option S
  | some d => bnd (look p s.tree) fun rows => bnd rows[i]? fun r => bnd r[j]? fun c => bnd (rowsD c) fun rs => bnd rs[i']? fun r' => bnd r'[off]? fun d0 => grd (r.length = k ∧ r'.length = k' ∧ flatD d0 = true ∧ oneD d = true) (some { s with tree := upd p (rows.set i (r.set j (.l (rs.set i' (r'.set off d))))) s.tree })
  | none => none
def S.store (P : Program) (s : S) (t : TypeId) (p v : V) : Option S :=
  grd (sizedT P t = true ∧ v.cells.length = P.cellsOf t) (match p with
    | .ref b off => bnd (look b s.box) fun cs => grd (off + v.cells.length ≤ cs.length ∧ v.cells.all V.one = true) (some { s with box := upd b (setAt cs off v.cells) s.box })
    | .pe (.own q) k i off => storeOwn s q k i off v v.atom
    | .pe (.inn p i j k) k' i' off => storeInn s p i j k k' i' off v.atom
    | _ => none)
def fresh (s : S) (t : Nat) : Bool := (look t s.tree).isNone && (look t s.fro).isNone
def S.newTree (s : S) (t : Option Nat) (rows : List (List D)) : Option S :=
  bnd t fun t => grd (fresh s t = true) (some { s with env := YtjhdikdopdcfcaaGreatDoor.put t (.own t) s.env, tree := (t, rows) :: s.tree })
def upto (k n : Nat) : List Nat → Bool
  | [] => decide (k = n)
  | j :: r => decide (j = k) && upto (k + 1) n r
def rowsFlat (rows : List (List D)) : Bool := rows.all fun r => r.all flatD
def srcOwn (s : S) (q : Nat) (x : Option (List (List D))) : Option (List (List D) × S) := match x with
  | some rows => some (rows, if rowsFlat rows = true then s else s.kill q)
  | none => bnd (look q s.fro) fun rows => grd (rowsFlat rows = true) (some (rows, s))
def srcV (s : S) : V → Option (List (List D) × S)
  | .v (.string b) => some (b.toList.map fun c => [.a (.int .u8 (c.toNat : Int))], s)
  | .own q => srcOwn s q (look q s.tree)
  | .nil => some ([], s)
  | .lst _ rows => grd (rowsFlat rows = true) (some (rows, s))
  | .fz rows => grd (rowsFlat rows = true) (some (rows, s))
  | .inn p i j k => bnd (s.rows (.inn p i j k)) fun rows => grd (rowsFlat rows = true) (some (rows, s))
  | _ => none
def zeroOk (P : Program) (e : TypeId) : Bool := match P.info? e with
  | some i => match i.zero with
    | some z => decide (z.cells.size = i.size) && decide (0 < i.size)
    | none => false
  | none => false
def sizeOk (P : Program) (e : TypeId) (n : Nat) : Bool := zeroOk P e && decide (n * P.bytesOf e ≤ 140737488355328) && decide (n ≤ 4611686018427387904)
def S.takeInn (s : S) (p i j : Nat) : Option S := bnd (look p s.tree) fun rows => bnd rows[i]? fun r => grd (¬ (1000000000 ≤ p ∧ p < 2000000000)) (some (s.turned p (rows.set i (r.set j .gone))))
def appendTo (P : Program) (s : S) (dst : Option Nat) (e : TypeId) (new : List (List D)) : V → Option S
  | .nil => grd (sizeOk P e new.length = true ∧ wid (P.cellsOf e) new = true) (s.newTree dst new)
  | .own p => bnd (look p s.tree) fun rows => grd (sizeOk P e (rows.length + new.length) = true ∧ wid (P.cellsOf e) rows = true ∧ wid (P.cellsOf e) new = true) ((s.kill p).newTree dst (rows ++ new))
  | .inn p i j k => bnd (s.rows (.inn p i j k)) fun rows => grd (sizeOk P e (rows.length + new.length) = true ∧ wid (P.cellsOf e) rows = true ∧ wid (P.cellsOf e) new = true) (bnd (s.takeInn p i j) fun s => s.newTree dst (rows ++ new))
  | _ => none
def sliceElem : TypeDesc → Option TypeId
  | .slice e => some e
  | _ => none
def appendV (P : Program) (s : S) (dst : Option Nat) (t : TypeId) (x y : V) : Option S :=
  bnd (P.underlying t) fun d => bnd (sliceElem d) fun e => bnd (srcV s y) fun z => appendTo P z.2 dst e z.1 x
def seqD : TypeDesc → Bool
  | .slice _ => true
  | .string => true
  | _ => false
def seqT (P : Program) (t : TypeId) : Bool := match P.underlying t with
  | some d => seqD d
  | none => false
structure Res where
  val : V
  box : List (List V)
  tree : List (Nat × List (List D))
abbrev Mean := List V → List (List V) → List (List (List D)) → Option Res
structure Lend where
  src : List V
  box : List Nat
  tree : List Nat
def pos (k : Nat) : List Nat → Nat → Option Nat
  | [], _ => none
  | j :: r, i => if k = j then some i else pos k r (i + 1)
def lendRef (src : List V) (bs ts : List Nat) (b off : Nat) (x : Option Nat) : Option (V × Lend) := match x with
  | some i => some (.ref i off, ⟨src, bs, ts⟩)
  | none => some (.ref bs.length off, ⟨src, bs ++ [b], ts⟩)
mutual
def lendV (s : S) (c : Lend) : V → Option (V × Lend)
  | .v x => some (.v x, c)
  | .ref b off => lendRef c.src c.box c.tree b off (pos b c.box 0)
  | .agg cs => bnd (lendL s c cs) fun x => some (.agg x.1, x.2)
  | .fn f cs => bnd (lendL s c cs) fun x => some (.fn f x.1, x.2)
  | .nil => some (.lst (some c.src.length) [], { c with src := c.src ++ [.nil] })
  | .lst o rows => some (.lst (some c.src.length) rows, { c with src := c.src ++ [.lst o rows] })
  | .fz rows => some (.lst (some c.src.length) rows, { c with src := c.src ++ [.fz rows] })
  | .own p => bnd (s.rows (.own p)) fun rows => some (.lst (some c.src.length) rows, { c with src := c.src ++ [.own p] })
  | .inn p i j k => bnd (s.rows (.inn p i j k)) fun rows => some (.lst (some c.src.length) rows, { c with src := c.src ++ [.inn p i j k] })
  | _ => none
def lendL (s : S) (c : Lend) : List V → Option (List V × Lend)
  | [] => some ([], c)
  | v :: r => bnd (lendV s c v) fun x => bnd (lendL s x.2 r) fun y => some (x.1 :: y.1, y.2)
end
def lendOwn (src : List V) (bs ts : List Nat) (p : Nat) (k : Lend → Option (List V × Lend)) : Option Nat → Option (List (List D)) → Option (List V × Lend)
  | some _, _ => none
  | none, some rows => bnd (k ⟨src ++ [.own p], bs, ts⟩) fun x => some (.lst (some src.length) rows :: x.1, x.2)
  | none, none => bnd (k ⟨src, bs, ts ++ [p]⟩) fun x => some (.own ts.length :: x.1, x.2)
def lendCells (s : S) (c : Lend) : List V → Option (List V × Lend)
  | [] => some ([], c)
  | .own p :: r => lendOwn c.src c.box c.tree p (fun c => lendCells s c r) (pos p c.tree 0) (look p s.fro)
  | .dead :: r => bnd (lendCells s c r) fun x => some (.dead :: x.1, x.2)
  | v :: r => bnd (lendV s c v) fun x => bnd (lendCells s x.2 r) fun y => some (x.1 :: y.1, y.2)
def lendBoxes (s : S) (c : Lend) : List Nat → Option (List (List V) × Lend)
  | [] => some ([], c)
  | b :: r => bnd (look b s.box) fun cs => bnd (lendCells s c cs) fun x => bnd (lendBoxes s x.2 r) fun y => some (x.1 :: y.1, y.2)
def stable : V → Bool
  | .nil => true
  | .lst _ _ => true
  | _ => false
def nameIn (t q : Nat) (x : Option Nat) : Nat := match x with
  | some p => p
  | none => 1000 * (t + 1) + q
def nameOf (c : Lend) (t q : Nat) : Nat := nameIn t q c.tree[q]?
mutual
def backV (c : Lend) (t : Nat) : V → Option V
  | .v x => some (.v x)
  | .nil => some .nil
  | .lst (some j) _ => c.src[j]?
  | .lst none rows => grd (c.src.all stable = true) (some (.lst none rows))
  | .own q => some (.own (nameOf c t q))
  | .ref i off => bnd c.box[i]? fun b => some (.ref b off)
  | .agg cs => bnd (backL c t cs) fun cs => some (.agg cs)
  | .tup cs => bnd (backL c t cs) fun cs => some (.tup cs)
  | .dead => some .dead
  | _ => none
def backL (c : Lend) (t : Nat) : List V → Option (List V)
  | [] => some []
  | v :: r => bnd (backV c t v) fun v => bnd (backL c t r) fun r => some (v :: r)
end
def backBoxes (c : Lend) (t : Nat) : List Nat → List (List V) → S → Option S
  | [], [], s => some s
  | b :: bs, cs :: css, s => bnd (backL c t cs) fun cs => backBoxes c t bs css { s with box := upd b cs s.box }
  | _, _, _ => none
def addTrees (c : Lend) (t : Nat) : List (Nat × List (List D)) → S → Option S
  | [], s => some s
  | (q, rows) :: r, s => if q < c.tree.length then addTrees c t r s else grd (fresh s (nameOf c t q) = true ∧ nameOf c t q < 1000000000) (addTrees c t r { s with tree := (nameOf c t q, rows) :: s.tree })
def lentTrees (s : S) : List Nat → Option (List (List (List D)))
  | [] => some []
  | p :: r => bnd (look p s.tree) fun rows => bnd (lentTrees s r) fun r => some (rows :: r)
def backOne (s : S) (p : Nat) (x : Option (List (List D))) : S := match x with
  | some rows => { s with tree := upd p rows s.tree }
  | none => s.kill p
def backTrees (rt : List (Nat × List (List D))) : List Nat → Nat → S → S
  | [], _, s => s
  | p :: ps, i, s => backTrees rt ps (i + 1) (backOne s p (look i rt))
def S.back (s : S) (dst : Option Nat) (c : Lend) (r : Res) : Option S :=
  bnd (backBoxes c (dst.getD 0) c.box r.box (backTrees r.tree c.tree 0 s)) fun s => bnd (addTrees c (dst.getD 0) r.tree s) fun s => bnd (backV c (dst.getD 0) r.val) fun v => some (s.put dst v)
def isNew : Res → Option (List V)
  | ⟨.ref 0 0, [cs], []⟩ => some cs
  | _ => none
def newBox1 (s : S) (t : Option Nat) (cs : List V) : Option S :=
  bnd t fun t => grd ((look t s.box).isNone = true) (some { s with env := YtjhdikdopdcfcaaGreatDoor.put t (.ref t 0) s.env, box := (t, cs) :: s.box })
def backNew (s : S) (dst : Option Nat) (c : Lend) (r : Res) : Option (List V) → Option S
  | some cs => if (c.box.isEmpty && c.tree.isEmpty) = true then bnd (backL c (dst.getD 0) cs) (newBox1 s dst) else s.back dst c r
  | none => s.back dst c r
def S.backX (s : S) (dst : Option Nat) (c : Lend) (r : Res) : Option S := backNew s dst c r (isNew r)
theorem isNew_some {r : Res} {cs : List V} (h : isNew r = some cs) : r = ⟨.ref 0 0, [cs], []⟩ := by
  unfold isNew at h
  split at h
  · injection h with h; subst h; rfl
  · cases h
theorem isNew_nil (v : V) (t : List (Nat × List (List D))) : isNew ⟨v, [], t⟩ = none := by
  cases e : isNew ⟨v, [], t⟩ with
  | none => rfl
  | some cs => have h := isNew_some e; injection h with _ h2 _; cases h2
theorem backX_of {s s' : S} {d : Option Nat} {c : Lend} {r : Res} (h : s.back d c r = some s') : s.backX d c r = some s' := by
  unfold S.backX
  cases e : isNew r with
  | none => exact h
  | some cs =>
    have := isNew_some e
    subst this
    simp only [backNew]
    split
    · rename_i hc
      rw [Bool.and_eq_true, List.isEmpty_iff, List.isEmpty_iff] at hc
      unfold S.back at h
      rw [hc.1] at h
      simp only [backBoxes] at h
      cases h
    · exact h
def noMix (c : Lend) : Bool := c.tree.all fun p => c.src.all fun v => !mentions p v
def lendOk (c : Lend) (n : Nat) : Bool := noMix c && decide (c.box.length = n)
def lendM (s : S) (c : Lend) : List V → Option (List V × Lend)
  | [] => some ([], c)
  | .agg cs :: r => bnd (lendCells s c cs) fun x => bnd (lendM s x.2 r) fun y => some (.agg x.1 :: y.1, y.2)
  | v :: r => bnd (lendCells s c [v]) fun x => bnd (lendM s x.2 r) fun y => some (x.1 ++ y.1, y.2)
def lendA (m : Bool) (s : S) (c : Lend) (args : List V) : Option (List V × Lend) := if m then lendM s c args else lendL s c args
def callV (m : Bool) (M : Mean) (s : S) (dst : Option Nat) (args : List V) : Option S :=
  bnd (lendA m s ⟨[], [], []⟩ args) fun x => bnd (lendBoxes s x.2 x.2.box) fun y => bnd (lentTrees s y.2.tree) fun ts =>
    grd (lendOk y.2 y.1.length = true) (bnd (M x.1 y.1 ts) fun r => s.backX dst y.2 r)
def lstD : TypeDesc → Bool
  | .slice _ => true
  | _ => false
def lstT (P : Program) (t : TypeId) : Bool := match P.underlying t with
  | some d => lstD d
  | none => false
def strT (P : Program) (t : TypeId) : Bool := match P.underlying t with
  | some d => isStrD d
  | none => false
def builtinV (P : Program) (s : S) (dst : Option Nat) (b : Builtin) (ats : Array TypeId) (args : List V) : Option S :=
  match b, args with
  | .len, [.v (.string x)] => bnd ats[0]? fun t => grd (strT P t = true) (some (s.put dst (.v (.int .i64 x.size))))
  | .len, [x] => bnd ats[0]? fun t => grd (lstT P t = true) (bnd (s.rows x) fun rows => some (s.put dst (.v (.int .i64 rows.length))))
  | .append, [x, y] => bnd ats[0]? fun t => bnd ats[1]? fun t1 => grd (seqT P t1 = true) (appendV P s dst t x y)
  | .max, [.v (.int .i64 x), .v (.int .i64 y)] => some (s.put dst (.v (.int .i64 (max x y))))
  | .min, [.v (.int .i64 x), .v (.int .i64 y)] => some (s.put dst (.v (.int .i64 (min x y))))
  | _, _ => none
def bytesOfRow : List D → Option UInt8
  | [.a (.int .u8 n)] => some (UInt8.ofNat n.toNat)
  | _ => none
def isByteD : TypeDesc → Bool
  | .int .u8 => true
  | _ => false
def bytesV (P : Program) (s : S) (x : V) (ds : TypeDesc) : Option V :=
  bnd (sliceElem ds) fun e => bnd (P.underlying e) fun d => grd (isByteD d = true) (bnd (s.rows x) fun rows => bnd (mapSome bytesOfRow rows) fun l => some (.v (.string ⟨l.toArray⟩)))
def convD (P : Program) (s : S) (x : V) (ds : TypeDesc) : TypeDesc → Option V
  | .int k => bnd (idxOf x) fun n => some (.v (.int k (k.wrap n)))
  | .string => match x with
    | .v (.string b) => some (.v (.string b))
    | .v _ => none
    | x => bytesV P s x ds
  | _ => none
def rowsOfStr (b : ByteArray) : List (List D) := b.data.toList.map fun c => [.a (.int .u8 (c.toNat : Int))]
def newBytes (s : S) (dst : Option Nat) : V → Option S
  | .v (.string b) => bnd dst fun t => grd (fresh s t = true ∧ b.size ≤ 4611686018427387904) (some { s with env := YtjhdikdopdcfcaaGreatDoor.put t (.fz (rowsOfStr b)) s.env, fro := (t, []) :: s.fro })
  | _ => none
def convS (P : Program) (s : S) (dst : Option Nat) (x : V) (ds : TypeDesc) : TypeDesc → Option S
  | .slice e => bnd (P.underlying e) fun d => grd (isByteD d = true) (newBytes s dst x)
  | d => bnd (convD P s x ds d) fun v => some (s.put dst v)
inductive Parts where
  | flds (fs : Array Field)
  | arr (e : TypeId)
def placeP (P : Program) : Parts → Nat → Option (Nat × Nat)
  | .flds fs, i => bnd fs[i]? fun f => some (f.offset, P.cellsOf f.type)
  | .arr e, i => some (i * P.cellsOf e, P.cellsOf e)
def fillRow (P : Program) (fs : Parts) (cs : List V) : List (Nat × V) → Option (List V)
  | [] => some cs
  | (i, v) :: r => bnd (placeP P fs i) fun f => grd (v.cells.length = f.2 ∧ f.1 + v.cells.length ≤ cs.length ∧ v.cells.all V.one = true) (fillRow P fs (setAt cs f.1 v.cells) r)
def structD : TypeDesc → Option Parts
  | .struct fs => some (.flds fs)
  | .array _ e => some (.arr e)
  | _ => none
def fieldsD (P : Program) : TypeDesc → Bool
  | .struct fs => fs.toList.all fun f => sizedT P f.type
  | .array _ e => sizedT P e
  | _ => false
def fieldsOk (P : Program) (t : TypeId) : Bool := match P.underlying t with
  | some d => fieldsD P d
  | none => false
def evPair (s : S) (x : Nat × Operand) : Option (Nat × V) := bnd (s.ev x.2) fun v => some (x.1, v)
def evOptOp (s : S) : Option Operand → Option (Option V)
  | none => some none
  | some x => bnd (s.ev x) fun v => some (some v)
def nilOk : V → Option V
  | .ref b off => some (.ref b off)
  | .pe b k i off => some (.pe b k i off)
  | _ => none
def tupAt (i : Nat) : V → Option V
  | .tup vs => vs[i]?
  | _ => none
def aggOf : V → Option (List V)
  | .agg cs => some cs
  | _ => none
def S.newBox (s : S) (t : Option Nat) (cs : List V) : Option S :=
  bnd t fun t => grd ((look t s.box).isNone = true) (some { s with env := YtjhdikdopdcfcaaGreatDoor.put t (.ref t 0) s.env, box := (t, cs) :: s.box })
def fnOf : V → Option (FuncId × List V)
  | .fn f cs => some (f, cs)
  | _ => none
def plainV : V → Bool
  | .v _ => true
  | _ => false
def innBack (s : S) (dst : Option Nat) (p i j : Nat) (rows : List (List D)) (r : List D) : Res → Option S
  | ⟨v, [], [(0, rs)]⟩ => grd (plainV v = true) (some ({ s with tree := upd p (rows.set i (r.set j (.l rs))) s.tree }.put dst v))
  | _ => none
def callI (M : Mean) (s : S) (dst : Option Nat) (p i j k : Nat) (rest : List V) : Option S :=
  bnd (look p s.tree) fun rows => bnd rows[i]? fun r => bnd r[j]? fun d => bnd (rowsD d) fun rs => grd (r.length = k ∧ rest.all plainV = true) (bnd (M (.own 0 :: rest) [] [rs]) (innBack s dst p i j rows r))
def callX (m : Bool) (M : Mean) (s : S) (dst : Option Nat) : List V → Option S
  | .inn p i j k :: rest => if m then callI M s dst p i j k rest else callV m M s dst (.inn p i j k :: rest)
  | args => callV m M s dst args
def evCall (P : Program) (G : List (FuncId × Bool × Mean)) (s : S) (dst : Option Nat) (ats : Array TypeId) (args : List V) : Callee → Option S
  | .builtin b => builtinV P s dst b ats args
  | .value f => bnd (s.ev f) fun f => bnd (fnOf f) fun f => bnd (look f.1 G) fun M => callX M.1 M.2 s dst (args ++ f.2)
  | _ => none
def evMake (P : Program) (s : S) (dst : Option Nat) (t : TypeId) (n c : V) : Option S :=
  bnd (P.underlying t) fun d => bnd (sliceElem d) fun e => bnd (idxOf n) fun l => bnd (idxOf c) fun cc => grd (zeroOk P e = true ∧ 0 ≤ l ∧ l = cc ∧ l.toNat * P.bytesOf e ≤ 140737488355328 ∧ l ≤ 4611686018427387904) (bnd (zeroV P e) fun z => bnd (mapSome packV z) fun r => s.newTree dst (List.replicate l.toNat r))
def cutOwn (s : S) (dst : Option Nat) (k p : Nat) (rows : List (List D)) (lo hi : Option V) : Option S :=
  bnd (bounds rows.length lo hi) fun q => grd (q.1 < q.2 ∧ wid k rows = true) ((s.kill p).newTree dst ((rows.drop q.1).take (q.2 - q.1)))
def cutP (P : Program) (s : S) (dst : Option Nat) (p : Nat) (rows : List (List D)) (lo hi : Option V) : TypeDesc → Option S
  | .slice e => grd (sizedT P e = true) (cutOwn s dst (P.cellsOf e) p rows lo hi)
  | _ => none
def cutT (P : Program) (s : S) (dst : Option Nat) (p : Nat) (lo hi : Option V) (d : TypeDesc) : Option (List (List D)) → Option S
  | some rows => cutP P s dst p rows lo hi d
  | none => bnd (sliceV P s (.own p) lo hi d) fun v => some (s.put dst v)
def cutS (P : Program) (s : S) (dst : Option Nat) (p : Nat) (lo hi : Option V) (d : TypeDesc) : Option (List (List D)) → Option S
  | some _ => bnd (sliceV P s (.own p) lo hi d) fun v => some (s.put dst v)
  | none => cutT P s dst p lo hi d (look p s.tree)
def sliceS (P : Program) (s : S) (dst : Option Nat) (x : V) (lo hi : Option V) (d : TypeDesc) : Option S := match x with
  | .own p => cutS P s dst p lo hi d (look p s.fro)
  | x => bnd (sliceV P s x lo hi d) fun v => some (s.put dst v)
def fnV (vs : List V) (first : Array Operand) : Fn → Option V
  | .func f => grd (first.isEmpty = true) (some (.fn f vs))
  | _ => none
def intD : TypeDesc → Bool
  | .int .i64 => true
  | _ => false
def mapD : TypeDesc → Option (TypeId × TypeId)
  | .map k e => some (k, e)
  | _ => none
def zeroI : Value → Option Int
  | .int .i64 n => some n
  | _ => none
def mapT (P : Program) (t : TypeId) : Option Int :=
  bnd (P.underlying t) fun d => bnd (mapD d) fun x => bnd (P.underlying x.1) fun k => grd (intD k = true) (bnd (P.info? x.2) fun i => bnd i.zero zeroI)
def mpOf : V → Option (List (Int × Int))
  | .mp es => some es
  | _ => none
def lookM (k : Int) : List (Int × Int) → Option Int
  | [] => none
  | (j, x) :: r => if k = j then some x else lookM k r
def key64 : V → Option Int
  | .v (.int .i64 n) => some n
  | _ => none
def foundV (z : Int) : Option Int → V
  | some x => .tup [.v (.int .i64 x), .v (.bool true)]
  | none => .tup [.v (.int .i64 z), .v (.bool false)]
def apartK : List (Int × Int) → Bool
  | [] => true
  | x :: r => (lookM x.1 r).isNone && apartK r
def insOf (t : TypeId) (d : Nat) : Oper → Option (Int × Int)
  | ⟨none, .insert t' (.tmp d') (.const (.int .i64 k)) (.const (.int .i64 v)), _, _, _, none⟩ => if t' = t ∧ d' = d then some (k, v) else none
  | _ => none
def litSel {α : Type} (f : Int × Int → α) (b : α) : Option (Int × Int) → α
  | some e => f e
  | none => b
def litIns (t : TypeId) (d : Nat) : List Oper → List (Int × Int) → List (Int × Int) × List Oper
  | [], acc => (acc, [])
  | o :: r, acc => litSel (fun e => litIns t d r (acc ++ [e])) (acc, o :: r) (insOf t d o)
def litOf : List Oper → Option (TypeId × Nat × List (Int × Int) × List Oper)
  | ⟨some d, .makeMap t none, _, _, _, none⟩ :: r => some (t, d, (litIns t d r []).1, (litIns t d r []).2)
  | _ => none
def S.withMap (s : S) (d : Nat) (es : List (Int × Int)) : S := { s with env := YtjhdikdopdcfcaaGreatDoor.put d (.mp es) s.env, fro := (d, []) :: s.fro }
def evOp (P : Program) (G : List (FuncId × Bool × Mean)) (s : S) (dst : Option Nat) : Op → Option S
  | .move x => bnd (s.ev x) fun v => some (s.put dst v)
  | .assign x => bnd (s.ev x) fun v => some (s.put dst v)
  | .pick c x y => bnd (s.ev c) fun c => bnd (boolOf c) fun b => bnd (s.ev (if b then x else y)) fun v => some (s.put dst v)
  | .alloc t => bnd (zeroV P t) fun cs => s.newBox dst cs
  | .box t x => bnd (s.ev x) fun v => grd (v.cells.length = P.cellsOf t ∧ v.cells.all V.one = true) (s.newBox dst v.cells)
  | .build t ps => bnd (P.underlying t) fun d => bnd (structD d) fun fs => grd (fieldsOk P t = true) (bnd (zeroV P t) fun z => bnd (mapSome (evPair s) ps.toList) fun vs => bnd (fillRow P fs z vs) fun cs => some (s.put dst (.agg cs)))
  | .buildSlice t n ps => bnd (P.underlying t) fun d => bnd (sliceElem d) fun e => bnd (mapSome (evPair s) ps.toList) fun vs =>
      grd ((zeroOk P e && decide (n * P.cellsOf e ≤ 16777216) && upto 0 n (vs.map (·.1)) && vs.all fun v => decide (v.2.cells.length = P.cellsOf e) && v.2.cells.all V.one) = true) (bnd (packRows s (vs.map (·.2))) fun x => x.2.newTree dst x.1)
  | .load t p => bnd (s.ev p) fun p => bnd (s.load P t p) fun v => some (s.put dst v)
  | .store t p x => bnd (s.ev p) fun p => bnd (s.ev x) fun v => bnd (s.store P t p v) fun s => some (s.skip dst)
  | .nilCheck x => bnd (s.ev x) fun v => bnd (nilOk v) fun v => some (s.put dst v)
  | .binOp op t x y _ => bnd (s.ev x) fun x => bnd (s.ev y) fun y => bnd (bin P t op x y) fun v => some (s.put dst v)
  | .unOp op _ x => bnd (s.ev x) fun x => bnd (un op x) fun v => some (s.put dst v)
  | .convert t0 t x => bnd (s.ev x) fun x => bnd (P.underlying t0) fun d0 => bnd (P.underlying t) fun d => convS P s dst x d0 d
  | .slice t x lo hi none => bnd (s.ev x) fun x => bnd (evOptOp s lo) fun l => bnd (evOptOp s hi) fun h => bnd (P.underlying t) fun d => sliceS P s dst x l h d
  | .fieldAddr t x f => bnd (s.ev x) fun x => bnd (fieldOf P t f) fun f => bnd (addOff x f.1) fun v => some (s.put dst v)
  | .field t x f => bnd (s.ev x) fun x => bnd (aggOf x) fun cs => bnd (fieldOf P t f) fun f => bnd (aggT P f.2) fun g => bnd (span cs f.1 (P.cellsOf f.2) g) fun v => some (s.put dst v)
  | .indexAddr t x i => bnd (s.ev x) fun x => bnd (s.ev i) fun i => bnd (idxOf i) fun i => bnd (elemOfT P t) fun e => bnd (indexAddrV P s x i e.1 e.2) fun v => some (s.put dst v)
  | .index t x i => bnd (s.ev x) fun x => bnd (s.ev i) fun i => bnd (idxOf i) fun i => bnd (indexV P t x i) fun v => some (s.put dst v)
  | .extract x i => bnd (s.ev x) fun x => bnd (tupAt i x) fun v => some (s.put dst v)
  | .makeFunc fn first cap => bnd (mapSome s.ev cap.toList) fun vs => bnd (fnV vs first fn) fun v => some (s.put dst v)
  | .makeSlice t n c => bnd (s.ev n) fun n => bnd (s.ev c) fun c => evMake P s dst t n c
  | .call c => bnd (mapSome s.ev c.args.toList) fun args => evCall P G s dst c.argTypes args c.callee
  | .lookup t m k true => bnd (s.ev m) fun m => bnd (s.ev k) fun k => bnd (mpOf m) fun es => bnd (key64 k) fun n => bnd (mapT P t) fun z => some (s.put dst (foundV z (lookM n es)))
  | _ => none
def wantsV (want : Bool) (x : Option V) : Option Bool := match x with
  | some (.v (.bool b)) => some (b == want)
  | some (.tup []) => some false
  | _ => none
def wantsAt (s : S) (want : Bool) (x : Option Nat) : Option Bool := match x with
  | some d => wantsV want (look d s.env)
  | none => some false
def S.wants (ops : Array Oper) (s : S) : Option (Nat × Bool) → Option Bool
  | none => some true
  | some (j, want) => wantsAt s want ((ops[j]?).bind (·.dst))
def ren (m : List (Nat × Nat)) (p : Nat) : Nat := (look p m).getD p
mutual
def renV (m : List (Nat × Nat)) : V → V
  | .own p => .own (ren m p)
  | .inn p i j k => .inn (ren m p) i j k
  | .pe b k i off => .pe (renV m b) k i off
  | .agg cs => .agg (renL m cs)
  | .tup cs => .tup (renL m cs)
  | .fn f cs => .fn f (renL m cs)
  | v => v
def renL (m : List (Nat × Nat)) : List V → List V
  | [] => []
  | v :: r => renV m v :: renL m r
end
mutual
def metV (l : List Nat) : V → List Nat
  | .own p => if l.contains p then l else l ++ [p]
  | .inn p _ _ _ => if l.contains p then l else l ++ [p]
  | .pe b _ _ _ => metV l b
  | .agg cs => metL l cs
  | .tup cs => metL l cs
  | .fn _ cs => metL l cs
  | _ => l
def metL (l : List Nat) : List V → List Nat
  | [] => l
  | v :: r => metL (metV l v) r
end
def ownNil (n : Nat) : List (Nat × V) → List (Nat × V) × List Nat
  | [] => ([], [])
  | (t, .nil) :: r => let (r, ps) := ownNil (n + 1) r; ((t, .own n) :: r, n :: ps)
  | x :: r => let (r, ps) := ownNil n r; (x :: r, ps)
def ownNilL (n : Nat) : List V → List V × List Nat
  | [] => ([], [])
  | .nil :: r => let (r, ps) := ownNilL (n + 1) r; (.own n :: r, n :: ps)
  | x :: r => let (r, ps) := ownNilL n r; (x :: r, ps)
def ownNilB (n : Nat) : List (Nat × List V) → List (Nat × List V) × List Nat
  | [] => ([], [])
  | (b, cs) :: r => let (cs, ps) := ownNilL n cs; let (r, qs) := ownNilB (n + ps.length) r; ((b, cs) :: r, ps ++ qs)
def keepE (ts : List Nat) (env : List (Nat × V)) : Option (List (Nat × V)) := mapSome (fun t => bnd (look t env) fun v => some (t, v)) ts
def keepB (bs : List Nat) (box : List (Nat × List V)) : Option (List (Nat × List V)) := mapSome (fun b => bnd (look b box) fun v => some (b, v)) bs
def refsOk (bs : List Nat) : V → Bool
  | .ref b _ => bs.contains b
  | .pe b _ _ _ => refsOk bs b
  | .agg cs => go cs
  | .tup cs => go cs
  | .fn _ cs => go cs
  | _ => true
where go : List V → Bool
  | [] => true
  | c :: r => refsOk bs c && go r
def isFz : V → Bool
  | .fz _ => true
  | .pe b _ _ _ => isFz b
  | .agg cs => go cs
  | .tup cs => go cs
  | .fn _ cs => go cs
  | _ => false
where go : List V → Bool
  | [] => false
  | c :: r => isFz c || go r
def freezeAt (s : S) (p : Nat) (x : Option (List (List D))) : Option S := match x with
  | some rows => some { s with tree := drop1 p s.tree, fro := (p, rows) :: s.fro }
  | none => some s
def freezeL (s : S) : List V → Option S
  | [] => some s
  | .own p :: r => bnd (freezeAt s p (look p s.tree)) fun s => freezeL s r
  | _ :: r => freezeL s r
def freezeV (s : S) : V → Option S
  | .own p => freezeAt s p (look p s.tree)
  | .ref b _ => bnd (look b s.box) fun cs => freezeL s cs
  | _ => some s
def S.freeze (s : S) (t : Nat) : Option S := bnd (look t s.env) fun v => freezeV s v
def metOne (p i : Nat) (k : Nat → List (Nat × Nat × List (List D))) : Option (List (List D)) → List (Nat × Nat × List (List D))
  | some rows => if 1000000000 ≤ p ∧ p < 2000000000 then (p, p, rows) :: k i else (p, 2000000000 + i, rows) :: k (i + 1)
  | none => k i
def metIn (tree : List (Nat × List (List D))) : List Nat → Nat → List (Nat × Nat × List (List D))
  | [], _ => []
  | p :: r, i => metOne p i (metIn tree r) (look p tree)
def S.head2 (m : List (Nat × Nat × List (List D))) (env : List (Nat × V)) (box : List (Nat × List V)) (fro : List (Nat × List (List D))) : S :=
  { env := env.map fun x => (x.1, renV (m.map fun x => (x.1, x.2.1)) x.2), box := box.map fun x => (x.1, renL (m.map fun x => (x.1, x.2.1)) x.2), tree := (m.map (·.2)).reverse, fro }
def S.head1 (env : List (Nat × V)) (box : List (Nat × List V)) (tree fro : List (Nat × List (List D))) : S :=
  S.head2 (metIn tree (metL (metL [] (env.map (·.2))) (box.flatMap (·.2))) (1000 * fro.length)) env box fro
def S.head (ts bs : List Nat) (s : S) : Option S :=
  bnd (keepE ts s.env) fun env => bnd (keepB bs s.box) fun box =>
    grd ((desc ts && desc bs && env.all (fun x => refsOk bs x.2) && box.all (fun x => x.2.all (refsOk bs)) && s.tree.all (fun x => decide (x.1 < 3000000000)) && s.fro.all (fun x => decide (x.1 < 2000000000 + 1000 * s.fro.length)) && decide (s.fro.length < 1000)) = true)
      (some (S.head1 (ownNil 3000000000 env).1 (ownNilB (3000000000 + (ownNil 3000000000 env).2.length) box).1
        (s.tree ++ ((ownNil 3000000000 env).2 ++ (ownNilB (3000000000 + (ownNil 3000000000 env).2.length) box).2).map fun p => (p, [])) s.fro))
def freezeAll (s : S) : List Nat → Option S
  | [] => some s
  | t :: r => bnd (s.freeze t) fun s => freezeAll s r
structure Ghost where
  heads : List (Nat × List Nat × List Nat)
  frees : List (Nat × List Nat)
  draws : List (Nat × List Nat × List (Nat × List Nat)) := []
  norms : List (Nat × List Nat × List Nat) := []
def barsAt (x : Option (List Nat × List (Nat × List Nat))) : List Nat × List (Nat × List Nat) := match x with
  | some l => l
  | none => ([], [])
def Ghost.bars (g : Ghost) (id : Nat) : List Nat × List (Nat × List Nat) := barsAt (look id g.draws)
def headAt (s : S) (x : Option (List Nat × List Nat)) : Option S := match x with
  | some x => s.head x.1 x.2
  | none => some s
def Ghost.head (g : Ghost) (id : Nat) (s : S) : Option S := headAt s (look id g.heads)
def regAt (s : S) (x : Option (List Nat)) : Option S := match x with
  | some ts => freezeAll s ts
  | none => some s
def Ghost.reg (g : Ghost) (id : Nat) (s : S) : Option S := bnd (headAt s (look id g.norms)) fun s => regAt s (look id g.frees)
inductive Q where
  | on (s : S)
  | off
def onQ (x : Option S) : Option Q := match x with
  | some s => some (.on s)
  | none => none
@[simp ↓, go_sem ↓] theorem onQ_some (s : S) : onQ (some s) = some (.on s) := _root_.id rfl
@[simp ↓, go_sem ↓] theorem onQ_none : onQ none = none := _root_.id rfl
def evOps (P : Program) (G : List (FuncId × Bool × Mean)) (ops : Array Oper) : List Oper → Q → Option Q
  | [], q => some q
  | o :: r, .on s => bnd (s.wants ops o.guard) fun g => if g then bnd (onQ (evOp P G s o.dst o.op)) fun q => evOps P G ops r q else bnd (onQ (some (s.put o.dst (.tup [])))) fun q => evOps P G ops r q
  | _ :: _, .off => none
theorem bnd_assoc {α β γ : Type} (x : Option α) (f : α → Option β) (g : β → Option γ) : bnd (bnd x f) g = bnd x fun a => bnd (f a) g := by cases x <;> rfl
theorem bnd_grd {α β : Type} {c : Prop} [Decidable c] (x : Option α) (f : α → Option β) : bnd (grd c x) f = grd c (bnd x f) := by unfold grd; split <;> rfl
def valMM (b : Builtin) (args : List V) : Option V := match b, args with
  | .max, [.v (.int .i64 x), .v (.int .i64 y)] => some (.v (.int .i64 (max x y)))
  | .min, [.v (.int .i64 x), .v (.int .i64 y)] => some (.v (.int .i64 (min x y)))
  | _, _ => none
def valCall (args : List V) : Callee → Option V
  | .builtin b => valMM b args
  | _ => none
def valOp (P : Program) (s : S) : Op → Option V
  | .move x => s.ev x
  | .assign x => s.ev x
  | .pick c x y => bnd (s.ev c) fun c => bnd (boolOf c) fun b => s.ev (if b then x else y)
  | .build t ps => bnd (P.underlying t) fun d => bnd (structD d) fun fs => grd (fieldsOk P t = true) (bnd (zeroV P t) fun z => bnd (mapSome (evPair s) ps.toList) fun vs => bnd (fillRow P fs z vs) fun cs => some (.agg cs))
  | .load t p => bnd (s.ev p) fun p => s.load P t p
  | .nilCheck x => bnd (s.ev x) fun v => nilOk v
  | .binOp op t x y _ => bnd (s.ev x) fun x => bnd (s.ev y) fun y => bin P t op x y
  | .unOp op _ x => bnd (s.ev x) fun x => un op x
  | .convert t0 t x => bnd (s.ev x) fun x => bnd (P.underlying t0) fun d0 => bnd (P.underlying t) fun d => convD P s x d0 d
  | .slice t x lo hi none => bnd (s.ev x) fun x => bnd (evOptOp s lo) fun l => bnd (evOptOp s hi) fun h => bnd (P.underlying t) fun d => sliceV P s x l h d
  | .fieldAddr t x f => bnd (s.ev x) fun x => bnd (fieldOf P t f) fun f => addOff x f.1
  | .field t x f => bnd (s.ev x) fun x => bnd (aggOf x) fun cs => bnd (fieldOf P t f) fun f => bnd (aggT P f.2) fun g => span cs f.1 (P.cellsOf f.2) g
  | .indexAddr t x i => bnd (s.ev x) fun x => bnd (s.ev i) fun i => bnd (idxOf i) fun i => bnd (elemOfT P t) fun e => indexAddrV P s x i e.1 e.2
  | .index t x i => bnd (s.ev x) fun x => bnd (s.ev i) fun i => bnd (idxOf i) fun i => indexV P t x i
  | .extract x i => bnd (s.ev x) fun x => tupAt i x
  | .makeFunc fn first cap => bnd (mapSome s.ev cap.toList) fun vs => fnV vs first fn
  | .call c => bnd (mapSome s.ev c.args.toList) fun args => valCall args c.callee
  | _ => none
structure Eff where
  val : V
  tree : List (Nat × List (List D))
  box : List (Nat × List V)
def effTrees (t : Nat) : List (Nat × List (List D)) → List (Nat × List (List D))
  | [] => []
  | (q, rows) :: r => (1000 * (t + 1) + q, rows) :: effTrees t r
def effCall (M : Mean) (s : S) (d : Nat) (args : List V) : Option Eff :=
  bnd (lendL s ⟨[], [], []⟩ args) fun x => grd ((x.2.box.isEmpty && x.2.tree.isEmpty) = true) (bnd (M x.1 [] []) fun r => grd (r.box.isEmpty = true) (bnd (backV x.2 d r.val) fun v => some ⟨v, effTrees d r.tree, []⟩))
def S.app (s : S) (d : Option Nat) (e : Eff) : S := { env := (s.put d e.val).env, box := e.box ++ s.box, tree := e.tree.reverse ++ s.tree, fro := s.fro }
def freshAll (s : S) : List (Nat × List (List D)) → Bool
  | [] => true
  | x :: r => fresh s x.1 && decide (x.1 < 1000000000) && freshAll { s with tree := x :: s.tree } r
def valB (P : Program) (s : S) (b : Builtin) (ats : Array TypeId) (args : List V) : Option V :=
  match b, args with
  | .len, [.v (.string x)] => bnd ats[0]? fun t => grd (strT P t = true) (some (.v (.int .i64 x.size)))
  | .len, [x] => bnd ats[0]? fun t => grd (lstT P t = true) (bnd (s.rows x) fun rows => some (.v (.int .i64 rows.length)))
  | .max, [.v (.int .i64 x), .v (.int .i64 y)] => some (.v (.int .i64 (max x y)))
  | .min, [.v (.int .i64 x), .v (.int .i64 y)] => some (.v (.int .i64 (min x y)))
  | _, _ => none
def flatRows (s : S) : V → Option (List (List D))
  | .v (.string b) => some (b.toList.map fun c => [.a (.int .u8 (c.toNat : Int))])
  | .v _ => none
  | x => bnd (s.rows x) fun rows => grd (rowsFlat rows = true) (some rows)
def effNew (P : Program) (s : S) (d : Nat) (e : TypeId) (new : List (List D)) : V → Option Eff
  | .nil => grd (sizeOk P e new.length = true ∧ wid (P.cellsOf e) new = true) (some ⟨.own d, [(d, new)], []⟩)
  | .own p => bnd (look p s.tree) fun rows => grd (rows.isEmpty = true ∧ sizeOk P e new.length = true ∧ wid (P.cellsOf e) new = true) (some ⟨.own d, [(d, new)], []⟩)
  | _ => none
def effB (P : Program) (s : S) (d : Nat) (b : Builtin) (ats : Array TypeId) (args : List V) : Option Eff :=
  match b, args with
  | .append, [x, y] => bnd ats[0]? fun t => bnd ats[1]? fun t1 => grd (seqT P t1 = true) (bnd (P.underlying t) fun ds => bnd (sliceElem ds) fun e => bnd (flatRows s y) fun new => effNew P s d e new x)
  | b, args => bnd (valB P s b ats args) fun v => some ⟨v, [], []⟩
def effCallee (P : Program) (G : List (FuncId × Bool × Mean)) (s : S) (d : Nat) (ats : Array TypeId) (args : List V) : Callee → Option Eff
  | .builtin b => effB P s d b ats args
  | .value f => bnd (s.ev f) fun f => bnd (fnOf f) fun f => bnd (look f.1 G) fun M => grd (M.1 = false) (effCall M.2 s d (args ++ f.2))
  | _ => none
def effOp (P : Program) (G : List (FuncId × Bool × Mean)) (s : S) (d : Nat) : Op → Option Eff
  | .alloc t => bnd (zeroV P t) fun cs => some ⟨.ref d 0, [], [(d, cs)]⟩
  | .box t x => bnd (s.ev x) fun v => grd (v.cells.length = P.cellsOf t ∧ v.cells.all V.one = true) (some ⟨.ref d 0, [], [(d, v.cells)]⟩)
  | .buildSlice t n ps => bnd (P.underlying t) fun ds => bnd (sliceElem ds) fun e => bnd (mapSome (evPair s) ps.toList) fun vs =>
      grd ((zeroOk P e && decide (n * P.cellsOf e ≤ 16777216) && upto 0 n (vs.map (·.1)) && vs.all fun v => decide (v.2.cells.length = P.cellsOf e) && v.2.cells.all V.one) = true) (bnd (mapSome (fun v => mapSome packV v.2.cells) vs) fun rows => some ⟨.own d, [(d, rows)], []⟩)
  | .call c => bnd (mapSome s.ev c.args.toList) fun args => effCallee P G s d c.argTypes args c.callee
  | op => bnd (valOp P s op) fun v => some ⟨v, [], []⟩
def freshBox (s : S) : List (Nat × List V) → Bool
  | [] => true
  | x :: r => (look x.1 s.box).isNone && freshBox { s with box := x :: s.box } r
def effAt (P : Program) (G : List (FuncId × Bool × Mean)) (s : S) (d : Option Nat) (op : Op) : Option S :=
  bnd d fun d => bnd (effOp P G s d op) fun e => grd ((freshAll s e.tree && freshBox s e.box) = true) (some (s.app (some d) e))
structure Bar where
  val : V
  box : List (Nat × List V)
  tree : List (Nat × List (List D))
  kills : List Nat
  inn : List Nat
def innEs : List Nat → List (Nat × V) → List (Nat × V)
  | [], e => e
  | p :: r, e => innEs r (innE p e)
def killEs : List Nat → List (Nat × V) → List (Nat × V)
  | [], e => e
  | p :: r, e => killEs r (killE p e)
def owns : List V → List Nat
  | [] => []
  | .own p :: r => p :: owns r
  | _ :: r => owns r
def ownss : List V → List Nat
  | [] => []
  | v :: r => owns v.cells ++ ownss r
def S.barred (s : S) (d : Option Nat) (x : Bar) : S := { env := (S.put { s with env := innEs x.inn (killEs x.kills s.env) } d x.val).env, box := x.box, tree := x.tree, fro := s.fro }
def barTree (d : Option Nat) (vs : List V) (x : List (List D) × S) : Option Bar :=
  bnd d fun t => grd (fresh x.2 t = true) (some ⟨.own t, x.2.box, (t, x.1) :: x.2.tree, ownss vs, []⟩)
def storeAtom (s : S) (q k i off : Nat) : Option D → Option Bar
  | some d => bnd (look q s.tree) fun rows => bnd rows[i]? fun r => bnd r[off]? fun d0 => grd (r.length = k ∧ flatD d0 = true ∧ oneD d = true) (some ⟨.tup [], s.box, upd q (rows.set i (r.set off d)) s.tree, [], []⟩)
  | none => none
def storeRef (s : S) (v : V) : V → Option Bar
  | .pe (.own q) k i off => storeAtom s q k i off v.atom
  | .ref b off => bnd (look b s.box) fun cs => grd (off + v.cells.length ≤ cs.length ∧ v.cells.all V.one = true) (some ⟨.tup [], upd b (setAt cs off v.cells) s.box, s.tree, [], []⟩)
  | _ => none
def callB (M : Mean) (s : S) (t : Nat) (args : List V) : Option Bar :=
  bnd (lendL s ⟨[], [], []⟩ args) fun x => bnd (lendBoxes s x.2 x.2.box) fun y => grd ((y.2.tree.isEmpty && lendOk y.2 y.1.length) = true) (bnd (M x.1 y.1 []) fun r =>
    bnd (backBoxes y.2 t y.2.box r.box s) fun s => bnd (addTrees y.2 t r.tree s) fun s => bnd (backV y.2 t r.val) fun v => some ⟨v, s.box, s.tree, [], []⟩)
def barApp (P : Program) (s : S) (d : Option Nat) (e : TypeId) (new : List (List D)) : V → Option Bar
  | .nil => grd (sizeOk P e new.length = true ∧ wid (P.cellsOf e) new = true) (bnd d fun t => grd (fresh s t = true) (some ⟨.own t, s.box, (t, new) :: s.tree, [], []⟩))
  | .own p => bnd (look p s.tree) fun rows => grd (sizeOk P e (rows.length + new.length) = true ∧ wid (P.cellsOf e) rows = true ∧ wid (P.cellsOf e) new = true) (bnd d fun t => grd (fresh s t = true) (some ⟨.own t, killB p s.box, (t, rows ++ new) :: drop1 p s.tree, [p], []⟩))
  | .inn p i j k => bnd (s.rows (.inn p i j k)) fun rows => grd (sizeOk P e (rows.length + new.length) = true ∧ wid (P.cellsOf e) rows = true ∧ wid (P.cellsOf e) new = true) (bnd (look p s.tree) fun rs => bnd rs[i]? fun r => grd (¬ (1000000000 ≤ p ∧ p < 2000000000)) (bnd d fun t => grd (fresh s t = true) (some ⟨.own t, innB p s.box, (t, rows ++ new) :: upd p (rs.set i (r.set j .gone)) s.tree, [], [p]⟩)))
  | _ => none
def barB (P : Program) (s : S) (d : Option Nat) (b : Builtin) (ats : Array TypeId) (args : List V) : Option Bar :=
  match b, args with
  | .append, [x, y] => bnd ats[0]? fun t => bnd ats[1]? fun t1 => grd (seqT P t1 = true) (bnd (P.underlying t) fun ds => bnd (sliceElem ds) fun e => bnd (flatRows s y) fun new => barApp P s d e new x)
  | _, _ => none
def barCallee (P : Program) (G : List (FuncId × Bool × Mean)) (s : S) (d : Option Nat) (ats : Array TypeId) (args : List V) : Callee → Option Bar
  | .builtin b => barB P s d b ats args
  | .value f => bnd (s.ev f) fun f => bnd (fnOf f) fun f => bnd (look f.1 G) fun M => grd (M.1 = false) (callB M.2 s (d.getD 0) (args ++ f.2))
  | _ => none
def barEff (P : Program) (G : List (FuncId × Bool × Mean)) (s : S) (d : Option Nat) : Op → Option Bar
  | .store t p x => bnd (s.ev p) fun p => bnd (s.ev x) fun v => grd (sizedT P t = true ∧ v.cells.length = P.cellsOf t ∧ d.isNone = true) (storeRef s v p)
  | .call c => bnd (mapSome s.ev c.args.toList) fun args => barCallee P G s d c.argTypes args c.callee
  | .buildSlice t n ps => bnd (P.underlying t) fun dd => bnd (sliceElem dd) fun e => bnd (mapSome (evPair s) ps.toList) fun vs =>
      grd ((zeroOk P e && decide (n * P.cellsOf e ≤ 16777216) && upto 0 n (vs.map (·.1)) && vs.all fun v => decide (v.2.cells.length = P.cellsOf e) && v.2.cells.all V.one) = true) (bnd (packRows s (vs.map (·.2))) fun x => barTree d (vs.map (·.2)) x)
  | _ => none
def isApp : Op → Bool
  | .call c => match c.callee with
    | .builtin _ => true
    | _ => false
  | _ => false
def freeV (ks : List Nat) (v : V) : Bool := ks.all fun p => !mentions p v
def freeO (ks : List Nat) (s : S) : Operand → Bool
  | .tmp t => match look t s.env with
    | some v => freeV ks v
    | none => true
  | _ => true
def opsFree (ks : List Nat) (s : S) (op : Op) : Bool := op.operands.toList.all (freeO ks s)
def keepFl (ops : Array Oper) (s : S) (ks : List Nat) : List Nat → Option Unit
  | [] => some ()
  | i :: r => bnd ops[i]? fun o => bnd o.dst fun d => bnd (look d s.env) fun v => grd ((freeV ks v && opsFree ks s o.op) = true) (keepFl ops s ks r)
open Classical in
noncomputable def grdEq {α β : Type} (x y : α) (z : Option β) : Option β := if x = y then z else none
theorem grdEq_some {α β : Type} {x y : α} {z : Option β} {b : β} (h : grdEq x y z = some b) : x = y ∧ z = some b := by
  unfold grdEq at h; split at h
  · exact ⟨by assumption, h⟩
  · cases h
theorem grdEq_self {α β : Type} (x : α) (z : Option β) : grdEq x x z = z := if_pos _root_.rfl
noncomputable def sameVals (P : Program) (ops : Array Oper) (s0 s : S) : List Nat → Option Unit
  | [] => some ()
  | i :: r => bnd ops[i]? fun o => bnd o.dst fun d => bnd (look d s.env) fun v => bnd (valOp P s o.op) fun u => grdEq u v (bnd (look d s0.env) fun v0 => grdEq v0 v (sameVals P ops s0 s r))
def isMM : Callee → Bool
  | .builtin .max => true
  | .builtin .min => true
  | _ => false
def isVal : Op → Bool
  | .alloc _ => false
  | .box _ _ => false
  | .buildSlice _ _ _ => false
  | .call c => isMM c.callee
  | _ => true
def valAt : Option Oper → Bool
  | some o => isVal o.op
  | none => false
def valsFl (ops : Array Oper) (fl : List Nat) : Bool := fl.all fun i => valAt ops[i]?
noncomputable def drwApp (P : Program) (ops : Array Oper) (s : S) (d : Option Nat) (fl : List Nat) (x : Bar) : Option S := match x.inn with
  | [] => grdEq x.box s.box (bnd (keepFl ops s x.kills fl) fun _ => some (s.barred d x))
  | _ :: _ => grd (valsFl ops fl = true) (bnd (sameVals P ops s (s.barred d x) fl) fun _ => some (s.barred d x))
noncomputable def drwOp (P : Program) (G : List (FuncId × Bool × Mean)) (ops : Array Oper) (bar : Option (List Nat)) (s : S) (d : Option Nat) (op : Op) : Option S := match bar with
  | none => effAt P G s d op
  | some [] => evOp P G s d op
  | some (i :: r) => if isApp op = true then bnd (barEff P G s d op) (drwApp P ops s d (i :: r)) else bnd (barEff P G s d op) fun x => bnd (sameVals P ops s (s.barred d x) (i :: r)) fun _ => some (s.barred d x)
noncomputable def evDrw (P : Program) (G : List (FuncId × Bool × Mean)) (ops : Array Oper) (bars : List (Nat × List Nat)) : List (Nat × Oper) → Q → Option Q
  | [], q => some q
  | x :: r, .on s => bnd (s.wants ops x.2.guard) fun g => if g then bnd (onQ (drwOp P G ops (look x.1 bars) s x.2.dst x.2.op)) fun q => evDrw P G ops bars r q else bnd (onQ (some (s.put x.2.dst (.tup [])))) fun q => evDrw P G ops bars r q
  | _ :: _, .off => none
def inText : Nat → List Oper → List (Nat × Oper)
  | _, [] => []
  | k, o :: r => (k, o) :: inText (k + 1) r
def picked (ops : Array Oper) : List Nat → List (Nat × Oper)
  | [] => []
  | i :: r => match ops[i]? with
    | some o => (i, o) :: picked ops r
    | none => picked ops r
def inOrder (ops : Array Oper) : List Nat → List (Nat × Oper)
  | [] => inText 0 ops.toList
  | i :: r => picked ops (i :: r)
noncomputable def evPick (P : Program) (G : List (FuncId × Bool × Mean)) (ops : Array Oper) (bars : List (Nat × List Nat)) (i : Nat) (r : List Nat) (s : S) : Option Oper → Option Q
  | some o => bnd (s.wants ops o.guard) fun g => if g then bnd (onQ (drwOp P G ops (look i bars) s o.dst o.op)) fun q => evDrw P G ops bars (picked ops r) q else bnd (onQ (some (s.put o.dst (.tup [])))) fun q => evDrw P G ops bars (picked ops r) q
  | none => evDrw P G ops bars (picked ops r) (.on s)
inductive Ex where
  | normal
  | exit (id : Nat)
  | ret
def rounds (f : Q → Option (Ex × Q)) : Nat → Q → Option (Ex × Q)
  | 0, _ => none
  | n + 1, s => match f s with
    | some (.normal, s) => rounds f n s
    | r => r
open Classical in
noncomputable def loopV (f : Q → Option (Ex × Q)) (s : Q) : Option (Ex × Q) :=
  if h : ∃ n r, rounds f n s = some r then some (Classical.choose (Classical.choose_spec h)) else none
def Code.first : Code → Nat
  | .region id _ _ => id
  | .seq x _ => Code.first x
  | .block _ x => Code.first x
  | .loop x => Code.first x
  | .scope x => Code.first x
  | _ => 0
def seqV (r : Option (Ex × Q)) (k : Q → Option (Ex × Q)) : Option (Ex × Q) := match r with
  | some (.normal, s) => k s
  | r => r
@[simp ↓, go_sem ↓] theorem seqV_normal (s : Q) (k : Q → Option (Ex × Q)) : seqV (some (.normal, s)) k = k s := _root_.id rfl
@[simp ↓, go_sem ↓] theorem seqV_exit (i : Nat) (s : Q) (k : Q → Option (Ex × Q)) : seqV (some (.exit i, s)) k = some (.exit i, s) := _root_.id rfl
@[simp ↓, go_sem ↓] theorem seqV_ret (s : Q) (k : Q → Option (Ex × Q)) : seqV (some (.ret, s)) k = some (.ret, s) := _root_.id rfl
@[simp ↓, go_sem ↓] theorem seqV_none (k : Q → Option (Ex × Q)) : seqV none k = none := _root_.id rfl
@[congr] theorem seqV_congr {r r' : Option (Ex × Q)} (k : Q → Option (Ex × Q)) (h : r = r') : seqV r k = seqV r' k := by rw [h]
def blockV (id : Nat) : Ex × Q → Option (Ex × Q)
  | (.exit j, s) => if j = id then some (.normal, s) else some (.exit j, s)
  | r => some r
def headV (gh : Ghost) (id : Nat) : Q → Option Q
  | .on s => onQ (gh.head id s)
  | .off => none
def evLit (P : Program) (G : List (FuncId × Bool × Mean)) (ops : Array Oper) (l : List Oper) (s : S) : Option Q :=
  bnd (litOf l) fun x => bnd (mapT P x.1) fun _ => grd (fresh s x.2.1 = true ∧ apartK x.2.2.1 = true) (evOps P G ops x.2.2.2 (.on (s.withMap x.2.1 x.2.2.1)))
noncomputable def evText (P : Program) (G : List (FuncId × Bool × Mean)) (ops : Array Oper) (bar : List Nat) (q : Q) : Option Q := match bar, q with
  | _ :: _, .on s => evLit P G ops ops.toList s
  | _, q => evOps P G ops ops.toList q
noncomputable def regV (P : Program) (G : List (FuncId × Bool × Mean)) (ops : Array Oper) (bar : List Nat × List (Nat × List Nat)) (d : Bool) (q : Q) : Option Q := if d then evDrw P G ops bar.2 (inOrder ops bar.1) q else evText P G ops bar.1 q
noncomputable def evC (P : Program) (G : List (FuncId × Bool × Mean)) (gh : Ghost) : Code → Q → Option (Ex × Q)
  | _, .off => none
  | .skip, q => some (.normal, q)
  | .label _, q => some (.normal, q)
  | .region id ops d, .on s => bnd (onQ (gh.reg id s)) fun q => bnd (regV P G ops (gh.bars id) d q) fun q => some (.normal, q)
  | .seq x y, q => seqV (evC P G gh x q) fun q => evC P G gh y q
  | .cond c x y, .on s => bnd (s.ev c) fun v => bnd (boolOf v) fun b => if b then evC P G gh x (.on s) else evC P G gh y (.on s)
  | .block id x, q => bnd (evC P G gh x q) (blockV id)
  | .loop x, q => bnd (headV gh (Code.first x) q) fun q => loopV (fun q => seqV (evC P G gh x q) fun q => bnd (headV gh (Code.first x) q) fun q => some (.normal, q)) q
  | .exit id, q => some (.exit id, q)
  | .scope x, q => evC P G gh x q
  | .ret, q => some (.ret, q)
  | _, _ => none
section
variable (P : Program) (G : List (FuncId × Bool × Mean)) (gh : Ghost) (s : S)
@[simp, go_sem] theorem headV_on (id : Nat) : headV gh id (.on s) = onQ (gh.head id s) := _root_.id rfl
@[simp, go_sem] theorem evOps_nil (ops : Array Oper) : evOps P G ops [] (.on s) = some (.on s) := _root_.id rfl
@[simp, go_sem] theorem evOps_cons (ops : Array Oper) (o : Oper) (r : List Oper) : evOps P G ops (o :: r) (.on s) = bnd (s.wants ops o.guard) fun g => if g then bnd (onQ (evOp P G s o.dst o.op)) fun q => evOps P G ops r q else bnd (onQ (some (s.put o.dst (.tup [])))) fun q => evOps P G ops r q := _root_.id rfl
@[simp, go_sem] theorem evC_skip : evC P G gh .skip (.on s) = some (.normal, .on s) := _root_.id rfl
@[simp, go_sem] theorem evC_label (l : Nat) : evC P G gh (.label l) (.on s) = some (.normal, .on s) := _root_.id rfl
@[simp, go_sem] theorem evC_region (id : Nat) (ops : Array Oper) (d : Bool) : evC P G gh (.region id ops d) (.on s) = bnd (onQ (gh.reg id s)) fun q => bnd (regV P G ops (gh.bars id) d q) fun q => some (.normal, q) := _root_.id rfl
theorem regV_flat (ops : Array Oper) (bar : List Nat × List (Nat × List Nat)) (q : Q) : regV P G ops bar false q = evText P G ops bar.1 q := _root_.id rfl
@[simp, go_sem] theorem regV_text (ops : Array Oper) (bars : List (Nat × List Nat)) : regV P G ops ([], bars) false (.on s) = evOps P G ops ops.toList (.on s) := _root_.id rfl
@[simp, go_sem] theorem regV_lit (ops : Array Oper) (i : Nat) (l : List Nat) (bars : List (Nat × List Nat)) : regV P G ops (i :: l, bars) false (.on s) = evLit P G ops ops.toList s := _root_.id rfl
@[simp, go_sem] theorem evLit_eq (ops : Array Oper) (l : List Oper) : evLit P G ops l s = bnd (litOf l) fun x => bnd (mapT P x.1) fun _ => grd (fresh s x.2.1 = true ∧ apartK x.2.2.1 = true) (evOps P G ops x.2.2.2 (.on (s.withMap x.2.1 x.2.2.1))) := _root_.id rfl
@[simp, go_sem] theorem regV_any (ops : Array Oper) (bars : List (Nat × List Nat)) (q : Q) : regV P G ops ([], bars) true q = evDrw P G ops bars (inText 0 ops.toList) q := _root_.id rfl
@[simp, go_sem] theorem regV_some (ops : Array Oper) (i : Nat) (l : List Nat) (bars : List (Nat × List Nat)) (q : Q) : regV P G ops (i :: l, bars) true q = evDrw P G ops bars (picked ops (i :: l)) q := _root_.id rfl
@[simp, go_sem] theorem evDrw_nil (ops : Array Oper) (bars : List (Nat × List Nat)) (k : Nat) (q : Q) : evDrw P G ops bars (inText k []) q = some q := _root_.id rfl
theorem evDrw_cons (ops : Array Oper) (bars : List (Nat × List Nat)) (x : Nat × Oper) (r : List (Nat × Oper)) : evDrw P G ops bars (x :: r) (.on s) = bnd (s.wants ops x.2.guard) fun g => if g then bnd (onQ (drwOp P G ops (look x.1 bars) s x.2.dst x.2.op)) fun q => evDrw P G ops bars r q else bnd (onQ (some (s.put x.2.dst (.tup [])))) fun q => evDrw P G ops bars r q := _root_.id rfl
@[simp, go_sem] theorem evDrw_text (ops : Array Oper) (bars : List (Nat × List Nat)) (k : Nat) (o : Oper) (r : List Oper) : evDrw P G ops bars (inText k (o :: r)) (.on s) = bnd (s.wants ops o.guard) fun g => if g then bnd (onQ (drwOp P G ops (look k bars) s o.dst o.op)) fun q => evDrw P G ops bars (inText (k + 1) r) q else bnd (onQ (some (s.put o.dst (.tup [])))) fun q => evDrw P G ops bars (inText (k + 1) r) q := _root_.id rfl
@[simp, go_sem] theorem evDrw_picked_nil (ops : Array Oper) (bars : List (Nat × List Nat)) (q : Q) : evDrw P G ops bars (picked ops []) q = some q := _root_.id rfl
@[simp, go_sem] theorem evDrw_picked (ops : Array Oper) (bars : List (Nat × List Nat)) (i : Nat) (r : List Nat) : evDrw P G ops bars (picked ops (i :: r)) (.on s) = evPick P G ops bars i r s ops[i]? := by
  unfold picked; cases ops[i]? <;> rfl
@[simp, go_sem] theorem evPick_some (ops : Array Oper) (bars : List (Nat × List Nat)) (i : Nat) (r : List Nat) (o : Oper) : evPick P G ops bars i r s (some o) = bnd (s.wants ops o.guard) fun g => if g then bnd (onQ (drwOp P G ops (look i bars) s o.dst o.op)) fun q => evDrw P G ops bars (picked ops r) q else bnd (onQ (some (s.put o.dst (.tup [])))) fun q => evDrw P G ops bars (picked ops r) q := _root_.id rfl
@[simp] theorem grdEq_self' {α β : Type} (x : α) (z : Option β) : grdEq x x z = z := grdEq_self x z
@[simp, go_sem] theorem drwOp_bar (ops : Array Oper) (d : Option Nat) (op : Op) : drwOp P G ops (some []) s d op = evOp P G s d op := _root_.id rfl
@[simp, go_sem] theorem drwOp_eff (ops : Array Oper) (d : Option Nat) (op : Op) : drwOp P G ops none s d op = effAt P G s d op := _root_.id rfl
@[simp, go_sem] theorem drwOp_float (ops : Array Oper) (i : Nat) (r : List Nat) (d : Option Nat) (op : Op) : drwOp P G ops (some (i :: r)) s d op = if isApp op = true then bnd (barEff P G s d op) (drwApp P ops s d (i :: r)) else bnd (barEff P G s d op) fun x => bnd (sameVals P ops s (s.barred d x) (i :: r)) fun _ => some (s.barred d x) := _root_.id rfl
@[simp, go_sem] theorem evC_seq (x y : Code) : evC P G gh (.seq x y) (.on s) = seqV (evC P G gh x (.on s)) fun q => evC P G gh y q := _root_.id rfl
@[simp, go_sem] theorem evC_cond (c : Operand) (x y : Code) : evC P G gh (.cond c x y) (.on s) = bnd (s.ev c) fun v => bnd (boolOf v) fun b => if b then evC P G gh x (.on s) else evC P G gh y (.on s) := _root_.id rfl
@[simp, go_sem] theorem evC_block (id : Nat) (x : Code) : evC P G gh (.block id x) (.on s) = bnd (evC P G gh x (.on s)) (blockV id) := _root_.id rfl
@[simp, go_sem] theorem evC_loop (x : Code) : evC P G gh (.loop x) (.on s) = bnd (onQ (gh.head (Code.first x) s)) fun q => loopV (fun q => seqV (evC P G gh x q) fun q => bnd (headV gh (Code.first x) q) fun q => some (.normal, q)) q := _root_.id rfl
@[simp, go_sem] theorem evC_exit (id : Nat) : evC P G gh (.exit id) (.on s) = some (.exit id, .on s) := _root_.id rfl
@[simp, go_sem] theorem evC_scope (x : Code) : evC P G gh (.scope x) (.on s) = evC P G gh x (.on s) := _root_.id rfl
@[simp, go_sem] theorem evC_ret : evC P G gh .ret (.on s) = some (.ret, .on s) := _root_.id rfl
end
def parBase : Nat := 1000000000
mutual
def enterV : V → V
  | .ref b off => .ref (parBase + b) off
  | .own p => .own (parBase + p)
  | .inn p i j k => .inn (parBase + p) i j k
  | .agg cs => .agg (enterL cs)
  | .tup cs => .tup (enterL cs)
  | .pe b k i off => .pe (enterV b) k i off
  | .fn f cs => .fn f (enterL cs)
  | v => v
def enterL : List V → List V
  | [] => []
  | v :: r => enterV v :: enterL r
end
mutual
def outV (s : S) (n : Nat) (l : List (Nat × List (List D))) : V → Option (V × List (Nat × List (List D)))
  | .v x => some (.v x, l)
  | .nil => some (.own (n + l.length), l ++ [(0, [])])
  | .lst o rows => some (.lst o rows, l)
  | .own p => if parBase ≤ p ∧ p < parBase + n then grd ((look p s.tree).isSome = true) (some (.own (p - parBase), l)) else bnd (s.rows (.own p)) fun rows => grd ((look p l).isNone = true) (some (.own (n + l.length), l ++ [(p, rows)]))
  | .ref b off => grd (parBase ≤ b) (some (.ref (b - parBase) off, l))
  | .dead => some (.dead, l)
  | .agg cs => bnd (outL s n l cs) fun x => some (.agg x.1, x.2)
  | .tup cs => bnd (outL s n l cs) fun x => some (.tup x.1, x.2)
  | _ => none
def outL (s : S) (n : Nat) (l : List (Nat × List (List D))) : List V → Option (List V × List (Nat × List (List D)))
  | [] => some ([], l)
  | v :: r => bnd (outV s n l v) fun x => bnd (outL s n x.2 r) fun y => some (x.1 :: y.1, y.2)
end
def outB (s : S) (n : Nat) (l : List (Nat × List (List D))) : List Nat → Option (List (List V) × List (Nat × List (List D)))
  | [] => some ([], l)
  | b :: r => bnd (look (parBase + b) s.box) fun cs => bnd (outL s n l cs) fun x => bnd (outB s n x.2 r) fun y => some (x.1 :: y.1, y.2)
def resV (P : Program) (s : S) : ResultVar → Option V
  | .tmp t => look t s.env
  | .cell a t => bnd (look a s.env) fun p => s.load P t p
def tupOf : List V → V
  | [v] => v
  | vs => .tup vs
def keptOne (j : Nat) (r : List (Nat × List (List D))) : Option (List (List D)) → List (Nat × List (List D))
  | some rows => (j, rows) :: r
  | none => r
def keptTrees (s : S) (j : Nat) : Nat → List (Nat × List (List D))
  | 0 => []
  | n + 1 => keptOne j (keptTrees s (j + 1) n) (look (parBase + j) s.tree)
def numbered {α : Type} (n : Nat) : List (Nat × α) → List (Nat × α)
  | [] => []
  | x :: r => (n, x.2) :: numbered (n + 1) r
def outRes (P : Program) (rs : List ResultVar) (nb nt : Nat) (s : S) : Option Res :=
  bnd (mapSome (resV P s) rs) fun vs => bnd (outV s nt [] (tupOf vs)) fun x => bnd (outB s nt x.2 (List.range' 0 nb)) fun y => grd ((s.box.all fun x => decide (x.1 < parBase + nb)) = true) (some ⟨x.1, y.1, keptTrees s 0 nt ++ numbered nt y.2⟩)
def withIdx {α : Type} (n : Nat) : List α → List (Nat × α)
  | [] => []
  | x :: r => (n, x) :: withIdx (n + 1) r
def leaveV (P : Program) (fn : Func) (nb nt : Nat) : Ex × Q → Option Res
  | (.normal, .on s) => outRes P fn.results.toList nb nt s
  | (.ret, .on s) => outRes P fn.results.toList nb nt s
  | _ => none
noncomputable def evFun (P : Program) (G : List (FuncId × Bool × Mean)) (gh : Ghost) (f : FuncId) : Mean := fun args boxes trees =>
  bnd P.funcs[f]? fun fn => bnd fn.body fun c => grd (args.length ≤ 1000 ∧ boxes.length ≤ 1000 ∧ trees.length ≤ 1000) <|
    bnd (evC P G gh c (.on { env := (withIdx 0 (args.map enterV)).reverse, box := (withIdx parBase (boxes.map enterL)).reverse, tree := (withIdx parBase trees).reverse, fro := [] })) (leaveV P fn boxes.length trees.length)
def plainC : V → Bool
  | .v _ => true
  | .lst _ _ => true
  | _ => false
def newOut (s : S) : V → Option Res
  | .ref b 0 => bnd (look b s.box) fun cs => grd (cs.all plainC = true) (some ⟨.ref 0 0, [cs], []⟩)
  | _ => none
def leaveN (P : Program) (fn : Func) : Ex × Q → Option Res
  | (.normal, .on s) => bnd (mapSome (resV P s) fn.results.toList) fun vs => newOut s (tupOf vs)
  | (.ret, .on s) => bnd (mapSome (resV P s) fn.results.toList) fun vs => newOut s (tupOf vs)
  | _ => none
noncomputable def evNew (P : Program) (G : List (FuncId × Bool × Mean)) (gh : Ghost) (f : FuncId) : Mean := fun args boxes trees =>
  bnd P.funcs[f]? fun fn => bnd fn.body fun c => grd (args.length ≤ 1000 ∧ boxes.length = 0 ∧ trees.length = 0) <|
    bnd (evC P G gh c (.on { env := (withIdx 0 (args.map enterV)).reverse, box := [], tree := [], fro := [] })) (leaveN P fn)
theorem rounds_succ' {f : Q → Option (Ex × Q)} : ∀ {n : Nat} {s : Q} {r : Ex × Q}, rounds f n s = some r → rounds f (n + 1) s = some r
  | 0, s, r, h => by cases h
  | n + 1, s, r, h => by
    rw [rounds] at h
    rw [rounds]
    split at h
    · exact rounds_succ' h
    · exact h
theorem rounds_le {f : Q → Option (Ex × Q)} {n m : Nat} {s : Q} {r : Ex × Q} (h : rounds f n s = some r) (k : n ≤ m) : rounds f m s = some r := by
  induction k with
  | refl => exact h
  | step _ ih => exact rounds_succ' ih
theorem loopV_of {f : Q → Option (Ex × Q)} {n : Nat} {s : Q} {r : Ex × Q} (h : rounds f n s = some r) : loopV f s = some r := by
  have hx : ∃ n r, rounds f n s = some r := ⟨n, r, h⟩
  unfold loopV
  rw [dif_pos hx]
  have h2 := Classical.choose_spec (Classical.choose_spec hx)
  have a := rounds_le h (Nat.le_max_left n (Classical.choose hx))
  have b := rounds_le h2 (Nat.le_max_right n (Classical.choose hx))
  rw [a] at b
  exact b.symm
theorem loopV_some {f : Q → Option (Ex × Q)} {s : Q} {r : Ex × Q} (h : loopV f s = some r) : ∃ n, rounds f n s = some r := by
  unfold loopV at h
  split at h
  · rename_i hx
    injection h with h
    exact ⟨_, h ▸ Classical.choose_spec (Classical.choose_spec hx)⟩
  · cases h
end Go.Proofs.YtjhdikdopdcfcaaGreatDoor
