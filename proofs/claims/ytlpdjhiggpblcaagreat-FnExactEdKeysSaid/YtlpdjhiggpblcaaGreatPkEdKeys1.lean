/- Part 1 of a proof in several texts (an abstract evaluator, what the functions compute). -/
import Derived.WalkKit
import Derived.RowKit
import Derived.Below
import Derived.Laws.AppendOwn
import Derived.Laws.BytesArg
import Derived.KernelRfl
import Derived.Deep.Draws
namespace Go.Proofs.YtlpdjhiggpblcaaGreat
open Go.RowKit
inductive D where
 | a (v:Value)
 | l (rows:List (List D))
 | gone
inductive V where
 | v (x:Value)
 | nil
 | aL (src:Option Nat) (rows:List (List D))
 | own (p:Nat)
 | inn (p i j k:Nat)
 | fz (rows:List (List D))
 | ref (b off:Nat)
 | pe (base:V) (k i off:Nat)
 | agg (cs:List V)
 | fU (vs:List V)
 | fn (f:FuncId) (caps:List V)
 | mp (es:List (Int×Int))
 | dead
theorem aV {α:Type}{a b:α}(h:a=b):a=b:=h
def bnd {α β:Type}(x:Option α)(f:α→Option β):Option β:=match x with|some a=>f a|none=>none
@[simp ↓] theorem bq {α β:Type}(a:α)(f:α→Option β):bnd (some a) f=f a:=_root_.id rfl
@[simp ↓] theorem ahf {α β:Type}(f:α→Option β):bnd none f=none:=_root_.id rfl
@[congr] theorem alZ {α β:Type}{x x':Option α}(f:α→Option β)(h:x=x'):bnd x f=bnd x' f:=by rw [h]
theorem aj {α β:Type}{x:Option α}{f:α→Option β}{b:β}(h:bnd x f=some b):∃a,x=some a∧f a=some b:=by
 cases x with
 | none=>cases h
 | some a=>exact⟨a,rfl,h⟩
def grd {α:Type}(c:Prop) [Decidable c](x:Option α):Option α:=if c then x else none
theorem aB {α:Type}{c:Prop} [Decidable c]{x:Option α}{a:α}(h:grd c x=some a):c∧x=some a:=by
 unfold grd at h;split at h
 ·exact⟨‹_›,h⟩
 ·cases h
@[simp] theorem eB {α:Type}{c:Prop} [Decidable c](x:Option α)(h:c):grd c x=x:=if_pos h
@[simp] theorem amk {α:Type}(x:Option α):grd True x=x:=if_pos trivial
@[congr] theorem al0 {α:Type}{c c':Prop} [Decidable c] [Decidable c'](x:Option α)(h:c=c'):grd c x=grd c' x:=by subst h;unfold grd;congr
def look {α:Type}(k:Nat):List (Nat×α)→Option α
 | []=>none
 | (j,x)::r=>if k=j then some x else look k r
def put {α:Type}(k:Nat)(x:α):List (Nat×α)→List (Nat×α)
 | []=> [(k,x)]
 | (j,y)::r=>if k=j then(k,x)::r else if j<k then(k,x)::(j,y)::r else(j,y)::put k x r
def drop1 {α:Type}(k:Nat):List (Nat×α)→List (Nat×α)
 | []=> []
 | (j,y)::r=>if k=j then drop1 k r else(j,y)::drop1 k r
def upd {α:Type}(k:Nat)(x:α):List (Nat×α)→List (Nat×α)
 | []=> []
 | (j,y)::r=>if k=j then(k,x)::r else(j,y)::upd k x r
def desc:List Nat→Bool
 | a::b::r=>decide (b<a)&&desc (b::r)
 | _=>true
structure S where
 env:List (Nat×V)
 box:List (Nat×List V)
 tree:List (Nat×List (List D))
 dK:List (Nat×List (List D))
def S.put (s:S)(t:Option Nat)(v:V):S:=match t with|some t=> {s with env:=YtlpdjhiggpblcaaGreat.put t v s.env}|none=>s
def S.skip (s:S)(t:Option Nat):S:=match t with|some t=> {s with env:=drop1 t s.env}|none=>s
def yN:Value→V
 | .slice none 0 0=> .nil
 | c=> .v c
def uX:Value→Option V
 | .bool b=>some (.v (.bool b))
 | .int k n=>some (.v (.int k n))
 | .string s=>some (.v (.string s))
 | .slice none 0 0=>some .nil
 | .pointer none=>some (.v (.pointer none))
 | .agg cs=>some (.agg (cs.toList.map yN))
 | _=>none
def S.ev (s:S):Operand→Option V
 | .tmp t=>look t s.env
 | .const v=>uX v
 | .func f=>some (.fn f [])
 | .global _=>none
def V.cells:V→List V
 | .agg cs=>cs
 | x=> [x]
def lY (x y:Option (List (List D))):Option (List (List D)):=match x with
 | some r=>some r
 | none=>y
def MH:D→Option (List (List D))
 | .l rows=>some rows
 | _=>none
def S.rows (s:S):V→Option (List (List D))
 | .nil=>some []
 | .aL _ rows=>some rows
 | .fz rows=>some rows
 | .own p=>lY (look p s.tree) (look p s.dK)
 | .inn p i j k=>bnd (look p s.tree) fun rows=>bnd rows[i]? fun r=>grd (r.length=k) (bnd r[j]? MH)
 | _=>none
def Et (p i j k:Nat)(rows:List (List D)):Option (List (List D))→Option V
 | some _=>some (.fz rows)
 | none=>some (.inn p i j k)
def S.under (s:S)(base:V)(k i j:Nat):D→Option V
 | .a x=>some (.v x)
 | .l rows=>match base with
  | .aL _ _=>some (.aL none rows)
  | .fz _=>some (.fz rows)
  | .own p=>Et p i j k rows (look p s.dK)
  | _=>none
 | .gone=>none
def bK {α β:Type}(f:α→Option β):List α→Option (List β)
 | []=>some []
 | x::r=>bnd (f x) fun y=>bnd (bK f r) fun r=>some (y::r)
def sZ:TypeDesc→Bool
 | .struct _=>true
 | .array _ _=>true
 | _=>false
def o8 (P:Program)(t:TypeId):Option Bool:=bnd (P.underlying t) fun d=>some (sZ d)
def span (cs:List V)(off n:Nat)(agg:Bool):Option V:=
 if agg then grd (off+n≤cs.length) (some (.agg ((cs.drop off).take n)))else cs[off]?
def vN (s:S)(base:V)(k i j:Nat):List D→Option (List V)
 | []=>some []
 | d::l=>bnd (s.under base k i j d) fun v=>bnd (vN s base k i (j+1) l) fun l=>some (v::l)
def S.J6 (s:S)(base:V)(k i:Nat)(r:List D)(off n:Nat)(agg:Bool):Option V:=
 if agg then grd (off+n≤r.length) (bnd (vN s base k i off ((r.drop off).take n)) fun cs=>some (.agg cs))else bnd r[off]? (s.under base k i off)
def S.load (P:Program)(s:S)(t:TypeId):V→Option V
 | .ref b off=>bnd (o8 P t) fun g=>bnd (look b s.box) fun cs=>span cs off (P.cellsOf t) g
 | .pe base k i off=>bnd (o8 P t) fun g=>bnd (s.rows base) fun rows=>bnd rows[i]? fun r=>grd (r.length=k) (s.J6 base k i r off (P.cellsOf t) g)
 | _=>none
def setAt (cs:List V)(off:Nat):List V→List V
 | []=>cs
 | v::vs=>setAt (cs.set off v) (off+1) vs
def V.one:V→Bool
 | .v x=>x.oneCell'
 | .agg _=>false
 | .fU _=>false
 | .dead=>false
 | _=>true
def V.atom:V→Option D
 | .v x=>some (.a x)
 | _=>none
def tq:D→Bool
 | .a _=>true
 | .l _=>false
 | .gone=>false
def yI:D→Bool
 | .a x=>x.oneCell'
 | .l _=>true
 | .gone=>true
def fq (P:Program)(t:TypeId):Bool:=(P.info? t).isSome
def arith (op:BinOp)(k:IntKind)(x y:Int):Option Value:=
 match op with
 | .add=>some (.int k (k.wrap (x+y)))
 | .sub=>some (.int k (k.wrap (x-y)))
 | .mul=>some (.int k (k.wrap (x*y)))
 | .quo=>grd (y≠0) (some (.int k (k.wrap (x.tdiv y))))
 | .rem=>grd (y≠0) (some (.int k (x.tmod y)))
 | .and=>some (.int k (k.wrap (BitVec.ofInt k.bits x &&& BitVec.ofInt k.bits y).toNat))
 | .or=>some (.int k (k.wrap (BitVec.ofInt k.bits x ||| BitVec.ofInt k.bits y).toNat))
 | .xor=>some (.int k (k.wrap (BitVec.ofInt k.bits x ^^^ BitVec.ofInt k.bits y).toNat))
 | .eql=>some (.bool (x==y))
 | .neq=>some (.bool (x != y))
 | .lss=>some (.bool (decide (x<y)))
 | .leq=>some (.bool (decide (x≤y)))
 | .gtr=>some (.bool (decide (x>y)))
 | .geq=>some (.bool (decide (x≥y)))
 | _=>none
def ak3 (op:BinOp)(x y:ByteArray):Option Value:=
 match op with
 | .add=>grd (x.size+y.size≤9223372036854775807) (some (.string (x++y)))
 | .eql=>some (.bool (x.toList==y.toList))
 | .neq=>some (.bool (!(x.toList==y.toList)))
 | .lss=>some (.bool (Op.bytesLess x.toList y.toList))
 | .leq=>some (.bool (Op.bytesLess x.toList y.toList||x.toList==y.toList))
 | .gtr=>some (.bool (!(Op.bytesLess x.toList y.toList||x.toList==y.toList)))
 | .geq=>some (.bool (!(Op.bytesLess x.toList y.toList)))
 | _=>none
def ak4 (op:BinOp)(k k':IntKind)(x y:Int):Option Value:=
 match op with
 | .shl=>grd (0≤y) (some (.int k (k.wrap (x*2 ^ (min y.toNat k.bits)))))
 | .shr=>grd (0≤y) (some (.int k (x.fdiv (2 ^ (min y.toNat k.bits)))))
 | op=>grd (k=k') (arith op k x y)
def ab4 (op:BinOp)(x y:Bool):TypeDesc→Option Value
 | .bool=>match op with
  | .eql=>some (.bool (x==y))
  | .neq=>some (.bool (x != y))
  | _=>none
 | _=>none
def ab5 (op:BinOp):TypeDesc→Option Value
 | .pointer _=>match op with
  | .eql=>some (.bool false)
  | .neq=>some (.bool true)
  | _=>none
 | _=>none
def aml:TypeDesc→Bool
 | .int .i64=>true
 | _=>false
def ajs (P:Program)(t:TypeId):Bool:=((P.underlying t).map aml).getD false
def RA (P:Program):Nat→List Field→Bool
 | _,[]=>true
 | n, f :: fs => f.name != "_" && f.offset == n && ajs P f.type && RA P (n + 1) fs
def Zd:TypeDesc→Option (List Field)
 | .struct fs=>some fs.toList
 | _=>none
def eqT (P:Program)(t:TypeId):Option Nat:=
 bnd (P.underlying t) fun d=>bnd (Zd d) fun fs=>grd (RA P 0 fs=true∧P.stoodInHeld t=false∧P.eqGuardType P.depth t=false) (some fs.length)
def D5:List V→List V→Option Bool
 | [],[]=>some true
 | .v (.int .i64 a)::r, .v (.int .i64 b)::q=>bnd (D5 r q) fun e=>some (a==b&&e)
 | _,_=>none
def ahg (e:Bool):BinOp→Option V
 | .eql=>some (.v (.bool e))
 | .neq=>some (.v (.bool !e))
 | _=>none
def bin (P:Program)(t:TypeId)(op:BinOp):V→V→Option V
 | .v (.int k x), .v (.int k' y)=>bnd (ak4 op k k' x y) fun v=>some (.v v)
 | .v (.string x), .v (.string y)=>bnd (ak3 op x y) fun v=>some (.v v)
 | .v (.bool x), .v (.bool y)=>bnd (P.underlying t) fun d=>bnd (ab4 op x y d) fun v=>some (.v v)
 | .ref _ _, .v (.pointer none)=>bnd (P.underlying t) fun d=>bnd (ab5 op d) fun v=>some (.v v)
 | .agg cs, .agg ds=>bnd (eqT P t) fun n=>grd (cs.length=n) (bnd (D5 cs ds) fun e=>ahg e op)
 | _,_=>none
def un (op:UnOp):V→Option V
 | .v (.int k n)=>match op with
  | .neg=>some (.v (.int k (k.wrap (0-n))))
  | _=>none
 | .v (.bool b)=>match op with
  | .not=>some (.v (.bool !b))
  | _=>none
 | _=>none
def idxOf:V→Option Int
 | .v (.int _ n)=>some n
 | _=>none
def Fw:V→Option Bool
 | .v (.bool b)=>some b
 | _=>none
def Xm (d:Int):Option V→Option Int
 | none=>some d
 | some v=>idxOf v
def bounds (n:Nat)(lo hi:Option V):Option (Nat×Nat):=
 bnd (Xm 0 lo) fun l=>bnd (Xm n hi) fun h=>grd (0≤l∧l≤h∧h≤n) (some (l.toNat,h.toNat))
def wid (k:Nat):List (List D)→Bool
 | []=>true
 | r::rows=>decide (r.length=k)&&r.all yI&&wid k rows
def cutV (k:Nat)(rows:List (List D))(lo hi:Option V)(f:List (List D)→V):Option V:=
 bnd (bounds rows.length lo hi) fun p=>grd (wid k rows=true) (some (f ((rows.drop p.1).take (p.2-p.1))))
def Fx (k:Nat)(s:S)(x:V)(lo hi:Option V):Option V:=
 match x with
 | .nil=>bnd (bounds 0 lo hi) fun _=>some .nil
 | .aL _ rows=>cutV k rows lo hi (.aL none)
 | .fz rows=>cutV k rows lo hi .fz
 | .own p=>bnd (look p s.dK) fun rows=>cutV k rows lo hi .fz
 | _=>none
def MI (x:V)(lo hi:Option V):Option V:=
 match x with
 | .v (.string b)=>bnd (bounds b.size lo hi) fun p=>some (.v (.string (b.extract p.1 p.2)))
 | _=>none
def qY (P:Program)(s:S)(x:V)(lo hi:Option V):TypeDesc→Option V
 | .string=>MI x lo hi
 | .slice e=>grd (fq P e=true) (Fx (P.cellsOf e) s x lo hi)
 | _=>none
def ab6 (P:Program)(f:Nat):TypeDesc→Option (Nat×TypeId)
 | .struct fs=>bnd fs[f]? fun d=>grd (P.cellsOf d.type≠0) (some (d.offset,d.type))
 | _=>none
def bZ (P:Program)(t:TypeId)(f:Nat):Option (Nat×TypeId):=bnd (P.underlying t) (ab6 P f)
def yO:V→Nat→Option V
 | .ref b off,n=>some (.ref b (off+n))
 | .pe base k i off,n=>some (.pe base k i (off+n))
 | _,_=>none
def aeG:TypeDesc→Option (TypeId×Option Nat)
 | .slice e=>some (e,none)
 | .array n e=>some (e,some n)
 | _=>none
def lZ (P:Program)(t:TypeId):Option (TypeId×Option Nat):=bnd (P.underlying t) aeG
def jN (P:Program)(t:TypeId):Option (List V):=
 bnd (P.info? t) fun i=>bnd i.zero fun z=>bnd (uX z) fun v=>some v.cells
def lI (P:Program)(s:S)(x:V)(i:Int)(e:TypeId):Option Nat→Option V
 | some n=>grd (fq P e=true∧0≤i∧i<n) (yO x (i.toNat*P.cellsOf e))
 | none=>bnd (s.rows x) fun rows=>grd (fq P e=true∧0≤i∧i<rows.length) (some (.pe x (P.cellsOf e) i.toNat 0))
def Oz:TypeDesc→Bool
 | .string=>true
 | _=>false
def H7 (P:Program)(t:TypeId)(x:V)(i:Int):Option V:=
 match x with
 | .v (.string b)=>bnd (P.underlying t) fun d=>grd (Oz d=true∧0≤i∧i<b.size) (some (.v (.int .u8 ((b.toList[i.toNat]?.getD 0).toNat:Int))))
 | .agg cs=>bnd (lZ P t) fun e=>bnd e.2 fun n=>grd (fq P e.1=true∧0≤i∧i<n) (bnd (o8 P e.1) fun g=>span cs (i.toNat*P.cellsOf e.1) (P.cellsOf e.1) g)
 | _=>none
def AV:V→Option D
 | .v x=>some (.a x)
 | .nil=>some (.l [])
 | _=>none
def aP (p:Nat):V→Bool
 | .own q=>p=q
 | .inn q _ _ _=>p=q
 | .pe base _ _ _=>aP p base
 | .agg cs=>any cs
 | .fU cs=>any cs
 | .fn _ cs=>any cs
 | _=>false
where any:List V→Bool
 | []=>false
 | c::r=>aP p c||any r
def AX (p:Nat):List (Nat×V)→List (Nat×V)
 | []=> []
 | x::r=>(x.1,if aP p x.2 then .dead else x.2)::AX p r
def AY (p:Nat):List V→List V
 | []=> []
 | c::r=>(if aP p c then .dead else c)::AY p r
def oH (p:Nat):List (Nat×List V)→List (Nat×List V)
 | []=> []
 | x::r=>(x.1,AY p x.2)::oH p r
def S.kill (s:S)(p:Nat):S:= {s with env:=AX p s.env,box:=oH p s.box,tree:=drop1 p s.tree}
def iT (s:S):List V→Option (List D×S)
 | []=>some ([],s)
 | .own p::r=>bnd (look p s.tree) fun rows=>bnd (iT (s.kill p) r) fun x=>some (.l rows::x.1,x.2)
 | v::r=>bnd (AV v) fun d=>bnd (iT s r) fun x=>some (d::x.1,x.2)
def kC (s:S):List V→Option (List (List D)×S)
 | []=>some ([],s)
 | v::r=>bnd (iT s v.cells) fun x=>bnd (kC x.2 r) fun y=>some (x.1::y.1,y.2)
def kD (p:Nat):V→Bool
 | .inn q _ _ _=>p=q
 | .pe base _ _ _=>kD p base
 | .agg cs=>any cs
 | .fU cs=>any cs
 | .fn _ cs=>any cs
 | _=>false
where any:List V→Bool
 | []=>false
 | c::r=>kD p c||any r
def QV (p:Nat):List (Nat×V)→List (Nat×V)
 | []=> []
 | x::r=>(x.1,if kD p x.2 then .dead else x.2)::QV p r
def Ze (p:Nat):List V→List V
 | []=> []
 | c::r=>(if kD p c then .dead else c)::Ze p r
def H8 (p:Nat):List (Nat×List V)→List (Nat×List V)
 | []=> []
 | x::r=>(x.1,Ze p x.2)::H8 p r
def S.turned (s:S)(p:Nat)(rows:List (List D)):S:= {s with env:=QV p s.env,box:=H8 p s.box,tree:=upd p rows s.tree}
def Fy (r:List D)(off:Nat):List D→List D
 | []=>r
 | d::ds=>Fy (r.set off d) (off+1) ds
def Cj (s:S)(q k i off:Nat)(v:V):Option D→Option S
 | some d=>bnd (look q s.tree) fun rows=>bnd rows[i]? fun r=>bnd r[off]? fun d0=>grd (r.length=k∧tq d0=true∧yI d=true) (some {s with tree:=upd q (rows.set i (r.set off d)) s.tree})
 | none=>bnd (iT s v.cells) fun x=>bnd (look q x.2.tree) fun rows=>bnd rows[i]? fun r=>grd (r.length=k∧off+x.1.length≤r.length∧v.cells.all V.one=true∧¬(1000000000≤q∧q<2000000000)) (some (x.2.turned q (rows.set i (Fy r off x.1))))
def H9 (s:S)(p i j k k' i' off:Nat):Option D→Option S
 | some d=>bnd (look p s.tree) fun rows=>bnd rows[i]? fun r=>bnd r[j]? fun c=>bnd (MH c) fun rs=>bnd rs[i']? fun r'=>bnd r'[off]? fun d0=>grd (r.length=k∧r'.length=k'∧tq d0=true∧yI d=true) (some {s with tree:=upd p (rows.set i (r.set j (.l (rs.set i' (r'.set off d))))) s.tree})
 | none=>none
def S.store (P:Program)(s:S)(t:TypeId)(p v:V):Option S:=
 grd (fq P t=true∧v.cells.length=P.cellsOf t) (match p with
  | .ref b off=>bnd (look b s.box) fun cs=>grd (off+v.cells.length≤cs.length∧v.cells.all V.one=true) (some {s with box:=upd b (setAt cs off v.cells) s.box})
  | .pe (.own q) k i off=>Cj s q k i off v v.atom
  | .pe (.inn p i j k) k' i' off=>H9 s p i j k k' i' off v.atom
  | _=>none)
def fresh (s:S)(t:Nat):Bool:=(look t s.tree).isNone&&(look t s.dK).isNone
def S.newTree (s:S)(t:Option Nat)(rows:List (List D)):Option S:=
 bnd t fun t=>grd (fresh s t=true) (some {s with env:=YtlpdjhiggpblcaaGreat.put t (.own t) s.env,tree:=(t,rows)::s.tree})
def upto (k n:Nat):List Nat→Bool
 | []=>decide (k=n)
 | j::r=>decide (j=k)&&upto (k+1) n r
def dU (rows:List (List D)):Bool:=rows.all fun r=>r.all tq
def LC (s:S)(q:Nat)(x:Option (List (List D))):Option (List (List D)×S):=match x with
 | some rows=>some (rows,if dU rows=true then s else s.kill q)
 | none=>bnd (look q s.dK) fun rows=>grd (dU rows=true) (some (rows,s))
def KV (s:S):V→Option (List (List D)×S)
 | .v (.string b)=>some (b.toList.map fun c=> [.a (.int .u8 (c.toNat:Int))],s)
 | .own q=>LC s q (look q s.tree)
 | .nil=>some ([],s)
 | .aL _ rows=>grd (dU rows=true) (some (rows,s))
 | .fz rows=>grd (dU rows=true) (some (rows,s))
 | .inn p i j k=>bnd (s.rows (.inn p i j k)) fun rows=>grd (dU rows=true) (some (rows,s))
 | _=>none
def iF (P:Program)(e:TypeId):Bool:=match P.info? e with
 | some i=>match i.zero with
  | some z=>decide (z.cells.size=i.size)&&decide (0<i.size)
  | none=>false
 | none=>false
def lC (P:Program)(e:TypeId)(n:Nat):Bool:=iF P e&&decide (n*P.bytesOf e≤140737488355328)&&decide (n≤4611686018427387904)
def S.Db (s:S)(p i j:Nat):Option S:=bnd (look p s.tree) fun rows=>bnd rows[i]? fun r=>grd (¬(1000000000≤p∧p<2000000000)) (some (s.turned p (rows.set i (r.set j .gone))))
def rW (P:Program)(s:S)(dst:Option Nat)(e:TypeId)(new:List (List D)):V→Option S
 | .nil=>grd (lC P e new.length=true∧wid (P.cellsOf e) new=true) (s.newTree dst new)
 | .own p=>bnd (look p s.tree) fun rows=>grd (lC P e (rows.length+new.length)=true∧wid (P.cellsOf e) rows=true∧wid (P.cellsOf e) new=true) ((s.kill p).newTree dst (rows++new))
 | .inn p i j k=>bnd (s.rows (.inn p i j k)) fun rows=>grd (lC P e (rows.length+new.length)=true∧wid (P.cellsOf e) rows=true∧wid (P.cellsOf e) new=true) (bnd (s.Db p i j) fun s=>s.newTree dst (rows++new))
 | _=>none
def iW:TypeDesc→Option TypeId
 | .slice e=>some e
 | _=>none
def J7 (P:Program)(s:S)(dst:Option Nat)(t:TypeId)(x y:V):Option S:=
 bnd (P.underlying t) fun d=>bnd (iW d) fun e=>bnd (KV s y) fun z=>rW P z.2 dst e z.1 x
def amm:TypeDesc→Bool
 | .slice _=>true
 | .string=>true
 | _=>false
def Eu (P:Program)(t:TypeId):Bool:=match P.underlying t with
 | some d=>amm d
 | none=>false
structure A9 where
 val:V
 box:List (List V)
 tree:List (Nat×List (List D))
abbrev aN:=List V→List (List V)→List (List (List D))→Option A9
structure iN where
 src:List V
 box:List Nat
 tree:List Nat
def pos (k:Nat):List Nat→Nat→Option Nat
 | [],_=>none
 | j::r,i=>if k=j then some i else pos k r (i+1)
def J8 (src:List V)(bs ts:List Nat)(b off:Nat)(x:Option Nat):Option (V×iN):=match x with
 | some i=>some (.ref i off,⟨src,bs,ts⟩)
 | none=>some (.ref bs.length off,⟨src,bs++ [b],ts⟩)
mutual
def jV (s:S)(c:iN):V→Option (V×iN)
 | .v x=>some (.v x,c)
 | .ref b off=>J8 c.src c.box c.tree b off (pos b c.box 0)
 | .agg cs=>bnd (wF s c cs) fun x=>some (.agg x.1,x.2)
 | .fn f cs=>bnd (wF s c cs) fun x=>some (.fn f x.1,x.2)
 | .nil=>some (.aL (some c.src.length) [],{c with src:=c.src++ [.nil]})
 | .aL o rows=>some (.aL (some c.src.length) rows,{c with src:=c.src++ [.aL o rows]})
 | .fz rows=>some (.aL (some c.src.length) rows,{c with src:=c.src++ [.fz rows]})
 | .own p=>bnd (s.rows (.own p)) fun rows=>some (.aL (some c.src.length) rows,{c with src:=c.src++ [.own p]})
 | .inn p i j k=>bnd (s.rows (.inn p i j k)) fun rows=>some (.aL (some c.src.length) rows,{c with src:=c.src++ [.inn p i j k]})
 | _=>none
def wF (s:S)(c:iN):List V→Option (List V×iN)
 | []=>some ([],c)
 | v::r=>bnd (jV s c v) fun x=>bnd (wF s x.2 r) fun y=>some (x.1::y.1,y.2)
end
def Dc (src:List V)(bs ts:List Nat)(p:Nat)(k:iN→Option (List V×iN)):Option Nat→Option (List (List D))→Option (List V×iN)
 | some _,_=>none
 | none,some rows=>bnd (k ⟨src++ [.own p],bs,ts⟩) fun x=>some (.aL (some src.length) rows::x.1,x.2)
 | none,none=>bnd (k ⟨src,bs,ts++ [p]⟩) fun x=>some (.own ts.length::x.1,x.2)
def cZ (s:S)(c:iN):List V→Option (List V×iN)
 | []=>some ([],c)
 | .own p::r=>Dc c.src c.box c.tree p (fun c=>cZ s c r) (pos p c.tree 0) (look p s.dK)
 | .dead::r=>bnd (cZ s c r) fun x=>some (.dead::x.1,x.2)
 | v::r=>bnd (jV s c v) fun x=>bnd (cZ s x.2 r) fun y=>some (x.1::y.1,y.2)
def mP (s:S)(c:iN):List Nat→Option (List (List V)×iN)
 | []=>some ([],c)
 | b::r=>bnd (look b s.box) fun cs=>bnd (cZ s c cs) fun x=>bnd (mP s x.2 r) fun y=>some (x.1::y.1,y.2)
def stable:V→Bool
 | .nil=>true
 | .aL _ _=>true
 | _=>false
def RB (t q:Nat)(x:Option Nat):Nat:=match x with
 | some p=>p
 | none=>1000*(t+1)+q
def gX (c:iN)(t q:Nat):Nat:=RB t q c.tree[q]?
mutual
def nK (c:iN)(t:Nat):V→Option V
 | .v x=>some (.v x)
 | .nil=>some .nil
 | .aL (some j) _=>c.src[j]?
 | .aL none rows=>grd ((c.src.all stable||rows.isEmpty)=true) (some (.aL none rows))
 | .own q=>some (.own (gX c t q))
 | .ref i off=>bnd c.box[i]? fun b=>some (.ref b off)
 | .agg cs=>bnd (AZ c t cs) fun cs=>some (.agg cs)
 | .fU cs=>bnd (AZ c t cs) fun cs=>some (.fU cs)
 | .dead=>some .dead
 | _=>none
def AZ (c:iN)(t:Nat):List V→Option (List V)
 | []=>some []
 | v::r=>bnd (nK c t v) fun v=>bnd (AZ c t r) fun r=>some (v::r)
end
def iX (c:iN)(t:Nat):List Nat→List (List V)→S→Option S
 | [],[],s=>some s
 | b::bs,cs::css,s=>bnd (AZ c t cs) fun cs=>iX c t bs css {s with box:=upd b cs s.box}
 | _,_,_=>none
def jQ (c:iN)(t:Nat):List (Nat×List (List D))→S→Option S
 | [],s=>some s
 | (q,rows)::r,s=>if q<c.tree.length then jQ c t r s else grd (fresh s (gX c t q)=true∧gX c t q<1000000000) (jQ c t r {s with tree:=(gX c t q,rows)::s.tree})
def qA (s:S):List Nat→Option (List (List (List D)))
 | []=>some []
 | p::r=>bnd (look p s.tree) fun rows=>bnd (qA s r) fun r=>some (rows::r)
def J9 (s:S)(p:Nat)(x:Option (List (List D))):S:=match x with
 | some rows=> {s with tree:=upd p rows s.tree}
 | none=>s.kill p
def gV (rt:List (Nat×List (List D))):List Nat→Nat→S→S
 | [],_,s=>s
 | p::ps,i,s=>gV rt ps (i+1) (J9 s p (look i rt))
def S.back (s:S)(dst:Option Nat)(c:iN)(r:A9):Option S:=
 bnd (iX c (dst.getD 0) c.box r.box (gV r.tree c.tree 0 s)) fun s=>bnd (jQ c (dst.getD 0) r.tree s) fun s=>bnd (nK c (dst.getD 0) r.val) fun v=>some (s.put dst v)
def xA:A9→Option (List V)
 | ⟨.ref 0 0,[cs],[]⟩=>some cs
 | _=>none
def Rj (s:S)(t:Option Nat)(cs:List V):Option S:=
 bnd t fun t=>grd ((look t s.box).isNone=true) (some {s with env:=YtlpdjhiggpblcaaGreat.put t (.ref t 0) s.env,box:=(t,cs)::s.box})
def Fz (s:S)(dst:Option Nat)(c:iN)(r:A9):Option (List V)→Option S
 | some cs=>if(c.box.isEmpty&&c.tree.isEmpty)=true then bnd (AZ c (dst.getD 0) cs) (Rj s dst)else s.back dst c r
 | none=>s.back dst c r
def S.PY (s:S)(dst:Option Nat)(c:iN)(r:A9):Option S:=Fz s dst c r (xA r)
theorem LD {r:A9}{cs:List V}(h:xA r=some cs):r=⟨.ref 0 0,[cs],[]⟩:=by
 unfold xA at h
 split at h
 ·injection h with h;subst h;rfl
 ·cases h
theorem afj (v:V)(t:List (Nat×List (List D))):xA ⟨v,[],t⟩=none:=by
 cases e:xA ⟨v,[],t⟩with
 | none=>rfl
 | some cs=>have h:=LD e;injection h with _ h2 _;cases h2
theorem Zf {s s':S}{d:Option Nat}{c:iN}{r:A9}(h:s.back d c r=some s'):s.PY d c r=some s':=by
 unfold S.PY
 cases e:xA r with
 | none=>exact h
 | some cs=>
  have:=LD e
  subst this
  simp only [Fz]
  split
  ·rename_i hc
   rw [Bool.and_eq_true,List.isEmpty_iff,List.isEmpty_iff]at hc
   unfold S.back at h
   rw [hc.1]at h
   simp only [iX]at h
   cases h
  ·exact h
def Zg (c:iN):Bool:=c.tree.all fun p=>c.src.all fun v=> !aP p v
def OA (c:iN)(n:Nat):Bool:=Zg c&&decide (c.box.length=n)
def qh (s:S)(c:iN):List V→Option (List V×iN)
 | []=>some ([],c)
 | .agg cs::r=>bnd (cZ s c cs) fun x=>bnd (qh s x.2 r) fun y=>some (.agg x.1::y.1,y.2)
 | v::r=>bnd (cZ s c [v]) fun x=>bnd (qh s x.2 r) fun y=>some (x.1++y.1,y.2)
def PZ (m:Bool)(s:S)(c:iN)(args:List V):Option (List V×iN):=if m then qh s c args else wF s c args
def wG (m:Bool)(M:aN)(s:S)(dst:Option Nat)(args:List V):Option S:=
 bnd (PZ m s ⟨[],[],[]⟩ args) fun x=>bnd (mP s x.2 x.2.box) fun y=>bnd (qA s y.2.tree) fun ts=>
  grd (OA y.2 y.1.length=true) (bnd (M x.1 y.1 ts) fun r=>s.PY dst y.2 r)
def amn:TypeDesc→Bool
 | .slice _=>true
 | _=>false
def AF (P:Program)(t:TypeId):Bool:=match P.underlying t with
 | some d=>amn d
 | none=>false
def ab7 (P:Program)(t:TypeId):Bool:=match P.underlying t with
 | some d=>Oz d
 | none=>false
def kE (P:Program)(s:S)(dst:Option Nat)(b:Builtin)(ats:Array TypeId)(args:List V):Option S:=
 match b,args with
 | .len,[.v (.string x)]=>bnd ats[0]? fun t=>grd (ab7 P t=true) (some (s.put dst (.v (.int .i64 x.size))))
 | .len,[x]=>bnd ats[0]? fun t=>grd (AF P t=true) (bnd (s.rows x) fun rows=>some (s.put dst (.v (.int .i64 rows.length))))
 | .append,[x,y]=>bnd ats[0]? fun t=>bnd ats[1]? fun t1=>grd (Eu P t1=true) (J7 P s dst t x y)
 | .max,[.v (.int .i64 x), .v (.int .i64 y)]=>some (s.put dst (.v (.int .i64 (max x y))))
 | .min,[.v (.int .i64 x), .v (.int .i64 y)]=>some (s.put dst (.v (.int .i64 (min x y))))
 | _,_=>none
def qZ:List D→Option UInt8
 | [.a (.int .u8 n)]=>some (UInt8.ofNat n.toNat)
 | _=>none
def FB:TypeDesc→Bool
 | .int .u8=>true
 | _=>false
def yP (P:Program)(s:S)(x:V)(ds:TypeDesc):Option V:=
 bnd (iW ds) fun e=>bnd (P.underlying e) fun d=>grd (FB d=true) (bnd (s.rows x) fun rows=>bnd (bK qZ rows) fun l=>some (.v (.string ⟨l.toArray⟩)))
def xB (P:Program)(s:S)(x:V)(ds:TypeDesc):TypeDesc→Option V
 | .int k=>bnd (idxOf x) fun n=>some (.v (.int k (k.wrap n)))
 | .string=>match x with
  | .v (.string b)=>some (.v (.string b))
  | .v _=>none
  | x=>yP P s x ds
 | _=>none
def nS (b:ByteArray):List (List D):=b.data.toList.map fun c=> [.a (.int .u8 (c.toNat:Int))]
def Ia (s:S)(dst:Option Nat):V→Option S
 | .v (.string b)=>bnd dst fun t=>grd (fresh s t=true∧b.size≤4611686018427387904) (some {s with env:=YtlpdjhiggpblcaaGreat.put t (.fz (nS b)) s.env,dK:=(t,[])::s.dK})
 | _=>none
def MJ (P:Program)(s:S)(dst:Option Nat)(x:V)(ds:TypeDesc):TypeDesc→Option S
 | .slice e=>bnd (P.underlying e) fun d=>grd (FB d=true) (Ia s dst x)
 | d=>bnd (xB P s x ds d) fun v=>some (s.put dst v)
inductive Parts where
 | ajt (fs:Array Field)
 | arr (e:TypeId)
def RD (P:Program):Parts→Nat→Option (Nat×Nat)
 | .ajt fs,i=>bnd fs[i]? fun f=>some (f.offset,P.cellsOf f.type)
 | .arr e,i=>some (i*P.cellsOf e,P.cellsOf e)
def sN (P:Program)(fs:Parts)(cs:List V):List (Nat×V)→Option (List V)
 | []=>some cs
 | (i,v)::r=>bnd (RD P fs i) fun f=>grd (v.cells.length=f.2∧f.1+v.cells.length≤cs.length∧v.cells.all V.one=true) (sN P fs (setAt cs f.1 v.cells) r)
def zI:TypeDesc→Option Parts
 | .struct fs=>some (.ajt fs)
 | .array _ e=>some (.arr e)
 | _=>none
def fieldsD (P:Program):TypeDesc→Bool
 | .struct fs=>fs.toList.all fun f=>fq P f.type
 | .array _ e=>fq P e
 | _=>false
def jr (P:Program)(t:TypeId):Bool:=match P.underlying t with
 | some d=>fieldsD P d
 | none=>false
def o9 (s:S)(x:Nat×Operand):Option (Nat×V):=bnd (s.ev x.2) fun v=>some (x.1,v)
def kg (s:S):Option Operand→Option (Option V)
 | none=>some none
 | some x=>bnd (s.ev x) fun v=>some (some v)
def P5:V→Option V
 | .ref b off=>some (.ref b off)
 | .pe b k i off=>some (.pe b k i off)
 | _=>none
def RF (i:Nat):V→Option V
 | .fU vs=>vs[i]?
 | _=>none
def VG:V→Option (List V)
 | .agg cs=>some cs
 | _=>none
def S.uY (s:S)(t:Option Nat)(cs:List V):Option S:=
 bnd t fun t=>grd ((look t s.box).isNone=true) (some {s with env:=YtlpdjhiggpblcaaGreat.put t (.ref t 0) s.env,box:=(t,cs)::s.box})
def Xn:V→Option (FuncId×List V)
 | .fn f cs=>some (f,cs)
 | _=>none
def OB:V→Bool
 | .v _=>true
 | _=>false
def Rk (s:S)(dst:Option Nat)(p i j:Nat)(rows:List (List D))(r:List D):A9→Option S
 | ⟨v,[],[(0,rs)]⟩=>grd (OB v=true) (some ({s with tree:=upd p (rows.set i (r.set j (.l rs))) s.tree}.put dst v))
 | _=>none
def Zh (M:aN)(s:S)(dst:Option Nat)(p i j k:Nat)(rest:List V):Option S:=
 bnd (look p s.tree) fun rows=>bnd rows[i]? fun r=>bnd r[j]? fun d=>bnd (MH d) fun rs=>grd (r.length=k∧rest.all OB=true) (bnd (M (.own 0::rest) [] [rs]) (Rk s dst p i j rows r))
def xC (m:Bool)(M:aN)(s:S)(dst:Option Nat):List V→Option S
 | .inn p i j k::rest=>if m then Zh M s dst p i j k rest else wG m M s dst (.inn p i j k::rest)
 | args=>wG m M s dst args
def LG (P:Program)(G:List (FuncId×Bool×aN))(s:S)(dst:Option Nat)(ats:Array TypeId)(args:List V):Callee→Option S
 | .builtin b=>kE P s dst b ats args
 | .value f=>bnd (s.ev f) fun f=>bnd (Xn f) fun f=>bnd (look f.1 G) fun M=>xC M.1 M.2 s dst (args++f.2)
 | _=>none
def RG (P:Program)(s:S)(dst:Option Nat)(t:TypeId)(n c:V):Option S:=
 bnd (P.underlying t) fun d=>bnd (iW d) fun e=>bnd (idxOf n) fun l=>bnd (idxOf c) fun cc=>grd (iF P e=true∧0≤l∧l=cc∧l.toNat*P.bytesOf e≤140737488355328∧l≤4611686018427387904) (bnd (jN P e) fun z=>bnd (bK AV z) fun r=>s.newTree dst (List.replicate l.toNat r))
def Xo (s:S)(dst:Option Nat)(k p:Nat)(rows:List (List D))(lo hi:Option V):Option S:=
 bnd (bounds rows.length lo hi) fun q=>if q.1<q.2 then grd (wid k rows=true) ((s.kill p).newTree dst ((rows.drop q.1).take (q.2-q.1)))else some (s.put dst (.aL none []))
def ahh (P:Program)(s:S)(dst:Option Nat)(p:Nat)(rows:List (List D))(lo hi:Option V):TypeDesc→Option S
 | .slice e=>grd (fq P e=true) (Xo s dst (P.cellsOf e) p rows lo hi)
 | _=>none
def ak5 (P:Program)(s:S)(dst:Option Nat)(p:Nat)(lo hi:Option V)(d:TypeDesc):Option (List (List D))→Option S
 | some rows=>ahh P s dst p rows lo hi d
 | none=>bnd (qY P s (.own p) lo hi d) fun v=>some (s.put dst v)
def ab8 (P:Program)(s:S)(dst:Option Nat)(p:Nat)(lo hi:Option V)(d:TypeDesc):Option (List (List D))→Option S
 | some _=>bnd (qY P s (.own p) lo hi d) fun v=>some (s.put dst v)
 | none=>ak5 P s dst p lo hi d (look p s.tree)
def D6 (P:Program)(s:S)(dst:Option Nat)(x:V)(lo hi:Option V)(d:TypeDesc):Option S:=match x with
 | .own p=>ab8 P s dst p lo hi d (look p s.dK)
 | x=>bnd (qY P s x lo hi d) fun v=>some (s.put dst v)
def fnV (vs:List V)(first:Array Operand):Fn→Option V
 | .func f=>grd (first.isEmpty=true) (some (.fn f vs))
 | _=>none
def intD:TypeDesc→Bool
 | .int .i64=>true
 | _=>false
def mapD:TypeDesc→Option (TypeId×TypeId)
 | .map k e=>some (k,e)
 | _=>none
def ahi:Value→Option Int
 | .int .i64 n=>some n
 | _=>none
def QW (P:Program)(t:TypeId):Option Int:=
 bnd (P.underlying t) fun d=>bnd (mapD d) fun x=>bnd (P.underlying x.1) fun k=>grd (intD k=true) (bnd (P.info? x.2) fun i=>bnd i.zero ahi)
def afk:V→Option (List (Int×Int))
 | .mp es=>some es
 | _=>none
def rX (k:Int):List (Int×Int)→Option Int
 | []=>none
 | (j,x)::r=>if k=j then some x else rX k r
def VH:V→Option Int
 | .v (.int .i64 n)=>some n
 | _=>none
def OC (z:Int):Option Int→V
 | some x=> .fU [.v (.int .i64 x), .v (.bool true)]
 | none=> .fU [.v (.int .i64 z), .v (.bool false)]
def D7:List (Int×Int)→Bool
 | []=>true
 | x::r=>(rX x.1 r).isNone&&D7 r
def P6 (t:TypeId)(d:Nat):Oper→Option (Int×Int)
 | ⟨none, .insert t' (.tmp d') (.const (.int .i64 k)) (.const (.int .i64 v)),_,_,_,none⟩=>if t'=t∧d'=d then some (k,v)else none
 | _=>none
def Xp {α:Type}(f:Int×Int→α)(b:α):Option (Int×Int)→α
 | some e=>f e
 | none=>b
def pq (t:TypeId)(d:Nat):List Oper→List (Int×Int)→List (Int×Int)×List Oper
 | [],acc=>(acc,[])
 | o::r,acc=>Xp (fun e=>pq t d r (acc++ [e])) (acc,o::r) (P6 t d o)
def RH:List Oper→Option (TypeId×Nat×List (Int×Int)×List Oper)
 | ⟨some d, .makeMap t none,_,_,_,none⟩::r=>some (t,d,(pq t d r []).1,(pq t d r []).2)
 | _=>none
def S.Rl (s:S)(d:Nat)(es:List (Int×Int)):S:= {s with env:=YtlpdjhiggpblcaaGreat.put d (.mp es) s.env,dK:=(d,[])::s.dK}
def iR (P:Program)(G:List (FuncId×Bool×aN))(s:S)(dst:Option Nat):Op→Option S
 | .move x=>bnd (s.ev x) fun v=>some (s.put dst v)
 | .assign x=>bnd (s.ev x) fun v=>some (s.put dst v)
 | .pick c x y=>bnd (s.ev c) fun c=>bnd (Fw c) fun b=>bnd (s.ev (if b then x else y)) fun v=>some (s.put dst v)
 | .alloc t=>bnd (jN P t) fun cs=>s.uY dst cs
 | .box t x=>bnd (s.ev x) fun v=>grd (v.cells.length=P.cellsOf t∧v.cells.all V.one=true) (s.uY dst v.cells)
 | .build t ps=>bnd (P.underlying t) fun d=>bnd (zI d) fun fs=>grd (jr P t=true) (bnd (jN P t) fun z=>bnd (bK (o9 s) ps.toList) fun vs=>bnd (sN P fs z vs) fun cs=>some (s.put dst (.agg cs)))
 | .buildSlice t n ps=>bnd (P.underlying t) fun d=>bnd (iW d) fun e=>bnd (bK (o9 s) ps.toList) fun vs=>
   grd ((iF P e&&decide (n*P.cellsOf e≤16777216)&&upto 0 n (vs.map (·.1))&&vs.all fun v=>decide (v.2.cells.length=P.cellsOf e)&&v.2.cells.all V.one)=true) (bnd (kC s (vs.map (·.2))) fun x=>x.2.newTree dst x.1)
 | .load t p=>bnd (s.ev p) fun p=>bnd (s.load P t p) fun v=>some (s.put dst v)
 | .store t p x=>bnd (s.ev p) fun p=>bnd (s.ev x) fun v=>bnd (s.store P t p v) fun s=>some (s.skip dst)
 | .nilCheck x=>bnd (s.ev x) fun v=>bnd (P5 v) fun v=>some (s.put dst v)
 | .binOp op t x y _=>bnd (s.ev x) fun x=>bnd (s.ev y) fun y=>bnd (bin P t op x y) fun v=>some (s.put dst v)
 | .unOp op _ x=>bnd (s.ev x) fun x=>bnd (un op x) fun v=>some (s.put dst v)
 | .convert t0 t x=>bnd (s.ev x) fun x=>bnd (P.underlying t0) fun d0=>bnd (P.underlying t) fun d=>MJ P s dst x d0 d
 | .slice t x lo hi none=>bnd (s.ev x) fun x=>bnd (kg s lo) fun l=>bnd (kg s hi) fun h=>bnd (P.underlying t) fun d=>D6 P s dst x l h d
 | .fieldAddr t x f=>bnd (s.ev x) fun x=>bnd (bZ P t f) fun f=>bnd (yO x f.1) fun v=>some (s.put dst v)
 | .field t x f=>bnd (s.ev x) fun x=>bnd (VG x) fun cs=>bnd (bZ P t f) fun f=>bnd (o8 P f.2) fun g=>bnd (span cs f.1 (P.cellsOf f.2) g) fun v=>some (s.put dst v)
 | .indexAddr t x i=>bnd (s.ev x) fun x=>bnd (s.ev i) fun i=>bnd (idxOf i) fun i=>bnd (lZ P t) fun e=>bnd (lI P s x i e.1 e.2) fun v=>some (s.put dst v)
 | .index t x i=>bnd (s.ev x) fun x=>bnd (s.ev i) fun i=>bnd (idxOf i) fun i=>bnd (H7 P t x i) fun v=>some (s.put dst v)
 | .extract x i=>bnd (s.ev x) fun x=>bnd (RF i x) fun v=>some (s.put dst v)
 | .makeFunc fn first cap=>bnd (bK s.ev cap.toList) fun vs=>bnd (fnV vs first fn) fun v=>some (s.put dst v)
 | .makeSlice t n c=>bnd (s.ev n) fun n=>bnd (s.ev c) fun c=>RG P s dst t n c
 | .call c=>bnd (bK s.ev c.args.toList) fun args=>LG P G s dst c.argTypes args c.callee
 | .lookup t m k true=>bnd (s.ev m) fun m=>bnd (s.ev k) fun k=>bnd (afk m) fun es=>bnd (VH k) fun n=>bnd (QW P t) fun z=>some (s.put dst (OC z (rX n es)))
 | _=>none
def LH (want:Bool)(x:Option V):Option Bool:=match x with
 | some (.v (.bool b))=>some (b==want)
 | some (.fU [])=>some false
 | _=>none
def Ka (s:S)(want:Bool)(x:Option Nat):Option Bool:=match x with
 | some d=>LH want (look d s.env)
 | none=>some false
def S.wants (ops:Array Oper)(s:S):Option (Nat×Bool)→Option Bool
 | none=>some true
 | some (j,want)=>Ka s want ((ops[j]?).bind (·.dst))
def ren (m:List (Nat×Nat))(p:Nat):Nat:=(look p m).getD p
mutual
def Ck (m:List (Nat×Nat)):V→V
 | .own p=> .own (ren m p)
 | .inn p i j k=> .inn (ren m p) i j k
 | .pe b k i off=> .pe (Ck m b) k i off
 | .agg cs=> .agg (HY m cs)
 | .fU cs=> .fU (HY m cs)
 | .fn f cs=> .fn f (HY m cs)
 | v=>v
def HY (m:List (Nat×Nat)):List V→List V
 | []=> []
 | v::r=>Ck m v::HY m r
end
mutual
def uJ (l:List Nat):V→List Nat
 | .own p=>if l.contains p then l else l++ [p]
 | .inn p _ _ _=>if l.contains p then l else l++ [p]
 | .pe b _ _ _=>uJ l b
 | .agg cs=>Ba l cs
 | .fU cs=>Ba l cs
 | .fn _ cs=>Ba l cs
 | _=>l
def Ba (l:List Nat):List V→List Nat
 | []=>l
 | v::r=>Ba (uJ l v) r
end
def eH (n:Nat):List (Nat×V)→List (Nat×V)×List Nat
 | []=>([],[])
 | (t, .nil)::r=>let (r,ps):=eH (n+1) r;((t, .own n)::r,n::ps)
 | x::r=>let (r,ps):=eH n r;(x::r,ps)
def cu (n:Nat):List V→List V×List Nat
 | []=>([],[])
 | .nil::r=>let (r,ps):=cu (n+1) r;(.own n::r,n::ps)
 | x::r=>let (r,ps):=cu n r;(x::r,ps)
def mQ (n:Nat):List (Nat×List V)→List (Nat×List V)×List Nat
 | []=>([],[])
 | (b,cs)::r=>let (cs,ps):=cu n cs;let (r,qs):=mQ (n+ps.length) r;((b,cs)::r,ps++qs)
def ahj (ts:List Nat)(env:List (Nat×V)):Option (List (Nat×V)):=bK (fun t=>bnd (look t env) fun v=>some (t,v)) ts
def ahk (bs:List Nat)(box:List (Nat×List V)):Option (List (Nat×List V)):=bK (fun b=>bnd (look b box) fun v=>some (b,v)) bs
def iV (bs:List Nat):V→Bool
 | .ref b _=>bs.contains b
 | .pe b _ _ _=>iV bs b
 | .agg cs=>go cs
 | .fU cs=>go cs
 | .fn _ cs=>go cs
 | _=>true
where go:List V→Bool
 | []=>true
 | c::r=>iV bs c&&go r
def zR (s:S)(p:Nat)(x:Option (List (List D))):Option S:=match x with
 | some rows=>some {s with tree:=drop1 p s.tree,dK:=(p,rows)::s.dK}
 | none=>some s
def ko (s:S):List V→Option S
 | []=>some s
 | .own p::r=>bnd (zR s p (look p s.tree)) fun s=>ko s r
 | _::r=>ko s r
def MK (s:S):V→Option S
 | .own p=>zR s p (look p s.tree)
 | .ref b _=>bnd (look b s.box) fun cs=>ko s cs
 | _=>some s
def S.freeze (s:S)(t:Nat):Option S:=bnd (look t s.env) fun v=>MK s v
def OD (p i:Nat)(k:Nat→List (Nat×Nat×List (List D))):Option (List (List D))→List (Nat×Nat×List (List D))
 | some rows=>if 1000000000≤p∧p<2000000000 then(p,p,rows)::k i else(p,2000000000+i,rows)::k (i+1)
 | none=>k i
def metIn (tree:List (Nat×List (List D))):List Nat→Nat→List (Nat×Nat×List (List D))
 | [],_=> []
 | p::r,i=>OD p i (metIn tree r) (look p tree)
def S.K5 (m:List (Nat×Nat×List (List D)))(env:List (Nat×V))(box:List (Nat×List V))(dK:List (Nat×List (List D))):S:=
 {env:=env.map fun x=>(x.1,Ck (m.map fun x=>(x.1,x.2.1)) x.2),box:=box.map fun x=>(x.1,HY (m.map fun x=>(x.1,x.2.1)) x.2),tree:=(m.map (·.2)).reverse,dK}
def S.aeH (env:List (Nat×V))(box:List (Nat×List V))(tree dK:List (Nat×List (List D))):S:=
 S.K5 (metIn tree (Ba (Ba [] (env.map (·.2))) (box.flatMap (·.2))) (1000*dK.length)) env box dK
def S.head (ts bs:List Nat)(s:S):Option S:=
 bnd (ahj ts s.env) fun env=>bnd (ahk bs s.box) fun box=>
  grd ((desc ts&&desc bs&&env.all (fun x=>iV bs x.2)&&box.all (fun x=>x.2.all (iV bs))&&s.tree.all (fun x=>decide (x.1<3000000000))&&s.dK.all (fun x=>decide (x.1<2000000000+1000*s.dK.length))&&decide (s.dK.length<1000))=true)
   (some (S.aeH (eH 3000000000 env).1 (mQ (3000000000+(eH 3000000000 env).2.length) box).1
    (s.tree++((eH 3000000000 env).2++(mQ (3000000000+(eH 3000000000 env).2.length) box).2).map fun p=>(p,[])) s.dK))
def uK (s:S):List Nat→Option S
 | []=>some s
 | t::r=>bnd (s.freeze t) fun s=>uK s r
structure oI where
 heads:List (Nat×List Nat×List Nat)
 frees:List (Nat×List Nat)
 draws:List (Nat×List Nat×List (Nat×List Nat)):= []
 amo:List (Nat×List Nat×List Nat):= []
def Xq (x:Option (List Nat×List (Nat×List Nat))):List Nat×List (Nat×List Nat):=match x with
 | some l=>l
 | none=>([],[])
def oI.bars (g:oI)(id:Nat):List Nat×List (Nat×List Nat):=Xq (look id g.draws)
def Ib (s:S)(x:Option (List Nat×List Nat)):Option S:=match x with
 | some x=>s.head x.1 x.2
 | none=>some s
def oI.head (g:oI)(id:Nat)(s:S):Option S:=Ib s (look id g.heads)
def VJ (s:S)(x:Option (List Nat)):Option S:=match x with
 | some ts=>uK s ts
 | none=>some s
def oI.reg (g:oI)(id:Nat)(s:S):Option S:=bnd (Ib s (look id g.amo)) fun s=>VJ s (look id g.frees)
inductive Q where
 | on (s:S)
 | off
def UL (x:Option S):Option Q:=match x with
 | some s=>some (.on s)
 | none=>none
@[simp ↓] theorem nY (s:S):UL (some s)=some (.on s):=_root_.id rfl
@[simp ↓] theorem amq:UL none=none:=_root_.id rfl
def Df (P:Program)(G:List (FuncId×Bool×aN))(ops:Array Oper):List Oper→Q→Option Q
 | [],q=>some q
 | o::r, .on s=>bnd (s.wants ops o.guard) fun g=>if g then bnd (UL (iR P G s o.dst o.op)) fun q=>Df P G ops r q else bnd (UL (some (s.put o.dst (.fU [])))) fun q=>Df P G ops r q
 | _::_, .off=>none
theorem iY {α β γ:Type}(x:Option α)(f:α→Option β)(g:β→Option γ):bnd (bnd x f) g=bnd x fun a=>bnd (f a) g:=by cases x<;>rfl
theorem oJ {α β:Type}{c:Prop} [Decidable c](x:Option α)(f:α→Option β):bnd (grd c x) f=grd c (bnd x f):=by unfold grd;split<;>rfl
def ML (b:Builtin)(args:List V):Option V:=match b,args with
 | .max,[.v (.int .i64 x), .v (.int .i64 y)]=>some (.v (.int .i64 (max x y)))
 | .min,[.v (.int .i64 x), .v (.int .i64 y)]=>some (.v (.int .i64 (min x y)))
 | _,_=>none
def MN (args:List V):Callee→Option V
 | .builtin b=>ML b args
 | _=>none
def jl (P:Program)(s:S):Op→Option V
 | .move x=>s.ev x
 | .assign x=>s.ev x
 | .pick c x y=>bnd (s.ev c) fun c=>bnd (Fw c) fun b=>s.ev (if b then x else y)
 | .build t ps=>bnd (P.underlying t) fun d=>bnd (zI d) fun fs=>grd (jr P t=true) (bnd (jN P t) fun z=>bnd (bK (o9 s) ps.toList) fun vs=>bnd (sN P fs z vs) fun cs=>some (.agg cs))
 | .load t p=>bnd (s.ev p) fun p=>s.load P t p
 | .nilCheck x=>bnd (s.ev x) fun v=>P5 v
 | .binOp op t x y _=>bnd (s.ev x) fun x=>bnd (s.ev y) fun y=>bin P t op x y
 | .unOp op _ x=>bnd (s.ev x) fun x=>un op x
 | .convert t0 t x=>bnd (s.ev x) fun x=>bnd (P.underlying t0) fun d0=>bnd (P.underlying t) fun d=>xB P s x d0 d
 | .slice t x lo hi none=>bnd (s.ev x) fun x=>bnd (kg s lo) fun l=>bnd (kg s hi) fun h=>bnd (P.underlying t) fun d=>qY P s x l h d
 | .fieldAddr t x f=>bnd (s.ev x) fun x=>bnd (bZ P t f) fun f=>yO x f.1
 | .field t x f=>bnd (s.ev x) fun x=>bnd (VG x) fun cs=>bnd (bZ P t f) fun f=>bnd (o8 P f.2) fun g=>span cs f.1 (P.cellsOf f.2) g
 | .indexAddr t x i=>bnd (s.ev x) fun x=>bnd (s.ev i) fun i=>bnd (idxOf i) fun i=>bnd (lZ P t) fun e=>lI P s x i e.1 e.2
 | .index t x i=>bnd (s.ev x) fun x=>bnd (s.ev i) fun i=>bnd (idxOf i) fun i=>H7 P t x i
 | .extract x i=>bnd (s.ev x) fun x=>RF i x
 | .makeFunc fn first cap=>bnd (bK s.ev cap.toList) fun vs=>fnV vs first fn
 | .call c=>bnd (bK s.ev c.args.toList) fun args=>MN args c.callee
 | _=>none
structure Eff where
 val:V
 tree:List (Nat×List (List D))
 box:List (Nat×List V)
def vo (t:Nat):List (Nat×List (List D))→List (Nat×List (List D))
 | []=> []
 | (q,rows)::r=>(1000*(t+1)+q,rows)::vo t r
def FC (M:aN)(s:S)(d:Nat)(args:List V):Option Eff:=
 bnd (wF s ⟨[],[],[]⟩ args) fun x=>grd ((x.2.box.isEmpty&&x.2.tree.isEmpty)=true) (bnd (M x.1 [] []) fun r=>grd (r.box.isEmpty=true) (bnd (nK x.2 d r.val) fun v=>some ⟨v,vo d r.tree,[]⟩))
def S.app (s:S)(d:Option Nat)(e:Eff):S:= {env:=(s.put d e.val).env,box:=e.box++s.box,tree:=e.tree.reverse++s.tree,dK:=s.dK}
def jv (s:S):List (Nat×List (List D))→Bool
 | []=>true
 | x::r=>fresh s x.1&&decide (x.1<1000000000)&&jv {s with tree:=x::s.tree} r
def C9 (P:Program)(s:S)(b:Builtin)(ats:Array TypeId)(args:List V):Option V:=
 match b,args with
 | .len,[.v (.string x)]=>bnd ats[0]? fun t=>grd (ab7 P t=true) (some (.v (.int .i64 x.size)))
 | .len,[x]=>bnd ats[0]? fun t=>grd (AF P t=true) (bnd (s.rows x) fun rows=>some (.v (.int .i64 rows.length)))
 | .max,[.v (.int .i64 x), .v (.int .i64 y)]=>some (.v (.int .i64 (max x y)))
 | .min,[.v (.int .i64 x), .v (.int .i64 y)]=>some (.v (.int .i64 (min x y)))
 | _,_=>none
def nE (s:S):V→Option (List (List D))
 | .v (.string b)=>some (b.toList.map fun c=> [.a (.int .u8 (c.toNat:Int))])
 | .v _=>none
 | x=>bnd (s.rows x) fun rows=>grd (dU rows=true) (some rows)
def Ic (P:Program)(s:S)(d:Nat)(e:TypeId)(new:List (List D)):V→Option Eff
 | .nil=>grd (lC P e new.length=true∧wid (P.cellsOf e) new=true) (some ⟨.own d,[(d,new)],[]⟩)
 | .own p=>bnd (look p s.tree) fun rows=>grd (rows.isEmpty=true∧lC P e new.length=true∧wid (P.cellsOf e) new=true) (some ⟨.own d,[(d,new)],[]⟩)
 | _=>none
def Zi (P:Program)(s:S)(d:Nat)(b:Builtin)(ats:Array TypeId)(args:List V):Option Eff:=
 match b,args with
 | .append,[x,y]=>bnd ats[0]? fun t=>bnd ats[1]? fun t1=>grd (Eu P t1=true) (bnd (P.underlying t) fun ds=>bnd (iW ds) fun e=>bnd (nE s y) fun new=>Ic P s d e new x)
 | b,args=>bnd (C9 P s b ats args) fun v=>some ⟨v,[],[]⟩
def yQ (P:Program)(G:List (FuncId×Bool×aN))(s:S)(d:Nat)(ats:Array TypeId)(args:List V):Callee→Option Eff
 | .builtin b=>Zi P s d b ats args
 | .value f=>bnd (s.ev f) fun f=>bnd (Xn f) fun f=>bnd (look f.1 G) fun M=>grd (M.1=false) (FC M.2 s d (args++f.2))
 | _=>none
def qj (P:Program)(G:List (FuncId×Bool×aN))(s:S)(d:Nat):Op→Option Eff
 | .alloc t=>bnd (jN P t) fun cs=>some ⟨.ref d 0,[],[(d,cs)]⟩
 | .box t x=>bnd (s.ev x) fun v=>grd (v.cells.length=P.cellsOf t∧v.cells.all V.one=true) (some ⟨.ref d 0,[],[(d,v.cells)]⟩)
 | .buildSlice t n ps=>bnd (P.underlying t) fun ds=>bnd (iW ds) fun e=>bnd (bK (o9 s) ps.toList) fun vs=>
   grd ((iF P e&&decide (n*P.cellsOf e≤16777216)&&upto 0 n (vs.map (·.1))&&vs.all fun v=>decide (v.2.cells.length=P.cellsOf e)&&v.2.cells.all V.one)=true) (bnd (bK (fun v=>bK AV v.2.cells) vs) fun rows=>some ⟨.own d,[(d,rows)],[]⟩)
 | .call c=>bnd (bK s.ev c.args.toList) fun args=>yQ P G s d c.argTypes args c.callee
 | op=>bnd (jl P s op) fun v=>some ⟨v,[],[]⟩
def kF (s:S):List (Nat×List V)→Bool
 | []=>true
 | x::r=>(look x.1 s.box).isNone&&kF {s with box:=x::s.box} r
def jW (P:Program)(G:List (FuncId×Bool×aN))(s:S)(d:Option Nat)(op:Op):Option S:=
 bnd d fun d=>bnd (qj P G s d op) fun e=>grd ((jv s e.tree&&kF s e.box)=true) (some (s.app (some d) e))
structure Bar where
 val:V
 box:List (Nat×List V)
 tree:List (Nat×List (List D))
 kills:List Nat
 inn:List Nat
def Ho:List Nat→List (Nat×V)→List (Nat×V)
 | [],e=>e
 | p::r,e=>Ho r (QV p e)
def qB:List Nat→List (Nat×V)→List (Nat×V)
 | [],e=>e
 | p::r,e=>qB r (AX p e)
def owns:List V→List Nat
 | []=> []
 | .own p::r=>p::owns r
 | _::r=>owns r
def MO:List V→List Nat
 | []=> []
 | v::r=>owns v.cells++MO r
def S.iG (s:S)(d:Option Nat)(x:Bar):S:= {env:=(S.put {s with env:=Ho x.inn (qB x.kills s.env)} d x.val).env,box:=x.box,tree:=x.tree,dK:=s.dK}
def Rm (d:Option Nat)(vs:List V)(x:List (List D)×S):Option Bar:=
 bnd d fun t=>grd (fresh x.2 t=true) (some ⟨.own t,x.2.box,(t,x.1)::x.2.tree,MO vs,[]⟩)
def BI (s:S)(q k i off:Nat):Option D→Option Bar
 | some d=>bnd (look q s.tree) fun rows=>bnd rows[i]? fun r=>bnd r[off]? fun d0=>grd (r.length=k∧tq d0=true∧yI d=true) (some ⟨.fU [],s.box,upd q (rows.set i (r.set off d)) s.tree,[],[]⟩)
 | none=>none
def Ev (s:S)(v:V):V→Option Bar
 | .pe (.own q) k i off=>BI s q k i off v.atom
 | .ref b off=>bnd (look b s.box) fun cs=>grd (off+v.cells.length≤cs.length∧v.cells.all V.one=true) (some ⟨.fU [],upd b (setAt cs off v.cells) s.box,s.tree,[],[]⟩)
 | _=>none
def P7 (M:aN)(s:S)(t:Nat)(args:List V):Option Bar:=
 bnd (wF s ⟨[],[],[]⟩ args) fun x=>bnd (mP s x.2 x.2.box) fun y=>grd ((y.2.tree.isEmpty&&OA y.2 y.1.length)=true) (bnd (M x.1 y.1 []) fun r=>
  bnd (iX y.2 t y.2.box r.box s) fun s=>bnd (jQ y.2 t r.tree s) fun s=>bnd (nK y.2 t r.val) fun v=>some ⟨v,s.box,s.tree,[],[]⟩)
def yR (P:Program)(s:S)(d:Option Nat)(e:TypeId)(new:List (List D)):V→Option Bar
 | .nil=>grd (lC P e new.length=true∧wid (P.cellsOf e) new=true) (bnd d fun t=>grd (fresh s t=true) (some ⟨.own t,s.box,(t,new)::s.tree,[],[]⟩))
 | .own p=>bnd (look p s.tree) fun rows=>grd (lC P e (rows.length+new.length)=true∧wid (P.cellsOf e) rows=true∧wid (P.cellsOf e) new=true) (bnd d fun t=>grd (fresh s t=true) (some ⟨.own t,oH p s.box,(t,rows++new)::drop1 p s.tree,[p],[]⟩))
 | .inn p i j k=>bnd (s.rows (.inn p i j k)) fun rows=>grd (lC P e (rows.length+new.length)=true∧wid (P.cellsOf e) rows=true∧wid (P.cellsOf e) new=true) (bnd (look p s.tree) fun rs=>bnd rs[i]? fun r=>grd (¬(1000000000≤p∧p<2000000000)) (bnd d fun t=>grd (fresh s t=true) (some ⟨.own t,H8 p s.box,(t,rows++new)::upd p (rs.set i (r.set j .gone)) s.tree,[],[p]⟩)))
 | _=>none
def RI (P:Program)(s:S)(d:Option Nat)(b:Builtin)(ats:Array TypeId)(args:List V):Option Bar:=
 match b,args with
 | .append,[x,y]=>bnd ats[0]? fun t=>bnd ats[1]? fun t1=>grd (Eu P t1=true) (bnd (P.underlying t) fun ds=>bnd (iW ds) fun e=>bnd (nE s y) fun new=>yR P s d e new x)
 | _,_=>none
def yS (P:Program)(G:List (FuncId×Bool×aN))(s:S)(d:Option Nat)(ats:Array TypeId)(args:List V):Callee→Option Bar
 | .builtin b=>RI P s d b ats args
 | .value f=>bnd (s.ev f) fun f=>bnd (Xn f) fun f=>bnd (look f.1 G) fun M=>grd (M.1=false) (P7 M.2 s (d.getD 0) (args++f.2))
 | _=>none
def sJ (P:Program)(G:List (FuncId×Bool×aN))(s:S)(d:Option Nat):Op→Option Bar
 | .store t p x=>bnd (s.ev p) fun p=>bnd (s.ev x) fun v=>grd (fq P t=true∧v.cells.length=P.cellsOf t∧d.isNone=true) (Ev s v p)
 | .call c=>bnd (bK s.ev c.args.toList) fun args=>yS P G s d c.argTypes args c.callee
 | .buildSlice t n ps=>bnd (P.underlying t) fun dd=>bnd (iW dd) fun e=>bnd (bK (o9 s) ps.toList) fun vs=>
   grd ((iF P e&&decide (n*P.cellsOf e≤16777216)&&upto 0 n (vs.map (·.1))&&vs.all fun v=>decide (v.2.cells.length=P.cellsOf e)&&v.2.cells.all V.one)=true) (bnd (kC s (vs.map (·.2))) fun x=>Rm d (vs.map (·.2)) x)
 | _=>none
def isApp:Op→Bool
 | .call c=>match c.callee with
  | .builtin _=>true
  | _=>false
 | _=>false
def Ew (ks:List Nat)(v:V):Bool:=ks.all fun p=> !aP p v
def lX (ks:List Nat)(s:S):Operand→Bool
 | .tmp t=>match look t s.env with
  | some v=>Ew ks v
  | none=>true
 | _=>true
def fA (ks:List Nat)(s:S)(op:Op):Bool:=op.operands.toList.all (lX ks s)
def D8 (ops:Array Oper)(s:S)(ks:List Nat):List Nat→Option Unit
 | []=>some ()
 | i::r=>bnd ops[i]? fun o=>bnd o.dst fun d=>bnd (look d s.env) fun v=>grd ((Ew ks v&&fA ks s o.op)=true) (D8 ops s ks r)
open Classical in
noncomputable def Cm {α β:Type}(x y:α)(z:Option β):Option β:=if x=y then z else none
theorem yT {α β:Type}{x y:α}{z:Option β}{b:β}(h:Cm x y z=some b):x=y∧z=some b:=by
 unfold Cm at h;split at h
 ·exact⟨by assumption,h⟩
 ·cases h
theorem LJ {α β:Type}(x:α)(z:Option β):Cm x x z=z:=if_pos _root_.rfl
noncomputable def oK (P:Program)(ops:Array Oper)(s0 s:S):List Nat→Option Unit
 | []=>some ()
 | i::r=>bnd ops[i]? fun o=>bnd o.dst fun d=>bnd (look d s.env) fun v=>bnd (jl P s o.op) fun u=>Cm u v (bnd (look d s0.env) fun v0=>Cm v0 v (oK P ops s0 s r))
def amr:Callee→Bool
 | .builtin .max=>true
 | .builtin .min=>true
 | _=>false
def isVal:Op→Bool
 | .alloc _=>false
 | .box _ _=>false
 | .buildSlice _ _ _=>false
 | .call c=>amr c.callee
 | _=>true
def ahl:Option Oper→Bool
 | some o=>isVal o.op
 | none=>false
def LK (ops:Array Oper)(fl:List Nat):Bool:=fl.all fun i=>ahl ops[i]?
noncomputable def OE (P:Program)(ops:Array Oper)(s:S)(d:Option Nat)(fl:List Nat)(x:Bar):Option S:=match x.inn with
 | []=>Cm x.box s.box (bnd (D8 ops s x.kills fl) fun _=>some (s.iG d x))
 | _::_=>grd (LK ops fl=true) (bnd (oK P ops s (s.iG d x) fl) fun _=>some (s.iG d x))
noncomputable def MP (P:Program)(G:List (FuncId×Bool×aN))(ops:Array Oper)(bar:Option (List Nat))(s:S)(d:Option Nat)(op:Op):Option S:=match bar with
 | none=>jW P G s d op
 | some []=>iR P G s d op
 | some (i::r)=>if isApp op=true then bnd (sJ P G s d op) (OE P ops s d (i::r))else bnd (sJ P G s d op) fun x=>bnd (oK P ops s (s.iG d x) (i::r)) fun _=>some (s.iG d x)
noncomputable def nZ (P:Program)(G:List (FuncId×Bool×aN))(ops:Array Oper)(bars:List (Nat×List Nat)):List (Nat×Oper)→Q→Option Q
 | [],q=>some q
 | x::r, .on s=>bnd (s.wants ops x.2.guard) fun g=>if g then bnd (UL (MP P G ops (look x.1 bars) s x.2.dst x.2.op)) fun q=>nZ P G ops bars r q else bnd (UL (some (s.put x.2.dst (.fU [])))) fun q=>nZ P G ops bars r q
 | _::_, .off=>none
def Ie:Nat→List Oper→List (Nat×Oper)
 | _,[]=> []
 | k,o::r=>(k,o)::Ie (k+1) r
def picked (ops:Array Oper):List Nat→List (Nat×Oper)
 | []=> []
 | i::r=>match ops[i]? with
  | some o=>(i,o)::picked ops r
  | none=>picked ops r
def Bb (ops:Array Oper):List Nat→List (Nat×Oper)
 | []=>Ie 0 ops.toList
 | i::r=>picked ops (i::r)
noncomputable def ahm (P:Program)(G:List (FuncId×Bool×aN))(ops:Array Oper)(bars:List (Nat×List Nat))(i:Nat)(r:List Nat)(s:S):Option Oper→Option Q
 | some o=>bnd (s.wants ops o.guard) fun g=>if g then bnd (UL (MP P G ops (look i bars) s o.dst o.op)) fun q=>nZ P G ops bars (picked ops r) q else bnd (UL (some (s.put o.dst (.fU [])))) fun q=>nZ P G ops bars (picked ops r) q
 | none=>nZ P G ops bars (picked ops r) (.on s)
inductive Ex where
 | normal
 | exit (id:Nat)
 | ret
def rounds (f:Q→Option (Ex×Q)):Nat→Q→Option (Ex×Q)
 | 0,_=>none
 | n+1,s=>match f s with
  | some (.normal,s)=>rounds f n s
  | r=>r
open Classical in
noncomputable def yJ (f:Q→Option (Ex×Q))(s:Q):Option (Ex×Q):=
 if h:∃n r,rounds f n s=some r then some (Classical.choose (Classical.choose_spec h))else none
def Code.first:Code→Nat
 | .region id _ _=>id
 | .seq x _=>Code.first x
 | .block _ x=>Code.first x
 | .loop x=>Code.first x
 | .scope x=>Code.first x
 | _=>0
def OG (r:Option (Ex×Q))(k:Q→Option (Ex×Q)):Option (Ex×Q):=match r with
 | some (.normal,s)=>k s
 | r=>r
@[simp ↓] theorem Ig (s:Q)(k:Q→Option (Ex×Q)):OG (some (.normal,s)) k=k s:=_root_.id rfl
@[simp ↓] theorem OH (i:Nat)(s:Q)(k:Q→Option (Ex×Q)):OG (some (.exit i,s)) k=some (.exit i,s):=_root_.id rfl
@[simp ↓] theorem RJ (s:Q)(k:Q→Option (Ex×Q)):OG (some (.ret,s)) k=some (.ret,s):=_root_.id rfl
@[simp ↓] theorem OI (k:Q→Option (Ex×Q)):OG none k=none:=_root_.id rfl
@[congr] theorem ak6 {r r':Option (Ex×Q)}(k:Q→Option (Ex×Q))(h:r=r'):OG r k=OG r' k:=by rw [h]
def Ih (id:Nat):Ex×Q→Option (Ex×Q)
 | (.exit j,s)=>if j=id then some (.normal,s)else some (.exit j,s)
 | r=>some r
def P8 (gh:oI)(id:Nat):Q→Option Q
 | .on s=>UL (gh.head id s)
 | .off=>none
def VK (P:Program)(G:List (FuncId×Bool×aN))(ops:Array Oper)(l:List Oper)(s:S):Option Q:=
 bnd (RH l) fun x=>bnd (QW P x.1) fun _=>grd (fresh s x.2.1=true∧D7 x.2.2.1=true) (Df P G ops x.2.2.2 (.on (s.Rl x.2.1 x.2.2.1)))
noncomputable def Xr (P:Program)(G:List (FuncId×Bool×aN))(ops:Array Oper)(bar:List Nat)(q:Q):Option Q:=match bar,q with
 | _::_, .on s=>VK P G ops ops.toList s
 | _,q=>Df P G ops ops.toList q
noncomputable def Zj (P:Program)(G:List (FuncId×Bool×aN))(ops:Array Oper)(bar:List Nat×List (Nat×List Nat))(d:Bool)(q:Q):Option Q:=if d then nZ P G ops bar.2 (Bb ops bar.1) q else Xr P G ops bar.1 q
noncomputable def Kc (P:Program)(G:List (FuncId×Bool×aN))(gh:oI):Code→Q→Option (Ex×Q)
 | _, .off=>none
 | .skip,q=>some (.normal,q)
 | .label _,q=>some (.normal,q)
 | .region id ops d, .on s=>bnd (UL (gh.reg id s)) fun q=>bnd (Zj P G ops (gh.bars id) d q) fun q=>some (.normal,q)
 | .seq x y,q=>OG (Kc P G gh x q) fun q=>Kc P G gh y q
 | .cond c x y, .on s=>bnd (s.ev c) fun v=>bnd (Fw v) fun b=>if b then Kc P G gh x (.on s)else Kc P G gh y (.on s)
 | .block id x,q=>bnd (Kc P G gh x q) (Ih id)
 | .loop x,q=>bnd (P8 gh (Code.first x) q) fun q=>yJ (fun q=>OG (Kc P G gh x q) fun q=>bnd (P8 gh (Code.first x) q) fun q=>some (.normal,q)) q
 | .exit id,q=>some (.exit id,q)
 | .scope x,q=>Kc P G gh x q
 | .ret,q=>some (.ret,q)
 | _,_=>none
section
variable (P:Program) (G:List (FuncId×Bool×aN)) (gh:oI) (s:S)
@[simp] theorem ahn (id:Nat):P8 gh id (.on s)=UL (gh.head id s):=_root_.id rfl
@[simp] theorem al1 (ops:Array Oper):Df P G ops [] (.on s)=some (.on s):=_root_.id rfl
@[simp] theorem RL (ops:Array Oper)(o:Oper)(r:List Oper):Df P G ops (o::r) (.on s)=bnd (s.wants ops o.guard) fun g=>if g then bnd (UL (iR P G s o.dst o.op)) fun q=>Df P G ops r q else bnd (UL (some (s.put o.dst (.fU [])))) fun q=>Df P G ops r q:=_root_.id rfl
@[simp] theorem aho:Kc P G gh .skip (.on s)=some (.normal, .on s):=_root_.id rfl
@[simp] theorem afl (l:Nat):Kc P G gh (.label l) (.on s)=some (.normal, .on s):=_root_.id rfl
@[simp] theorem ab9 (id:Nat)(ops:Array Oper)(d:Bool):Kc P G gh (.region id ops d) (.on s)=bnd (UL (gh.reg id s)) fun q=>bnd (Zj P G ops (gh.bars id) d q) fun q=>some (.normal,q):=_root_.id rfl
theorem afm (ops:Array Oper)(bar:List Nat×List (Nat×List Nat))(q:Q):Zj P G ops bar false q=Xr P G ops bar.1 q:=_root_.id rfl
@[simp] theorem al2 (ops:Array Oper)(bars:List (Nat×List Nat)):Zj P G ops ([],bars) false (.on s)=Df P G ops ops.toList (.on s):=_root_.id rfl
@[simp] theorem ams (ops:Array Oper)(i:Nat)(l:List Nat)(bars:List (Nat×List Nat)):Zj P G ops (i::l,bars) false (.on s)=VK P G ops ops.toList s:=_root_.id rfl
@[simp] theorem amt (ops:Array Oper)(l:List Oper):VK P G ops l s=bnd (RH l) fun x=>bnd (QW P x.1) fun _=>grd (fresh s x.2.1=true∧D7 x.2.2.1=true) (Df P G ops x.2.2.2 (.on (s.Rl x.2.1 x.2.2.1))):=_root_.id rfl
@[simp] theorem amu (ops:Array Oper)(bars:List (Nat×List Nat))(q:Q):Zj P G ops ([],bars) true q=nZ P G ops bars (Ie 0 ops.toList) q:=_root_.id rfl
@[simp] theorem al3 (ops:Array Oper)(i:Nat)(l:List Nat)(bars:List (Nat×List Nat))(q:Q):Zj P G ops (i::l,bars) true q=nZ P G ops bars (picked ops (i::l)) q:=_root_.id rfl
@[simp] theorem al4 (ops:Array Oper)(bars:List (Nat×List Nat))(k:Nat)(q:Q):nZ P G ops bars (Ie k []) q=some q:=_root_.id rfl
theorem LM (ops:Array Oper)(bars:List (Nat×List Nat))(x:Nat×Oper)(r:List (Nat×Oper)):nZ P G ops bars (x::r) (.on s)=bnd (s.wants ops x.2.guard) fun g=>if g then bnd (UL (MP P G ops (look x.1 bars) s x.2.dst x.2.op)) fun q=>nZ P G ops bars r q else bnd (UL (some (s.put x.2.dst (.fU [])))) fun q=>nZ P G ops bars r q:=_root_.id rfl
@[simp] theorem ak7 (ops:Array Oper)(bars:List (Nat×List Nat))(k:Nat)(o:Oper)(r:List Oper):nZ P G ops bars (Ie k (o::r)) (.on s)=bnd (s.wants ops o.guard) fun g=>if g then bnd (UL (MP P G ops (look k bars) s o.dst o.op)) fun q=>nZ P G ops bars (Ie (k+1) r) q else bnd (UL (some (s.put o.dst (.fU [])))) fun q=>nZ P G ops bars (Ie (k+1) r) q:=_root_.id rfl
@[simp] theorem afn (ops:Array Oper)(bars:List (Nat×List Nat))(q:Q):nZ P G ops bars (picked ops []) q=some q:=_root_.id rfl
@[simp] theorem aju (ops:Array Oper)(bars:List (Nat×List Nat))(i:Nat)(r:List Nat):nZ P G ops bars (picked ops (i::r)) (.on s)=ahm P G ops bars i r s ops[i]?:=by
 unfold picked;cases ops[i]?<;>rfl
@[simp] theorem akt (ops:Array Oper)(bars:List (Nat×List Nat))(i:Nat)(r:List Nat)(o:Oper):ahm P G ops bars i r s (some o)=bnd (s.wants ops o.guard) fun g=>if g then bnd (UL (MP P G ops (look i bars) s o.dst o.op)) fun q=>nZ P G ops bars (picked ops r) q else bnd (UL (some (s.put o.dst (.fU [])))) fun q=>nZ P G ops bars (picked ops r) q:=_root_.id rfl
@[simp] theorem aku {α β:Type}(x:α)(z:Option β):Cm x x z=z:=LJ x z
@[simp] theorem afo (ops:Array Oper)(d:Option Nat)(op:Op):MP P G ops (some []) s d op=iR P G s d op:=_root_.id rfl
@[simp] theorem afp (ops:Array Oper)(d:Option Nat)(op:Op):MP P G ops none s d op=jW P G s d op:=_root_.id rfl
@[simp] theorem Zk (ops:Array Oper)(i:Nat)(r:List Nat)(d:Option Nat)(op:Op):MP P G ops (some (i::r)) s d op=if isApp op=true then bnd (sJ P G s d op) (OE P ops s d (i::r))else bnd (sJ P G s d op) fun x=>bnd (oK P ops s (s.iG d x) (i::r)) fun _=>some (s.iG d x):=_root_.id rfl
@[simp] theorem ajv (x y:Code):Kc P G gh (.seq x y) (.on s)=OG (Kc P G gh x (.on s)) fun q=>Kc P G gh y q:=_root_.id rfl
@[simp] theorem ahp (c:Operand)(x y:Code):Kc P G gh (.cond c x y) (.on s)=bnd (s.ev c) fun v=>bnd (Fw v) fun b=>if b then Kc P G gh x (.on s)else Kc P G gh y (.on s):=_root_.id rfl
@[simp] theorem afq (id:Nat)(x:Code):Kc P G gh (.block id x) (.on s)=bnd (Kc P G gh x (.on s)) (Ih id):=_root_.id rfl
@[simp] theorem ahq (x:Code):Kc P G gh (.loop x) (.on s)=bnd (UL (gh.head (Code.first x) s)) fun q=>yJ (fun q=>OG (Kc P G gh x q) fun q=>bnd (P8 gh (Code.first x) q) fun q=>some (.normal,q)) q:=_root_.id rfl
@[simp] theorem ahr (id:Nat):Kc P G gh (.exit id) (.on s)=some (.exit id, .on s):=_root_.id rfl
@[simp] theorem afr (x:Code):Kc P G gh (.scope x) (.on s)=Kc P G gh x (.on s):=_root_.id rfl
@[simp] theorem ajw:Kc P G gh .ret (.on s)=some (.ret, .on s):=_root_.id rfl
end
def bg:Nat:=1000000000
mutual
def mD:V→V
 | .ref b off=> .ref (bg+b) off
 | .own p=> .own (bg+p)
 | .inn p i j k=> .inn (bg+p) i j k
 | .agg cs=> .agg (oC cs)
 | .fU cs=> .fU (oC cs)
 | .pe b k i off=> .pe (mD b) k i off
 | .fn f cs=> .fn f (oC cs)
 | v=>v
def oC:List V→List V
 | []=> []
 | v::r=>mD v::oC r
end
mutual
def zS (s:S)(n:Nat)(l:List (Nat×List (List D))):V→Option (V×List (Nat×List (List D)))
 | .v x=>some (.v x,l)
 | .nil=>some (.own (n+l.length),l++ [(0,[])])
 | .aL o rows=>some (.aL o rows,l)
 | .own p=>if bg≤p∧p<bg+n then grd ((look p s.tree).isSome=true) (some (.own (p-bg),l))else bnd (s.rows (.own p)) fun rows=>grd ((look p l).isNone=true) (some (.own (n+l.length),l++ [(p,rows)]))
 | .ref b off=>grd (bg≤b) (some (.ref (b-bg) off,l))
 | .dead=>some (.dead,l)
 | .agg cs=>bnd (OJ s n l cs) fun x=>some (.agg x.1,x.2)
 | .fU cs=>bnd (OJ s n l cs) fun x=>some (.fU x.1,x.2)
 | _=>none
def OJ (s:S)(n:Nat)(l:List (Nat×List (List D))):List V→Option (List V×List (Nat×List (List D)))
 | []=>some ([],l)
 | v::r=>bnd (zS s n l v) fun x=>bnd (OJ s n x.2 r) fun y=>some (x.1::y.1,y.2)
end
def Xt (s:S)(n:Nat)(l:List (Nat×List (List D))):List Nat→Option (List (List V)×List (Nat×List (List D)))
 | []=>some ([],l)
 | b::r=>bnd (look (bg+b) s.box) fun cs=>bnd (OJ s n l cs) fun x=>bnd (Xt s n x.2 r) fun y=>some (x.1::y.1,y.2)
def Xu (P:Program)(s:S):ResultVar→Option V
 | .tmp t=>look t s.env
 | .cell a t=>bnd (look a s.env) fun p=>s.load P t p
def RN:List V→V
 | [v]=>v
 | vs=> .fU vs
def Ke (j:Nat)(r:List (Nat×List (List D))):Option (List (List D))→List (Nat×List (List D))
 | some rows=>(j,rows)::r
 | none=>r
def iy (s:S)(j:Nat):Nat→List (Nat×List (List D))
 | 0=> []
 | n+1=>Ke j (iy s (j+1) n) (look (bg+j) s.tree)
def kG {α:Type}(n:Nat):List (Nat×α)→List (Nat×α)
 | []=> []
 | x::r=>(n,x.2)::kG (n+1) r
def tu (P:Program)(rs:List ResultVar)(nb nt:Nat)(s:S):Option A9:=
 bnd (bK (Xu P s) rs) fun vs=>bnd (zS s nt [] (RN vs)) fun x=>bnd (Xt s nt x.2 (List.range' 0 nb)) fun y=>grd ((s.box.all fun x=>decide (x.1<bg+nb))=true) (some ⟨x.1,y.1,iy s 0 nt++kG nt y.2⟩)
def bW {α:Type}(n:Nat):List α→List (Nat×α)
 | []=> []
 | x::r=>(n,x)::bW (n+1) r
def RO (P:Program)(fn:Func)(nb nt:Nat):Ex×Q→Option A9
 | (.normal, .on s)=>tu P fn.results.toList nb nt s
 | (.ret, .on s)=>tu P fn.results.toList nb nt s
 | _=>none
noncomputable def aI (P:Program)(G:List (FuncId×Bool×aN))(gh:oI)(f:FuncId):aN:=fun args boxes trees=>
 bnd P.funcs[f]? fun fn=>bnd fn.body fun c=>grd (args.length≤1000∧boxes.length≤1000∧trees.length≤1000) <|
  bnd (Kc P G gh c (.on {env:=(bW 0 (args.map mD)).reverse,box:=(bW bg (boxes.map oC)).reverse,tree:=(bW bg trees).reverse,dK:= []})) (RO P fn boxes.length trees.length)
theorem MQ {f:Q→Option (Ex×Q)}:∀{n:Nat} {s:Q} {r:Ex×Q},rounds f n s=some r→rounds f (n+1) s=some r
 | 0,s,r,h=>by cases h
 | n+1,s,r,h=>by
  rw [rounds]at h
  rw [rounds]
  split at h
  ·exact MQ h
  ·exact h
theorem VL {f:Q→Option (Ex×Q)}{n m:Nat}{s:Q}{r:Ex×Q}(h:rounds f n s=some r)(k:n≤m):rounds f m s=some r:=by
 induction k with
 | refl=>exact h
 | step _ ih=>exact MQ ih
theorem MR {f:Q→Option (Ex×Q)}{n:Nat}{s:Q}{r:Ex×Q}(h:rounds f n s=some r):yJ f s=some r:=by
 have hx:∃n r,rounds f n s=some r:=⟨n,r,h⟩
 unfold yJ
 rw [dif_pos hx]
 have h2:=Classical.choose_spec (Classical.choose_spec hx)
 have a:=VL h (Nat.le_max_left n (Classical.choose hx))
 have b:=VL h2 (Nat.le_max_right n (Classical.choose hx))
 rw [a]at b
 exact b.symm
theorem LP {f:Q→Option (Ex×Q)}{s:Q}{r:Ex×Q}(h:yJ f s=some r):∃n,rounds f n s=some r:=by
 unfold yJ at h
 split at h
 ·rename_i hx
  injection h with h
  exact⟨_,h▸Classical.choose_spec (Classical.choose_spec hx)⟩
 ·cases h
end Go.Proofs.YtlpdjhiggpblcaaGreat
