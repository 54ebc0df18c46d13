/- Part 1 of a proof in several texts (an abstract evaluator, what the functions compute). -/
import Derived.WalkKit
import Derived.RowKit
import Derived.Below
import Derived.Laws.AppendOwn
import Derived.Laws.BytesArg
import Derived.KernelRfl
import Derived.Deep.Draws
namespace Go.Proofs.YtlpdjhiggpblcaaGreat
open Go.RowKit
inductive D where
 | a (v:Value)
 | l (rows:List (List D))
 | gone
inductive V where
 | v (x:Value)
 | nil
 | aP (src:Option Nat) (rows:List (List D))
 | own (p:Nat)
 | inn (p i j k:Nat)
 | fz (rows:List (List D))
 | ref (b off:Nat)
 | pe (base:V) (k i off:Nat)
 | agg (cs:List V)
 | fK (vs:List V)
 | fn (f:FuncId) (caps:List V)
 | mp (es:List (Int×Int))
 | dead
theorem aW {α:Type}{a b:α}(h:a=b):a=b:=h
def bnd {α β:Type}(x:Option α)(f:α→Option β):Option β:=match x with|some a=>f a|none=>none
@[simp ↓] theorem aY {α β:Type}(a:α)(f:α→Option β):bnd (some a) f=f a:=_root_.id rfl
@[simp ↓] theorem aei {α β:Type}(f:α→Option β):bnd none f=none:=_root_.id rfl
@[congr] theorem aio {α β:Type}{x x':Option α}(f:α→Option β)(h:x=x'):bnd x f=bnd x' f:=by rw [h]
theorem aj {α β:Type}{x:Option α}{f:α→Option β}{b:β}(h:bnd x f=some b):∃a,x=some a∧f a=some b:=by
 cases x with
 | none=>cases h
 | some a=>exact⟨a,rfl,h⟩
def grd {α:Type}(c:Prop) [Decidable c](x:Option α):Option α:=if c then x else none
theorem aB {α:Type}{c:Prop} [Decidable c]{x:Option α}{a:α}(h:grd c x=some a):c∧x=some a:=by
 unfold grd at h;split at h
 ·exact⟨‹_›,h⟩
 ·cases h
@[simp] theorem eH {α:Type}{c:Prop} [Decidable c](x:Option α)(h:c):grd c x=x:=if_pos h
@[simp] theorem aiH {α:Type}(x:Option α):grd True x=x:=if_pos trivial
@[congr] theorem aip {α:Type}{c c':Prop} [Decidable c] [Decidable c'](x:Option α)(h:c=c'):grd c x=grd c' x:=by subst h;unfold grd;congr
def look {α:Type}(k:Nat):List (Nat×α)→Option α
 | []=>none
 | (j,x)::r=>if k=j then some x else look k r
def put {α:Type}(k:Nat)(x:α):List (Nat×α)→List (Nat×α)
 | []=> [(k,x)]
 | (j,y)::r=>if k=j then(k,x)::r else if j<k then(k,x)::(j,y)::r else(j,y)::put k x r
def drop1 {α:Type}(k:Nat):List (Nat×α)→List (Nat×α)
 | []=> []
 | (j,y)::r=>if k=j then drop1 k r else(j,y)::drop1 k r
def upd {α:Type}(k:Nat)(x:α):List (Nat×α)→List (Nat×α)
 | []=> []
 | (j,y)::r=>if k=j then(k,x)::r else(j,y)::upd k x r
def desc:List Nat→Bool
 | a::b::r=>decide (b<a)&&desc (b::r)
 | _=>true
structure S where
 env:List (Nat×V)
 box:List (Nat×List V)
 tree:List (Nat×List (List D))
 dG:List (Nat×List (List D))
def S.put (s:S)(t:Option Nat)(v:V):S:=match t with|some t=> {s with env:=YtlpdjhiggpblcaaGreat.put t v s.env}|none=>s
def S.skip (s:S)(t:Option Nat):S:=match t with|some t=> {s with env:=drop1 t s.env}|none=>s
def xS:Value→V
 | .slice none 0 0=> .nil
 | c=> .v c
def uN:Value→Option V
 | .bool b=>some (.v (.bool b))
 | .int k n=>some (.v (.int k n))
 | .string s=>some (.v (.string s))
 | .slice none 0 0=>some .nil
 | .pointer none=>some (.v (.pointer none))
 | .agg cs=>some (.agg (cs.toList.map xS))
 | _=>none
def S.ev (s:S):Operand→Option V
 | .tmp t=>look t s.env
 | .const v=>uN v
 | .func f=>some (.fn f [])
 | .global _=>none
def V.cells:V→List V
 | .agg cs=>cs
 | x=> [x]
def mD (x y:Option (List (List D))):Option (List (List D)):=match x with
 | some r=>some r
 | none=>y
def KP:D→Option (List (List D))
 | .l rows=>some rows
 | _=>none
def S.rows (s:S):V→Option (List (List D))
 | .nil=>some []
 | .aP _ rows=>some rows
 | .fz rows=>some rows
 | .own p=>mD (look p s.tree) (look p s.dG)
 | .inn p i j k=>bnd (look p s.tree) fun rows=>bnd rows[i]? fun r=>grd (r.length=k) (bnd r[j]? KP)
 | _=>none
def Dt (p i j k:Nat)(rows:List (List D)):Option (List (List D))→Option V
 | some _=>some (.fz rows)
 | none=>some (.inn p i j k)
def S.under (s:S)(base:V)(k i j:Nat):D→Option V
 | .a x=>some (.v x)
 | .l rows=>match base with
  | .aP _ _=>some (.aP none rows)
  | .fz _=>some (.fz rows)
  | .own p=>Dt p i j k rows (look p s.dG)
  | _=>none
 | .gone=>none
def bG {α β:Type}(f:α→Option β):List α→Option (List β)
 | []=>some []
 | x::r=>bnd (f x) fun y=>bnd (bG f r) fun r=>some (y::r)
def sP:TypeDesc→Bool
 | .struct _=>true
 | .array _ _=>true
 | _=>false
def pz (P:Program)(t:TypeId):Option Bool:=bnd (P.underlying t) fun d=>some (sP d)
def span (cs:List V)(off n:Nat)(agg:Bool):Option V:=
 if agg then grd (off+n≤cs.length) (some (.agg ((cs.drop off).take n)))else cs[off]?
def uZ (s:S)(base:V)(k i j:Nat):List D→Option (List V)
 | []=>some []
 | d::l=>bnd (s.under base k i j d) fun v=>bnd (uZ s base k i (j+1) l) fun l=>some (v::l)
def S.IY (s:S)(base:V)(k i:Nat)(r:List D)(off n:Nat)(agg:Bool):Option V:=
 if agg then grd (off+n≤r.length) (bnd (uZ s base k i off ((r.drop off).take n)) fun cs=>some (.agg cs))else bnd r[off]? (s.under base k i off)
def S.load (P:Program)(s:S)(t:TypeId):V→Option V
 | .ref b off=>bnd (pz P t) fun g=>bnd (look b s.box) fun cs=>span cs off (P.cellsOf t) g
 | .pe base k i off=>bnd (pz P t) fun g=>bnd (s.rows base) fun rows=>bnd rows[i]? fun r=>grd (r.length=k) (s.IY base k i r off (P.cellsOf t) g)
 | _=>none
def setAt (cs:List V)(off:Nat):List V→List V
 | []=>cs
 | v::vs=>setAt (cs.set off v) (off+1) vs
def V.one:V→Bool
 | .v x=>x.oneCell'
 | .agg _=>false
 | .fK _=>false
 | .dead=>false
 | _=>true
def V.atom:V→Option D
 | .v x=>some (.a x)
 | _=>none
def sF:D→Bool
 | .a _=>true
 | .l _=>false
 | .gone=>false
def A9:D→Bool
 | .a x=>x.oneCell'
 | .l _=>true
 | .gone=>true
def eF (P:Program)(t:TypeId):Bool:=(P.info? t).isSome
def arith (op:BinOp)(k:IntKind)(x y:Int):Option Value:=
 match op with
 | .add=>some (.int k (k.wrap (x+y)))
 | .sub=>some (.int k (k.wrap (x-y)))
 | .mul=>some (.int k (k.wrap (x*y)))
 | .quo=>grd (y≠0) (some (.int k (k.wrap (x.tdiv y))))
 | .rem=>grd (y≠0) (some (.int k (x.tmod y)))
 | .and=>some (.int k (k.wrap (BitVec.ofInt k.bits x &&& BitVec.ofInt k.bits y).toNat))
 | .or=>some (.int k (k.wrap (BitVec.ofInt k.bits x ||| BitVec.ofInt k.bits y).toNat))
 | .xor=>some (.int k (k.wrap (BitVec.ofInt k.bits x ^^^ BitVec.ofInt k.bits y).toNat))
 | .eql=>some (.bool (x==y))
 | .neq=>some (.bool (x != y))
 | .lss=>some (.bool (decide (x<y)))
 | .leq=>some (.bool (decide (x≤y)))
 | .gtr=>some (.bool (decide (x>y)))
 | .geq=>some (.bool (decide (x≥y)))
 | _=>none
def ahA (op:BinOp)(x y:ByteArray):Option Value:=
 match op with
 | .add=>grd (x.size+y.size≤9223372036854775807) (some (.string (x++y)))
 | .eql=>some (.bool (x.toList==y.toList))
 | .neq=>some (.bool (!(x.toList==y.toList)))
 | .lss=>some (.bool (Op.bytesLess x.toList y.toList))
 | .leq=>some (.bool (Op.bytesLess x.toList y.toList||x.toList==y.toList))
 | .gtr=>some (.bool (!(Op.bytesLess x.toList y.toList||x.toList==y.toList)))
 | .geq=>some (.bool (!(Op.bytesLess x.toList y.toList)))
 | _=>none
def ahB (op:BinOp)(k k':IntKind)(x y:Int):Option Value:=
 match op with
 | .shl=>grd (0≤y) (some (.int k (k.wrap (x*2 ^ (min y.toNat k.bits)))))
 | .shr=>grd (0≤y) (some (.int k (x.fdiv (2 ^ (min y.toNat k.bits)))))
 | op=>grd (k=k') (arith op k x y)
def Zz (op:BinOp)(x y:Bool):TypeDesc→Option Value
 | .bool=>match op with
  | .eql=>some (.bool (x==y))
  | .neq=>some (.bool (x != y))
  | _=>none
 | _=>none
def ZA (op:BinOp):TypeDesc→Option Value
 | .pointer _=>match op with
  | .eql=>some (.bool false)
  | .neq=>some (.bool true)
  | _=>none
 | _=>none
def aiI:TypeDesc→Bool
 | .int .i64=>true
 | _=>false
def agd (P:Program)(t:TypeId):Bool:=((P.underlying t).map aiI).getD false
def Pb (P:Program):Nat→List Field→Bool
 | _,[]=>true
 | n, f :: fs => f.name != "_" && f.offset == n && agd P f.type && Pb P (n + 1) fs
def WV:TypeDesc→Option (List Field)
 | .struct fs=>some fs.toList
 | _=>none
def eqT (P:Program)(t:TypeId):Option Nat:=
 bnd (P.underlying t) fun d=>bnd (WV d) fun fs=>grd (Pb P 0 fs=true∧P.stoodInHeld t=false∧P.eqGuardType P.depth t=false) (some fs.length)
def CZ:List V→List V→Option Bool
 | [],[]=>some true
 | .v (.int .i64 a)::r, .v (.int .i64 b)::q=>bnd (CZ r q) fun e=>some (a==b&&e)
 | _,_=>none
def aej (e:Bool):BinOp→Option V
 | .eql=>some (.v (.bool e))
 | .neq=>some (.v (.bool !e))
 | _=>none
def bin (P:Program)(t:TypeId)(op:BinOp):V→V→Option V
 | .v (.int k x), .v (.int k' y)=>bnd (ahB op k k' x y) fun v=>some (.v v)
 | .v (.string x), .v (.string y)=>bnd (ahA op x y) fun v=>some (.v v)
 | .v (.bool x), .v (.bool y)=>bnd (P.underlying t) fun d=>bnd (Zz op x y d) fun v=>some (.v v)
 | .ref _ _, .v (.pointer none)=>bnd (P.underlying t) fun d=>bnd (ZA op d) fun v=>some (.v v)
 | .agg cs, .agg ds=>bnd (eqT P t) fun n=>grd (cs.length=n) (bnd (CZ cs ds) fun e=>aej e op)
 | _,_=>none
def un (op:UnOp):V→Option V
 | .v (.int k n)=>match op with
  | .neg=>some (.v (.int k (k.wrap (0-n))))
  | _=>none
 | .v (.bool b)=>match op with
  | .not=>some (.v (.bool !b))
  | _=>none
 | _=>none
def idxOf:V→Option Int
 | .v (.int _ n)=>some n
 | _=>none
def Ep:V→Option Bool
 | .v (.bool b)=>some b
 | _=>none
def UL (d:Int):Option V→Option Int
 | none=>some d
 | some v=>idxOf v
def bounds (n:Nat)(lo hi:Option V):Option (Nat×Nat):=
 bnd (UL 0 lo) fun l=>bnd (UL n hi) fun h=>grd (0≤l∧l≤h∧h≤n) (some (l.toNat,h.toNat))
def wid (k:Nat):List (List D)→Bool
 | []=>true
 | r::rows=>decide (r.length=k)&&r.all A9&&wid k rows
def cutV (k:Nat)(rows:List (List D))(lo hi:Option V)(f:List (List D)→V):Option V:=
 bnd (bounds rows.length lo hi) fun p=>grd (wid k rows=true) (some (f ((rows.drop p.1).take (p.2-p.1))))
def Er (k:Nat)(s:S)(x:V)(lo hi:Option V):Option V:=
 match x with
 | .nil=>bnd (bounds 0 lo hi) fun _=>some .nil
 | .aP _ rows=>cutV k rows lo hi (.aP none)
 | .fz rows=>cutV k rows lo hi .fz
 | .own p=>bnd (look p s.dG) fun rows=>cutV k rows lo hi .fz
 | _=>none
def KQ (x:V)(lo hi:Option V):Option V:=
 match x with
 | .v (.string b)=>bnd (bounds b.size lo hi) fun p=>some (.v (.string (b.extract p.1 p.2)))
 | _=>none
def qX (P:Program)(s:S)(x:V)(lo hi:Option V):TypeDesc→Option V
 | .string=>KQ x lo hi
 | .slice e=>grd (eF P e=true) (Er (P.cellsOf e) s x lo hi)
 | _=>none
def ZB (P:Program)(f:Nat):TypeDesc→Option (Nat×TypeId)
 | .struct fs=>bnd fs[f]? fun d=>grd (P.cellsOf d.type≠0) (some (d.offset,d.type))
 | _=>none
def bZ (P:Program)(t:TypeId)(f:Nat):Option (Nat×TypeId):=bnd (P.underlying t) (ZB P f)
def xU:V→Nat→Option V
 | .ref b off,n=>some (.ref b (off+n))
 | .pe base k i off,n=>some (.pe base k i (off+n))
 | _,_=>none
def abU:TypeDesc→Option (TypeId×Option Nat)
 | .slice e=>some (e,none)
 | .array n e=>some (e,some n)
 | _=>none
def mE (P:Program)(t:TypeId):Option (TypeId×Option Nat):=bnd (P.underlying t) abU
def jM (P:Program)(t:TypeId):Option (List V):=
 bnd (P.info? t) fun i=>bnd i.zero fun z=>bnd (uN z) fun v=>some v.cells
def lK (P:Program)(s:S)(x:V)(i:Int)(e:TypeId):Option Nat→Option V
 | some n=>grd (eF P e=true∧0≤i∧i<n) (xU x (i.toNat*P.cellsOf e))
 | none=>bnd (s.rows x) fun rows=>grd (eF P e=true∧0≤i∧i<rows.length) (some (.pe x (P.cellsOf e) i.toNat 0))
def Ms:TypeDesc→Bool
 | .string=>true
 | _=>false
def Gh (P:Program)(t:TypeId)(x:V)(i:Int):Option V:=
 match x with
 | .v (.string b)=>bnd (P.underlying t) fun d=>grd (Ms d=true∧0≤i∧i<b.size) (some (.v (.int .u8 ((b.toList[i.toNat]?.getD 0).toNat:Int))))
 | .agg cs=>bnd (mE P t) fun e=>bnd e.2 fun n=>grd (eF P e.1=true∧0≤i∧i<n) (bnd (pz P e.1) fun g=>span cs (i.toNat*P.cellsOf e.1) (P.cellsOf e.1) g)
 | _=>none
def zT:V→Option D
 | .v x=>some (.a x)
 | .nil=>some (.l [])
 | _=>none
def aM (p:Nat):V→Bool
 | .own q=>p=q
 | .inn q _ _ _=>p=q
 | .pe base _ _ _=>aM p base
 | .agg cs=>any cs
 | .fK cs=>any cs
 | .fn _ cs=>any cs
 | _=>false
where any:List V→Bool
 | []=>false
 | c::r=>aM p c||any r
def zU (p:Nat):List (Nat×V)→List (Nat×V)
 | []=> []
 | x::r=>(x.1,if aM p x.2 then .dead else x.2)::zU p r
def zV (p:Nat):List V→List V
 | []=> []
 | c::r=>(if aM p c then .dead else c)::zV p r
def oK (p:Nat):List (Nat×List V)→List (Nat×List V)
 | []=> []
 | x::r=>(x.1,zV p x.2)::oK p r
def S.kill (s:S)(p:Nat):S:= {s with env:=zU p s.env,box:=oK p s.box,tree:=drop1 p s.tree}
def iK (s:S):List V→Option (List D×S)
 | []=>some ([],s)
 | .own p::r=>bnd (look p s.tree) fun rows=>bnd (iK (s.kill p) r) fun x=>some (.l rows::x.1,x.2)
 | v::r=>bnd (zT v) fun d=>bnd (iK s r) fun x=>some (d::x.1,x.2)
def kG (s:S):List V→Option (List (List D)×S)
 | []=>some ([],s)
 | v::r=>bnd (iK s v.cells) fun x=>bnd (kG x.2 r) fun y=>some (x.1::y.1,y.2)
def kH (p:Nat):V→Bool
 | .inn q _ _ _=>p=q
 | .pe base _ _ _=>kH p base
 | .agg cs=>any cs
 | .fK cs=>any cs
 | .fn _ cs=>any cs
 | _=>false
where any:List V→Bool
 | []=>false
 | c::r=>kH p c||any r
def OA (p:Nat):List (Nat×V)→List (Nat×V)
 | []=> []
 | x::r=>(x.1,if kH p x.2 then .dead else x.2)::OA p r
def WW (p:Nat):List V→List V
 | []=> []
 | c::r=>(if kH p c then .dead else c)::WW p r
def Gi (p:Nat):List (Nat×List V)→List (Nat×List V)
 | []=> []
 | x::r=>(x.1,WW p x.2)::Gi p r
def S.turned (s:S)(p:Nat)(rows:List (List D)):S:= {s with env:=OA p s.env,box:=Gi p s.box,tree:=upd p rows s.tree}
def Es (r:List D)(off:Nat):List D→List D
 | []=>r
 | d::ds=>Es (r.set off d) (off+1) ds
def Ba (s:S)(q k i off:Nat)(v:V):Option D→Option S
 | some d=>bnd (look q s.tree) fun rows=>bnd rows[i]? fun r=>bnd r[off]? fun d0=>grd (r.length=k∧sF d0=true∧A9 d=true) (some {s with tree:=upd q (rows.set i (r.set off d)) s.tree})
 | none=>bnd (iK s v.cells) fun x=>bnd (look q x.2.tree) fun rows=>bnd rows[i]? fun r=>grd (r.length=k∧off+x.1.length≤r.length∧v.cells.all V.one=true∧¬(1000000000≤q∧q<2000000000)) (some (x.2.turned q (rows.set i (Es r off x.1))))
def Gj (s:S)(p i j k k' i' off:Nat):Option D→Option S
 | some d=>bnd (look p s.tree) fun rows=>bnd rows[i]? fun r=>bnd r[j]? fun c=>bnd (KP c) fun rs=>bnd rs[i']? fun r'=>bnd r'[off]? fun d0=>grd (r.length=k∧r'.length=k'∧sF d0=true∧A9 d=true) (some {s with tree:=upd p (rows.set i (r.set j (.l (rs.set i' (r'.set off d))))) s.tree})
 | none=>none
def S.store (P:Program)(s:S)(t:TypeId)(p v:V):Option S:=
 grd (eF P t=true∧v.cells.length=P.cellsOf t) (match p with
  | .ref b off=>bnd (look b s.box) fun cs=>grd (off+v.cells.length≤cs.length∧v.cells.all V.one=true) (some {s with box:=upd b (setAt cs off v.cells) s.box})
  | .pe (.own q) k i off=>Ba s q k i off v v.atom
  | .pe (.inn p i j k) k' i' off=>Gj s p i j k k' i' off v.atom
  | _=>none)
def fresh (s:S)(t:Nat):Bool:=(look t s.tree).isNone&&(look t s.dG).isNone
def S.newTree (s:S)(t:Option Nat)(rows:List (List D)):Option S:=
 bnd t fun t=>grd (fresh s t=true) (some {s with env:=YtlpdjhiggpblcaaGreat.put t (.own t) s.env,tree:=(t,rows)::s.tree})
def upto (k n:Nat):List Nat→Bool
 | []=>decide (k=n)
 | j::r=>decide (j=k)&&upto (k+1) n r
def dN (rows:List (List D)):Bool:=rows.all fun r=>r.all sF
def JZ (s:S)(q:Nat)(x:Option (List (List D))):Option (List (List D)×S):=match x with
 | some rows=>some (rows,if dN rows=true then s else s.kill q)
 | none=>bnd (look q s.dG) fun rows=>grd (dN rows=true) (some (rows,s))
def Jy (s:S):V→Option (List (List D)×S)
 | .v (.string b)=>some (b.toList.map fun c=> [.a (.int .u8 (c.toNat:Int))],s)
 | .own q=>JZ s q (look q s.tree)
 | .nil=>some ([],s)
 | .aP _ rows=>grd (dN rows=true) (some (rows,s))
 | .fz rows=>grd (dN rows=true) (some (rows,s))
 | .inn p i j k=>bnd (s.rows (.inn p i j k)) fun rows=>grd (dN rows=true) (some (rows,s))
 | _=>none
def iA (P:Program)(e:TypeId):Bool:=match P.info? e with
 | some i=>match i.zero with
  | some z=>decide (z.cells.size=i.size)&&decide (0<i.size)
  | none=>false
 | none=>false
def lD (P:Program)(e:TypeId)(n:Nat):Bool:=iA P e&&decide (n*P.bytesOf e≤140737488355328)&&decide (n≤4611686018427387904)
def S.Ca (s:S)(p i j:Nat):Option S:=bnd (look p s.tree) fun rows=>bnd rows[i]? fun r=>grd (¬(1000000000≤p∧p<2000000000)) (some (s.turned p (rows.set i (r.set j .gone))))
def rR (P:Program)(s:S)(dst:Option Nat)(e:TypeId)(new:List (List D)):V→Option S
 | .nil=>grd (lD P e new.length=true∧wid (P.cellsOf e) new=true) (s.newTree dst new)
 | .own p=>bnd (look p s.tree) fun rows=>grd (lD P e (rows.length+new.length)=true∧wid (P.cellsOf e) rows=true∧wid (P.cellsOf e) new=true) ((s.kill p).newTree dst (rows++new))
 | .inn p i j k=>bnd (s.rows (.inn p i j k)) fun rows=>grd (lD P e (rows.length+new.length)=true∧wid (P.cellsOf e) rows=true∧wid (P.cellsOf e) new=true) (bnd (s.Ca p i j) fun s=>s.newTree dst (rows++new))
 | _=>none
def iN:TypeDesc→Option TypeId
 | .slice e=>some e
 | _=>none
def IZ (P:Program)(s:S)(dst:Option Nat)(t:TypeId)(x y:V):Option S:=
 bnd (P.underlying t) fun d=>bnd (iN d) fun e=>bnd (Jy s y) fun z=>rR P z.2 dst e z.1 x
def aiJ:TypeDesc→Bool
 | .slice _=>true
 | .string=>true
 | _=>false
def Du (P:Program)(t:TypeId):Bool:=match P.underlying t with
 | some d=>aiJ d
 | none=>false
structure Ay where
 val:V
 box:List (List V)
 tree:List (Nat×List (List D))
abbrev aN:=List V→List (List V)→List (List (List D))→Option Ay
structure iF where
 src:List V
 box:List Nat
 tree:List Nat
def pos (k:Nat):List Nat→Nat→Option Nat
 | [],_=>none
 | j::r,i=>if k=j then some i else pos k r (i+1)
def I4 (src:List V)(bs ts:List Nat)(b off:Nat)(x:Option Nat):Option (V×iF):=match x with
 | some i=>some (.ref i off,⟨src,bs,ts⟩)
 | none=>some (.ref bs.length off,⟨src,bs++ [b],ts⟩)
mutual
def jW (s:S)(c:iF):V→Option (V×iF)
 | .v x=>some (.v x,c)
 | .ref b off=>I4 c.src c.box c.tree b off (pos b c.box 0)
 | .agg cs=>bnd (vT s c cs) fun x=>some (.agg x.1,x.2)
 | .fn f cs=>bnd (vT s c cs) fun x=>some (.fn f x.1,x.2)
 | .nil=>some (.aP (some c.src.length) [],{c with src:=c.src++ [.nil]})
 | .aP o rows=>some (.aP (some c.src.length) rows,{c with src:=c.src++ [.aP o rows]})
 | .fz rows=>some (.aP (some c.src.length) rows,{c with src:=c.src++ [.fz rows]})
 | .own p=>bnd (s.rows (.own p)) fun rows=>some (.aP (some c.src.length) rows,{c with src:=c.src++ [.own p]})
 | .inn p i j k=>bnd (s.rows (.inn p i j k)) fun rows=>some (.aP (some c.src.length) rows,{c with src:=c.src++ [.inn p i j k]})
 | _=>none
def vT (s:S)(c:iF):List V→Option (List V×iF)
 | []=>some ([],c)
 | v::r=>bnd (jW s c v) fun x=>bnd (vT s x.2 r) fun y=>some (x.1::y.1,y.2)
end
def Cb (src:List V)(bs ts:List Nat)(p:Nat)(k:iF→Option (List V×iF)):Option Nat→Option (List (List D))→Option (List V×iF)
 | some _,_=>none
 | none,some rows=>bnd (k ⟨src++ [.own p],bs,ts⟩) fun x=>some (.aP (some src.length) rows::x.1,x.2)
 | none,none=>bnd (k ⟨src,bs,ts++ [p]⟩) fun x=>some (.own ts.length::x.1,x.2)
def cZ (s:S)(c:iF):List V→Option (List V×iF)
 | []=>some ([],c)
 | .own p::r=>Cb c.src c.box c.tree p (fun c=>cZ s c r) (pos p c.tree 0) (look p s.dG)
 | .dead::r=>bnd (cZ s c r) fun x=>some (.dead::x.1,x.2)
 | v::r=>bnd (jW s c v) fun x=>bnd (cZ s x.2 r) fun y=>some (x.1::y.1,y.2)
def mU (s:S)(c:iF):List Nat→Option (List (List V)×iF)
 | []=>some ([],c)
 | b::r=>bnd (look b s.box) fun cs=>bnd (cZ s c cs) fun x=>bnd (mU s x.2 r) fun y=>some (x.1::y.1,y.2)
def stable:V→Bool
 | .nil=>true
 | .aP _ _=>true
 | _=>false
def Pf (t q:Nat)(x:Option Nat):Nat:=match x with
 | some p=>p
 | none=>1000*(t+1)+q
def gV (c:iF)(t q:Nat):Nat:=Pf t q c.tree[q]?
mutual
def nO (c:iF)(t:Nat):V→Option V
 | .v x=>some (.v x)
 | .nil=>some .nil
 | .aP (some j) _=>c.src[j]?
 | .aP none rows=>grd ((c.src.all stable||rows.isEmpty)=true) (some (.aP none rows))
 | .own q=>some (.own (gV c t q))
 | .ref i off=>bnd c.box[i]? fun b=>some (.ref b off)
 | .agg cs=>bnd (zW c t cs) fun cs=>some (.agg cs)
 | .fK cs=>bnd (zW c t cs) fun cs=>some (.fK cs)
 | .dead=>some .dead
 | _=>none
def zW (c:iF)(t:Nat):List V→Option (List V)
 | []=>some []
 | v::r=>bnd (nO c t v) fun v=>bnd (zW c t r) fun r=>some (v::r)
end
def iO (c:iF)(t:Nat):List Nat→List (List V)→S→Option S
 | [],[],s=>some s
 | b::bs,cs::css,s=>bnd (zW c t cs) fun cs=>iO c t bs css {s with box:=upd b cs s.box}
 | _,_,_=>none
def jP (c:iF)(t:Nat):List (Nat×List (List D))→S→Option S
 | [],s=>some s
 | (q,rows)::r,s=>if q<c.tree.length then jP c t r s else grd (fresh s (gV c t q)=true∧gV c t q<1000000000) (jP c t r {s with tree:=(gV c t q,rows)::s.tree})
def qB (s:S):List Nat→Option (List (List (List D)))
 | []=>some []
 | p::r=>bnd (look p s.tree) fun rows=>bnd (qB s r) fun r=>some (rows::r)
def I5 (s:S)(p:Nat)(x:Option (List (List D))):S:=match x with
 | some rows=> {s with tree:=upd p rows s.tree}
 | none=>s.kill p
def gT (rt:List (Nat×List (List D))):List Nat→Nat→S→S
 | [],_,s=>s
 | p::ps,i,s=>gT rt ps (i+1) (I5 s p (look i rt))
def S.back (s:S)(dst:Option Nat)(c:iF)(r:Ay):Option S:=
 bnd (iO c (dst.getD 0) c.box r.box (gT r.tree c.tree 0 s)) fun s=>bnd (jP c (dst.getD 0) r.tree s) fun s=>bnd (nO c (dst.getD 0) r.val) fun v=>some (s.put dst v)
def wM:Ay→Option (List V)
 | ⟨.ref 0 0,[cs],[]⟩=>some cs
 | _=>none
def OU (s:S)(t:Option Nat)(cs:List V):Option S:=
 bnd t fun t=>grd ((look t s.box).isNone=true) (some {s with env:=YtlpdjhiggpblcaaGreat.put t (.ref t 0) s.env,box:=(t,cs)::s.box})
def Et (s:S)(dst:Option Nat)(c:iF)(r:Ay):Option (List V)→Option S
 | some cs=>if(c.box.isEmpty&&c.tree.isEmpty)=true then bnd (zW c (dst.getD 0) cs) (OU s dst)else s.back dst c r
 | none=>s.back dst c r
def S.Nr (s:S)(dst:Option Nat)(c:iF)(r:Ay):Option S:=Et s dst c r (wM r)
theorem J2 {r:Ay}{cs:List V}(h:wM r=some cs):r=⟨.ref 0 0,[cs],[]⟩:=by
 unfold wM at h
 split at h
 ·injection h with h;subst h;rfl
 ·cases h
theorem acE (v:V)(t:List (Nat×List (List D))):wM ⟨v,[],t⟩=none:=by
 cases e:wM ⟨v,[],t⟩with
 | none=>rfl
 | some cs=>have h:=J2 e;injection h with _ h2 _;cases h2
theorem WX {s s':S}{d:Option Nat}{c:iF}{r:Ay}(h:s.back d c r=some s'):s.Nr d c r=some s':=by
 unfold S.Nr
 cases e:wM r with
 | none=>exact h
 | some cs=>
  have:=J2 e
  subst this
  simp only [Et]
  split
  ·rename_i hc
   rw [Bool.and_eq_true,List.isEmpty_iff,List.isEmpty_iff]at hc
   unfold S.back at h
   rw [hc.1]at h
   simp only [iO]at h
   cases h
  ·exact h
def WY (c:iF):Bool:=c.tree.all fun p=>c.src.all fun v=> !aM p v
def Mt (c:iF)(n:Nat):Bool:=WY c&&decide (c.box.length=n)
def qj (s:S)(c:iF):List V→Option (List V×iF)
 | []=>some ([],c)
 | .agg cs::r=>bnd (cZ s c cs) fun x=>bnd (qj s x.2 r) fun y=>some (.agg x.1::y.1,y.2)
 | v::r=>bnd (cZ s c [v]) fun x=>bnd (qj s x.2 r) fun y=>some (x.1++y.1,y.2)
def Ns (m:Bool)(s:S)(c:iF)(args:List V):Option (List V×iF):=if m then qj s c args else vT s c args
def vU (m:Bool)(M:aN)(s:S)(dst:Option Nat)(args:List V):Option S:=
 bnd (Ns m s ⟨[],[],[]⟩ args) fun x=>bnd (mU s x.2 x.2.box) fun y=>bnd (qB s y.2.tree) fun ts=>
  grd (Mt y.2 y.1.length=true) (bnd (M x.1 y.1 ts) fun r=>s.Nr dst y.2 r)
def aiK:TypeDesc→Bool
 | .slice _=>true
 | _=>false
def zN (P:Program)(t:TypeId):Bool:=match P.underlying t with
 | some d=>aiK d
 | none=>false
def ZC (P:Program)(t:TypeId):Bool:=match P.underlying t with
 | some d=>Ms d
 | none=>false
def kI (P:Program)(s:S)(dst:Option Nat)(b:Builtin)(ats:Array TypeId)(args:List V):Option S:=
 match b,args with
 | .len,[.v (.string x)]=>bnd ats[0]? fun t=>grd (ZC P t=true) (some (s.put dst (.v (.int .i64 x.size))))
 | .len,[x]=>bnd ats[0]? fun t=>grd (zN P t=true) (bnd (s.rows x) fun rows=>some (s.put dst (.v (.int .i64 rows.length))))
 | .append,[x,y]=>bnd ats[0]? fun t=>bnd ats[1]? fun t1=>grd (Du P t1=true) (IZ P s dst t x y)
 | .max,[.v (.int .i64 x), .v (.int .i64 y)]=>some (s.put dst (.v (.int .i64 (max x y))))
 | .min,[.v (.int .i64 x), .v (.int .i64 y)]=>some (s.put dst (.v (.int .i64 (min x y))))
 | _,_=>none
def qY:List D→Option UInt8
 | [.a (.int .u8 n)]=>some (UInt8.ofNat n.toNat)
 | _=>none
def Eu:TypeDesc→Bool
 | .int .u8=>true
 | _=>false
def xV (P:Program)(s:S)(x:V)(ds:TypeDesc):Option V:=
 bnd (iN ds) fun e=>bnd (P.underlying e) fun d=>grd (Eu d=true) (bnd (s.rows x) fun rows=>bnd (bG qY rows) fun l=>some (.v (.string ⟨l.toArray⟩)))
def wN (P:Program)(s:S)(x:V)(ds:TypeDesc):TypeDesc→Option V
 | .int k=>bnd (idxOf x) fun n=>some (.v (.int k (k.wrap n)))
 | .string=>match x with
  | .v (.string b)=>some (.v (.string b))
  | .v _=>none
  | x=>xV P s x ds
 | _=>none
def nV (b:ByteArray):List (List D):=b.data.toList.map fun c=> [.a (.int .u8 (c.toNat:Int))]
def Gl (s:S)(dst:Option Nat):V→Option S
 | .v (.string b)=>bnd dst fun t=>grd (fresh s t=true∧b.size≤4611686018427387904) (some {s with env:=YtlpdjhiggpblcaaGreat.put t (.fz (nV b)) s.env,dG:=(t,[])::s.dG})
 | _=>none
def KR (P:Program)(s:S)(dst:Option Nat)(x:V)(ds:TypeDesc):TypeDesc→Option S
 | .slice e=>bnd (P.underlying e) fun d=>grd (Eu d=true) (Gl s dst x)
 | d=>bnd (wN P s x ds d) fun v=>some (s.put dst v)
inductive Parts where
 | agf (fs:Array Field)
 | arr (e:TypeId)
def Pg (P:Program):Parts→Nat→Option (Nat×Nat)
 | .agf fs,i=>bnd fs[i]? fun f=>some (f.offset,P.cellsOf f.type)
 | .arr e,i=>some (i*P.cellsOf e,P.cellsOf e)
def sG (P:Program)(fs:Parts)(cs:List V):List (Nat×V)→Option (List V)
 | []=>some cs
 | (i,v)::r=>bnd (Pg P fs i) fun f=>grd (v.cells.length=f.2∧f.1+v.cells.length≤cs.length∧v.cells.all V.one=true) (sG P fs (setAt cs f.1 v.cells) r)
def yR:TypeDesc→Option Parts
 | .struct fs=>some (.agf fs)
 | .array _ e=>some (.arr e)
 | _=>none
def fieldsD (P:Program):TypeDesc→Bool
 | .struct fs=>fs.toList.all fun f=>eF P f.type
 | .array _ e=>eF P e
 | _=>false
def jm (P:Program)(t:TypeId):Bool:=match P.underlying t with
 | some d=>fieldsD P d
 | none=>false
def pE (s:S)(x:Nat×Operand):Option (Nat×V):=bnd (s.ev x.2) fun v=>some (x.1,v)
def kC (s:S):Option Operand→Option (Option V)
 | none=>some none
 | some x=>bnd (s.ev x) fun v=>some (some v)
def Nt:V→Option V
 | .ref b off=>some (.ref b off)
 | .pe b k i off=>some (.pe b k i off)
 | _=>none
def Ph (i:Nat):V→Option V
 | .fK vs=>vs[i]?
 | _=>none
def Ta:V→Option (List V)
 | .agg cs=>some cs
 | _=>none
def S.uO (s:S)(t:Option Nat)(cs:List V):Option S:=
 bnd t fun t=>grd ((look t s.box).isNone=true) (some {s with env:=YtlpdjhiggpblcaaGreat.put t (.ref t 0) s.env,box:=(t,cs)::s.box})
def UM:V→Option (FuncId×List V)
 | .fn f cs=>some (f,cs)
 | _=>none
def Mv:V→Bool
 | .v _=>true
 | _=>false
def OV (s:S)(dst:Option Nat)(p i j:Nat)(rows:List (List D))(r:List D):Ay→Option S
 | ⟨v,[],[(0,rs)]⟩=>grd (Mv v=true) (some ({s with tree:=upd p (rows.set i (r.set j (.l rs))) s.tree}.put dst v))
 | _=>none
def WZ (M:aN)(s:S)(dst:Option Nat)(p i j k:Nat)(rest:List V):Option S:=
 bnd (look p s.tree) fun rows=>bnd rows[i]? fun r=>bnd r[j]? fun d=>bnd (KP d) fun rs=>grd (r.length=k∧rest.all Mv=true) (bnd (M (.own 0::rest) [] [rs]) (OV s dst p i j rows r))
def wO (m:Bool)(M:aN)(s:S)(dst:Option Nat):List V→Option S
 | .inn p i j k::rest=>if m then WZ M s dst p i j k rest else vU m M s dst (.inn p i j k::rest)
 | args=>vU m M s dst args
def J3 (P:Program)(G:List (FuncId×Bool×aN))(s:S)(dst:Option Nat)(ats:Array TypeId)(args:List V):Callee→Option S
 | .builtin b=>kI P s dst b ats args
 | .value f=>bnd (s.ev f) fun f=>bnd (UM f) fun f=>bnd (look f.1 G) fun M=>wO M.1 M.2 s dst (args++f.2)
 | _=>none
def Pj (P:Program)(s:S)(dst:Option Nat)(t:TypeId)(n c:V):Option S:=
 bnd (P.underlying t) fun d=>bnd (iN d) fun e=>bnd (idxOf n) fun l=>bnd (idxOf c) fun cc=>grd (iA P e=true∧0≤l∧l=cc∧l.toNat*P.bytesOf e≤140737488355328∧l≤4611686018427387904) (bnd (jM P e) fun z=>bnd (bG zT z) fun r=>s.newTree dst (List.replicate l.toNat r))
def UN (s:S)(dst:Option Nat)(k p:Nat)(rows:List (List D))(lo hi:Option V):Option S:=
 bnd (bounds rows.length lo hi) fun q=>if q.1<q.2 then grd (wid k rows=true) ((s.kill p).newTree dst ((rows.drop q.1).take (q.2-q.1)))else some (s.put dst (.aP none []))
def aek (P:Program)(s:S)(dst:Option Nat)(p:Nat)(rows:List (List D))(lo hi:Option V):TypeDesc→Option S
 | .slice e=>grd (eF P e=true) (UN s dst (P.cellsOf e) p rows lo hi)
 | _=>none
def ahC (P:Program)(s:S)(dst:Option Nat)(p:Nat)(lo hi:Option V)(d:TypeDesc):Option (List (List D))→Option S
 | some rows=>aek P s dst p rows lo hi d
 | none=>bnd (qX P s (.own p) lo hi d) fun v=>some (s.put dst v)
def ZE (P:Program)(s:S)(dst:Option Nat)(p:Nat)(lo hi:Option V)(d:TypeDesc):Option (List (List D))→Option S
 | some _=>bnd (qX P s (.own p) lo hi d) fun v=>some (s.put dst v)
 | none=>ahC P s dst p lo hi d (look p s.tree)
def C8 (P:Program)(s:S)(dst:Option Nat)(x:V)(lo hi:Option V)(d:TypeDesc):Option S:=match x with
 | .own p=>ZE P s dst p lo hi d (look p s.dG)
 | x=>bnd (qX P s x lo hi d) fun v=>some (s.put dst v)
def fnV (vs:List V)(first:Array Operand):Fn→Option V
 | .func f=>grd (first.isEmpty=true) (some (.fn f vs))
 | _=>none
def intD:TypeDesc→Bool
 | .int .i64=>true
 | _=>false
def mapD:TypeDesc→Option (TypeId×TypeId)
 | .map k e=>some (k,e)
 | _=>none
def ael:Value→Option Int
 | .int .i64 n=>some n
 | _=>none
def OB (P:Program)(t:TypeId):Option Int:=
 bnd (P.underlying t) fun d=>bnd (mapD d) fun x=>bnd (P.underlying x.1) fun k=>grd (intD k=true) (bnd (P.info? x.2) fun i=>bnd i.zero ael)
def acF:V→Option (List (Int×Int))
 | .mp es=>some es
 | _=>none
def rT (k:Int):List (Int×Int)→Option Int
 | []=>none
 | (j,x)::r=>if k=j then some x else rT k r
def Tc:V→Option Int
 | .v (.int .i64 n)=>some n
 | _=>none
def Mw (z:Int):Option Int→V
 | some x=> .fK [.v (.int .i64 x), .v (.bool true)]
 | none=> .fK [.v (.int .i64 z), .v (.bool false)]
def C9:List (Int×Int)→Bool
 | []=>true
 | x::r=>(rT x.1 r).isNone&&C9 r
def Nu (t:TypeId)(d:Nat):Oper→Option (Int×Int)
 | ⟨none, .insert t' (.tmp d') (.const (.int .i64 k)) (.const (.int .i64 v)),_,_,_,none⟩=>if t'=t∧d'=d then some (k,v)else none
 | _=>none
def UO {α:Type}(f:Int×Int→α)(b:α):Option (Int×Int)→α
 | some e=>f e
 | none=>b
def pF (t:TypeId)(d:Nat):List Oper→List (Int×Int)→List (Int×Int)×List Oper
 | [],acc=>(acc,[])
 | o::r,acc=>UO (fun e=>pF t d r (acc++ [e])) (acc,o::r) (Nu t d o)
def Pk:List Oper→Option (TypeId×Nat×List (Int×Int)×List Oper)
 | ⟨some d, .makeMap t none,_,_,_,none⟩::r=>some (t,d,(pF t d r []).1,(pF t d r []).2)
 | _=>none
def S.OW (s:S)(d:Nat)(es:List (Int×Int)):S:= {s with env:=YtlpdjhiggpblcaaGreat.put d (.mp es) s.env,dG:=(d,[])::s.dG}
def iJ (P:Program)(G:List (FuncId×Bool×aN))(s:S)(dst:Option Nat):Op→Option S
 | .move x=>bnd (s.ev x) fun v=>some (s.put dst v)
 | .assign x=>bnd (s.ev x) fun v=>some (s.put dst v)
 | .pick c x y=>bnd (s.ev c) fun c=>bnd (Ep c) fun b=>bnd (s.ev (if b then x else y)) fun v=>some (s.put dst v)
 | .alloc t=>bnd (jM P t) fun cs=>s.uO dst cs
 | .box t x=>bnd (s.ev x) fun v=>grd (v.cells.length=P.cellsOf t∧v.cells.all V.one=true) (s.uO dst v.cells)
 | .build t ps=>bnd (P.underlying t) fun d=>bnd (yR d) fun fs=>grd (jm P t=true) (bnd (jM P t) fun z=>bnd (bG (pE s) ps.toList) fun vs=>bnd (sG P fs z vs) fun cs=>some (s.put dst (.agg cs)))
 | .buildSlice t n ps=>bnd (P.underlying t) fun d=>bnd (iN d) fun e=>bnd (bG (pE s) ps.toList) fun vs=>
   grd ((iA P e&&decide (n*P.cellsOf e≤16777216)&&upto 0 n (vs.map (·.1))&&vs.all fun v=>decide (v.2.cells.length=P.cellsOf e)&&v.2.cells.all V.one)=true) (bnd (kG s (vs.map (·.2))) fun x=>x.2.newTree dst x.1)
 | .load t p=>bnd (s.ev p) fun p=>bnd (s.load P t p) fun v=>some (s.put dst v)
 | .store t p x=>bnd (s.ev p) fun p=>bnd (s.ev x) fun v=>bnd (s.store P t p v) fun s=>some (s.skip dst)
 | .nilCheck x=>bnd (s.ev x) fun v=>bnd (Nt v) fun v=>some (s.put dst v)
 | .binOp op t x y _=>bnd (s.ev x) fun x=>bnd (s.ev y) fun y=>bnd (bin P t op x y) fun v=>some (s.put dst v)
 | .unOp op _ x=>bnd (s.ev x) fun x=>bnd (un op x) fun v=>some (s.put dst v)
 | .convert t0 t x=>bnd (s.ev x) fun x=>bnd (P.underlying t0) fun d0=>bnd (P.underlying t) fun d=>KR P s dst x d0 d
 | .slice t x lo hi none=>bnd (s.ev x) fun x=>bnd (kC s lo) fun l=>bnd (kC s hi) fun h=>bnd (P.underlying t) fun d=>C8 P s dst x l h d
 | .fieldAddr t x f=>bnd (s.ev x) fun x=>bnd (bZ P t f) fun f=>bnd (xU x f.1) fun v=>some (s.put dst v)
 | .field t x f=>bnd (s.ev x) fun x=>bnd (Ta x) fun cs=>bnd (bZ P t f) fun f=>bnd (pz P f.2) fun g=>bnd (span cs f.1 (P.cellsOf f.2) g) fun v=>some (s.put dst v)
 | .indexAddr t x i=>bnd (s.ev x) fun x=>bnd (s.ev i) fun i=>bnd (idxOf i) fun i=>bnd (mE P t) fun e=>bnd (lK P s x i e.1 e.2) fun v=>some (s.put dst v)
 | .index t x i=>bnd (s.ev x) fun x=>bnd (s.ev i) fun i=>bnd (idxOf i) fun i=>bnd (Gh P t x i) fun v=>some (s.put dst v)
 | .extract x i=>bnd (s.ev x) fun x=>bnd (Ph i x) fun v=>some (s.put dst v)
 | .makeFunc fn first cap=>bnd (bG s.ev cap.toList) fun vs=>bnd (fnV vs first fn) fun v=>some (s.put dst v)
 | .makeSlice t n c=>bnd (s.ev n) fun n=>bnd (s.ev c) fun c=>Pj P s dst t n c
 | .call c=>bnd (bG s.ev c.args.toList) fun args=>J3 P G s dst c.argTypes args c.callee
 | .lookup t m k true=>bnd (s.ev m) fun m=>bnd (s.ev k) fun k=>bnd (acF m) fun es=>bnd (Tc k) fun n=>bnd (OB P t) fun z=>some (s.put dst (Mw z (rT n es)))
 | _=>none
def J4 (want:Bool)(x:Option V):Option Bool:=match x with
 | some (.v (.bool b))=>some (b==want)
 | some (.fK [])=>some false
 | _=>none
def I6 (s:S)(want:Bool)(x:Option Nat):Option Bool:=match x with
 | some d=>J4 want (look d s.env)
 | none=>some false
def S.wants (ops:Array Oper)(s:S):Option (Nat×Bool)→Option Bool
 | none=>some true
 | some (j,want)=>I6 s want ((ops[j]?).bind (·.dst))
def ren (m:List (Nat×Nat))(p:Nat):Nat:=(look p m).getD p
mutual
def Bb (m:List (Nat×Nat)):V→V
 | .own p=> .own (ren m p)
 | .inn p i j k=> .inn (ren m p) i j k
 | .pe b k i off=> .pe (Bb m b) k i off
 | .agg cs=> .agg (Gd m cs)
 | .fK cs=> .fK (Gd m cs)
 | .fn f cs=> .fn f (Gd m cs)
 | v=>v
def Gd (m:List (Nat×Nat)):List V→List V
 | []=> []
 | v::r=>Bb m v::Gd m r
end
mutual
def uz (l:List Nat):V→List Nat
 | .own p=>if l.contains p then l else l++ [p]
 | .inn p _ _ _=>if l.contains p then l else l++ [p]
 | .pe b _ _ _=>uz l b
 | .agg cs=>zZ l cs
 | .fK cs=>zZ l cs
 | .fn _ cs=>zZ l cs
 | _=>l
def zZ (l:List Nat):List V→List Nat
 | []=>l
 | v::r=>zZ (uz l v) r
end
def dW (n:Nat):List (Nat×V)→List (Nat×V)×List Nat
 | []=>([],[])
 | (t, .nil)::r=>let (r,ps):=dW (n+1) r;((t, .own n)::r,n::ps)
 | x::r=>let (r,ps):=dW n r;(x::r,ps)
def cu (n:Nat):List V→List V×List Nat
 | []=>([],[])
 | .nil::r=>let (r,ps):=cu (n+1) r;(.own n::r,n::ps)
 | x::r=>let (r,ps):=cu n r;(x::r,ps)
def mV (n:Nat):List (Nat×List V)→List (Nat×List V)×List Nat
 | []=>([],[])
 | (b,cs)::r=>let (cs,ps):=cu n cs;let (r,qs):=mV (n+ps.length) r;((b,cs)::r,ps++qs)
def aem (ts:List Nat)(env:List (Nat×V)):Option (List (Nat×V)):=bG (fun t=>bnd (look t env) fun v=>some (t,v)) ts
def aen (bs:List Nat)(box:List (Nat×List V)):Option (List (Nat×List V)):=bG (fun b=>bnd (look b box) fun v=>some (b,v)) bs
def iL (bs:List Nat):V→Bool
 | .ref b _=>bs.contains b
 | .pe b _ _ _=>iL bs b
 | .agg cs=>go cs
 | .fK cs=>go cs
 | .fn _ cs=>go cs
 | _=>true
where go:List V→Bool
 | []=>true
 | c::r=>iL bs c&&go r
def yZ (s:S)(p:Nat)(x:Option (List (List D))):Option S:=match x with
 | some rows=>some {s with tree:=drop1 p s.tree,dG:=(p,rows)::s.dG}
 | none=>some s
def kD (s:S):List V→Option S
 | []=>some s
 | .own p::r=>bnd (yZ s p (look p s.tree)) fun s=>kD s r
 | _::r=>kD s r
def KS (s:S):V→Option S
 | .own p=>yZ s p (look p s.tree)
 | .ref b _=>bnd (look b s.box) fun cs=>kD s cs
 | _=>some s
def S.freeze (s:S)(t:Nat):Option S:=bnd (look t s.env) fun v=>KS s v
def Mx (p i:Nat)(k:Nat→List (Nat×Nat×List (List D))):Option (List (List D))→List (Nat×Nat×List (List D))
 | some rows=>if 1000000000≤p∧p<2000000000 then(p,p,rows)::k i else(p,2000000000+i,rows)::k (i+1)
 | none=>k i
def metIn (tree:List (Nat×List (List D))):List Nat→Nat→List (Nat×Nat×List (List D))
 | [],_=> []
 | p::r,i=>Mx p i (metIn tree r) (look p tree)
def S.JD (m:List (Nat×Nat×List (List D)))(env:List (Nat×V))(box:List (Nat×List V))(dG:List (Nat×List (List D))):S:=
 {env:=env.map fun x=>(x.1,Bb (m.map fun x=>(x.1,x.2.1)) x.2),box:=box.map fun x=>(x.1,Gd (m.map fun x=>(x.1,x.2.1)) x.2),tree:=(m.map (·.2)).reverse,dG}
def S.abV (env:List (Nat×V))(box:List (Nat×List V))(tree dG:List (Nat×List (List D))):S:=
 S.JD (metIn tree (zZ (zZ [] (env.map (·.2))) (box.flatMap (·.2))) (1000*dG.length)) env box dG
def S.head (ts bs:List Nat)(s:S):Option S:=
 bnd (aem ts s.env) fun env=>bnd (aen bs s.box) fun box=>
  grd ((desc ts&&desc bs&&env.all (fun x=>iL bs x.2)&&box.all (fun x=>x.2.all (iL bs))&&s.tree.all (fun x=>decide (x.1<3000000000))&&s.dG.all (fun x=>decide (x.1<2000000000+1000*s.dG.length))&&decide (s.dG.length<1000))=true)
   (some (S.abV (dW 3000000000 env).1 (mV (3000000000+(dW 3000000000 env).2.length) box).1
    (s.tree++((dW 3000000000 env).2++(mV (3000000000+(dW 3000000000 env).2.length) box).2).map fun p=>(p,[])) s.dG))
def uD (s:S):List Nat→Option S
 | []=>some s
 | t::r=>bnd (s.freeze t) fun s=>uD s r
structure mg where
 heads:List (Nat×List Nat×List Nat)
 frees:List (Nat×List Nat)
 draws:List (Nat×List Nat×List (Nat×List Nat)):= []
 aiL:List (Nat×List Nat×List Nat):= []
def UQ (x:Option (List Nat×List (Nat×List Nat))):List Nat×List (Nat×List Nat):=match x with
 | some l=>l
 | none=>([],[])
def mg.bars (g:mg)(id:Nat):List Nat×List (Nat×List Nat):=UQ (look id g.draws)
def Gm (s:S)(x:Option (List Nat×List Nat)):Option S:=match x with
 | some x=>s.head x.1 x.2
 | none=>some s
def mg.head (g:mg)(id:Nat)(s:S):Option S:=Gm s (look id g.heads)
def Td (s:S)(x:Option (List Nat)):Option S:=match x with
 | some ts=>uD s ts
 | none=>some s
def mg.reg (g:mg)(id:Nat)(s:S):Option S:=bnd (Gm s (look id g.aiL)) fun s=>Td s (look id g.frees)
inductive Q where
 | on (s:S)
 | off
def RZ (x:Option S):Option Q:=match x with
 | some s=>some (.on s)
 | none=>none
@[simp ↓] theorem og (s:S):RZ (some s)=some (.on s):=_root_.id rfl
@[simp ↓] theorem aiM:RZ none=none:=_root_.id rfl
def Cc (P:Program)(G:List (FuncId×Bool×aN))(ops:Array Oper):List Oper→Q→Option Q
 | [],q=>some q
 | o::r, .on s=>bnd (s.wants ops o.guard) fun g=>if g then bnd (RZ (iJ P G s o.dst o.op)) fun q=>Cc P G ops r q else bnd (RZ (some (s.put o.dst (.fK [])))) fun q=>Cc P G ops r q
 | _::_, .off=>none
theorem iP {α β γ:Type}(x:Option α)(f:α→Option β)(g:β→Option γ):bnd (bnd x f) g=bnd x fun a=>bnd (f a) g:=by cases x<;>rfl
theorem oL {α β:Type}{c:Prop} [Decidable c](x:Option α)(f:α→Option β):bnd (grd c x) f=grd c (bnd x f):=by unfold grd;split<;>rfl
def KT (b:Builtin)(args:List V):Option V:=match b,args with
 | .max,[.v (.int .i64 x), .v (.int .i64 y)]=>some (.v (.int .i64 (max x y)))
 | .min,[.v (.int .i64 x), .v (.int .i64 y)]=>some (.v (.int .i64 (min x y)))
 | _,_=>none
def KU (args:List V):Callee→Option V
 | .builtin b=>KT b args
 | _=>none
def je (P:Program)(s:S):Op→Option V
 | .move x=>s.ev x
 | .assign x=>s.ev x
 | .pick c x y=>bnd (s.ev c) fun c=>bnd (Ep c) fun b=>s.ev (if b then x else y)
 | .build t ps=>bnd (P.underlying t) fun d=>bnd (yR d) fun fs=>grd (jm P t=true) (bnd (jM P t) fun z=>bnd (bG (pE s) ps.toList) fun vs=>bnd (sG P fs z vs) fun cs=>some (.agg cs))
 | .load t p=>bnd (s.ev p) fun p=>s.load P t p
 | .nilCheck x=>bnd (s.ev x) fun v=>Nt v
 | .binOp op t x y _=>bnd (s.ev x) fun x=>bnd (s.ev y) fun y=>bin P t op x y
 | .unOp op _ x=>bnd (s.ev x) fun x=>un op x
 | .convert t0 t x=>bnd (s.ev x) fun x=>bnd (P.underlying t0) fun d0=>bnd (P.underlying t) fun d=>wN P s x d0 d
 | .slice t x lo hi none=>bnd (s.ev x) fun x=>bnd (kC s lo) fun l=>bnd (kC s hi) fun h=>bnd (P.underlying t) fun d=>qX P s x l h d
 | .fieldAddr t x f=>bnd (s.ev x) fun x=>bnd (bZ P t f) fun f=>xU x f.1
 | .field t x f=>bnd (s.ev x) fun x=>bnd (Ta x) fun cs=>bnd (bZ P t f) fun f=>bnd (pz P f.2) fun g=>span cs f.1 (P.cellsOf f.2) g
 | .indexAddr t x i=>bnd (s.ev x) fun x=>bnd (s.ev i) fun i=>bnd (idxOf i) fun i=>bnd (mE P t) fun e=>lK P s x i e.1 e.2
 | .index t x i=>bnd (s.ev x) fun x=>bnd (s.ev i) fun i=>bnd (idxOf i) fun i=>Gh P t x i
 | .extract x i=>bnd (s.ev x) fun x=>Ph i x
 | .makeFunc fn first cap=>bnd (bG s.ev cap.toList) fun vs=>fnV vs first fn
 | .call c=>bnd (bG s.ev c.args.toList) fun args=>KU args c.callee
 | _=>none
structure Eff where
 val:V
 tree:List (Nat×List (List D))
 box:List (Nat×List V)
def uQ (t:Nat):List (Nat×List (List D))→List (Nat×List (List D))
 | []=> []
 | (q,rows)::r=>(1000*(t+1)+q,rows)::uQ t r
def Ev (M:aN)(s:S)(d:Nat)(args:List V):Option Eff:=
 bnd (vT s ⟨[],[],[]⟩ args) fun x=>grd ((x.2.box.isEmpty&&x.2.tree.isEmpty)=true) (bnd (M x.1 [] []) fun r=>grd (r.box.isEmpty=true) (bnd (nO x.2 d r.val) fun v=>some ⟨v,uQ d r.tree,[]⟩))
def S.app (s:S)(d:Option Nat)(e:Eff):S:= {env:=(s.put d e.val).env,box:=e.box++s.box,tree:=e.tree.reverse++s.tree,dG:=s.dG}
def jo (s:S):List (Nat×List (List D))→Bool
 | []=>true
 | x::r=>fresh s x.1&&decide (x.1<1000000000)&&jo {s with tree:=x::s.tree} r
def BZ (P:Program)(s:S)(b:Builtin)(ats:Array TypeId)(args:List V):Option V:=
 match b,args with
 | .len,[.v (.string x)]=>bnd ats[0]? fun t=>grd (ZC P t=true) (some (.v (.int .i64 x.size)))
 | .len,[x]=>bnd ats[0]? fun t=>grd (zN P t=true) (bnd (s.rows x) fun rows=>some (.v (.int .i64 rows.length)))
 | .max,[.v (.int .i64 x), .v (.int .i64 y)]=>some (.v (.int .i64 (max x y)))
 | .min,[.v (.int .i64 x), .v (.int .i64 y)]=>some (.v (.int .i64 (min x y)))
 | _,_=>none
def nI (s:S):V→Option (List (List D))
 | .v (.string b)=>some (b.toList.map fun c=> [.a (.int .u8 (c.toNat:Int))])
 | .v _=>none
 | x=>bnd (s.rows x) fun rows=>grd (dN rows=true) (some rows)
def Gn (P:Program)(s:S)(d:Nat)(e:TypeId)(new:List (List D)):V→Option Eff
 | .nil=>grd (lD P e new.length=true∧wid (P.cellsOf e) new=true) (some ⟨.own d,[(d,new)],[]⟩)
 | .own p=>bnd (look p s.tree) fun rows=>grd (rows.isEmpty=true∧lD P e new.length=true∧wid (P.cellsOf e) new=true) (some ⟨.own d,[(d,new)],[]⟩)
 | _=>none
def W9 (P:Program)(s:S)(d:Nat)(b:Builtin)(ats:Array TypeId)(args:List V):Option Eff:=
 match b,args with
 | .append,[x,y]=>bnd ats[0]? fun t=>bnd ats[1]? fun t1=>grd (Du P t1=true) (bnd (P.underlying t) fun ds=>bnd (iN ds) fun e=>bnd (nI s y) fun new=>Gn P s d e new x)
 | b,args=>bnd (BZ P s b ats args) fun v=>some ⟨v,[],[]⟩
def xW (P:Program)(G:List (FuncId×Bool×aN))(s:S)(d:Nat)(ats:Array TypeId)(args:List V):Callee→Option Eff
 | .builtin b=>W9 P s d b ats args
 | .value f=>bnd (s.ev f) fun f=>bnd (UM f) fun f=>bnd (look f.1 G) fun M=>grd (M.1=false) (Ev M.2 s d (args++f.2))
 | _=>none
def qm (P:Program)(G:List (FuncId×Bool×aN))(s:S)(d:Nat):Op→Option Eff
 | .alloc t=>bnd (jM P t) fun cs=>some ⟨.ref d 0,[],[(d,cs)]⟩
 | .box t x=>bnd (s.ev x) fun v=>grd (v.cells.length=P.cellsOf t∧v.cells.all V.one=true) (some ⟨.ref d 0,[],[(d,v.cells)]⟩)
 | .buildSlice t n ps=>bnd (P.underlying t) fun ds=>bnd (iN ds) fun e=>bnd (bG (pE s) ps.toList) fun vs=>
   grd ((iA P e&&decide (n*P.cellsOf e≤16777216)&&upto 0 n (vs.map (·.1))&&vs.all fun v=>decide (v.2.cells.length=P.cellsOf e)&&v.2.cells.all V.one)=true) (bnd (bG (fun v=>bG zT v.2.cells) vs) fun rows=>some ⟨.own d,[(d,rows)],[]⟩)
 | .call c=>bnd (bG s.ev c.args.toList) fun args=>xW P G s d c.argTypes args c.callee
 | op=>bnd (je P s op) fun v=>some ⟨v,[],[]⟩
def kJ (s:S):List (Nat×List V)→Bool
 | []=>true
 | x::r=>(look x.1 s.box).isNone&&kJ {s with box:=x::s.box} r
def jX (P:Program)(G:List (FuncId×Bool×aN))(s:S)(d:Option Nat)(op:Op):Option S:=
 bnd d fun d=>bnd (qm P G s d op) fun e=>grd ((jo s e.tree&&kJ s e.box)=true) (some (s.app (some d) e))
structure Bar where
 val:V
 box:List (Nat×List V)
 tree:List (Nat×List (List D))
 kills:List Nat
 inn:List Nat
def FZ:List Nat→List (Nat×V)→List (Nat×V)
 | [],e=>e
 | p::r,e=>FZ r (OA p e)
def qC:List Nat→List (Nat×V)→List (Nat×V)
 | [],e=>e
 | p::r,e=>qC r (zU p e)
def owns:List V→List Nat
 | []=> []
 | .own p::r=>p::owns r
 | _::r=>owns r
def KV:List V→List Nat
 | []=> []
 | v::r=>owns v.cells++KV r
def S.iB (s:S)(d:Option Nat)(x:Bar):S:= {env:=(S.put {s with env:=FZ x.inn (qC x.kills s.env)} d x.val).env,box:=x.box,tree:=x.tree,dG:=s.dG}
def OX (d:Option Nat)(vs:List V)(x:List (List D)×S):Option Bar:=
 bnd d fun t=>grd (fresh x.2 t=true) (some ⟨.own t,x.2.box,(t,x.1)::x.2.tree,KV vs,[]⟩)
def Az (s:S)(q k i off:Nat):Option D→Option Bar
 | some d=>bnd (look q s.tree) fun rows=>bnd rows[i]? fun r=>bnd r[off]? fun d0=>grd (r.length=k∧sF d0=true∧A9 d=true) (some ⟨.fK [],s.box,upd q (rows.set i (r.set off d)) s.tree,[],[]⟩)
 | none=>none
def Dv (s:S)(v:V):V→Option Bar
 | .pe (.own q) k i off=>Az s q k i off v.atom
 | .ref b off=>bnd (look b s.box) fun cs=>grd (off+v.cells.length≤cs.length∧v.cells.all V.one=true) (some ⟨.fK [],upd b (setAt cs off v.cells) s.box,s.tree,[],[]⟩)
 | _=>none
def Nv (M:aN)(s:S)(t:Nat)(args:List V):Option Bar:=
 bnd (vT s ⟨[],[],[]⟩ args) fun x=>bnd (mU s x.2 x.2.box) fun y=>grd ((y.2.tree.isEmpty&&Mt y.2 y.1.length)=true) (bnd (M x.1 y.1 []) fun r=>
  bnd (iO y.2 t y.2.box r.box s) fun s=>bnd (jP y.2 t r.tree s) fun s=>bnd (nO y.2 t r.val) fun v=>some ⟨v,s.box,s.tree,[],[]⟩)
def xX (P:Program)(s:S)(d:Option Nat)(e:TypeId)(new:List (List D)):V→Option Bar
 | .nil=>grd (lD P e new.length=true∧wid (P.cellsOf e) new=true) (bnd d fun t=>grd (fresh s t=true) (some ⟨.own t,s.box,(t,new)::s.tree,[],[]⟩))
 | .own p=>bnd (look p s.tree) fun rows=>grd (lD P e (rows.length+new.length)=true∧wid (P.cellsOf e) rows=true∧wid (P.cellsOf e) new=true) (bnd d fun t=>grd (fresh s t=true) (some ⟨.own t,oK p s.box,(t,rows++new)::drop1 p s.tree,[p],[]⟩))
 | .inn p i j k=>bnd (s.rows (.inn p i j k)) fun rows=>grd (lD P e (rows.length+new.length)=true∧wid (P.cellsOf e) rows=true∧wid (P.cellsOf e) new=true) (bnd (look p s.tree) fun rs=>bnd rs[i]? fun r=>grd (¬(1000000000≤p∧p<2000000000)) (bnd d fun t=>grd (fresh s t=true) (some ⟨.own t,Gi p s.box,(t,rows++new)::upd p (rs.set i (r.set j .gone)) s.tree,[],[p]⟩)))
 | _=>none
def Pm (P:Program)(s:S)(d:Option Nat)(b:Builtin)(ats:Array TypeId)(args:List V):Option Bar:=
 match b,args with
 | .append,[x,y]=>bnd ats[0]? fun t=>bnd ats[1]? fun t1=>grd (Du P t1=true) (bnd (P.underlying t) fun ds=>bnd (iN ds) fun e=>bnd (nI s y) fun new=>xX P s d e new x)
 | _,_=>none
def xY (P:Program)(G:List (FuncId×Bool×aN))(s:S)(d:Option Nat)(ats:Array TypeId)(args:List V):Callee→Option Bar
 | .builtin b=>Pm P s d b ats args
 | .value f=>bnd (s.ev f) fun f=>bnd (UM f) fun f=>bnd (look f.1 G) fun M=>grd (M.1=false) (Nv M.2 s (d.getD 0) (args++f.2))
 | _=>none
def sD (P:Program)(G:List (FuncId×Bool×aN))(s:S)(d:Option Nat):Op→Option Bar
 | .store t p x=>bnd (s.ev p) fun p=>bnd (s.ev x) fun v=>grd (eF P t=true∧v.cells.length=P.cellsOf t∧d.isNone=true) (Dv s v p)
 | .call c=>bnd (bG s.ev c.args.toList) fun args=>xY P G s d c.argTypes args c.callee
 | .buildSlice t n ps=>bnd (P.underlying t) fun dd=>bnd (iN dd) fun e=>bnd (bG (pE s) ps.toList) fun vs=>
   grd ((iA P e&&decide (n*P.cellsOf e≤16777216)&&upto 0 n (vs.map (·.1))&&vs.all fun v=>decide (v.2.cells.length=P.cellsOf e)&&v.2.cells.all V.one)=true) (bnd (kG s (vs.map (·.2))) fun x=>OX d (vs.map (·.2)) x)
 | _=>none
def isApp:Op→Bool
 | .call c=>match c.callee with
  | .builtin _=>true
  | _=>false
 | _=>false
def Dw (ks:List Nat)(v:V):Bool:=ks.all fun p=> !aM p v
def mq (ks:List Nat)(s:S):Operand→Bool
 | .tmp t=>match look t s.env with
  | some v=>Dw ks v
  | none=>true
 | _=>true
def eO (ks:List Nat)(s:S)(op:Op):Bool:=op.operands.toList.all (mq ks s)
def Da (ops:Array Oper)(s:S)(ks:List Nat):List Nat→Option Unit
 | []=>some ()
 | i::r=>bnd ops[i]? fun o=>bnd o.dst fun d=>bnd (look d s.env) fun v=>grd ((Dw ks v&&eO ks s o.op)=true) (Da ops s ks r)
open Classical in
noncomputable def Bc {α β:Type}(x y:α)(z:Option β):Option β:=if x=y then z else none
theorem xZ {α β:Type}{x y:α}{z:Option β}{b:β}(h:Bc x y z=some b):x=y∧z=some b:=by
 unfold Bc at h;split at h
 ·exact⟨by assumption,h⟩
 ·cases h
theorem J5 {α β:Type}(x:α)(z:Option β):Bc x x z=z:=if_pos _root_.rfl
noncomputable def oM (P:Program)(ops:Array Oper)(s0 s:S):List Nat→Option Unit
 | []=>some ()
 | i::r=>bnd ops[i]? fun o=>bnd o.dst fun d=>bnd (look d s.env) fun v=>bnd (je P s o.op) fun u=>Bc u v (bnd (look d s0.env) fun v0=>Bc v0 v (oM P ops s0 s r))
def aiN:Callee→Bool
 | .builtin .max=>true
 | .builtin .min=>true
 | _=>false
def isVal:Op→Bool
 | .alloc _=>false
 | .box _ _=>false
 | .buildSlice _ _ _=>false
 | .call c=>aiN c.callee
 | _=>true
def aeo:Option Oper→Bool
 | some o=>isVal o.op
 | none=>false
def J6 (ops:Array Oper)(fl:List Nat):Bool:=fl.all fun i=>aeo ops[i]?
noncomputable def MB (P:Program)(ops:Array Oper)(s:S)(d:Option Nat)(fl:List Nat)(x:Bar):Option S:=match x.inn with
 | []=>Bc x.box s.box (bnd (Da ops s x.kills fl) fun _=>some (s.iB d x))
 | _::_=>grd (J6 ops fl=true) (bnd (oM P ops s (s.iB d x) fl) fun _=>some (s.iB d x))
noncomputable def KW (P:Program)(G:List (FuncId×Bool×aN))(ops:Array Oper)(bar:Option (List Nat))(s:S)(d:Option Nat)(op:Op):Option S:=match bar with
 | none=>jX P G s d op
 | some []=>iJ P G s d op
 | some (i::r)=>if isApp op=true then bnd (sD P G s d op) (MB P ops s d (i::r))else bnd (sD P G s d op) fun x=>bnd (oM P ops s (s.iB d x) (i::r)) fun _=>some (s.iB d x)
noncomputable def om (P:Program)(G:List (FuncId×Bool×aN))(ops:Array Oper)(bars:List (Nat×List Nat)):List (Nat×Oper)→Q→Option Q
 | [],q=>some q
 | x::r, .on s=>bnd (s.wants ops x.2.guard) fun g=>if g then bnd (RZ (KW P G ops (look x.1 bars) s x.2.dst x.2.op)) fun q=>om P G ops bars r q else bnd (RZ (some (s.put x.2.dst (.fK [])))) fun q=>om P G ops bars r q
 | _::_, .off=>none
def Gp:Nat→List Oper→List (Nat×Oper)
 | _,[]=> []
 | k,o::r=>(k,o)::Gp (k+1) r
def picked (ops:Array Oper):List Nat→List (Nat×Oper)
 | []=> []
 | i::r=>match ops[i]? with
  | some o=>(i,o)::picked ops r
  | none=>picked ops r
def z8 (ops:Array Oper):List Nat→List (Nat×Oper)
 | []=>Gp 0 ops.toList
 | i::r=>picked ops (i::r)
noncomputable def aep (P:Program)(G:List (FuncId×Bool×aN))(ops:Array Oper)(bars:List (Nat×List Nat))(i:Nat)(r:List Nat)(s:S):Option Oper→Option Q
 | some o=>bnd (s.wants ops o.guard) fun g=>if g then bnd (RZ (KW P G ops (look i bars) s o.dst o.op)) fun q=>om P G ops bars (picked ops r) q else bnd (RZ (some (s.put o.dst (.fK [])))) fun q=>om P G ops bars (picked ops r) q
 | none=>om P G ops bars (picked ops r) (.on s)
inductive Ex where
 | normal
 | exit (id:Nat)
 | ret
def rounds (f:Q→Option (Ex×Q)):Nat→Q→Option (Ex×Q)
 | 0,_=>none
 | n+1,s=>match f s with
  | some (.normal,s)=>rounds f n s
  | r=>r
open Classical in
noncomputable def uM (f:Q→Option (Ex×Q))(s:Q):Option (Ex×Q):=
 if h:∃n r,rounds f n s=some r then some (Classical.choose (Classical.choose_spec h))else none
def Code.first:Code→Nat
 | .region id _ _=>id
 | .seq x _=>Code.first x
 | .block _ x=>Code.first x
 | .loop x=>Code.first x
 | .scope x=>Code.first x
 | _=>0
def Bd (r:Option (Ex×Q))(k:Q→Option (Ex×Q)):Option (Ex×Q):=match r with
 | some (.normal,s)=>k s
 | r=>r
@[simp ↓] theorem Gq (s:Q)(k:Q→Option (Ex×Q)):Bd (some (.normal,s)) k=k s:=_root_.id rfl
@[simp ↓] theorem MC (i:Nat)(s:Q)(k:Q→Option (Ex×Q)):Bd (some (.exit i,s)) k=some (.exit i,s):=_root_.id rfl
@[simp ↓] theorem Pn (s:Q)(k:Q→Option (Ex×Q)):Bd (some (.ret,s)) k=some (.ret,s):=_root_.id rfl
@[simp ↓] theorem ME (k:Q→Option (Ex×Q)):Bd none k=none:=_root_.id rfl
@[congr] theorem ahD {r r':Option (Ex×Q)}(k:Q→Option (Ex×Q))(h:r=r'):Bd r k=Bd r' k:=by rw [h]
def Gr (id:Nat):Ex×Q→Option (Ex×Q)
 | (.exit j,s)=>if j=id then some (.normal,s)else some (.exit j,s)
 | r=>some r
def Nw (gh:mg)(id:Nat):Q→Option Q
 | .on s=>RZ (gh.head id s)
 | .off=>none
def Te (P:Program)(G:List (FuncId×Bool×aN))(ops:Array Oper)(l:List Oper)(s:S):Option Q:=
 bnd (Pk l) fun x=>bnd (OB P x.1) fun _=>grd (fresh s x.2.1=true∧C9 x.2.2.1=true) (Cc P G ops x.2.2.2 (.on (s.OW x.2.1 x.2.2.1)))
noncomputable def UR (P:Program)(G:List (FuncId×Bool×aN))(ops:Array Oper)(bar:List Nat)(q:Q):Option Q:=match bar,q with
 | _::_, .on s=>Te P G ops ops.toList s
 | _,q=>Cc P G ops ops.toList q
noncomputable def Xa (P:Program)(G:List (FuncId×Bool×aN))(ops:Array Oper)(bar:List Nat×List (Nat×List Nat))(d:Bool)(q:Q):Option Q:=if d then om P G ops bar.2 (z8 ops bar.1) q else UR P G ops bar.1 q
noncomputable def Eo (P:Program)(G:List (FuncId×Bool×aN))(gh:mg):Code→Q→Option (Ex×Q)
 | _, .off=>none
 | .skip,q=>some (.normal,q)
 | .label _,q=>some (.normal,q)
 | .region id ops d, .on s=>bnd (RZ (gh.reg id s)) fun q=>bnd (Xa P G ops (gh.bars id) d q) fun q=>some (.normal,q)
 | .seq x y,q=>Bd (Eo P G gh x q) fun q=>Eo P G gh y q
 | .cond c x y, .on s=>bnd (s.ev c) fun v=>bnd (Ep v) fun b=>if b then Eo P G gh x (.on s)else Eo P G gh y (.on s)
 | .block id x,q=>bnd (Eo P G gh x q) (Gr id)
 | .loop x,q=>bnd (Nw gh (Code.first x) q) fun q=>uM (fun q=>Bd (Eo P G gh x q) fun q=>bnd (Nw gh (Code.first x) q) fun q=>some (.normal,q)) q
 | .exit id,q=>some (.exit id,q)
 | .scope x,q=>Eo P G gh x q
 | .ret,q=>some (.ret,q)
 | _,_=>none
section
variable (P:Program) (G:List (FuncId×Bool×aN)) (gh:mg) (s:S)
@[simp] theorem aer (id:Nat):Nw gh id (.on s)=RZ (gh.head id s):=_root_.id rfl
@[simp] theorem aiq (ops:Array Oper):Cc P G ops [] (.on s)=some (.on s):=_root_.id rfl
@[simp] theorem Po (ops:Array Oper)(o:Oper)(r:List Oper):Cc P G ops (o::r) (.on s)=bnd (s.wants ops o.guard) fun g=>if g then bnd (RZ (iJ P G s o.dst o.op)) fun q=>Cc P G ops r q else bnd (RZ (some (s.put o.dst (.fK [])))) fun q=>Cc P G ops r q:=_root_.id rfl
@[simp] theorem aes:Eo P G gh .skip (.on s)=some (.normal, .on s):=_root_.id rfl
@[simp] theorem acG (l:Nat):Eo P G gh (.label l) (.on s)=some (.normal, .on s):=_root_.id rfl
@[simp] theorem ZF (id:Nat)(ops:Array Oper)(d:Bool):Eo P G gh (.region id ops d) (.on s)=bnd (RZ (gh.reg id s)) fun q=>bnd (Xa P G ops (gh.bars id) d q) fun q=>some (.normal,q):=_root_.id rfl
theorem acH (ops:Array Oper)(bar:List Nat×List (Nat×List Nat))(q:Q):Xa P G ops bar false q=UR P G ops bar.1 q:=_root_.id rfl
@[simp] theorem air (ops:Array Oper)(bars:List (Nat×List Nat)):Xa P G ops ([],bars) false (.on s)=Cc P G ops ops.toList (.on s):=_root_.id rfl
@[simp] theorem aiO (ops:Array Oper)(i:Nat)(l:List Nat)(bars:List (Nat×List Nat)):Xa P G ops (i::l,bars) false (.on s)=Te P G ops ops.toList s:=_root_.id rfl
@[simp] theorem aiP (ops:Array Oper)(l:List Oper):Te P G ops l s=bnd (Pk l) fun x=>bnd (OB P x.1) fun _=>grd (fresh s x.2.1=true∧C9 x.2.2.1=true) (Cc P G ops x.2.2.2 (.on (s.OW x.2.1 x.2.2.1))):=_root_.id rfl
@[simp] theorem aiQ (ops:Array Oper)(bars:List (Nat×List Nat))(q:Q):Xa P G ops ([],bars) true q=om P G ops bars (Gp 0 ops.toList) q:=_root_.id rfl
@[simp] theorem ais (ops:Array Oper)(i:Nat)(l:List Nat)(bars:List (Nat×List Nat))(q:Q):Xa P G ops (i::l,bars) true q=om P G ops bars (picked ops (i::l)) q:=_root_.id rfl
@[simp] theorem ait (ops:Array Oper)(bars:List (Nat×List Nat))(k:Nat)(q:Q):om P G ops bars (Gp k []) q=some q:=_root_.id rfl
theorem J7 (ops:Array Oper)(bars:List (Nat×List Nat))(x:Nat×Oper)(r:List (Nat×Oper)):om P G ops bars (x::r) (.on s)=bnd (s.wants ops x.2.guard) fun g=>if g then bnd (RZ (KW P G ops (look x.1 bars) s x.2.dst x.2.op)) fun q=>om P G ops bars r q else bnd (RZ (some (s.put x.2.dst (.fK [])))) fun q=>om P G ops bars r q:=_root_.id rfl
@[simp] theorem ahE (ops:Array Oper)(bars:List (Nat×List Nat))(k:Nat)(o:Oper)(r:List Oper):om P G ops bars (Gp k (o::r)) (.on s)=bnd (s.wants ops o.guard) fun g=>if g then bnd (RZ (KW P G ops (look k bars) s o.dst o.op)) fun q=>om P G ops bars (Gp (k+1) r) q else bnd (RZ (some (s.put o.dst (.fK [])))) fun q=>om P G ops bars (Gp (k+1) r) q:=_root_.id rfl
@[simp] theorem acI (ops:Array Oper)(bars:List (Nat×List Nat))(q:Q):om P G ops bars (picked ops []) q=some q:=_root_.id rfl
@[simp] theorem agh (ops:Array Oper)(bars:List (Nat×List Nat))(i:Nat)(r:List Nat):om P G ops bars (picked ops (i::r)) (.on s)=aep P G ops bars i r s ops[i]?:=by
 unfold picked;cases ops[i]?<;>rfl
@[simp] theorem ahb (ops:Array Oper)(bars:List (Nat×List Nat))(i:Nat)(r:List Nat)(o:Oper):aep P G ops bars i r s (some o)=bnd (s.wants ops o.guard) fun g=>if g then bnd (RZ (KW P G ops (look i bars) s o.dst o.op)) fun q=>om P G ops bars (picked ops r) q else bnd (RZ (some (s.put o.dst (.fK [])))) fun q=>om P G ops bars (picked ops r) q:=_root_.id rfl
@[simp] theorem ahc {α β:Type}(x:α)(z:Option β):Bc x x z=z:=J5 x z
@[simp] theorem acJ (ops:Array Oper)(d:Option Nat)(op:Op):KW P G ops (some []) s d op=iJ P G s d op:=_root_.id rfl
@[simp] theorem acK (ops:Array Oper)(d:Option Nat)(op:Op):KW P G ops none s d op=jX P G s d op:=_root_.id rfl
@[simp] theorem Xb (ops:Array Oper)(i:Nat)(r:List Nat)(d:Option Nat)(op:Op):KW P G ops (some (i::r)) s d op=if isApp op=true then bnd (sD P G s d op) (MB P ops s d (i::r))else bnd (sD P G s d op) fun x=>bnd (oM P ops s (s.iB d x) (i::r)) fun _=>some (s.iB d x):=_root_.id rfl
@[simp] theorem agi (x y:Code):Eo P G gh (.seq x y) (.on s)=Bd (Eo P G gh x (.on s)) fun q=>Eo P G gh y q:=_root_.id rfl
@[simp] theorem aeu (c:Operand)(x y:Code):Eo P G gh (.cond c x y) (.on s)=bnd (s.ev c) fun v=>bnd (Ep v) fun b=>if b then Eo P G gh x (.on s)else Eo P G gh y (.on s):=_root_.id rfl
@[simp] theorem acL (id:Nat)(x:Code):Eo P G gh (.block id x) (.on s)=bnd (Eo P G gh x (.on s)) (Gr id):=_root_.id rfl
@[simp] theorem aev (x:Code):Eo P G gh (.loop x) (.on s)=bnd (RZ (gh.head (Code.first x) s)) fun q=>uM (fun q=>Bd (Eo P G gh x q) fun q=>bnd (Nw gh (Code.first x) q) fun q=>some (.normal,q)) q:=_root_.id rfl
@[simp] theorem aew (id:Nat):Eo P G gh (.exit id) (.on s)=some (.exit id, .on s):=_root_.id rfl
@[simp] theorem acM (x:Code):Eo P G gh (.scope x) (.on s)=Eo P G gh x (.on s):=_root_.id rfl
@[simp] theorem agj:Eo P G gh .ret (.on s)=some (.ret, .on s):=_root_.id rfl
end
def aU:Nat:=1000000000
mutual
def jS:V→V
 | .ref b off=> .ref (aU+b) off
 | .own p=> .own (aU+p)
 | .inn p i j k=> .inn (aU+p) i j k
 | .agg cs=> .agg (ny cs)
 | .fK cs=> .fK (ny cs)
 | .pe b k i off=> .pe (jS b) k i off
 | .fn f cs=> .fn f (ny cs)
 | v=>v
def ny:List V→List V
 | []=> []
 | v::r=>jS v::ny r
end
mutual
def y5 (s:S)(n:Nat)(l:List (Nat×List (List D))):V→Option (V×List (Nat×List (List D)))
 | .v x=>some (.v x,l)
 | .nil=>some (.own (n+l.length),l++ [(0,[])])
 | .aP o rows=>some (.aP o rows,l)
 | .own p=>if aU≤p∧p<aU+n then grd ((look p s.tree).isSome=true) (some (.own (p-aU),l))else bnd (s.rows (.own p)) fun rows=>grd ((look p l).isNone=true) (some (.own (n+l.length),l++ [(p,rows)]))
 | .ref b off=>grd (aU≤b) (some (.ref (b-aU) off,l))
 | .dead=>some (.dead,l)
 | .agg cs=>bnd (MF s n l cs) fun x=>some (.agg x.1,x.2)
 | .fK cs=>bnd (MF s n l cs) fun x=>some (.fK x.1,x.2)
 | _=>none
def MF (s:S)(n:Nat)(l:List (Nat×List (List D))):List V→Option (List V×List (Nat×List (List D)))
 | []=>some ([],l)
 | v::r=>bnd (y5 s n l v) fun x=>bnd (MF s n x.2 r) fun y=>some (x.1::y.1,y.2)
end
def UU (s:S)(n:Nat)(l:List (Nat×List (List D))):List Nat→Option (List (List V)×List (Nat×List (List D)))
 | []=>some ([],l)
 | b::r=>bnd (look (aU+b) s.box) fun cs=>bnd (MF s n l cs) fun x=>bnd (UU s n x.2 r) fun y=>some (x.1::y.1,y.2)
def KX (P:Program)(s:S):ResultVar→Option V
 | .tmp t=>look t s.env
 | .cell a t=>bnd (look a s.env) fun p=>s.load P t p
def F5:List V→V
 | [v]=>v
 | vs=> .fK vs
def I7 (j:Nat)(r:List (Nat×List (List D))):Option (List (List D))→List (Nat×List (List D))
 | some rows=>(j,rows)::r
 | none=>r
def iw (s:S)(j:Nat):Nat→List (Nat×List (List D))
 | 0=> []
 | n+1=>I7 j (iw s (j+1) n) (look (aU+j) s.tree)
def kK {α:Type}(n:Nat):List (Nat×α)→List (Nat×α)
 | []=> []
 | x::r=>(n,x.2)::kK (n+1) r
def sQ (P:Program)(rs:List ResultVar)(nb nt:Nat)(s:S):Option Ay:=
 bnd (bG (KX P s) rs) fun vs=>bnd (y5 s nt [] (F5 vs)) fun x=>bnd (UU s nt x.2 (List.range' 0 nb)) fun y=>grd ((s.box.all fun x=>decide (x.1<aU+nb))=true) (some ⟨x.1,y.1,iw s 0 nt++kK nt y.2⟩)
def bO {α:Type}(n:Nat):List α→List (Nat×α)
 | []=> []
 | x::r=>(n,x)::bO (n+1) r
def J8 (P:Program)(fn:Func)(nb nt:Nat):Ex×Q→Option Ay
 | (.normal, .on s)=>sQ P fn.results.toList nb nt s
 | (.ret, .on s)=>sQ P fn.results.toList nb nt s
 | _=>none
noncomputable def aG (P:Program)(G:List (FuncId×Bool×aN))(gh:mg)(f:FuncId):aN:=fun args boxes trees=>
 bnd P.funcs[f]? fun fn=>bnd fn.body fun c=>grd (args.length≤1000∧boxes.length≤1000∧trees.length≤1000) <|
  bnd (Eo P G gh c (.on {env:=(bO 0 (args.map jS)).reverse,box:=(bO aU (boxes.map ny)).reverse,tree:=(bO aU trees).reverse,dG:= []})) (J8 P fn boxes.length trees.length)
def Pp:V→Bool
 | .v _=>true
 | .aP _ _=>true
 | _=>false
def Gs (s:S):V→Option Ay
 | .ref b 0=>bnd (look b s.box) fun cs=>grd (cs.all Pp=true) (some ⟨.ref 0 0,[cs],[]⟩)
 | _=>none
def Pq (P:Program)(fn:Func):Ex×Q→Option Ay
 | (.normal, .on s)=>bnd (bG (KX P s) fn.results.toList) fun vs=>Gs s (F5 vs)
 | (.ret, .on s)=>bnd (bG (KX P s) fn.results.toList) fun vs=>Gs s (F5 vs)
 | _=>none
noncomputable def Xc (P:Program)(G:List (FuncId×Bool×aN))(gh:mg)(f:FuncId):aN:=fun args boxes trees=>
 bnd P.funcs[f]? fun fn=>bnd fn.body fun c=>grd (args.length≤1000∧boxes.length=0∧trees.length=0) <|
  bnd (Eo P G gh c (.on {env:=(bO 0 (args.map jS)).reverse,box:= [],tree:= [],dG:= []})) (Pq P fn)
theorem KY {f:Q→Option (Ex×Q)}:∀{n:Nat} {s:Q} {r:Ex×Q},rounds f n s=some r→rounds f (n+1) s=some r
 | 0,s,r,h=>by cases h
 | n+1,s,r,h=>by
  rw [rounds]at h
  rw [rounds]
  split at h
  ·exact KY h
  ·exact h
theorem Tf {f:Q→Option (Ex×Q)}{n m:Nat}{s:Q}{r:Ex×Q}(h:rounds f n s=some r)(k:n≤m):rounds f m s=some r:=by
 induction k with
 | refl=>exact h
 | step _ ih=>exact KY ih
theorem KZ {f:Q→Option (Ex×Q)}{n:Nat}{s:Q}{r:Ex×Q}(h:rounds f n s=some r):uM f s=some r:=by
 have hx:∃n r,rounds f n s=some r:=⟨n,r,h⟩
 unfold uM
 rw [dif_pos hx]
 have h2:=Classical.choose_spec (Classical.choose_spec hx)
 have a:=Tf h (Nat.le_max_left n (Classical.choose hx))
 have b:=Tf h2 (Nat.le_max_right n (Classical.choose hx))
 rw [a]at b
 exact b.symm
theorem J9 {f:Q→Option (Ex×Q)}{s:Q}{r:Ex×Q}(h:uM f s=some r):∃n,rounds f n s=some r:=by
 unfold uM at h
 split at h
 ·rename_i hx
  injection h with h
  exact⟨_,h▸Classical.choose_spec (Classical.choose_spec hx)⟩
 ·cases h
end Go.Proofs.YtlpdjhiggpblcaaGreat
