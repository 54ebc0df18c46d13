/- Part 1 of a proof in several texts (an abstract evaluator, what the functions compute). -/
import Derived.WalkKit
import Derived.RowKit
import Derived.Below
import Derived.Laws.AppendOwn
import Derived.Laws.BytesArg
import Derived.KernelRfl
import Derived.Deep.Draws
namespace Go.Proofs.YtlpdjhiggpblcaaGreat
open Go.RowKit
inductive D where
 | a (v:Value)
 | l (rows:List (List D))
 | gone
inductive V where
 | v (x:Value)
 | nil
 | aM (src:Option Nat) (rows:List (List D))
 | own (p:Nat)
 | inn (p i j k:Nat)
 | fz (rows:List (List D))
 | ref (b off:Nat)
 | pe (base:V) (k i off:Nat)
 | agg (cs:List V)
 | fT (vs:List V)
 | fn (f:FuncId) (caps:List V)
 | mp (es:List (Int×Int))
 | dead
theorem aV {α:Type}{a b:α}(h:a=b):a=b:=h
def bnd {α β:Type}(x:Option α)(f:α→Option β):Option β:=match x with|some a=>f a|none=>none
@[simp ↓] theorem bq {α β:Type}(a:α)(f:α→Option β):bnd (some a) f=f a:=_root_.id rfl
@[simp ↓] theorem agx {α β:Type}(f:α→Option β):bnd none f=none:=_root_.id rfl
@[congr] theorem akZ {α β:Type}{x x':Option α}(f:α→Option β)(h:x=x'):bnd x f=bnd x' f:=by rw [h]
theorem aj {α β:Type}{x:Option α}{f:α→Option β}{b:β}(h:bnd x f=some b):∃a,x=some a∧f a=some b:=by
 cases x with
 | none=>cases h
 | some a=>exact⟨a,rfl,h⟩
def grd {α:Type}(c:Prop) [Decidable c](x:Option α):Option α:=if c then x else none
theorem aB {α:Type}{c:Prop} [Decidable c]{x:Option α}{a:α}(h:grd c x=some a):c∧x=some a:=by
 unfold grd at h;split at h
 ·exact⟨‹_›,h⟩
 ·cases h
@[simp] theorem eB {α:Type}{c:Prop} [Decidable c](x:Option α)(h:c):grd c x=x:=if_pos h
@[simp] theorem alh {α:Type}(x:Option α):grd True x=x:=if_pos trivial
@[congr] theorem ak0 {α:Type}{c c':Prop} [Decidable c] [Decidable c'](x:Option α)(h:c=c'):grd c x=grd c' x:=by subst h;unfold grd;congr
def look {α:Type}(k:Nat):List (Nat×α)→Option α
 | []=>none
 | (j,x)::r=>if k=j then some x else look k r
def put {α:Type}(k:Nat)(x:α):List (Nat×α)→List (Nat×α)
 | []=> [(k,x)]
 | (j,y)::r=>if k=j then(k,x)::r else if j<k then(k,x)::(j,y)::r else(j,y)::put k x r
def drop1 {α:Type}(k:Nat):List (Nat×α)→List (Nat×α)
 | []=> []
 | (j,y)::r=>if k=j then drop1 k r else(j,y)::drop1 k r
def upd {α:Type}(k:Nat)(x:α):List (Nat×α)→List (Nat×α)
 | []=> []
 | (j,y)::r=>if k=j then(k,x)::r else(j,y)::upd k x r
def desc:List Nat→Bool
 | a::b::r=>decide (b<a)&&desc (b::r)
 | _=>true
structure S where
 env:List (Nat×V)
 box:List (Nat×List V)
 tree:List (Nat×List (List D))
 dJ:List (Nat×List (List D))
def S.put (s:S)(t:Option Nat)(v:V):S:=match t with|some t=> {s with env:=YtlpdjhiggpblcaaGreat.put t v s.env}|none=>s
def S.skip (s:S)(t:Option Nat):S:=match t with|some t=> {s with env:=drop1 t s.env}|none=>s
def yu:Value→V
 | .slice none 0 0=> .nil
 | c=> .v c
def uN:Value→Option V
 | .bool b=>some (.v (.bool b))
 | .int k n=>some (.v (.int k n))
 | .string s=>some (.v (.string s))
 | .slice none 0 0=>some .nil
 | .pointer none=>some (.v (.pointer none))
 | .agg cs=>some (.agg (cs.toList.map yu))
 | _=>none
def S.ev (s:S):Operand→Option V
 | .tmp t=>look t s.env
 | .const v=>uN v
 | .func f=>some (.fn f [])
 | .global _=>none
def V.cells:V→List V
 | .agg cs=>cs
 | x=> [x]
def lT (x y:Option (List (List D))):Option (List (List D)):=match x with
 | some r=>some r
 | none=>y
def LQ:D→Option (List (List D))
 | .l rows=>some rows
 | _=>none
def S.rows (s:S):V→Option (List (List D))
 | .nil=>some []
 | .aM _ rows=>some rows
 | .fz rows=>some rows
 | .own p=>lT (look p s.tree) (look p s.dJ)
 | .inn p i j k=>bnd (look p s.tree) fun rows=>bnd rows[i]? fun r=>grd (r.length=k) (bnd r[j]? LQ)
 | _=>none
def D8 (p i j k:Nat)(rows:List (List D)):Option (List (List D))→Option V
 | some _=>some (.fz rows)
 | none=>some (.inn p i j k)
def S.under (s:S)(base:V)(k i j:Nat):D→Option V
 | .a x=>some (.v x)
 | .l rows=>match base with
  | .aM _ _=>some (.aM none rows)
  | .fz _=>some (.fz rows)
  | .own p=>D8 p i j k rows (look p s.dJ)
  | _=>none
 | .gone=>none
def bH {α β:Type}(f:α→Option β):List α→Option (List β)
 | []=>some []
 | x::r=>bnd (f x) fun y=>bnd (bH f r) fun r=>some (y::r)
def sG:TypeDesc→Bool
 | .struct _=>true
 | .array _ _=>true
 | _=>false
def oN (P:Program)(t:TypeId):Option Bool:=bnd (P.underlying t) fun d=>some (sG d)
def span (cs:List V)(off n:Nat)(agg:Bool):Option V:=
 if agg then grd (off+n≤cs.length) (some (.agg ((cs.drop off).take n)))else cs[off]?
def vB (s:S)(base:V)(k i j:Nat):List D→Option (List V)
 | []=>some []
 | d::l=>bnd (s.under base k i j d) fun v=>bnd (vB s base k i (j+1) l) fun l=>some (v::l)
def S.Jy (s:S)(base:V)(k i:Nat)(r:List D)(off n:Nat)(agg:Bool):Option V:=
 if agg then grd (off+n≤r.length) (bnd (vB s base k i off ((r.drop off).take n)) fun cs=>some (.agg cs))else bnd r[off]? (s.under base k i off)
def S.load (P:Program)(s:S)(t:TypeId):V→Option V
 | .ref b off=>bnd (oN P t) fun g=>bnd (look b s.box) fun cs=>span cs off (P.cellsOf t) g
 | .pe base k i off=>bnd (oN P t) fun g=>bnd (s.rows base) fun rows=>bnd rows[i]? fun r=>grd (r.length=k) (s.Jy base k i r off (P.cellsOf t) g)
 | _=>none
def setAt (cs:List V)(off:Nat):List V→List V
 | []=>cs
 | v::vs=>setAt (cs.set off v) (off+1) vs
def V.one:V→Bool
 | .v x=>x.oneCell'
 | .agg _=>false
 | .fT _=>false
 | .dead=>false
 | _=>true
def V.atom:V→Option D
 | .v x=>some (.a x)
 | _=>none
def sH:D→Bool
 | .a _=>true
 | .l _=>false
 | .gone=>false
def yc:D→Bool
 | .a x=>x.oneCell'
 | .l _=>true
 | .gone=>true
def eY (P:Program)(t:TypeId):Bool:=(P.info? t).isSome
def arith (op:BinOp)(k:IntKind)(x y:Int):Option Value:=
 match op with
 | .add=>some (.int k (k.wrap (x+y)))
 | .sub=>some (.int k (k.wrap (x-y)))
 | .mul=>some (.int k (k.wrap (x*y)))
 | .quo=>grd (y≠0) (some (.int k (k.wrap (x.tdiv y))))
 | .rem=>grd (y≠0) (some (.int k (x.tmod y)))
 | .and=>some (.int k (k.wrap (BitVec.ofInt k.bits x &&& BitVec.ofInt k.bits y).toNat))
 | .or=>some (.int k (k.wrap (BitVec.ofInt k.bits x ||| BitVec.ofInt k.bits y).toNat))
 | .xor=>some (.int k (k.wrap (BitVec.ofInt k.bits x ^^^ BitVec.ofInt k.bits y).toNat))
 | .eql=>some (.bool (x==y))
 | .neq=>some (.bool (x != y))
 | .lss=>some (.bool (decide (x<y)))
 | .leq=>some (.bool (decide (x≤y)))
 | .gtr=>some (.bool (decide (x>y)))
 | .geq=>some (.bool (decide (x≥y)))
 | _=>none
def aj9 (op:BinOp)(x y:ByteArray):Option Value:=
 match op with
 | .add=>grd (x.size+y.size≤9223372036854775807) (some (.string (x++y)))
 | .eql=>some (.bool (x.toList==y.toList))
 | .neq=>some (.bool (!(x.toList==y.toList)))
 | .lss=>some (.bool (Op.bytesLess x.toList y.toList))
 | .leq=>some (.bool (Op.bytesLess x.toList y.toList||x.toList==y.toList))
 | .gtr=>some (.bool (!(Op.bytesLess x.toList y.toList||x.toList==y.toList)))
 | .geq=>some (.bool (!(Op.bytesLess x.toList y.toList)))
 | _=>none
def akb (op:BinOp)(k k':IntKind)(x y:Int):Option Value:=
 match op with
 | .shl=>grd (0≤y) (some (.int k (k.wrap (x*2 ^ (min y.toNat k.bits)))))
 | .shr=>grd (0≤y) (some (.int k (x.fdiv (2 ^ (min y.toNat k.bits)))))
 | op=>grd (k=k') (arith op k x y)
def aby (op:BinOp)(x y:Bool):TypeDesc→Option Value
 | .bool=>match op with
  | .eql=>some (.bool (x==y))
  | .neq=>some (.bool (x != y))
  | _=>none
 | _=>none
def abz (op:BinOp):TypeDesc→Option Value
 | .pointer _=>match op with
  | .eql=>some (.bool false)
  | .neq=>some (.bool true)
  | _=>none
 | _=>none
def ali:TypeDesc→Bool
 | .int .i64=>true
 | _=>false
def aiG (P:Program)(t:TypeId):Bool:=((P.underlying t).map ali).getD false
def QX (P:Program):Nat→List Field→Bool
 | _,[]=>true
 | n, f :: fs => f.name != "_" && f.offset == n && aiG P f.type && QX P (n + 1) fs
def YG:TypeDesc→Option (List Field)
 | .struct fs=>some fs.toList
 | _=>none
def eqT (P:Program)(t:TypeId):Option Nat:=
 bnd (P.underlying t) fun d=>bnd (YG d) fun fs=>grd (QX P 0 fs=true∧P.stoodInHeld t=false∧P.eqGuardType P.depth t=false) (some fs.length)
def Dy:List V→List V→Option Bool
 | [],[]=>some true
 | .v (.int .i64 a)::r, .v (.int .i64 b)::q=>bnd (Dy r q) fun e=>some (a==b&&e)
 | _,_=>none
def agy (e:Bool):BinOp→Option V
 | .eql=>some (.v (.bool e))
 | .neq=>some (.v (.bool !e))
 | _=>none
def bin (P:Program)(t:TypeId)(op:BinOp):V→V→Option V
 | .v (.int k x), .v (.int k' y)=>bnd (akb op k k' x y) fun v=>some (.v v)
 | .v (.string x), .v (.string y)=>bnd (aj9 op x y) fun v=>some (.v v)
 | .v (.bool x), .v (.bool y)=>bnd (P.underlying t) fun d=>bnd (aby op x y d) fun v=>some (.v v)
 | .ref _ _, .v (.pointer none)=>bnd (P.underlying t) fun d=>bnd (abz op d) fun v=>some (.v v)
 | .agg cs, .agg ds=>bnd (eqT P t) fun n=>grd (cs.length=n) (bnd (Dy cs ds) fun e=>agy e op)
 | _,_=>none
def un (op:UnOp):V→Option V
 | .v (.int k n)=>match op with
  | .neg=>some (.v (.int k (k.wrap (0-n))))
  | _=>none
 | .v (.bool b)=>match op with
  | .not=>some (.v (.bool !b))
  | _=>none
 | _=>none
def idxOf:V→Option Int
 | .v (.int _ n)=>some n
 | _=>none
def ER:V→Option Bool
 | .v (.bool b)=>some b
 | _=>none
def WC (d:Int):Option V→Option Int
 | none=>some d
 | some v=>idxOf v
def bounds (n:Nat)(lo hi:Option V):Option (Nat×Nat):=
 bnd (WC 0 lo) fun l=>bnd (WC n hi) fun h=>grd (0≤l∧l≤h∧h≤n) (some (l.toNat,h.toNat))
def wid (k:Nat):List (List D)→Bool
 | []=>true
 | r::rows=>decide (r.length=k)&&r.all yc&&wid k rows
def cutV (k:Nat)(rows:List (List D))(lo hi:Option V)(f:List (List D)→V):Option V:=
 bnd (bounds rows.length lo hi) fun p=>grd (wid k rows=true) (some (f ((rows.drop p.1).take (p.2-p.1))))
def ES (k:Nat)(s:S)(x:V)(lo hi:Option V):Option V:=
 match x with
 | .nil=>bnd (bounds 0 lo hi) fun _=>some .nil
 | .aM _ rows=>cutV k rows lo hi (.aM none)
 | .fz rows=>cutV k rows lo hi .fz
 | .own p=>bnd (look p s.dJ) fun rows=>cutV k rows lo hi .fz
 | _=>none
def LU (x:V)(lo hi:Option V):Option V:=
 match x with
 | .v (.string b)=>bnd (bounds b.size lo hi) fun p=>some (.v (.string (b.extract p.1 p.2)))
 | _=>none
def qK (P:Program)(s:S)(x:V)(lo hi:Option V):TypeDesc→Option V
 | .string=>LU x lo hi
 | .slice e=>grd (eY P e=true) (ES (P.cellsOf e) s x lo hi)
 | _=>none
def abA (P:Program)(f:Nat):TypeDesc→Option (Nat×TypeId)
 | .struct fs=>bnd fs[f]? fun d=>grd (P.cellsOf d.type≠0) (some (d.offset,d.type))
 | _=>none
def bZ (P:Program)(t:TypeId)(f:Nat):Option (Nat×TypeId):=bnd (P.underlying t) (abA P f)
def yw:V→Nat→Option V
 | .ref b off,n=>some (.ref b (off+n))
 | .pe base k i off,n=>some (.pe base k i (off+n))
 | _,_=>none
def ad8:TypeDesc→Option (TypeId×Option Nat)
 | .slice e=>some (e,none)
 | .array n e=>some (e,some n)
 | _=>none
def lU (P:Program)(t:TypeId):Option (TypeId×Option Nat):=bnd (P.underlying t) ad8
def jO (P:Program)(t:TypeId):Option (List V):=
 bnd (P.info? t) fun i=>bnd i.zero fun z=>bnd (uN z) fun v=>some v.cells
def lq (P:Program)(s:S)(x:V)(i:Int)(e:TypeId):Option Nat→Option V
 | some n=>grd (eY P e=true∧0≤i∧i<n) (yw x (i.toNat*P.cellsOf e))
 | none=>bnd (s.rows x) fun rows=>grd (eY P e=true∧0≤i∧i<rows.length) (some (.pe x (P.cellsOf e) i.toNat 0))
def NP:TypeDesc→Bool
 | .string=>true
 | _=>false
def GY (P:Program)(t:TypeId)(x:V)(i:Int):Option V:=
 match x with
 | .v (.string b)=>bnd (P.underlying t) fun d=>grd (NP d=true∧0≤i∧i<b.size) (some (.v (.int .u8 ((b.toList[i.toNat]?.getD 0).toNat:Int))))
 | .agg cs=>bnd (lU P t) fun e=>bnd e.2 fun n=>grd (eY P e.1=true∧0≤i∧i<n) (bnd (oN P e.1) fun g=>span cs (i.toNat*P.cellsOf e.1) (P.cellsOf e.1) g)
 | _=>none
def Ap:V→Option D
 | .v x=>some (.a x)
 | .nil=>some (.l [])
 | _=>none
def aP (p:Nat):V→Bool
 | .own q=>p=q
 | .inn q _ _ _=>p=q
 | .pe base _ _ _=>aP p base
 | .agg cs=>any cs
 | .fT cs=>any cs
 | .fn _ cs=>any cs
 | _=>false
where any:List V→Bool
 | []=>false
 | c::r=>aP p c||any r
def Aq (p:Nat):List (Nat×V)→List (Nat×V)
 | []=> []
 | x::r=>(x.1,if aP p x.2 then .dead else x.2)::Aq p r
def Ar (p:Nat):List V→List V
 | []=> []
 | c::r=>(if aP p c then .dead else c)::Ar p r
def oq (p:Nat):List (Nat×List V)→List (Nat×List V)
 | []=> []
 | x::r=>(x.1,Ar p x.2)::oq p r
def S.kill (s:S)(p:Nat):S:= {s with env:=Aq p s.env,box:=oq p s.box,tree:=drop1 p s.tree}
def iP (s:S):List V→Option (List D×S)
 | []=>some ([],s)
 | .own p::r=>bnd (look p s.tree) fun rows=>bnd (iP (s.kill p) r) fun x=>some (.l rows::x.1,x.2)
 | v::r=>bnd (Ap v) fun d=>bnd (iP s r) fun x=>some (d::x.1,x.2)
def ku (s:S):List V→Option (List (List D)×S)
 | []=>some ([],s)
 | v::r=>bnd (iP s v.cells) fun x=>bnd (ku x.2 r) fun y=>some (x.1::y.1,y.2)
def kC (p:Nat):V→Bool
 | .inn q _ _ _=>p=q
 | .pe base _ _ _=>kC p base
 | .agg cs=>any cs
 | .fT cs=>any cs
 | .fn _ cs=>any cs
 | _=>false
where any:List V→Bool
 | []=>false
 | c::r=>kC p c||any r
def Qj (p:Nat):List (Nat×V)→List (Nat×V)
 | []=> []
 | x::r=>(x.1,if kC p x.2 then .dead else x.2)::Qj p r
def YH (p:Nat):List V→List V
 | []=> []
 | c::r=>(if kC p c then .dead else c)::YH p r
def GZ (p:Nat):List (Nat×List V)→List (Nat×List V)
 | []=> []
 | x::r=>(x.1,YH p x.2)::GZ p r
def S.turned (s:S)(p:Nat)(rows:List (List D)):S:= {s with env:=Qj p s.env,box:=GZ p s.box,tree:=upd p rows s.tree}
def ET (r:List D)(off:Nat):List D→List D
 | []=>r
 | d::ds=>ET (r.set off d) (off+1) ds
def BJ (s:S)(q k i off:Nat)(v:V):Option D→Option S
 | some d=>bnd (look q s.tree) fun rows=>bnd rows[i]? fun r=>bnd r[off]? fun d0=>grd (r.length=k∧sH d0=true∧yc d=true) (some {s with tree:=upd q (rows.set i (r.set off d)) s.tree})
 | none=>bnd (iP s v.cells) fun x=>bnd (look q x.2.tree) fun rows=>bnd rows[i]? fun r=>grd (r.length=k∧off+x.1.length≤r.length∧v.cells.all V.one=true∧¬(1000000000≤q∧q<2000000000)) (some (x.2.turned q (rows.set i (ET r off x.1))))
def G5 (s:S)(p i j k k' i' off:Nat):Option D→Option S
 | some d=>bnd (look p s.tree) fun rows=>bnd rows[i]? fun r=>bnd r[j]? fun c=>bnd (LQ c) fun rs=>bnd rs[i']? fun r'=>bnd r'[off]? fun d0=>grd (r.length=k∧r'.length=k'∧sH d0=true∧yc d=true) (some {s with tree:=upd p (rows.set i (r.set j (.l (rs.set i' (r'.set off d))))) s.tree})
 | none=>none
def S.store (P:Program)(s:S)(t:TypeId)(p v:V):Option S:=
 grd (eY P t=true∧v.cells.length=P.cellsOf t) (match p with
  | .ref b off=>bnd (look b s.box) fun cs=>grd (off+v.cells.length≤cs.length∧v.cells.all V.one=true) (some {s with box:=upd b (setAt cs off v.cells) s.box})
  | .pe (.own q) k i off=>BJ s q k i off v v.atom
  | .pe (.inn p i j k) k' i' off=>G5 s p i j k k' i' off v.atom
  | _=>none)
def fresh (s:S)(t:Nat):Bool:=(look t s.tree).isNone&&(look t s.dJ).isNone
def S.newTree (s:S)(t:Option Nat)(rows:List (List D)):Option S:=
 bnd t fun t=>grd (fresh s t=true) (some {s with env:=YtlpdjhiggpblcaaGreat.put t (.own t) s.env,tree:=(t,rows)::s.tree})
def upto (k n:Nat):List Nat→Bool
 | []=>decide (k=n)
 | j::r=>decide (j=k)&&upto (k+1) n r
def dV (rows:List (List D)):Bool:=rows.all fun r=>r.all sH
def KT (s:S)(q:Nat)(x:Option (List (List D))):Option (List (List D)×S):=match x with
 | some rows=>some (rows,if dV rows=true then s else s.kill q)
 | none=>bnd (look q s.dJ) fun rows=>grd (dV rows=true) (some (rows,s))
def Km (s:S):V→Option (List (List D)×S)
 | .v (.string b)=>some (b.toList.map fun c=> [.a (.int .u8 (c.toNat:Int))],s)
 | .own q=>KT s q (look q s.tree)
 | .nil=>some ([],s)
 | .aM _ rows=>grd (dV rows=true) (some (rows,s))
 | .fz rows=>grd (dV rows=true) (some (rows,s))
 | .inn p i j k=>bnd (s.rows (.inn p i j k)) fun rows=>grd (dV rows=true) (some (rows,s))
 | _=>none
def iC (P:Program)(e:TypeId):Bool:=match P.info? e with
 | some i=>match i.zero with
  | some z=>decide (z.cells.size=i.size)&&decide (0<i.size)
  | none=>false
 | none=>false
def kU (P:Program)(e:TypeId)(n:Nat):Bool:=iC P e&&decide (n*P.bytesOf e≤140737488355328)&&decide (n≤4611686018427387904)
def S.Cz (s:S)(p i j:Nat):Option S:=bnd (look p s.tree) fun rows=>bnd rows[i]? fun r=>grd (¬(1000000000≤p∧p<2000000000)) (some (s.turned p (rows.set i (r.set j .gone))))
def rE (P:Program)(s:S)(dst:Option Nat)(e:TypeId)(new:List (List D)):V→Option S
 | .nil=>grd (kU P e new.length=true∧wid (P.cellsOf e) new=true) (s.newTree dst new)
 | .own p=>bnd (look p s.tree) fun rows=>grd (kU P e (rows.length+new.length)=true∧wid (P.cellsOf e) rows=true∧wid (P.cellsOf e) new=true) ((s.kill p).newTree dst (rows++new))
 | .inn p i j k=>bnd (s.rows (.inn p i j k)) fun rows=>grd (kU P e (rows.length+new.length)=true∧wid (P.cellsOf e) rows=true∧wid (P.cellsOf e) new=true) (bnd (s.Cz p i j) fun s=>s.newTree dst (rows++new))
 | _=>none
def iV:TypeDesc→Option TypeId
 | .slice e=>some e
 | _=>none
def Jz (P:Program)(s:S)(dst:Option Nat)(t:TypeId)(x y:V):Option S:=
 bnd (P.underlying t) fun d=>bnd (iV d) fun e=>bnd (Km s y) fun z=>rE P z.2 dst e z.1 x
def alj:TypeDesc→Bool
 | .slice _=>true
 | .string=>true
 | _=>false
def D9 (P:Program)(t:TypeId):Bool:=match P.underlying t with
 | some d=>alj d
 | none=>false
structure Cw where
 val:V
 box:List (List V)
 tree:List (Nat×List (List D))
abbrev aN:=List V→List (List V)→List (List (List D))→Option Cw
structure iK where
 src:List V
 box:List Nat
 tree:List Nat
def pos (k:Nat):List Nat→Nat→Option Nat
 | [],_=>none
 | j::r,i=>if k=j then some i else pos k r (i+1)
def JA (src:List V)(bs ts:List Nat)(b off:Nat)(x:Option Nat):Option (V×iK):=match x with
 | some i=>some (.ref i off,⟨src,bs,ts⟩)
 | none=>some (.ref bs.length off,⟨src,bs++ [b],ts⟩)
mutual
def jV (s:S)(c:iK):V→Option (V×iK)
 | .v x=>some (.v x,c)
 | .ref b off=>JA c.src c.box c.tree b off (pos b c.box 0)
 | .agg cs=>bnd (wm s c cs) fun x=>some (.agg x.1,x.2)
 | .fn f cs=>bnd (wm s c cs) fun x=>some (.fn f x.1,x.2)
 | .nil=>some (.aM (some c.src.length) [],{c with src:=c.src++ [.nil]})
 | .aM o rows=>some (.aM (some c.src.length) rows,{c with src:=c.src++ [.aM o rows]})
 | .fz rows=>some (.aM (some c.src.length) rows,{c with src:=c.src++ [.fz rows]})
 | .own p=>bnd (s.rows (.own p)) fun rows=>some (.aM (some c.src.length) rows,{c with src:=c.src++ [.own p]})
 | .inn p i j k=>bnd (s.rows (.inn p i j k)) fun rows=>some (.aM (some c.src.length) rows,{c with src:=c.src++ [.inn p i j k]})
 | _=>none
def wm (s:S)(c:iK):List V→Option (List V×iK)
 | []=>some ([],c)
 | v::r=>bnd (jV s c v) fun x=>bnd (wm s x.2 r) fun y=>some (x.1::y.1,y.2)
end
def CB (src:List V)(bs ts:List Nat)(p:Nat)(k:iK→Option (List V×iK)):Option Nat→Option (List (List D))→Option (List V×iK)
 | some _,_=>none
 | none,some rows=>bnd (k ⟨src++ [.own p],bs,ts⟩) fun x=>some (.aM (some src.length) rows::x.1,x.2)
 | none,none=>bnd (k ⟨src,bs,ts++ [p]⟩) fun x=>some (.own ts.length::x.1,x.2)
def dh (s:S)(c:iK):List V→Option (List V×iK)
 | []=>some ([],c)
 | .own p::r=>CB c.src c.box c.tree p (fun c=>dh s c r) (pos p c.tree 0) (look p s.dJ)
 | .dead::r=>bnd (dh s c r) fun x=>some (.dead::x.1,x.2)
 | v::r=>bnd (jV s c v) fun x=>bnd (dh s x.2 r) fun y=>some (x.1::y.1,y.2)
def mF (s:S)(c:iK):List Nat→Option (List (List V)×iK)
 | []=>some ([],c)
 | b::r=>bnd (look b s.box) fun cs=>bnd (dh s c cs) fun x=>bnd (mF s x.2 r) fun y=>some (x.1::y.1,y.2)
def stable:V→Bool
 | .nil=>true
 | .aM _ _=>true
 | _=>false
def QY (t q:Nat)(x:Option Nat):Nat:=match x with
 | some p=>p
 | none=>1000*(t+1)+q
def gV (c:iK)(t q:Nat):Nat:=QY t q c.tree[q]?
mutual
def nC (c:iK)(t:Nat):V→Option V
 | .v x=>some (.v x)
 | .nil=>some .nil
 | .aM (some j) _=>c.src[j]?
 | .aM none rows=>grd ((c.src.all stable||rows.isEmpty)=true) (some (.aM none rows))
 | .own q=>some (.own (gV c t q))
 | .ref i off=>bnd c.box[i]? fun b=>some (.ref b off)
 | .agg cs=>bnd (Au c t cs) fun cs=>some (.agg cs)
 | .fT cs=>bnd (Au c t cs) fun cs=>some (.fT cs)
 | .dead=>some .dead
 | _=>none
def Au (c:iK)(t:Nat):List V→Option (List V)
 | []=>some []
 | v::r=>bnd (nC c t v) fun v=>bnd (Au c t r) fun r=>some (v::r)
end
def iW (c:iK)(t:Nat):List Nat→List (List V)→S→Option S
 | [],[],s=>some s
 | b::bs,cs::css,s=>bnd (Au c t cs) fun cs=>iW c t bs css {s with box:=upd b cs s.box}
 | _,_,_=>none
def jR (c:iK)(t:Nat):List (Nat×List (List D))→S→Option S
 | [],s=>some s
 | (q,rows)::r,s=>if q<c.tree.length then jR c t r s else grd (fresh s (gV c t q)=true∧gV c t q<1000000000) (jR c t r {s with tree:=(gV c t q,rows)::s.tree})
def qg (s:S):List Nat→Option (List (List (List D)))
 | []=>some []
 | p::r=>bnd (look p s.tree) fun rows=>bnd (qg s r) fun r=>some (rows::r)
def JB (s:S)(p:Nat)(x:Option (List (List D))):S:=match x with
 | some rows=> {s with tree:=upd p rows s.tree}
 | none=>s.kill p
def gT (rt:List (Nat×List (List D))):List Nat→Nat→S→S
 | [],_,s=>s
 | p::ps,i,s=>gT rt ps (i+1) (JB s p (look i rt))
def S.back (s:S)(dst:Option Nat)(c:iK)(r:Cw):Option S:=
 bnd (iW c (dst.getD 0) c.box r.box (gT r.tree c.tree 0 s)) fun s=>bnd (jR c (dst.getD 0) r.tree s) fun s=>bnd (nC c (dst.getD 0) r.val) fun v=>some (s.put dst v)
def wV:Cw→Option (List V)
 | ⟨.ref 0 0,[cs],[]⟩=>some cs
 | _=>none
def QC (s:S)(t:Option Nat)(cs:List V):Option S:=
 bnd t fun t=>grd ((look t s.box).isNone=true) (some {s with env:=YtlpdjhiggpblcaaGreat.put t (.ref t 0) s.env,box:=(t,cs)::s.box})
def EU (s:S)(dst:Option Nat)(c:iK)(r:Cw):Option (List V)→Option S
 | some cs=>if(c.box.isEmpty&&c.tree.isEmpty)=true then bnd (Au c (dst.getD 0) cs) (QC s dst)else s.back dst c r
 | none=>s.back dst c r
def S.O5 (s:S)(dst:Option Nat)(c:iK)(r:Cw):Option S:=EU s dst c r (wV r)
theorem KU {r:Cw}{cs:List V}(h:wV r=some cs):r=⟨.ref 0 0,[cs],[]⟩:=by
 unfold wV at h
 split at h
 ·injection h with h;subst h;rfl
 ·cases h
theorem aeM (v:V)(t:List (Nat×List (List D))):wV ⟨v,[],t⟩=none:=by
 cases e:wV ⟨v,[],t⟩with
 | none=>rfl
 | some cs=>have h:=KU e;injection h with _ h2 _;cases h2
theorem YI {s s':S}{d:Option Nat}{c:iK}{r:Cw}(h:s.back d c r=some s'):s.O5 d c r=some s':=by
 unfold S.O5
 cases e:wV r with
 | none=>exact h
 | some cs=>
  have:=KU e
  subst this
  simp only [EU]
  split
  ·rename_i hc
   rw [Bool.and_eq_true,List.isEmpty_iff,List.isEmpty_iff]at hc
   unfold S.back at h
   rw [hc.1]at h
   simp only [iW]at h
   cases h
  ·exact h
def YJ (c:iK):Bool:=c.tree.all fun p=>c.src.all fun v=> !aP p v
def NQ (c:iK)(n:Nat):Bool:=YJ c&&decide (c.box.length=n)
def pV (s:S)(c:iK):List V→Option (List V×iK)
 | []=>some ([],c)
 | .agg cs::r=>bnd (dh s c cs) fun x=>bnd (pV s x.2 r) fun y=>some (.agg x.1::y.1,y.2)
 | v::r=>bnd (dh s c [v]) fun x=>bnd (pV s x.2 r) fun y=>some (x.1++y.1,y.2)
def O6 (m:Bool)(s:S)(c:iK)(args:List V):Option (List V×iK):=if m then pV s c args else wm s c args
def wo (m:Bool)(M:aN)(s:S)(dst:Option Nat)(args:List V):Option S:=
 bnd (O6 m s ⟨[],[],[]⟩ args) fun x=>bnd (mF s x.2 x.2.box) fun y=>bnd (qg s y.2.tree) fun ts=>
  grd (NQ y.2 y.1.length=true) (bnd (M x.1 y.1 ts) fun r=>s.O5 dst y.2 r)
def alk:TypeDesc→Bool
 | .slice _=>true
 | _=>false
def Ag (P:Program)(t:TypeId):Bool:=match P.underlying t with
 | some d=>alk d
 | none=>false
def abB (P:Program)(t:TypeId):Bool:=match P.underlying t with
 | some d=>NP d
 | none=>false
def kD (P:Program)(s:S)(dst:Option Nat)(b:Builtin)(ats:Array TypeId)(args:List V):Option S:=
 match b,args with
 | .len,[.v (.string x)]=>bnd ats[0]? fun t=>grd (abB P t=true) (some (s.put dst (.v (.int .i64 x.size))))
 | .len,[x]=>bnd ats[0]? fun t=>grd (Ag P t=true) (bnd (s.rows x) fun rows=>some (s.put dst (.v (.int .i64 rows.length))))
 | .append,[x,y]=>bnd ats[0]? fun t=>bnd ats[1]? fun t1=>grd (D9 P t1=true) (Jz P s dst t x y)
 | .max,[.v (.int .i64 x), .v (.int .i64 y)]=>some (s.put dst (.v (.int .i64 (max x y))))
 | .min,[.v (.int .i64 x), .v (.int .i64 y)]=>some (s.put dst (.v (.int .i64 (min x y))))
 | _,_=>none
def qL:List D→Option UInt8
 | [.a (.int .u8 n)]=>some (UInt8.ofNat n.toNat)
 | _=>none
def EW:TypeDesc→Bool
 | .int .u8=>true
 | _=>false
def yx (P:Program)(s:S)(x:V)(ds:TypeDesc):Option V:=
 bnd (iV ds) fun e=>bnd (P.underlying e) fun d=>grd (EW d=true) (bnd (s.rows x) fun rows=>bnd (bH qL rows) fun l=>some (.v (.string ⟨l.toArray⟩)))
def wW (P:Program)(s:S)(x:V)(ds:TypeDesc):TypeDesc→Option V
 | .int k=>bnd (idxOf x) fun n=>some (.v (.int k (k.wrap n)))
 | .string=>match x with
  | .v (.string b)=>some (.v (.string b))
  | .v _=>none
  | x=>yx P s x ds
 | _=>none
def nL (b:ByteArray):List (List D):=b.data.toList.map fun c=> [.a (.int .u8 (c.toNat:Int))]
def G6 (s:S)(dst:Option Nat):V→Option S
 | .v (.string b)=>bnd dst fun t=>grd (fresh s t=true∧b.size≤4611686018427387904) (some {s with env:=YtlpdjhiggpblcaaGreat.put t (.fz (nL b)) s.env,dJ:=(t,[])::s.dJ})
 | _=>none
def LV (P:Program)(s:S)(dst:Option Nat)(x:V)(ds:TypeDesc):TypeDesc→Option S
 | .slice e=>bnd (P.underlying e) fun d=>grd (EW d=true) (G6 s dst x)
 | d=>bnd (wW P s x ds d) fun v=>some (s.put dst v)
inductive Parts where
 | aiH (fs:Array Field)
 | arr (e:TypeId)
def QZ (P:Program):Parts→Nat→Option (Nat×Nat)
 | .aiH fs,i=>bnd fs[i]? fun f=>some (f.offset,P.cellsOf f.type)
 | .arr e,i=>some (i*P.cellsOf e,P.cellsOf e)
def rV (P:Program)(fs:Parts)(cs:List V):List (Nat×V)→Option (List V)
 | []=>some cs
 | (i,v)::r=>bnd (QZ P fs i) fun f=>grd (v.cells.length=f.2∧f.1+v.cells.length≤cs.length∧v.cells.all V.one=true) (rV P fs (setAt cs f.1 v.cells) r)
def zi:TypeDesc→Option Parts
 | .struct fs=>some (.aiH fs)
 | .array _ e=>some (.arr e)
 | _=>none
def fieldsD (P:Program):TypeDesc→Bool
 | .struct fs=>fs.toList.all fun f=>eY P f.type
 | .array _ e=>eY P e
 | _=>false
def jm (P:Program)(t:TypeId):Bool:=match P.underlying t with
 | some d=>fieldsD P d
 | none=>false
def oO (s:S)(x:Nat×Operand):Option (Nat×V):=bnd (s.ev x.2) fun v=>some (x.1,v)
def j5 (s:S):Option Operand→Option (Option V)
 | none=>some none
 | some x=>bnd (s.ev x) fun v=>some (some v)
def O7:V→Option V
 | .ref b off=>some (.ref b off)
 | .pe b k i off=>some (.pe b k i off)
 | _=>none
def Q0 (i:Nat):V→Option V
 | .fT vs=>vs[i]?
 | _=>none
def U6:V→Option (List V)
 | .agg cs=>some cs
 | _=>none
def S.uO (s:S)(t:Option Nat)(cs:List V):Option S:=
 bnd t fun t=>grd ((look t s.box).isNone=true) (some {s with env:=YtlpdjhiggpblcaaGreat.put t (.ref t 0) s.env,box:=(t,cs)::s.box})
def WE:V→Option (FuncId×List V)
 | .fn f cs=>some (f,cs)
 | _=>none
def NR:V→Bool
 | .v _=>true
 | _=>false
def QD (s:S)(dst:Option Nat)(p i j:Nat)(rows:List (List D))(r:List D):Cw→Option S
 | ⟨v,[],[(0,rs)]⟩=>grd (NR v=true) (some ({s with tree:=upd p (rows.set i (r.set j (.l rs))) s.tree}.put dst v))
 | _=>none
def YK (M:aN)(s:S)(dst:Option Nat)(p i j k:Nat)(rest:List V):Option S:=
 bnd (look p s.tree) fun rows=>bnd rows[i]? fun r=>bnd r[j]? fun d=>bnd (LQ d) fun rs=>grd (r.length=k∧rest.all NR=true) (bnd (M (.own 0::rest) [] [rs]) (QD s dst p i j rows r))
def wX (m:Bool)(M:aN)(s:S)(dst:Option Nat):List V→Option S
 | .inn p i j k::rest=>if m then YK M s dst p i j k rest else wo m M s dst (.inn p i j k::rest)
 | args=>wo m M s dst args
def KV (P:Program)(G:List (FuncId×Bool×aN))(s:S)(dst:Option Nat)(ats:Array TypeId)(args:List V):Callee→Option S
 | .builtin b=>kD P s dst b ats args
 | .value f=>bnd (s.ev f) fun f=>bnd (WE f) fun f=>bnd (look f.1 G) fun M=>wX M.1 M.2 s dst (args++f.2)
 | _=>none
def Q5 (P:Program)(s:S)(dst:Option Nat)(t:TypeId)(n c:V):Option S:=
 bnd (P.underlying t) fun d=>bnd (iV d) fun e=>bnd (idxOf n) fun l=>bnd (idxOf c) fun cc=>grd (iC P e=true∧0≤l∧l=cc∧l.toNat*P.bytesOf e≤140737488355328∧l≤4611686018427387904) (bnd (jO P e) fun z=>bnd (bH Ap z) fun r=>s.newTree dst (List.replicate l.toNat r))
def WG (s:S)(dst:Option Nat)(k p:Nat)(rows:List (List D))(lo hi:Option V):Option S:=
 bnd (bounds rows.length lo hi) fun q=>if q.1<q.2 then grd (wid k rows=true) ((s.kill p).newTree dst ((rows.drop q.1).take (q.2-q.1)))else some (s.put dst (.aM none []))
def agz (P:Program)(s:S)(dst:Option Nat)(p:Nat)(rows:List (List D))(lo hi:Option V):TypeDesc→Option S
 | .slice e=>grd (eY P e=true) (WG s dst (P.cellsOf e) p rows lo hi)
 | _=>none
def akc (P:Program)(s:S)(dst:Option Nat)(p:Nat)(lo hi:Option V)(d:TypeDesc):Option (List (List D))→Option S
 | some rows=>agz P s dst p rows lo hi d
 | none=>bnd (qK P s (.own p) lo hi d) fun v=>some (s.put dst v)
def abC (P:Program)(s:S)(dst:Option Nat)(p:Nat)(lo hi:Option V)(d:TypeDesc):Option (List (List D))→Option S
 | some _=>bnd (qK P s (.own p) lo hi d) fun v=>some (s.put dst v)
 | none=>akc P s dst p lo hi d (look p s.tree)
def Dz (P:Program)(s:S)(dst:Option Nat)(x:V)(lo hi:Option V)(d:TypeDesc):Option S:=match x with
 | .own p=>abC P s dst p lo hi d (look p s.dJ)
 | x=>bnd (qK P s x lo hi d) fun v=>some (s.put dst v)
def fnV (vs:List V)(first:Array Operand):Fn→Option V
 | .func f=>grd (first.isEmpty=true) (some (.fn f vs))
 | _=>none
def intD:TypeDesc→Bool
 | .int .i64=>true
 | _=>false
def mapD:TypeDesc→Option (TypeId×TypeId)
 | .map k e=>some (k,e)
 | _=>none
def agA:Value→Option Int
 | .int .i64 n=>some n
 | _=>none
def Qk (P:Program)(t:TypeId):Option Int:=
 bnd (P.underlying t) fun d=>bnd (mapD d) fun x=>bnd (P.underlying x.1) fun k=>grd (intD k=true) (bnd (P.info? x.2) fun i=>bnd i.zero agA)
def aeN:V→Option (List (Int×Int))
 | .mp es=>some es
 | _=>none
def rF (k:Int):List (Int×Int)→Option Int
 | []=>none
 | (j,x)::r=>if k=j then some x else rF k r
def U7:V→Option Int
 | .v (.int .i64 n)=>some n
 | _=>none
def NS (z:Int):Option Int→V
 | some x=> .fT [.v (.int .i64 x), .v (.bool true)]
 | none=> .fT [.v (.int .i64 z), .v (.bool false)]
def DC:List (Int×Int)→Bool
 | []=>true
 | x::r=>(rF x.1 r).isNone&&DC r
def O8 (t:TypeId)(d:Nat):Oper→Option (Int×Int)
 | ⟨none, .insert t' (.tmp d') (.const (.int .i64 k)) (.const (.int .i64 v)),_,_,_,none⟩=>if t'=t∧d'=d then some (k,v)else none
 | _=>none
def WH {α:Type}(f:Int×Int→α)(b:α):Option (Int×Int)→α
 | some e=>f e
 | none=>b
def oP (t:TypeId)(d:Nat):List Oper→List (Int×Int)→List (Int×Int)×List Oper
 | [],acc=>(acc,[])
 | o::r,acc=>WH (fun e=>oP t d r (acc++ [e])) (acc,o::r) (O8 t d o)
def Q6:List Oper→Option (TypeId×Nat×List (Int×Int)×List Oper)
 | ⟨some d, .makeMap t none,_,_,_,none⟩::r=>some (t,d,(oP t d r []).1,(oP t d r []).2)
 | _=>none
def S.QE (s:S)(d:Nat)(es:List (Int×Int)):S:= {s with env:=YtlpdjhiggpblcaaGreat.put d (.mp es) s.env,dJ:=(d,[])::s.dJ}
def iN (P:Program)(G:List (FuncId×Bool×aN))(s:S)(dst:Option Nat):Op→Option S
 | .move x=>bnd (s.ev x) fun v=>some (s.put dst v)
 | .assign x=>bnd (s.ev x) fun v=>some (s.put dst v)
 | .pick c x y=>bnd (s.ev c) fun c=>bnd (ER c) fun b=>bnd (s.ev (if b then x else y)) fun v=>some (s.put dst v)
 | .alloc t=>bnd (jO P t) fun cs=>s.uO dst cs
 | .box t x=>bnd (s.ev x) fun v=>grd (v.cells.length=P.cellsOf t∧v.cells.all V.one=true) (s.uO dst v.cells)
 | .build t ps=>bnd (P.underlying t) fun d=>bnd (zi d) fun fs=>grd (jm P t=true) (bnd (jO P t) fun z=>bnd (bH (oO s) ps.toList) fun vs=>bnd (rV P fs z vs) fun cs=>some (s.put dst (.agg cs)))
 | .buildSlice t n ps=>bnd (P.underlying t) fun d=>bnd (iV d) fun e=>bnd (bH (oO s) ps.toList) fun vs=>
   grd ((iC P e&&decide (n*P.cellsOf e≤16777216)&&upto 0 n (vs.map (·.1))&&vs.all fun v=>decide (v.2.cells.length=P.cellsOf e)&&v.2.cells.all V.one)=true) (bnd (ku s (vs.map (·.2))) fun x=>x.2.newTree dst x.1)
 | .load t p=>bnd (s.ev p) fun p=>bnd (s.load P t p) fun v=>some (s.put dst v)
 | .store t p x=>bnd (s.ev p) fun p=>bnd (s.ev x) fun v=>bnd (s.store P t p v) fun s=>some (s.skip dst)
 | .nilCheck x=>bnd (s.ev x) fun v=>bnd (O7 v) fun v=>some (s.put dst v)
 | .binOp op t x y _=>bnd (s.ev x) fun x=>bnd (s.ev y) fun y=>bnd (bin P t op x y) fun v=>some (s.put dst v)
 | .unOp op _ x=>bnd (s.ev x) fun x=>bnd (un op x) fun v=>some (s.put dst v)
 | .convert t0 t x=>bnd (s.ev x) fun x=>bnd (P.underlying t0) fun d0=>bnd (P.underlying t) fun d=>LV P s dst x d0 d
 | .slice t x lo hi none=>bnd (s.ev x) fun x=>bnd (j5 s lo) fun l=>bnd (j5 s hi) fun h=>bnd (P.underlying t) fun d=>Dz P s dst x l h d
 | .fieldAddr t x f=>bnd (s.ev x) fun x=>bnd (bZ P t f) fun f=>bnd (yw x f.1) fun v=>some (s.put dst v)
 | .field t x f=>bnd (s.ev x) fun x=>bnd (U6 x) fun cs=>bnd (bZ P t f) fun f=>bnd (oN P f.2) fun g=>bnd (span cs f.1 (P.cellsOf f.2) g) fun v=>some (s.put dst v)
 | .indexAddr t x i=>bnd (s.ev x) fun x=>bnd (s.ev i) fun i=>bnd (idxOf i) fun i=>bnd (lU P t) fun e=>bnd (lq P s x i e.1 e.2) fun v=>some (s.put dst v)
 | .index t x i=>bnd (s.ev x) fun x=>bnd (s.ev i) fun i=>bnd (idxOf i) fun i=>bnd (GY P t x i) fun v=>some (s.put dst v)
 | .extract x i=>bnd (s.ev x) fun x=>bnd (Q0 i x) fun v=>some (s.put dst v)
 | .makeFunc fn first cap=>bnd (bH s.ev cap.toList) fun vs=>bnd (fnV vs first fn) fun v=>some (s.put dst v)
 | .makeSlice t n c=>bnd (s.ev n) fun n=>bnd (s.ev c) fun c=>Q5 P s dst t n c
 | .call c=>bnd (bH s.ev c.args.toList) fun args=>KV P G s dst c.argTypes args c.callee
 | .lookup t m k true=>bnd (s.ev m) fun m=>bnd (s.ev k) fun k=>bnd (aeN m) fun es=>bnd (U7 k) fun n=>bnd (Qk P t) fun z=>some (s.put dst (NS z (rF n es)))
 | _=>none
def KW (want:Bool)(x:Option V):Option Bool:=match x with
 | some (.v (.bool b))=>some (b==want)
 | some (.fT [])=>some false
 | _=>none
def JC (s:S)(want:Bool)(x:Option Nat):Option Bool:=match x with
 | some d=>KW want (look d s.env)
 | none=>some false
def S.wants (ops:Array Oper)(s:S):Option (Nat×Bool)→Option Bool
 | none=>some true
 | some (j,want)=>JC s want ((ops[j]?).bind (·.dst))
def ren (m:List (Nat×Nat))(p:Nat):Nat:=(look p m).getD p
mutual
def BK (m:List (Nat×Nat)):V→V
 | .own p=> .own (ren m p)
 | .inn p i j k=> .inn (ren m p) i j k
 | .pe b k i off=> .pe (BK m b) k i off
 | .agg cs=> .agg (GU m cs)
 | .fT cs=> .fT (GU m cs)
 | .fn f cs=> .fn f (GU m cs)
 | v=>v
def GU (m:List (Nat×Nat)):List V→List V
 | []=> []
 | v::r=>BK m v::GU m r
end
mutual
def uj (l:List Nat):V→List Nat
 | .own p=>if l.contains p then l else l++ [p]
 | .inn p _ _ _=>if l.contains p then l else l++ [p]
 | .pe b _ _ _=>uj l b
 | .agg cs=>Aw l cs
 | .fT cs=>Aw l cs
 | .fn _ cs=>Aw l cs
 | _=>l
def Aw (l:List Nat):List V→List Nat
 | []=>l
 | v::r=>Aw (uj l v) r
end
def eF (n:Nat):List (Nat×V)→List (Nat×V)×List Nat
 | []=>([],[])
 | (t, .nil)::r=>let (r,ps):=eF (n+1) r;((t, .own n)::r,n::ps)
 | x::r=>let (r,ps):=eF n r;(x::r,ps)
def cB (n:Nat):List V→List V×List Nat
 | []=>([],[])
 | .nil::r=>let (r,ps):=cB (n+1) r;(.own n::r,n::ps)
 | x::r=>let (r,ps):=cB n r;(x::r,ps)
def mG (n:Nat):List (Nat×List V)→List (Nat×List V)×List Nat
 | []=>([],[])
 | (b,cs)::r=>let (cs,ps):=cB n cs;let (r,qs):=mG (n+ps.length) r;((b,cs)::r,ps++qs)
def agB (ts:List Nat)(env:List (Nat×V)):Option (List (Nat×V)):=bH (fun t=>bnd (look t env) fun v=>some (t,v)) ts
def agC (bs:List Nat)(box:List (Nat×List V)):Option (List (Nat×List V)):=bH (fun b=>bnd (look b box) fun v=>some (b,v)) bs
def iT (bs:List Nat):V→Bool
 | .ref b _=>bs.contains b
 | .pe b _ _ _=>iT bs b
 | .agg cs=>go cs
 | .fT cs=>go cs
 | .fn _ cs=>go cs
 | _=>true
where go:List V→Bool
 | []=>true
 | c::r=>iT bs c&&go r
def zy (s:S)(p:Nat)(x:Option (List (List D))):Option S:=match x with
 | some rows=>some {s with tree:=drop1 p s.tree,dJ:=(p,rows)::s.dJ}
 | none=>some s
def j6 (s:S):List V→Option S
 | []=>some s
 | .own p::r=>bnd (zy s p (look p s.tree)) fun s=>j6 s r
 | _::r=>j6 s r
def LW (s:S):V→Option S
 | .own p=>zy s p (look p s.tree)
 | .ref b _=>bnd (look b s.box) fun cs=>j6 s cs
 | _=>some s
def S.freeze (s:S)(t:Nat):Option S:=bnd (look t s.env) fun v=>LW s v
def NT (p i:Nat)(k:Nat→List (Nat×Nat×List (List D))):Option (List (List D))→List (Nat×Nat×List (List D))
 | some rows=>if 1000000000≤p∧p<2000000000 then(p,p,rows)::k i else(p,2000000000+i,rows)::k (i+1)
 | none=>k i
def metIn (tree:List (Nat×List (List D))):List Nat→Nat→List (Nat×Nat×List (List D))
 | [],_=> []
 | p::r,i=>NT p i (metIn tree r) (look p tree)
def S.Kv (m:List (Nat×Nat×List (List D)))(env:List (Nat×V))(box:List (Nat×List V))(dJ:List (Nat×List (List D))):S:=
 {env:=env.map fun x=>(x.1,BK (m.map fun x=>(x.1,x.2.1)) x.2),box:=box.map fun x=>(x.1,GU (m.map fun x=>(x.1,x.2.1)) x.2),tree:=(m.map (·.2)).reverse,dJ}
def S.ad9 (env:List (Nat×V))(box:List (Nat×List V))(tree dJ:List (Nat×List (List D))):S:=
 S.Kv (metIn tree (Aw (Aw [] (env.map (·.2))) (box.flatMap (·.2))) (1000*dJ.length)) env box dJ
def S.head (ts bs:List Nat)(s:S):Option S:=
 bnd (agB ts s.env) fun env=>bnd (agC bs s.box) fun box=>
  grd ((desc ts&&desc bs&&env.all (fun x=>iT bs x.2)&&box.all (fun x=>x.2.all (iT bs))&&s.tree.all (fun x=>decide (x.1<3000000000))&&s.dJ.all (fun x=>decide (x.1<2000000000+1000*s.dJ.length))&&decide (s.dJ.length<1000))=true)
   (some (S.ad9 (eF 3000000000 env).1 (mG (3000000000+(eF 3000000000 env).2.length) box).1
    (s.tree++((eF 3000000000 env).2++(mG (3000000000+(eF 3000000000 env).2.length) box).2).map fun p=>(p,[])) s.dJ))
def um (s:S):List Nat→Option S
 | []=>some s
 | t::r=>bnd (s.freeze t) fun s=>um s r
structure ou where
 heads:List (Nat×List Nat×List Nat)
 frees:List (Nat×List Nat)
 draws:List (Nat×List Nat×List (Nat×List Nat)):= []
 alm:List (Nat×List Nat×List Nat):= []
def WI (x:Option (List Nat×List (Nat×List Nat))):List Nat×List (Nat×List Nat):=match x with
 | some l=>l
 | none=>([],[])
def ou.bars (g:ou)(id:Nat):List Nat×List (Nat×List Nat):=WI (look id g.draws)
def G7 (s:S)(x:Option (List Nat×List Nat)):Option S:=match x with
 | some x=>s.head x.1 x.2
 | none=>some s
def ou.head (g:ou)(id:Nat)(s:S):Option S:=G7 s (look id g.heads)
def U8 (s:S)(x:Option (List Nat)):Option S:=match x with
 | some ts=>um s ts
 | none=>some s
def ou.reg (g:ou)(id:Nat)(s:S):Option S:=bnd (G7 s (look id g.alm)) fun s=>U8 s (look id g.frees)
inductive Q where
 | on (s:S)
 | off
def Ud (x:Option S):Option Q:=match x with
 | some s=>some (.on s)
 | none=>none
@[simp ↓] theorem nQ (s:S):Ud (some s)=some (.on s):=_root_.id rfl
@[simp ↓] theorem aln:Ud none=none:=_root_.id rfl
def CF (P:Program)(G:List (FuncId×Bool×aN))(ops:Array Oper):List Oper→Q→Option Q
 | [],q=>some q
 | o::r, .on s=>bnd (s.wants ops o.guard) fun g=>if g then bnd (Ud (iN P G s o.dst o.op)) fun q=>CF P G ops r q else bnd (Ud (some (s.put o.dst (.fT [])))) fun q=>CF P G ops r q
 | _::_, .off=>none
theorem iX {α β γ:Type}(x:Option α)(f:α→Option β)(g:β→Option γ):bnd (bnd x f) g=bnd x fun a=>bnd (f a) g:=by cases x<;>rfl
theorem oz {α β:Type}{c:Prop} [Decidable c](x:Option α)(f:α→Option β):bnd (grd c x) f=grd c (bnd x f):=by unfold grd;split<;>rfl
def LX (b:Builtin)(args:List V):Option V:=match b,args with
 | .max,[.v (.int .i64 x), .v (.int .i64 y)]=>some (.v (.int .i64 (max x y)))
 | .min,[.v (.int .i64 x), .v (.int .i64 y)]=>some (.v (.int .i64 (min x y)))
 | _,_=>none
def LY (args:List V):Callee→Option V
 | .builtin b=>LX b args
 | _=>none
def jh (P:Program)(s:S):Op→Option V
 | .move x=>s.ev x
 | .assign x=>s.ev x
 | .pick c x y=>bnd (s.ev c) fun c=>bnd (ER c) fun b=>s.ev (if b then x else y)
 | .build t ps=>bnd (P.underlying t) fun d=>bnd (zi d) fun fs=>grd (jm P t=true) (bnd (jO P t) fun z=>bnd (bH (oO s) ps.toList) fun vs=>bnd (rV P fs z vs) fun cs=>some (.agg cs))
 | .load t p=>bnd (s.ev p) fun p=>s.load P t p
 | .nilCheck x=>bnd (s.ev x) fun v=>O7 v
 | .binOp op t x y _=>bnd (s.ev x) fun x=>bnd (s.ev y) fun y=>bin P t op x y
 | .unOp op _ x=>bnd (s.ev x) fun x=>un op x
 | .convert t0 t x=>bnd (s.ev x) fun x=>bnd (P.underlying t0) fun d0=>bnd (P.underlying t) fun d=>wW P s x d0 d
 | .slice t x lo hi none=>bnd (s.ev x) fun x=>bnd (j5 s lo) fun l=>bnd (j5 s hi) fun h=>bnd (P.underlying t) fun d=>qK P s x l h d
 | .fieldAddr t x f=>bnd (s.ev x) fun x=>bnd (bZ P t f) fun f=>yw x f.1
 | .field t x f=>bnd (s.ev x) fun x=>bnd (U6 x) fun cs=>bnd (bZ P t f) fun f=>bnd (oN P f.2) fun g=>span cs f.1 (P.cellsOf f.2) g
 | .indexAddr t x i=>bnd (s.ev x) fun x=>bnd (s.ev i) fun i=>bnd (idxOf i) fun i=>bnd (lU P t) fun e=>lq P s x i e.1 e.2
 | .index t x i=>bnd (s.ev x) fun x=>bnd (s.ev i) fun i=>bnd (idxOf i) fun i=>GY P t x i
 | .extract x i=>bnd (s.ev x) fun x=>Q0 i x
 | .makeFunc fn first cap=>bnd (bH s.ev cap.toList) fun vs=>fnV vs first fn
 | .call c=>bnd (bH s.ev c.args.toList) fun args=>LY args c.callee
 | _=>none
structure Eff where
 val:V
 tree:List (Nat×List (List D))
 box:List (Nat×List V)
def uR (t:Nat):List (Nat×List (List D))→List (Nat×List (List D))
 | []=> []
 | (q,rows)::r=>(1000*(t+1)+q,rows)::uR t r
def EX (M:aN)(s:S)(d:Nat)(args:List V):Option Eff:=
 bnd (wm s ⟨[],[],[]⟩ args) fun x=>grd ((x.2.box.isEmpty&&x.2.tree.isEmpty)=true) (bnd (M x.1 [] []) fun r=>grd (r.box.isEmpty=true) (bnd (nC x.2 d r.val) fun v=>some ⟨v,uR d r.tree,[]⟩))
def S.app (s:S)(d:Option Nat)(e:Eff):S:= {env:=(s.put d e.val).env,box:=e.box++s.box,tree:=e.tree.reverse++s.tree,dJ:=s.dJ}
def jo (s:S):List (Nat×List (List D))→Bool
 | []=>true
 | x::r=>fresh s x.1&&decide (x.1<1000000000)&&jo {s with tree:=x::s.tree} r
def Cx (P:Program)(s:S)(b:Builtin)(ats:Array TypeId)(args:List V):Option V:=
 match b,args with
 | .len,[.v (.string x)]=>bnd ats[0]? fun t=>grd (abB P t=true) (some (.v (.int .i64 x.size)))
 | .len,[x]=>bnd ats[0]? fun t=>grd (Ag P t=true) (bnd (s.rows x) fun rows=>some (.v (.int .i64 rows.length)))
 | .max,[.v (.int .i64 x), .v (.int .i64 y)]=>some (.v (.int .i64 (max x y)))
 | .min,[.v (.int .i64 x), .v (.int .i64 y)]=>some (.v (.int .i64 (min x y)))
 | _,_=>none
def mZ (s:S):V→Option (List (List D))
 | .v (.string b)=>some (b.toList.map fun c=> [.a (.int .u8 (c.toNat:Int))])
 | .v _=>none
 | x=>bnd (s.rows x) fun rows=>grd (dV rows=true) (some rows)
def G8 (P:Program)(s:S)(d:Nat)(e:TypeId)(new:List (List D)):V→Option Eff
 | .nil=>grd (kU P e new.length=true∧wid (P.cellsOf e) new=true) (some ⟨.own d,[(d,new)],[]⟩)
 | .own p=>bnd (look p s.tree) fun rows=>grd (rows.isEmpty=true∧kU P e new.length=true∧wid (P.cellsOf e) new=true) (some ⟨.own d,[(d,new)],[]⟩)
 | _=>none
def YL (P:Program)(s:S)(d:Nat)(b:Builtin)(ats:Array TypeId)(args:List V):Option Eff:=
 match b,args with
 | .append,[x,y]=>bnd ats[0]? fun t=>bnd ats[1]? fun t1=>grd (D9 P t1=true) (bnd (P.underlying t) fun ds=>bnd (iV ds) fun e=>bnd (mZ s y) fun new=>G8 P s d e new x)
 | b,args=>bnd (Cx P s b ats args) fun v=>some ⟨v,[],[]⟩
def yA (P:Program)(G:List (FuncId×Bool×aN))(s:S)(d:Nat)(ats:Array TypeId)(args:List V):Callee→Option Eff
 | .builtin b=>YL P s d b ats args
 | .value f=>bnd (s.ev f) fun f=>bnd (WE f) fun f=>bnd (look f.1 G) fun M=>grd (M.1=false) (EX M.2 s d (args++f.2))
 | _=>none
def pW (P:Program)(G:List (FuncId×Bool×aN))(s:S)(d:Nat):Op→Option Eff
 | .alloc t=>bnd (jO P t) fun cs=>some ⟨.ref d 0,[],[(d,cs)]⟩
 | .box t x=>bnd (s.ev x) fun v=>grd (v.cells.length=P.cellsOf t∧v.cells.all V.one=true) (some ⟨.ref d 0,[],[(d,v.cells)]⟩)
 | .buildSlice t n ps=>bnd (P.underlying t) fun ds=>bnd (iV ds) fun e=>bnd (bH (oO s) ps.toList) fun vs=>
   grd ((iC P e&&decide (n*P.cellsOf e≤16777216)&&upto 0 n (vs.map (·.1))&&vs.all fun v=>decide (v.2.cells.length=P.cellsOf e)&&v.2.cells.all V.one)=true) (bnd (bH (fun v=>bH Ap v.2.cells) vs) fun rows=>some ⟨.own d,[(d,rows)],[]⟩)
 | .call c=>bnd (bH s.ev c.args.toList) fun args=>yA P G s d c.argTypes args c.callee
 | op=>bnd (jh P s op) fun v=>some ⟨v,[],[]⟩
def kE (s:S):List (Nat×List V)→Bool
 | []=>true
 | x::r=>(look x.1 s.box).isNone&&kE {s with box:=x::s.box} r
def jW (P:Program)(G:List (FuncId×Bool×aN))(s:S)(d:Option Nat)(op:Op):Option S:=
 bnd d fun d=>bnd (pW P G s d op) fun e=>grd ((jo s e.tree&&kE s e.box)=true) (some (s.app (some d) e))
structure Bar where
 val:V
 box:List (Nat×List V)
 tree:List (Nat×List (List D))
 kills:List Nat
 inn:List Nat
def GD:List Nat→List (Nat×V)→List (Nat×V)
 | [],e=>e
 | p::r,e=>GD r (Qj p e)
def qh:List Nat→List (Nat×V)→List (Nat×V)
 | [],e=>e
 | p::r,e=>qh r (Aq p e)
def owns:List V→List Nat
 | []=> []
 | .own p::r=>p::owns r
 | _::r=>owns r
def LZ:List V→List Nat
 | []=> []
 | v::r=>owns v.cells++LZ r
def S.iD (s:S)(d:Option Nat)(x:Bar):S:= {env:=(S.put {s with env:=GD x.inn (qh x.kills s.env)} d x.val).env,box:=x.box,tree:=x.tree,dJ:=s.dJ}
def QF (d:Option Nat)(vs:List V)(x:List (List D)×S):Option Bar:=
 bnd d fun t=>grd (fresh x.2 t=true) (some ⟨.own t,x.2.box,(t,x.1)::x.2.tree,LZ vs,[]⟩)
def Bh (s:S)(q k i off:Nat):Option D→Option Bar
 | some d=>bnd (look q s.tree) fun rows=>bnd rows[i]? fun r=>bnd r[off]? fun d0=>grd (r.length=k∧sH d0=true∧yc d=true) (some ⟨.fT [],s.box,upd q (rows.set i (r.set off d)) s.tree,[],[]⟩)
 | none=>none
def Ea (s:S)(v:V):V→Option Bar
 | .pe (.own q) k i off=>Bh s q k i off v.atom
 | .ref b off=>bnd (look b s.box) fun cs=>grd (off+v.cells.length≤cs.length∧v.cells.all V.one=true) (some ⟨.fT [],upd b (setAt cs off v.cells) s.box,s.tree,[],[]⟩)
 | _=>none
def O9 (M:aN)(s:S)(t:Nat)(args:List V):Option Bar:=
 bnd (wm s ⟨[],[],[]⟩ args) fun x=>bnd (mF s x.2 x.2.box) fun y=>grd ((y.2.tree.isEmpty&&NQ y.2 y.1.length)=true) (bnd (M x.1 y.1 []) fun r=>
  bnd (iW y.2 t y.2.box r.box s) fun s=>bnd (jR y.2 t r.tree s) fun s=>bnd (nC y.2 t r.val) fun v=>some ⟨v,s.box,s.tree,[],[]⟩)
def yB (P:Program)(s:S)(d:Option Nat)(e:TypeId)(new:List (List D)):V→Option Bar
 | .nil=>grd (kU P e new.length=true∧wid (P.cellsOf e) new=true) (bnd d fun t=>grd (fresh s t=true) (some ⟨.own t,s.box,(t,new)::s.tree,[],[]⟩))
 | .own p=>bnd (look p s.tree) fun rows=>grd (kU P e (rows.length+new.length)=true∧wid (P.cellsOf e) rows=true∧wid (P.cellsOf e) new=true) (bnd d fun t=>grd (fresh s t=true) (some ⟨.own t,oq p s.box,(t,rows++new)::drop1 p s.tree,[p],[]⟩))
 | .inn p i j k=>bnd (s.rows (.inn p i j k)) fun rows=>grd (kU P e (rows.length+new.length)=true∧wid (P.cellsOf e) rows=true∧wid (P.cellsOf e) new=true) (bnd (look p s.tree) fun rs=>bnd rs[i]? fun r=>grd (¬(1000000000≤p∧p<2000000000)) (bnd d fun t=>grd (fresh s t=true) (some ⟨.own t,GZ p s.box,(t,rows++new)::upd p (rs.set i (r.set j .gone)) s.tree,[],[p]⟩)))
 | _=>none
def Q7 (P:Program)(s:S)(d:Option Nat)(b:Builtin)(ats:Array TypeId)(args:List V):Option Bar:=
 match b,args with
 | .append,[x,y]=>bnd ats[0]? fun t=>bnd ats[1]? fun t1=>grd (D9 P t1=true) (bnd (P.underlying t) fun ds=>bnd (iV ds) fun e=>bnd (mZ s y) fun new=>yB P s d e new x)
 | _,_=>none
def yC (P:Program)(G:List (FuncId×Bool×aN))(s:S)(d:Option Nat)(ats:Array TypeId)(args:List V):Callee→Option Bar
 | .builtin b=>Q7 P s d b ats args
 | .value f=>bnd (s.ev f) fun f=>bnd (WE f) fun f=>bnd (look f.1 G) fun M=>grd (M.1=false) (O9 M.2 s (d.getD 0) (args++f.2))
 | _=>none
def rU (P:Program)(G:List (FuncId×Bool×aN))(s:S)(d:Option Nat):Op→Option Bar
 | .store t p x=>bnd (s.ev p) fun p=>bnd (s.ev x) fun v=>grd (eY P t=true∧v.cells.length=P.cellsOf t∧d.isNone=true) (Ea s v p)
 | .call c=>bnd (bH s.ev c.args.toList) fun args=>yC P G s d c.argTypes args c.callee
 | .buildSlice t n ps=>bnd (P.underlying t) fun dd=>bnd (iV dd) fun e=>bnd (bH (oO s) ps.toList) fun vs=>
   grd ((iC P e&&decide (n*P.cellsOf e≤16777216)&&upto 0 n (vs.map (·.1))&&vs.all fun v=>decide (v.2.cells.length=P.cellsOf e)&&v.2.cells.all V.one)=true) (bnd (ku s (vs.map (·.2))) fun x=>QF d (vs.map (·.2)) x)
 | _=>none
def isApp:Op→Bool
 | .call c=>match c.callee with
  | .builtin _=>true
  | _=>false
 | _=>false
def Eb (ks:List Nat)(v:V):Bool:=ks.all fun p=> !aP p v
def lS (ks:List Nat)(s:S):Operand→Bool
 | .tmp t=>match look t s.env with
  | some v=>Eb ks v
  | none=>true
 | _=>true
def fq (ks:List Nat)(s:S)(op:Op):Bool:=op.operands.toList.all (lS ks s)
def DF (ops:Array Oper)(s:S)(ks:List Nat):List Nat→Option Unit
 | []=>some ()
 | i::r=>bnd ops[i]? fun o=>bnd o.dst fun d=>bnd (look d s.env) fun v=>grd ((Eb ks v&&fq ks s o.op)=true) (DF ops s ks r)
open Classical in
noncomputable def BL {α β:Type}(x y:α)(z:Option β):Option β:=if x=y then z else none
theorem yD {α β:Type}{x y:α}{z:Option β}{b:β}(h:BL x y z=some b):x=y∧z=some b:=by
 unfold BL at h;split at h
 ·exact⟨by assumption,h⟩
 ·cases h
theorem KX {α β:Type}(x:α)(z:Option β):BL x x z=z:=if_pos _root_.rfl
noncomputable def oC (P:Program)(ops:Array Oper)(s0 s:S):List Nat→Option Unit
 | []=>some ()
 | i::r=>bnd ops[i]? fun o=>bnd o.dst fun d=>bnd (look d s.env) fun v=>bnd (jh P s o.op) fun u=>BL u v (bnd (look d s0.env) fun v0=>BL v0 v (oC P ops s0 s r))
def alo:Callee→Bool
 | .builtin .max=>true
 | .builtin .min=>true
 | _=>false
def isVal:Op→Bool
 | .alloc _=>false
 | .box _ _=>false
 | .buildSlice _ _ _=>false
 | .call c=>alo c.callee
 | _=>true
def agD:Option Oper→Bool
 | some o=>isVal o.op
 | none=>false
def KY (ops:Array Oper)(fl:List Nat):Bool:=fl.all fun i=>agD ops[i]?
noncomputable def NU (P:Program)(ops:Array Oper)(s:S)(d:Option Nat)(fl:List Nat)(x:Bar):Option S:=match x.inn with
 | []=>BL x.box s.box (bnd (DF ops s x.kills fl) fun _=>some (s.iD d x))
 | _::_=>grd (KY ops fl=true) (bnd (oC P ops s (s.iD d x) fl) fun _=>some (s.iD d x))
noncomputable def L6 (P:Program)(G:List (FuncId×Bool×aN))(ops:Array Oper)(bar:Option (List Nat))(s:S)(d:Option Nat)(op:Op):Option S:=match bar with
 | none=>jW P G s d op
 | some []=>iN P G s d op
 | some (i::r)=>if isApp op=true then bnd (rU P G s d op) (NU P ops s d (i::r))else bnd (rU P G s d op) fun x=>bnd (oC P ops s (s.iD d x) (i::r)) fun _=>some (s.iD d x)
noncomputable def nR (P:Program)(G:List (FuncId×Bool×aN))(ops:Array Oper)(bars:List (Nat×List Nat)):List (Nat×Oper)→Q→Option Q
 | [],q=>some q
 | x::r, .on s=>bnd (s.wants ops x.2.guard) fun g=>if g then bnd (Ud (L6 P G ops (look x.1 bars) s x.2.dst x.2.op)) fun q=>nR P G ops bars r q else bnd (Ud (some (s.put x.2.dst (.fT [])))) fun q=>nR P G ops bars r q
 | _::_, .off=>none
def G9:Nat→List Oper→List (Nat×Oper)
 | _,[]=> []
 | k,o::r=>(k,o)::G9 (k+1) r
def picked (ops:Array Oper):List Nat→List (Nat×Oper)
 | []=> []
 | i::r=>match ops[i]? with
  | some o=>(i,o)::picked ops r
  | none=>picked ops r
def Ay (ops:Array Oper):List Nat→List (Nat×Oper)
 | []=>G9 0 ops.toList
 | i::r=>picked ops (i::r)
noncomputable def agE (P:Program)(G:List (FuncId×Bool×aN))(ops:Array Oper)(bars:List (Nat×List Nat))(i:Nat)(r:List Nat)(s:S):Option Oper→Option Q
 | some o=>bnd (s.wants ops o.guard) fun g=>if g then bnd (Ud (L6 P G ops (look i bars) s o.dst o.op)) fun q=>nR P G ops bars (picked ops r) q else bnd (Ud (some (s.put o.dst (.fT [])))) fun q=>nR P G ops bars (picked ops r) q
 | none=>nR P G ops bars (picked ops r) (.on s)
inductive Ex where
 | normal
 | exit (id:Nat)
 | ret
def rounds (f:Q→Option (Ex×Q)):Nat→Q→Option (Ex×Q)
 | 0,_=>none
 | n+1,s=>match f s with
  | some (.normal,s)=>rounds f n s
  | r=>r
open Classical in
noncomputable def yg (f:Q→Option (Ex×Q))(s:Q):Option (Ex×Q):=
 if h:∃n r,rounds f n s=some r then some (Classical.choose (Classical.choose_spec h))else none
def Code.first:Code→Nat
 | .region id _ _=>id
 | .seq x _=>Code.first x
 | .block _ x=>Code.first x
 | .loop x=>Code.first x
 | .scope x=>Code.first x
 | _=>0
def NV (r:Option (Ex×Q))(k:Q→Option (Ex×Q)):Option (Ex×Q):=match r with
 | some (.normal,s)=>k s
 | r=>r
@[simp ↓] theorem He (s:Q)(k:Q→Option (Ex×Q)):NV (some (.normal,s)) k=k s:=_root_.id rfl
@[simp ↓] theorem NW (i:Nat)(s:Q)(k:Q→Option (Ex×Q)):NV (some (.exit i,s)) k=some (.exit i,s):=_root_.id rfl
@[simp ↓] theorem Q8 (s:Q)(k:Q→Option (Ex×Q)):NV (some (.ret,s)) k=some (.ret,s):=_root_.id rfl
@[simp ↓] theorem NY (k:Q→Option (Ex×Q)):NV none k=none:=_root_.id rfl
@[congr] theorem akd {r r':Option (Ex×Q)}(k:Q→Option (Ex×Q))(h:r=r'):NV r k=NV r' k:=by rw [h]
def Hg (id:Nat):Ex×Q→Option (Ex×Q)
 | (.exit j,s)=>if j=id then some (.normal,s)else some (.exit j,s)
 | r=>some r
def Pb (gh:ou)(id:Nat):Q→Option Q
 | .on s=>Ud (gh.head id s)
 | .off=>none
def U9 (P:Program)(G:List (FuncId×Bool×aN))(ops:Array Oper)(l:List Oper)(s:S):Option Q:=
 bnd (Q6 l) fun x=>bnd (Qk P x.1) fun _=>grd (fresh s x.2.1=true∧DC x.2.2.1=true) (CF P G ops x.2.2.2 (.on (s.QE x.2.1 x.2.2.1)))
noncomputable def WJ (P:Program)(G:List (FuncId×Bool×aN))(ops:Array Oper)(bar:List Nat)(q:Q):Option Q:=match bar,q with
 | _::_, .on s=>U9 P G ops ops.toList s
 | _,q=>CF P G ops ops.toList q
noncomputable def YM (P:Program)(G:List (FuncId×Bool×aN))(ops:Array Oper)(bar:List Nat×List (Nat×List Nat))(d:Bool)(q:Q):Option Q:=if d then nR P G ops bar.2 (Ay ops bar.1) q else WJ P G ops bar.1 q
noncomputable def JD (P:Program)(G:List (FuncId×Bool×aN))(gh:ou):Code→Q→Option (Ex×Q)
 | _, .off=>none
 | .skip,q=>some (.normal,q)
 | .label _,q=>some (.normal,q)
 | .region id ops d, .on s=>bnd (Ud (gh.reg id s)) fun q=>bnd (YM P G ops (gh.bars id) d q) fun q=>some (.normal,q)
 | .seq x y,q=>NV (JD P G gh x q) fun q=>JD P G gh y q
 | .cond c x y, .on s=>bnd (s.ev c) fun v=>bnd (ER v) fun b=>if b then JD P G gh x (.on s)else JD P G gh y (.on s)
 | .block id x,q=>bnd (JD P G gh x q) (Hg id)
 | .loop x,q=>bnd (Pb gh (Code.first x) q) fun q=>yg (fun q=>NV (JD P G gh x q) fun q=>bnd (Pb gh (Code.first x) q) fun q=>some (.normal,q)) q
 | .exit id,q=>some (.exit id,q)
 | .scope x,q=>JD P G gh x q
 | .ret,q=>some (.ret,q)
 | _,_=>none
section
variable (P:Program) (G:List (FuncId×Bool×aN)) (gh:ou) (s:S)
@[simp] theorem agF (id:Nat):Pb gh id (.on s)=Ud (gh.head id s):=_root_.id rfl
@[simp] theorem ak1 (ops:Array Oper):CF P G ops [] (.on s)=some (.on s):=_root_.id rfl
@[simp] theorem Q9 (ops:Array Oper)(o:Oper)(r:List Oper):CF P G ops (o::r) (.on s)=bnd (s.wants ops o.guard) fun g=>if g then bnd (Ud (iN P G s o.dst o.op)) fun q=>CF P G ops r q else bnd (Ud (some (s.put o.dst (.fT [])))) fun q=>CF P G ops r q:=_root_.id rfl
@[simp] theorem agG:JD P G gh .skip (.on s)=some (.normal, .on s):=_root_.id rfl
@[simp] theorem aeO (l:Nat):JD P G gh (.label l) (.on s)=some (.normal, .on s):=_root_.id rfl
@[simp] theorem abD (id:Nat)(ops:Array Oper)(d:Bool):JD P G gh (.region id ops d) (.on s)=bnd (Ud (gh.reg id s)) fun q=>bnd (YM P G ops (gh.bars id) d q) fun q=>some (.normal,q):=_root_.id rfl
theorem aeP (ops:Array Oper)(bar:List Nat×List (Nat×List Nat))(q:Q):YM P G ops bar false q=WJ P G ops bar.1 q:=_root_.id rfl
@[simp] theorem ak2 (ops:Array Oper)(bars:List (Nat×List Nat)):YM P G ops ([],bars) false (.on s)=CF P G ops ops.toList (.on s):=_root_.id rfl
@[simp] theorem alp (ops:Array Oper)(i:Nat)(l:List Nat)(bars:List (Nat×List Nat)):YM P G ops (i::l,bars) false (.on s)=U9 P G ops ops.toList s:=_root_.id rfl
@[simp] theorem alq (ops:Array Oper)(l:List Oper):U9 P G ops l s=bnd (Q6 l) fun x=>bnd (Qk P x.1) fun _=>grd (fresh s x.2.1=true∧DC x.2.2.1=true) (CF P G ops x.2.2.2 (.on (s.QE x.2.1 x.2.2.1))):=_root_.id rfl
@[simp] theorem alr (ops:Array Oper)(bars:List (Nat×List Nat))(q:Q):YM P G ops ([],bars) true q=nR P G ops bars (G9 0 ops.toList) q:=_root_.id rfl
@[simp] theorem ak3 (ops:Array Oper)(i:Nat)(l:List Nat)(bars:List (Nat×List Nat))(q:Q):YM P G ops (i::l,bars) true q=nR P G ops bars (picked ops (i::l)) q:=_root_.id rfl
@[simp] theorem ak4 (ops:Array Oper)(bars:List (Nat×List Nat))(k:Nat)(q:Q):nR P G ops bars (G9 k []) q=some q:=_root_.id rfl
theorem KZ (ops:Array Oper)(bars:List (Nat×List Nat))(x:Nat×Oper)(r:List (Nat×Oper)):nR P G ops bars (x::r) (.on s)=bnd (s.wants ops x.2.guard) fun g=>if g then bnd (Ud (L6 P G ops (look x.1 bars) s x.2.dst x.2.op)) fun q=>nR P G ops bars r q else bnd (Ud (some (s.put x.2.dst (.fT [])))) fun q=>nR P G ops bars r q:=_root_.id rfl
@[simp] theorem ake (ops:Array Oper)(bars:List (Nat×List Nat))(k:Nat)(o:Oper)(r:List Oper):nR P G ops bars (G9 k (o::r)) (.on s)=bnd (s.wants ops o.guard) fun g=>if g then bnd (Ud (L6 P G ops (look k bars) s o.dst o.op)) fun q=>nR P G ops bars (G9 (k+1) r) q else bnd (Ud (some (s.put o.dst (.fT [])))) fun q=>nR P G ops bars (G9 (k+1) r) q:=_root_.id rfl
@[simp] theorem aeQ (ops:Array Oper)(bars:List (Nat×List Nat))(q:Q):nR P G ops bars (picked ops []) q=some q:=_root_.id rfl
@[simp] theorem aiI (ops:Array Oper)(bars:List (Nat×List Nat))(i:Nat)(r:List Nat):nR P G ops bars (picked ops (i::r)) (.on s)=agE P G ops bars i r s ops[i]?:=by
 unfold picked;cases ops[i]?<;>rfl
@[simp] theorem ajC (ops:Array Oper)(bars:List (Nat×List Nat))(i:Nat)(r:List Nat)(o:Oper):agE P G ops bars i r s (some o)=bnd (s.wants ops o.guard) fun g=>if g then bnd (Ud (L6 P G ops (look i bars) s o.dst o.op)) fun q=>nR P G ops bars (picked ops r) q else bnd (Ud (some (s.put o.dst (.fT [])))) fun q=>nR P G ops bars (picked ops r) q:=_root_.id rfl
@[simp] theorem ajD {α β:Type}(x:α)(z:Option β):BL x x z=z:=KX x z
@[simp] theorem aeR (ops:Array Oper)(d:Option Nat)(op:Op):L6 P G ops (some []) s d op=iN P G s d op:=_root_.id rfl
@[simp] theorem aeS (ops:Array Oper)(d:Option Nat)(op:Op):L6 P G ops none s d op=jW P G s d op:=_root_.id rfl
@[simp] theorem YN (ops:Array Oper)(i:Nat)(r:List Nat)(d:Option Nat)(op:Op):L6 P G ops (some (i::r)) s d op=if isApp op=true then bnd (rU P G s d op) (NU P ops s d (i::r))else bnd (rU P G s d op) fun x=>bnd (oC P ops s (s.iD d x) (i::r)) fun _=>some (s.iD d x):=_root_.id rfl
@[simp] theorem aiJ (x y:Code):JD P G gh (.seq x y) (.on s)=NV (JD P G gh x (.on s)) fun q=>JD P G gh y q:=_root_.id rfl
@[simp] theorem agH (c:Operand)(x y:Code):JD P G gh (.cond c x y) (.on s)=bnd (s.ev c) fun v=>bnd (ER v) fun b=>if b then JD P G gh x (.on s)else JD P G gh y (.on s):=_root_.id rfl
@[simp] theorem aeT (id:Nat)(x:Code):JD P G gh (.block id x) (.on s)=bnd (JD P G gh x (.on s)) (Hg id):=_root_.id rfl
@[simp] theorem agI (x:Code):JD P G gh (.loop x) (.on s)=bnd (Ud (gh.head (Code.first x) s)) fun q=>yg (fun q=>NV (JD P G gh x q) fun q=>bnd (Pb gh (Code.first x) q) fun q=>some (.normal,q)) q:=_root_.id rfl
@[simp] theorem agJ (id:Nat):JD P G gh (.exit id) (.on s)=some (.exit id, .on s):=_root_.id rfl
@[simp] theorem aeU (x:Code):JD P G gh (.scope x) (.on s)=JD P G gh x (.on s):=_root_.id rfl
@[simp] theorem aiK:JD P G gh .ret (.on s)=some (.ret, .on s):=_root_.id rfl
end
def bg:Nat:=1000000000
mutual
def l6:V→V
 | .ref b off=> .ref (bg+b) off
 | .own p=> .own (bg+p)
 | .inn p i j k=> .inn (bg+p) i j k
 | .agg cs=> .agg (nX cs)
 | .fT cs=> .fT (nX cs)
 | .pe b k i off=> .pe (l6 b) k i off
 | .fn f cs=> .fn f (nX cs)
 | v=>v
def nX:List V→List V
 | []=> []
 | v::r=>l6 v::nX r
end
mutual
def zA (s:S)(n:Nat)(l:List (Nat×List (List D))):V→Option (V×List (Nat×List (List D)))
 | .v x=>some (.v x,l)
 | .nil=>some (.own (n+l.length),l++ [(0,[])])
 | .aM o rows=>some (.aM o rows,l)
 | .own p=>if bg≤p∧p<bg+n then grd ((look p s.tree).isSome=true) (some (.own (p-bg),l))else bnd (s.rows (.own p)) fun rows=>grd ((look p l).isNone=true) (some (.own (n+l.length),l++ [(p,rows)]))
 | .ref b off=>grd (bg≤b) (some (.ref (b-bg) off,l))
 | .dead=>some (.dead,l)
 | .agg cs=>bnd (NZ s n l cs) fun x=>some (.agg x.1,x.2)
 | .fT cs=>bnd (NZ s n l cs) fun x=>some (.fT x.1,x.2)
 | _=>none
def NZ (s:S)(n:Nat)(l:List (Nat×List (List D))):List V→Option (List V×List (Nat×List (List D)))
 | []=>some ([],l)
 | v::r=>bnd (zA s n l v) fun x=>bnd (NZ s n x.2 r) fun y=>some (x.1::y.1,y.2)
end
def WK (s:S)(n:Nat)(l:List (Nat×List (List D))):List Nat→Option (List (List V)×List (Nat×List (List D)))
 | []=>some ([],l)
 | b::r=>bnd (look (bg+b) s.box) fun cs=>bnd (NZ s n l cs) fun x=>bnd (WK s n x.2 r) fun y=>some (x.1::y.1,y.2)
def WL (P:Program)(s:S):ResultVar→Option V
 | .tmp t=>look t s.env
 | .cell a t=>bnd (look a s.env) fun p=>s.load P t p
def Ra:List V→V
 | [v]=>v
 | vs=> .fT vs
def JE (j:Nat)(r:List (Nat×List (List D))):Option (List (List D))→List (Nat×List (List D))
 | some rows=>(j,rows)::r
 | none=>r
def iw (s:S)(j:Nat):Nat→List (Nat×List (List D))
 | 0=> []
 | n+1=>JE j (iw s (j+1) n) (look (bg+j) s.tree)
def kF {α:Type}(n:Nat):List (Nat×α)→List (Nat×α)
 | []=> []
 | x::r=>(n,x.2)::kF (n+1) r
def sI (P:Program)(rs:List ResultVar)(nb nt:Nat)(s:S):Option Cw:=
 bnd (bH (WL P s) rs) fun vs=>bnd (zA s nt [] (Ra vs)) fun x=>bnd (WK s nt x.2 (List.range' 0 nb)) fun y=>grd ((s.box.all fun x=>decide (x.1<bg+nb))=true) (some ⟨x.1,y.1,iw s 0 nt++kF nt y.2⟩)
def bV {α:Type}(n:Nat):List α→List (Nat×α)
 | []=> []
 | x::r=>(n,x)::bV (n+1) r
def Rb (P:Program)(fn:Func)(nb nt:Nat):Ex×Q→Option Cw
 | (.normal, .on s)=>sI P fn.results.toList nb nt s
 | (.ret, .on s)=>sI P fn.results.toList nb nt s
 | _=>none
noncomputable def aJ (P:Program)(G:List (FuncId×Bool×aN))(gh:ou)(f:FuncId):aN:=fun args boxes trees=>
 bnd P.funcs[f]? fun fn=>bnd fn.body fun c=>grd (args.length≤1000∧boxes.length≤1000∧trees.length≤1000) <|
  bnd (JD P G gh c (.on {env:=(bV 0 (args.map l6)).reverse,box:=(bV bg (boxes.map nX)).reverse,tree:=(bV bg trees).reverse,dJ:= []})) (Rb P fn boxes.length trees.length)
theorem L8 {f:Q→Option (Ex×Q)}:∀{n:Nat} {s:Q} {r:Ex×Q},rounds f n s=some r→rounds f (n+1) s=some r
 | 0,s,r,h=>by cases h
 | n+1,s,r,h=>by
  rw [rounds]at h
  rw [rounds]
  split at h
  ·exact L8 h
  ·exact h
theorem Va {f:Q→Option (Ex×Q)}{n m:Nat}{s:Q}{r:Ex×Q}(h:rounds f n s=some r)(k:n≤m):rounds f m s=some r:=by
 induction k with
 | refl=>exact h
 | step _ ih=>exact L8 ih
theorem L9 {f:Q→Option (Ex×Q)}{n:Nat}{s:Q}{r:Ex×Q}(h:rounds f n s=some r):yg f s=some r:=by
 have hx:∃n r,rounds f n s=some r:=⟨n,r,h⟩
 unfold yg
 rw [dif_pos hx]
 have h2:=Classical.choose_spec (Classical.choose_spec hx)
 have a:=Va h (Nat.le_max_left n (Classical.choose hx))
 have b:=Va h2 (Nat.le_max_right n (Classical.choose hx))
 rw [a]at b
 exact b.symm
theorem K3 {f:Q→Option (Ex×Q)}{s:Q}{r:Ex×Q}(h:yg f s=some r):∃n,rounds f n s=some r:=by
 unfold yg at h
 split at h
 ·rename_i hx
  injection h with h
  exact⟨_,h▸Classical.choose_spec (Classical.choose_spec hx)⟩
 ·cases h
end Go.Proofs.YtlpdjhiggpblcaaGreat
