/- Part 2 of a proof in several texts (an abstract evaluator, what the functions compute). -/
import Derived.Test.YtlpdjhiggpblcaaGreatPkFnEdOk1
import Derived.Test.YtlpdjhiggpblcaaGreatRows
open Go.Proofs.Tryz
namespace Go.Proofs.YtlpdjhiggpblcaaGreat
set_option linter.unusedSectionVars false
set_option linter.unusedSimpArgs false
set_option linter.unusedVariables false
open Go.RowKit
section
variable {α β:Type} (k j:Nat) (x y:α) (r:List (Nat×α))
@[simp] theorem s1:look k ([]:List (Nat×α))=none:=id rfl
@[simp] theorem s2:look k ((j,x)::r)=if k=j then some x else look k r:=id rfl
@[simp] theorem s3:put k x []= [(k,x)]:=id rfl
@[simp] theorem s4:put k x ((j,y)::r)=if k=j then(k,x)::r else if j<k then(k,x)::(j,y)::r else(j,y)::put k x r:=id rfl
@[simp] theorem s5:drop1 k ([]:List (Nat×α))= []:=id rfl
@[simp] theorem s6:drop1 k ((j,y)::r)=if k=j then drop1 k r else(j,y)::drop1 k r:=id rfl
@[simp] theorem s7:upd k x ([]:List (Nat×α))= []:=id rfl
@[simp] theorem s8:upd k x ((j,y)::r)=if k=j then(k,x)::r else(j,y)::upd k x r:=id rfl
@[simp] theorem s9:bO k ([]:List α)= []:=id rfl
@[simp] theorem s10 (l:List α):bO k (x::l)=(k,x)::bO (k+1) l:=id rfl
@[simp] theorem s11:kK k ([]:List (Nat×α))= []:=id rfl
@[simp] theorem s12:kK k ((j,x)::r)=(k,x)::kK (k+1) r:=id rfl
@[simp] theorem s13 (f:α→Option β):bG f []=some []:=id rfl
@[simp] theorem s14 (f:α→Option β)(l:List α):bG f (x::l)=bnd (f x) fun y=>bnd (bG f l) fun l=>some (y::l):=id rfl
@[simp] theorem s15:desc []=true:=id rfl
@[simp] theorem s16:desc [k]=true:=id rfl
@[simp] theorem s17 (l:List Nat):desc (k::j::l)=(decide (j<k)&&desc (j::l)):=id rfl
@[simp] theorem s18 (n:Nat):pos k [] n=none:=id rfl
@[simp] theorem s19 (l:List Nat)(n:Nat):pos k (j::l) n=if k=j then some n else pos k l (n+1):=id rfl
end
section
variable (P:Program) (G:List (FuncId×Bool×aN)) (e:List (Nat×V)) (b:List (Nat×List V)) (t f:List (Nat×List (List D))) (s:S) (n m p q kk:Nat) (x y:V) (vs:List V) (rows:List (List D))
@[simp] theorem s20:S.put ⟨e,b,t,f⟩ (some n) x=⟨put n x e,b,t,f⟩:=id rfl
@[simp] theorem s21:S.put s none x=s:=id rfl
@[simp] theorem s22:S.skip ⟨e,b,t,f⟩ (some n)=⟨drop1 n e,b,t,f⟩:=id rfl
@[simp] theorem s23:S.skip s none=s:=id rfl
@[simp] theorem s24 (z:Bool):uN (.bool z)=some (.v (.bool z)):=id rfl
@[simp] theorem s25 (k:IntKind)(z:Int):uN (.int k z)=some (.v (.int k z)):=id rfl
@[simp] theorem s26 (z:ByteArray):uN (.string z)=some (.v (.string z)):=id rfl
@[simp] theorem s27:uN (.slice none 0 0)=some .nil:=id rfl
@[simp] theorem s28:uN (.pointer none)=some (.v (.pointer none)):=id rfl
@[simp] theorem s29:uN (.agg #[])=some (.agg []):=id rfl
@[simp] theorem s30:xS (.slice none 0 0)= .nil:=id rfl
@[simp] theorem s31 (z:Bool):xS (.bool z)= .v (.bool z):=id rfl
@[simp] theorem s32 (k:IntKind)(z:Int):xS (.int k z)= .v (.int k z):=id rfl
@[simp] theorem s33 (z:ByteArray):xS (.string z)= .v (.string z):=id rfl
@[simp] theorem s34:xS (.pointer none)= .v (.pointer none):=id rfl
@[simp] theorem s35 (cs:Array Value):uN (.agg cs)=some (.agg (cs.toList.map xS)):=id rfl
@[simp] theorem s36:s.ev (.tmp n)=look n s.env:=id rfl
@[simp] theorem s37 (c:Value):s.ev (.const c)=uN c:=id rfl
@[simp] theorem s38:s.ev (.func n)=some (.fn n []):=id rfl
@[simp] theorem s39:V.cells (.agg vs)=vs:=id rfl
@[simp] theorem s40 (z:Value):V.cells (.v z)= [.v z]:=id rfl
@[simp] theorem s41:V.cells (.nil)= [.nil]:=id rfl
@[simp] theorem s42 (o:Option Nat):V.cells (.aP o rows)= [.aP o rows]:=id rfl
@[simp] theorem s43:V.cells (.own n)= [.own n]:=id rfl
@[simp] theorem s44:V.cells (.fz rows)= [.fz rows]:=id rfl
@[simp] theorem s45 (em:List (Int×Int)):V.cells (.mp em)= [.mp em]:=id rfl
@[simp] theorem s46:V.cells (.ref n m)= [.ref n m]:=id rfl
@[simp] theorem s47:V.cells (.pe x kk n m)= [.pe x kk n m]:=id rfl
@[simp] theorem s48:V.cells (.fn n vs)= [.fn n vs]:=id rfl
@[simp] theorem s49:s.rows .nil=some []:=id rfl
@[simp] theorem s50 (o:Option Nat):s.rows (.aP o rows)=some rows:=id rfl
@[simp] theorem s51:s.rows (.fz rows)=some rows:=id rfl
@[simp] theorem s52:s.rows (.own p)=mD (look p s.tree) (look p s.dG):=id rfl
@[simp] theorem s53 (z:Value):s.under x n m q (.a z)=some (.v z):=id rfl
@[simp] theorem s54 (o:Option Nat)(rs:List (List D)):s.under (.aP o rs) n m q (.l rows)=some (.aP none rows):=id rfl
@[simp] theorem s55 (rs:List (List D)):s.under (.fz rs) n m q (.l rows)=some (.fz rows):=id rfl
@[simp] theorem s56:s.under (.own p) n m q (.l rows)=Dt p m q n rows (look p s.dG):=id rfl
@[simp] theorem s57 (rs:List (List D)):Dt p m q n rows (some rs)=some (.fz rows):=id rfl
@[simp] theorem s58:Dt p m q n rows none=some (.inn p m q n):=id rfl
@[simp] theorem s59:uZ s x n m q []=some []:=id rfl
@[simp] theorem s60 (d:D)(l:List D):uZ s x n m q (d::l)=bnd (s.under x n m q d) fun v=>bnd (uZ s x n m (q+1) l) fun l=>some (v::l):=id rfl
@[simp] theorem s61:s.rows (.inn p m q n)=bnd (look p s.tree) fun rows=>bnd rows[m]? fun r=>grd (r.length=n) (bnd r[q]? KP):=id rfl
@[simp] theorem s62:KP (.l rows)=some rows:=id rfl
@[simp] theorem s63:V.cells (.inn p m q n)= [.inn p m q n]:=id rfl
@[simp] theorem s64:V.one (.inn p m q n)=true:=id rfl
@[simp] theorem s65:sF .gone=false:=id rfl
@[simp] theorem s66:A9 .gone=true:=id rfl
@[simp] theorem s67 (z:Array Field):sP (.struct z)=true:=id rfl
@[simp] theorem s68:sP (.array n m)=true:=id rfl
@[simp] theorem s69:sP (.bool)=false:=id rfl
@[simp] theorem s70 (k:IntKind):sP (.int k)=false:=id rfl
@[simp] theorem s71:sP (.string)=false:=id rfl
@[simp] theorem s72:sP (.slice n)=false:=id rfl
@[simp] theorem s73:sP (.pointer n)=false:=id rfl
@[simp] theorem s74 (a c:Array TypeId)(d:Bool):sP (.func a c d)=false:=id rfl
@[simp] theorem s75 (z:Array (String×TypeId)):sP (.interface z)=false:=id rfl
@[simp] theorem s76:sP (.map n m)=false:=id rfl
@[simp] theorem s77:span vs n m true=grd (n+m≤vs.length) (some (.agg ((vs.drop n).take m))):=id rfl
@[simp] theorem s78:span vs n m false=vs[n]?:=id rfl
@[simp] theorem s79:s.load P n (.ref p m)=bnd (pz P n) fun g=>bnd (look p s.box) fun cs=>span cs m (P.cellsOf n) g:=id rfl
@[simp] theorem s80:s.load P n (.pe x kk p m)=bnd (pz P n) fun g=>bnd (s.rows x) fun rows=>bnd rows[p]? fun r=>grd (r.length=kk) (s.IY x kk p r m (P.cellsOf n) g):=id rfl
@[simp] theorem s81 (r:List D):s.IY x kk p r n m true=grd (n+m≤r.length) (bnd (uZ s x kk p n ((r.drop n).take m)) fun cs=>some (.agg cs)):=id rfl
@[simp] theorem s82 (r:List D):s.IY x kk p r n m false=bnd r[n]? (s.under x kk p n):=id rfl
@[simp] theorem s83:setAt vs n []=vs:=id rfl
@[simp] theorem s84 (ws:List V):setAt vs n (x::ws)=setAt (vs.set n x) (n+1) ws:=id rfl
@[simp] theorem s85:A9 (.l rows)=true:=id rfl
@[simp] theorem s86 (z:Value):A9 (.a z)=z.oneCell':=id rfl
@[simp] theorem s87 (z:Value):V.one (.v z)=z.oneCell':=id rfl
@[simp] theorem s88:V.one .nil=true:=id rfl
@[simp] theorem s89 (o:Option Nat):V.one (.aP o rows)=true:=id rfl
@[simp] theorem s90:V.one (.fz rows)=true:=id rfl
@[simp] theorem s91 (em:List (Int×Int)):V.one (.mp em)=true:=id rfl
@[simp] theorem s92:V.one (.own p)=true:=id rfl
@[simp] theorem s93:V.one (.ref n m)=true:=id rfl
@[simp] theorem s94:V.one (.pe x kk n m)=true:=id rfl
@[simp] theorem s95:V.one (.fn n vs)=true:=id rfl
@[simp] theorem s96 (k:IntKind)(a:Int):Value.oneCell' (.int k a)=true:=id rfl
@[simp] theorem s97 (g:Bool):Value.oneCell' (.bool g)=true:=id rfl
@[simp] theorem s98 (u:ByteArray):Value.oneCell' (.string u)=true:=id rfl
@[simp] theorem s99 (o:Option Addr):Value.oneCell' (.pointer o)=true:=id rfl
@[simp] theorem alq (z:Value):Value.oneCell' (.iface n z)=true:=id rfl
@[simp] theorem alr:Value.oneCell' (.nilIface)=true:=id rfl
@[simp] theorem als:Value.oneCell' (.nilFunc)=true:=id rfl
@[simp] theorem alu (z:Value):V.atom (.v z)=some (.a z):=id rfl
@[simp] theorem alv (z:Value):sF (.a z)=true:=id rfl
@[simp] theorem alx:sF (.l rows)=false:=id rfl
@[simp] theorem aly:S.store P ⟨e,b,t,f⟩ n (.ref p m) x=grd (eF P n=true∧x.cells.length=P.cellsOf n) (bnd (look p b) fun cs=>grd (m+x.cells.length≤cs.length∧x.cells.all V.one=true) (some ⟨e,upd p (setAt cs m x.cells) b,t,f⟩)):=id rfl
@[simp] theorem alz:S.store P s n (.pe (.own q) kk p m) x=grd (eF P n=true∧x.cells.length=P.cellsOf n) (Ba s q kk p m x x.atom):=id rfl
@[simp] theorem alA (d:D):Ba ⟨e,b,t,f⟩ q kk p m x (some d)=bnd (look q t) fun rows=>bnd rows[p]? fun r=>bnd r[m]? fun d0=>grd (r.length=kk∧sF d0=true∧A9 d=true) (some ⟨e,b,upd q (rows.set p (r.set m d)) t,f⟩):=id rfl
@[simp] theorem alB:Ba s q kk p m x none=bnd (iK s x.cells) fun z=>bnd (look q z.2.tree) fun rows=>bnd rows[p]? fun r=>grd (r.length=kk∧m+z.1.length≤r.length∧x.cells.all V.one=true∧¬(1000000000≤q∧q<2000000000)) (some (z.2.turned q (rows.set p (Es r m z.1)))):=id rfl
@[simp] theorem alC (i0 j0 k0:Nat):S.store P s n (.pe (.inn q i0 j0 k0) kk p m) x=grd (eF P n=true∧x.cells.length=P.cellsOf n) (Gj s q i0 j0 k0 kk p m x.atom):=id rfl
@[simp] theorem alD (i0 j0 k0:Nat)(d:D):Gj ⟨e,b,t,f⟩ q i0 j0 k0 kk p m (some d)=bnd (look q t) fun rows=>bnd rows[i0]? fun r=>bnd r[j0]? fun c=>bnd (KP c) fun rs=>bnd rs[p]? fun r1=>bnd r1[m]? fun d0=>grd (r.length=k0∧r1.length=kk∧sF d0=true∧A9 d=true) (some ⟨e,b,upd q (rows.set i0 (r.set j0 (.l (rs.set p (r1.set m d))))) t,f⟩):=id rfl
@[simp] theorem alE:V.atom (.own q)=none:=id rfl
@[simp] theorem alF:V.atom (.nil)=none:=id rfl
@[simp] theorem alG:V.atom (.agg vs)=none:=id rfl
@[simp] theorem alH (r:List D):Es r m []=r:=id rfl
@[simp] theorem alI (r ds:List D)(d:D):Es r m (d::ds)=Es (r.set m d) (m+1) ds:=id rfl
@[simp] theorem alJ:S.turned ⟨e,b,t,f⟩ p rows=⟨OA p e,Gi p b,upd p rows t,f⟩:=id rfl
@[simp] theorem alK:OA p []= []:=id rfl
@[simp] theorem alL:OA p ((n,x)::e)=(n,if kH p x=true then .dead else x)::OA p e:=id rfl
@[simp] theorem alM:WW p []= []:=id rfl
@[simp] theorem alN:WW p (x::vs)=(if kH p x=true then .dead else x)::WW p vs:=id rfl
@[simp] theorem alO:Gi p []= []:=id rfl
@[simp] theorem alP:Gi p ((n,vs)::b)=(n,WW p vs)::Gi p b:=id rfl
@[simp] theorem alQ (z:Value):kH p (.v z)=false:=id rfl
@[simp] theorem alR:kH p .nil=false:=id rfl
@[simp] theorem alS (o:Option Nat):kH p (.aP o rows)=false:=id rfl
@[simp] theorem alT:kH p (.fz rows)=false:=id rfl
@[simp] theorem alU (em:List (Int×Int)):kH p (.mp em)=false:=id rfl
@[simp] theorem alV:kH p (.own q)=false:=id rfl
@[simp] theorem alW:kH p (.inn q n m kk)=decide (p=q):=id rfl
@[simp] theorem alX:kH p (.ref n m)=false:=id rfl
@[simp] theorem alY:kH p (.pe x kk n m)=kH p x:=id rfl
@[simp] theorem alZ:kH p (.agg vs)=kH.any p vs:=id rfl
@[simp] theorem al0:kH p (.fK vs)=kH.any p vs:=id rfl
@[simp] theorem al1:kH p (.fn n vs)=kH.any p vs:=id rfl
@[simp] theorem al2:kH p .dead=false:=id rfl
@[simp] theorem al3:kH.any p []=false:=id rfl
@[simp] theorem al4:kH.any p (x::vs)=(kH p x||kH.any p vs):=id rfl
end
section
variable (P:Program) (t:TypeId) (k k2:IntKind) (a c:Int) (u v:ByteArray) (g h:Bool)
@[simp] theorem al5:bin P t .add (.v (.int k a)) (.v (.int k2 c))=bnd (grd (k=k2) (some (.int k (k.wrap (a+c))))) fun v=>some (.v v):=id rfl
@[simp] theorem al6:bin P t .sub (.v (.int k a)) (.v (.int k2 c))=bnd (grd (k=k2) (some (.int k (k.wrap (a-c))))) fun v=>some (.v v):=id rfl
@[simp] theorem al7:bin P t .mul (.v (.int k a)) (.v (.int k2 c))=bnd (grd (k=k2) (some (.int k (k.wrap (a*c))))) fun v=>some (.v v):=id rfl
@[simp] theorem al8:bin P t .quo (.v (.int k a)) (.v (.int k2 c))=bnd (grd (k=k2) (grd (c≠0) (some (.int k (k.wrap (a.tdiv c)))))) fun v=>some (.v v):=id rfl
@[simp] theorem al9:bin P t .rem (.v (.int k a)) (.v (.int k2 c))=bnd (grd (k=k2) (grd (c≠0) (some (.int k (a.tmod c))))) fun v=>some (.v v):=id rfl
@[simp] theorem ama:bin P t .and (.v (.int k a)) (.v (.int k2 c))=bnd (grd (k=k2) (some (.int k (k.wrap (BitVec.ofInt k.bits a &&& BitVec.ofInt k.bits c).toNat)))) fun v=>some (.v v):=id rfl
@[simp] theorem amb:bin P t .or (.v (.int k a)) (.v (.int k2 c))=bnd (grd (k=k2) (some (.int k (k.wrap (BitVec.ofInt k.bits a ||| BitVec.ofInt k.bits c).toNat)))) fun v=>some (.v v):=id rfl
@[simp] theorem amc:bin P t .xor (.v (.int k a)) (.v (.int k2 c))=bnd (grd (k=k2) (some (.int k (k.wrap (BitVec.ofInt k.bits a ^^^ BitVec.ofInt k.bits c).toNat)))) fun v=>some (.v v):=id rfl
@[simp] theorem amd:bin P t .eql (.v (.int k a)) (.v (.int k2 c))=bnd (grd (k=k2) (some (.bool (a==c)))) fun v=>some (.v v):=id rfl
@[simp] theorem ame:bin P t .neq (.v (.int k a)) (.v (.int k2 c))=bnd (grd (k=k2) (some (.bool (a != c)))) fun v=>some (.v v):=id rfl
@[simp] theorem amf:bin P t .lss (.v (.int k a)) (.v (.int k2 c))=bnd (grd (k=k2) (some (.bool (decide (a<c))))) fun v=>some (.v v):=id rfl
@[simp] theorem amg:bin P t .leq (.v (.int k a)) (.v (.int k2 c))=bnd (grd (k=k2) (some (.bool (decide (a≤c))))) fun v=>some (.v v):=id rfl
@[simp] theorem amh:bin P t .gtr (.v (.int k a)) (.v (.int k2 c))=bnd (grd (k=k2) (some (.bool (decide (c<a))))) fun v=>some (.v v):=id rfl
@[simp] theorem ami:bin P t .geq (.v (.int k a)) (.v (.int k2 c))=bnd (grd (k=k2) (some (.bool (decide (c≤a))))) fun v=>some (.v v):=id rfl
@[simp] theorem amj:bin P t .shl (.v (.int k a)) (.v (.int k2 c))=bnd (grd (0≤c) (some (.int k (k.wrap (a*2 ^ (min c.toNat k.bits)))))) fun v=>some (.v v):=id rfl
@[simp] theorem amk:bin P t .shr (.v (.int k a)) (.v (.int k2 c))=bnd (grd (0≤c) (some (.int k (a.fdiv (2 ^ (min c.toNat k.bits)))))) fun v=>some (.v v):=id rfl
@[simp] theorem aml:bin P t .add (.v (.string u)) (.v (.string v))=bnd (grd (u.size+v.size≤9223372036854775807) (some (.string (u++v)))) fun v=>some (.v v):=id rfl
@[simp] theorem amm:bin P t .eql (.v (.string u)) (.v (.string v))=bnd (some (.bool (u.toList==v.toList))) fun v=>some (.v v):=id rfl
@[simp] theorem amn:bin P t .neq (.v (.string u)) (.v (.string v))=bnd (some (.bool (!(u.toList==v.toList)))) fun v=>some (.v v):=id rfl
@[simp] theorem amo:bin P t .lss (.v (.string u)) (.v (.string v))=bnd (some (.bool (Op.bytesLess u.toList v.toList))) fun v=>some (.v v):=id rfl
@[simp] theorem amq:bin P t .leq (.v (.string u)) (.v (.string v))=bnd (some (.bool (Op.bytesLess u.toList v.toList||u.toList==v.toList))) fun v=>some (.v v):=id rfl
@[simp] theorem amr:bin P t .gtr (.v (.string u)) (.v (.string v))=bnd (some (.bool (!(Op.bytesLess u.toList v.toList||u.toList==v.toList)))) fun v=>some (.v v):=id rfl
@[simp] theorem ams:bin P t .geq (.v (.string u)) (.v (.string v))=bnd (some (.bool (!(Op.bytesLess u.toList v.toList)))) fun v=>some (.v v):=id rfl
@[simp] theorem amt:bin P t .eql (.v (.bool g)) (.v (.bool h))=bnd (P.underlying t) fun d=>bnd (Zz .eql g h d) fun v=>some (.v v):=id rfl
@[simp] theorem amu:Zz .eql g h .bool=some (.bool (g==h)):=id rfl
@[simp] theorem amv (n m:Nat):bin P t .eql (.ref n m) (.v (.pointer none))=bnd (P.underlying t) fun d=>bnd (ZA .eql d) fun v=>some (.v v):=id rfl
@[simp] theorem amw (n:Nat):ZA .eql (.pointer n)=some (.bool false):=id rfl
@[simp] theorem amx:bin P t .neq (.v (.bool g)) (.v (.bool h))=bnd (P.underlying t) fun d=>bnd (Zz .neq g h d) fun v=>some (.v v):=id rfl
@[simp] theorem amy:Zz .neq g h .bool=some (.bool (g != h)):=id rfl
@[simp] theorem amA (n m:Nat):bin P t .neq (.ref n m) (.v (.pointer none))=bnd (P.underlying t) fun d=>bnd (ZA .neq d) fun v=>some (.v v):=id rfl
@[simp] theorem amB (n:Nat):ZA .neq (.pointer n)=some (.bool true):=id rfl
@[simp] theorem amC:un .neg (.v (.int k a))=some (.v (.int k (k.wrap (0-a)))):=id rfl
@[simp] theorem amD:un .not (.v (.bool g))=some (.v (.bool !g)):=id rfl
@[simp] theorem amE:idxOf (.v (.int k a))=some a:=id rfl
@[simp] theorem amF:Ep (.v (.bool g))=some g:=id rfl
@[simp] theorem amG:UL a none=some a:=id rfl
@[simp] theorem amH (x:V):UL a (some x)=idxOf x:=id rfl
@[simp] theorem amI (n:Nat)(lo hi:Option V):bounds n lo hi=bnd (UL 0 lo) fun l=>bnd (UL n hi) fun h=>grd (0≤l∧l≤h∧h≤n) (some (l.toNat,h.toNat)):=id rfl
end
section
variable (P:Program) (G:List (FuncId×Bool×aN)) (e:List (Nat×V)) (b:List (Nat×List V)) (t f:List (Nat×List (List D))) (s:S) (n m p q kk:Nat) (x y:V) (vs ws:List V) (rows:List (List D)) (dst:Option Nat)
@[simp] theorem amJ (lo hi:Option V):qX P s x lo hi .string=KQ x lo hi:=id rfl
@[simp] theorem amK (u:ByteArray)(lo hi:Option V):KQ (.v (.string u)) lo hi=bnd (bounds u.size lo hi) fun p=>some (.v (.string (u.extract p.1 p.2))):=id rfl
@[simp] theorem amL (lo hi:Option V):qX P s x lo hi (.slice n)=grd (eF P n=true) (Er (P.cellsOf n) s x lo hi):=id rfl
@[simp] theorem amM (lo hi:Option V):Er n s .nil lo hi=bnd (bounds 0 lo hi) fun _=>some .nil:=id rfl
@[simp] theorem amN (o:Option Nat)(lo hi:Option V):Er n s (.aP o rows) lo hi=cutV n rows lo hi (.aP none):=id rfl
@[simp] theorem amO (lo hi:Option V):Er n s (.fz rows) lo hi=cutV n rows lo hi .fz:=id rfl
@[simp] theorem amP (lo hi:Option V):Er n s (.own p) lo hi=bnd (look p s.dG) fun rows=>cutV n rows lo hi .fz:=id rfl
@[simp] theorem amQ (lo hi:Option V)(g:List (List D)→V):cutV n rows lo hi g=bnd (bounds rows.length lo hi) fun p=>grd (wid n rows=true) (some (g ((rows.drop p.1).take (p.2-p.1)))):=id rfl
@[simp] theorem amR:wid n []=true:=id rfl
@[simp] theorem amS (r:List D):wid n (r::rows)=(decide (r.length=n)&&r.all A9&&wid n rows):=id rfl
@[simp] theorem amT (fs:Array Field):ZB P n (.struct fs)=bnd fs[n]? fun d=>grd (P.cellsOf d.type≠0) (some (d.offset,d.type)):=id rfl
@[simp] theorem amU:xU (.ref n m) p=some (.ref n (m+p)):=id rfl
@[simp] theorem amV:xU (.pe x kk n m) p=some (.pe x kk n (m+p)):=id rfl
@[simp] theorem amW:abU (.slice n)=some (n,none):=id rfl
@[simp] theorem amX:abU (.array n m)=some (m,some n):=id rfl
@[simp] theorem amY (i:Int):lK P s x i n (some m)=grd (eF P n=true∧0≤i∧i<m) (xU x (i.toNat*P.cellsOf n)):=id rfl
@[simp] theorem amZ (i:Int):lK P s x i n none=bnd (s.rows x) fun rows=>grd (eF P n=true∧0≤i∧i<rows.length) (some (.pe x (P.cellsOf n) i.toNat 0)):=id rfl
@[simp] theorem am0 (u:ByteArray)(i:Int):Gh P n (.v (.string u)) i=bnd (P.underlying n) fun d=>grd (Ms d=true∧0≤i∧i<u.size) (some (.v (.int .u8 ((u.toList[i.toNat]?.getD 0).toNat:Int)))):=id rfl
@[simp] theorem am1:Ms .string=true:=id rfl
@[simp] theorem am2 (i:Int):Gh P n (.agg vs) i=bnd (mE P n) fun e=>bnd e.2 fun n=>grd (eF P e.1=true∧0≤i∧i<n) (bnd (pz P e.1) fun g=>span vs (i.toNat*P.cellsOf e.1) (P.cellsOf e.1) g):=id rfl
@[simp] theorem am3 (z:Value):zT (.v z)=some (.a z):=id rfl
@[simp] theorem am4:zT .nil=some (.l []):=id rfl
@[simp] theorem am5 (z:Value):aM p (.v z)=false:=id rfl
@[simp] theorem am6:aM p .nil=false:=id rfl
@[simp] theorem am7 (o:Option Nat):aM p (.aP o rows)=false:=id rfl
@[simp] theorem am8:aM p (.fz rows)=false:=id rfl
@[simp] theorem am9 (em:List (Int×Int)):aM p (.mp em)=false:=id rfl
@[simp] theorem ana:aM p (.own q)=decide (p=q):=id rfl
@[simp] theorem anb:aM p (.inn q n m kk)=decide (p=q):=id rfl
@[simp] theorem anc:aM p (.ref n m)=false:=id rfl
@[simp] theorem ane:aM p (.pe x kk n m)=aM p x:=id rfl
@[simp] theorem anf:aM p (.agg vs)=aM.any p vs:=id rfl
@[simp] theorem ang:aM p (.fK vs)=aM.any p vs:=id rfl
@[simp] theorem anh:aM p (.fn n vs)=aM.any p vs:=id rfl
@[simp] theorem ani:aM p .dead=false:=id rfl
@[simp] theorem anj:aM.any p []=false:=id rfl
@[simp] theorem ank:aM.any p (x::vs)=(aM p x||aM.any p vs):=id rfl
@[simp] theorem anl:zU p []= []:=id rfl
@[simp] theorem anm:zU p ((n,x)::e)=(n,if aM p x=true then .dead else x)::zU p e:=id rfl
@[simp] theorem ano:zV p []= []:=id rfl
@[simp] theorem anp:zV p (x::vs)=(if aM p x=true then .dead else x)::zV p vs:=id rfl
@[simp] theorem anq:oK p []= []:=id rfl
@[simp] theorem anr:oK p ((n,vs)::b)=(n,zV p vs)::oK p b:=id rfl
@[simp] theorem ant:S.kill ⟨e,b,t,f⟩ p=⟨zU p e,oK p b,drop1 p t,f⟩:=id rfl
@[simp] theorem anu:iK s []=some ([],s):=id rfl
@[simp] theorem anv:iK s (.own p::vs)=bnd (look p s.tree) fun rows=>bnd (iK (s.kill p) vs) fun x=>some (.l rows::x.1,x.2):=id rfl
@[simp] theorem anw (z:Value):iK s (.v z::vs)=bnd (iK s vs) fun x=>some (.a z::x.1,x.2):=id rfl
@[simp] theorem anx:iK s (.nil::vs)=bnd (iK s vs) fun x=>some (.l []::x.1,x.2):=id rfl
@[simp] theorem anz:kG s []=some ([],s):=id rfl
@[simp] theorem anA:kG s (x::vs)=bnd (iK s x.cells) fun x=>bnd (kG x.2 vs) fun y=>some (x.1::y.1,y.2):=id rfl
@[simp] theorem anB:fresh ⟨e,b,t,f⟩ n=((look n t).isNone&&(look n f).isNone):=id rfl
@[simp] theorem anC:S.newTree ⟨e,b,t,f⟩ (some n) rows=grd (fresh ⟨e,b,t,f⟩ n=true) (some ⟨put n (.own n) e,b,(n,rows)::t,f⟩):=id rfl
@[simp] theorem anD:upto n m []=decide (n=m):=id rfl
@[simp] theorem anE (r:List Nat):upto n m (p::r)=(decide (p=n)&&upto (n+1) m r):=id rfl
@[simp] theorem anF:dN []=true:=id rfl
@[simp] theorem anG (r:List D):dN (r::rows)=(r.all sF&&dN rows):=id rfl
@[simp] theorem anH (u:ByteArray):Jy s (.v (.string u))=some (u.toList.map fun c=> [.a (.int .u8 (c.toNat:Int))],s):=id rfl
@[simp] theorem anI:Jy s .nil=some ([],s):=id rfl
@[simp] theorem anJ (o:Option Nat):Jy s (.aP o rows)=grd (dN rows=true) (some (rows,s)):=id rfl
@[simp] theorem anK:Jy s (.fz rows)=grd (dN rows=true) (some (rows,s)):=id rfl
@[simp] theorem anL:Jy s (.own q)=JZ s q (look q s.tree):=id rfl
@[simp] theorem anM:Jy s (.inn p q n m)=bnd (s.rows (.inn p q n m)) fun rows=>grd (dN rows=true) (some (rows,s)):=id rfl
@[simp] theorem anN:JZ s q (some rows)=some (rows,if dN rows=true then s else s.kill q):=id rfl
@[simp] theorem anO:JZ s q none=bnd (look q s.dG) fun rows=>grd (dN rows=true) (some (rows,s)):=id rfl
@[simp] theorem anP:lD P n m=(iA P n&&decide (m*P.bytesOf n≤140737488355328)&&decide (m≤4611686018427387904)):=id rfl
@[simp] theorem anQ:rR P s dst n rows .nil=grd (lD P n rows.length=true∧wid (P.cellsOf n) rows=true) (s.newTree dst rows):=id rfl
@[simp] theorem anR:rR P s dst n rows (.own p)=bnd (look p s.tree) fun Pt=>grd (lD P n (Pt.length+rows.length)=true∧wid (P.cellsOf n) Pt=true∧wid (P.cellsOf n) rows=true) ((s.kill p).newTree dst (Pt++rows)):=id rfl
@[simp] theorem anS:rR P s dst n rows (.inn p q m kk)=bnd (s.rows (.inn p q m kk)) fun Pt=>grd (lD P n (Pt.length+rows.length)=true∧wid (P.cellsOf n) Pt=true∧wid (P.cellsOf n) rows=true) (bnd (s.Ca p q m) fun s=>s.newTree dst (Pt++rows)):=id rfl
@[simp] theorem anT:s.Ca p q m=bnd (look p s.tree) fun rows=>bnd rows[q]? fun r=>grd (¬(1000000000≤p∧p<2000000000)) (some (s.turned p (rows.set q (r.set m .gone)))):=id rfl
@[simp] theorem anU:iN (.slice n)=some n:=id rfl
@[simp] theorem anV:IZ P s dst n x y=bnd (P.underlying n) fun d=>bnd (iN d) fun e=>bnd (Jy s y) fun z=>rR P z.2 dst e z.1 x:=id rfl
end
section
variable (s:S) (c:iF) (src:List V) (bs ts:List Nat) (n m p q kk:Nat) (x y:V) (vs ws:List V) (rows:List (List D)) (dst:Option Nat)
@[simp] theorem anW (z:Value):jW s c (.v z)=some (.v z,c):=id rfl
@[simp] theorem anX:jW s ⟨src,bs,ts⟩ (.ref n m)=I4 src bs ts n m (pos n bs 0):=id rfl
@[simp] theorem anY:I4 src bs ts n m (some p)=some (.ref p m,⟨src,bs,ts⟩):=id rfl
@[simp] theorem anZ:I4 src bs ts n m none=some (.ref bs.length m,⟨src,bs++ [n],ts⟩):=id rfl
@[simp] theorem an0:jW s c (.agg vs)=bnd (vT s c vs) fun x=>some (.agg x.1,x.2):=id rfl
@[simp] theorem an1:jW s c (.fn n vs)=bnd (vT s c vs) fun x=>some (.fn n x.1,x.2):=id rfl
@[simp] theorem an2:jW s ⟨src,bs,ts⟩ .nil=some (.aP (some src.length) [],⟨src++ [.nil],bs,ts⟩):=id rfl
@[simp] theorem an3 (o:Option Nat):jW s ⟨src,bs,ts⟩ (.aP o rows)=some (.aP (some src.length) rows,⟨src++ [.aP o rows],bs,ts⟩):=id rfl
@[simp] theorem an4:jW s ⟨src,bs,ts⟩ (.fz rows)=some (.aP (some src.length) rows,⟨src++ [.fz rows],bs,ts⟩):=id rfl
@[simp] theorem an5:jW s ⟨src,bs,ts⟩ (.own p)=bnd (s.rows (.own p)) fun rows=>some (.aP (some src.length) rows,⟨src++ [.own p],bs,ts⟩):=id rfl
@[simp] theorem an6:jW s ⟨src,bs,ts⟩ (.inn p q n m)=bnd (s.rows (.inn p q n m)) fun rows=>some (.aP (some src.length) rows,⟨src++ [.inn p q n m],bs,ts⟩):=id rfl
@[simp] theorem an7:vT s c []=some ([],c):=id rfl
@[simp] theorem an8:vT s c (x::vs)=bnd (jW s c x) fun x=>bnd (vT s x.2 vs) fun y=>some (x.1::y.1,y.2):=id rfl
@[simp] theorem an9:cZ s c []=some ([],c):=id rfl
@[simp] theorem aoa:cZ s ⟨src,bs,ts⟩ (.own p::vs)=Cb src bs ts p (fun c=>cZ s c vs) (pos p ts 0) (look p s.dG):=id rfl
@[simp] theorem aob (k:iF→Option (List V×iF)):Cb src bs ts p k none (some rows)=bnd (k ⟨src++ [.own p],bs,ts⟩) fun x=>some (.aP (some src.length) rows::x.1,x.2):=id rfl
@[simp] theorem aoc (k:iF→Option (List V×iF)):Cb src bs ts p k none none=bnd (k ⟨src,bs,ts++ [p]⟩) fun x=>some (.own ts.length::x.1,x.2):=id rfl
@[simp] theorem aod:cZ s c (.dead::vs)=bnd (cZ s c vs) fun x=>some (.dead::x.1,x.2):=id rfl
@[simp] theorem aoe (z:Value):cZ s c (.v z::vs)=bnd (jW s c (.v z)) fun x=>bnd (cZ s x.2 vs) fun y=>some (x.1::y.1,y.2):=id rfl
@[simp] theorem aof:cZ s c (.nil::vs)=bnd (jW s c (.nil)) fun x=>bnd (cZ s x.2 vs) fun y=>some (x.1::y.1,y.2):=id rfl
@[simp] theorem aog (o:Option Nat):cZ s c (.aP o rows::vs)=bnd (jW s c (.aP o rows)) fun x=>bnd (cZ s x.2 vs) fun y=>some (x.1::y.1,y.2):=id rfl
@[simp] theorem aoh:cZ s c (.fz rows::vs)=bnd (jW s c (.fz rows)) fun x=>bnd (cZ s x.2 vs) fun y=>some (x.1::y.1,y.2):=id rfl
@[simp] theorem aoi:cZ s c (.inn p n m q::vs)=bnd (jW s c (.inn p n m q)) fun x=>bnd (cZ s x.2 vs) fun y=>some (x.1::y.1,y.2):=id rfl
@[simp] theorem aoj:cZ s c (.ref n m::vs)=bnd (jW s c (.ref n m)) fun x=>bnd (cZ s x.2 vs) fun y=>some (x.1::y.1,y.2):=id rfl
@[simp] theorem aok:cZ s c (.fn n ws::vs)=bnd (jW s c (.fn n ws)) fun x=>bnd (cZ s x.2 vs) fun y=>some (x.1::y.1,y.2):=id rfl
@[simp] theorem aol:mU s c []=some ([],c):=id rfl
@[simp] theorem aom:mU s c (n::bs)=bnd (look n s.box) fun cs=>bnd (cZ s c cs) fun x=>bnd (mU s x.2 bs) fun y=>some (x.1::y.1,y.2):=id rfl
@[simp] theorem aon:stable .nil=true:=id rfl
@[simp] theorem aoo (o:Option Nat):stable (.aP o rows)=true:=id rfl
@[simp] theorem aop:stable (.own p)=false:=id rfl
@[simp] theorem aoq:stable (.inn p n m q)=false:=id rfl
@[simp] theorem aor:stable (.fz rows)=false:=id rfl
@[simp] theorem aos:gV c n q=Pf n q c.tree[q]?:=id rfl
@[simp] theorem aot:Pf n q (some p)=p:=id rfl
@[simp] theorem aou:Pf n q none=1000*(n+1)+q:=id rfl
@[simp] theorem aov (z:Value):nO c n (.v z)=some (.v z):=id rfl
@[simp] theorem aow:nO c n .nil=some .nil:=id rfl
@[simp] theorem aox:nO c n (.aP (some m) rows)=c.src[m]?:=id rfl
@[simp] theorem aoy:nO c n (.aP none rows)=grd ((c.src.all stable||rows.isEmpty)=true) (some (.aP none rows)):=id rfl
@[simp] theorem aoz:nO c n (.own q)=some (.own (gV c n q)):=id rfl
@[simp] theorem aoA:nO c n (.ref p m)=bnd c.box[p]? fun b=>some (.ref b m):=id rfl
@[simp] theorem aoB:nO c n (.agg vs)=bnd (zW c n vs) fun cs=>some (.agg cs):=id rfl
@[simp] theorem aoC:nO c n (.fK vs)=bnd (zW c n vs) fun cs=>some (.fK cs):=id rfl
@[simp] theorem aoD:nO c n .dead=some .dead:=id rfl
@[simp] theorem aoE:zW c n []=some []:=id rfl
@[simp] theorem aoF:zW c n (x::vs)=bnd (nO c n x) fun v=>bnd (zW c n vs) fun r=>some (v::r):=id rfl
@[simp] theorem aoG:iO c n [] [] s=some s:=id rfl
@[simp] theorem aoH (vss:List (List V))(e:List (Nat×V))(b:List (Nat×List V))(t f:List (Nat×List (List D))):iO c n (p::bs) (vs::vss) ⟨e,b,t,f⟩=bnd (zW c n vs) fun cs=>iO c n bs vss ⟨e,upd p cs b,t,f⟩:=id rfl
@[simp] theorem aoI:jP c n [] s=some s:=id rfl
@[simp] theorem aoJ (r:List (Nat×List (List D)))(e:List (Nat×V))(b:List (Nat×List V))(t f:List (Nat×List (List D))):jP c n ((q,rows)::r) ⟨e,b,t,f⟩=if q<c.tree.length then jP c n r ⟨e,b,t,f⟩else grd (fresh ⟨e,b,t,f⟩ (gV c n q)=true∧gV c n q<1000000000) (jP c n r ⟨e,b,(gV c n q,rows)::t,f⟩):=id rfl
@[simp] theorem aoK:qB s []=some []:=id rfl
@[simp] theorem aoL:qB s (p::ts)=bnd (look p s.tree) fun rows=>bnd (qB s ts) fun r=>some (rows::r):=id rfl
@[simp] theorem aoM (l:List (Nat×List (List D))):gT l [] n s=s:=id rfl
@[simp] theorem aoN (l:List (Nat×List (List D))):gT l (p::ts) n s=gT l ts (n+1) (I5 s p (look n l)):=id rfl
@[simp] theorem aoO (e:List (Nat×V))(b:List (Nat×List V))(t f:List (Nat×List (List D))):I5 ⟨e,b,t,f⟩ p (some rows)=⟨e,b,upd p rows t,f⟩:=id rfl
@[simp] theorem aoP:I5 s p none=s.kill p:=id rfl
@[simp] theorem aoQ (r:Ay):S.back s dst c r=bnd (iO c (dst.getD 0) c.box r.box (gT r.tree c.tree 0 s)) fun s=>bnd (jP c (dst.getD 0) r.tree s) fun s=>bnd (nO c (dst.getD 0) r.val) fun v=>some (s.put dst v):=id rfl
@[simp] theorem aoR:Mt c n=(WY c&&decide (c.box.length=n)):=id rfl
@[simp] theorem aoS:WY c=(c.tree.all fun p=>c.src.all fun v=> !aM p v):=id rfl
@[simp] theorem aoT:Ns true s c vs=qj s c vs:=id rfl
@[simp] theorem aoU:Ns false s c vs=vT s c vs:=id rfl
@[simp] theorem aoV:qj s c []=some ([],c):=id rfl
@[simp] theorem aoW:qj s c (.agg ws::vs)=bnd (cZ s c ws) fun x=>bnd (qj s x.2 vs) fun y=>some (.agg x.1::y.1,y.2):=id rfl
@[simp] theorem aoX (z:Value):qj s c (.v z::vs)=bnd (cZ s c [.v z]) fun x=>bnd (qj s x.2 vs) fun y=>some (x.1++y.1,y.2):=id rfl
@[simp] theorem aoY:qj s c (.nil::vs)=bnd (cZ s c [.nil]) fun x=>bnd (qj s x.2 vs) fun y=>some (x.1++y.1,y.2):=id rfl
@[simp] theorem aoZ (o:Option Nat):qj s c (.aP o rows::vs)=bnd (cZ s c [.aP o rows]) fun x=>bnd (qj s x.2 vs) fun y=>some (x.1++y.1,y.2):=id rfl
@[simp] theorem ao0:qj s c (.fz rows::vs)=bnd (cZ s c [.fz rows]) fun x=>bnd (qj s x.2 vs) fun y=>some (x.1++y.1,y.2):=id rfl
@[simp] theorem ao1:qj s c (.own p::vs)=bnd (cZ s c [.own p]) fun x=>bnd (qj s x.2 vs) fun y=>some (x.1++y.1,y.2):=id rfl
@[simp] theorem ao2:qj s c (.inn p n m q::vs)=bnd (cZ s c [.inn p n m q]) fun x=>bnd (qj s x.2 vs) fun y=>some (x.1++y.1,y.2):=id rfl
@[simp] theorem ao3:qj s c (.ref n m::vs)=bnd (cZ s c [.ref n m]) fun x=>bnd (qj s x.2 vs) fun y=>some (x.1++y.1,y.2):=id rfl
@[simp] theorem ao4:qj s c (.fn n ws::vs)=bnd (cZ s c [.fn n ws]) fun x=>bnd (qj s x.2 vs) fun y=>some (x.1++y.1,y.2):=id rfl
@[simp] theorem ao5 (mm:Bool)(M:aN):vU mm M s dst vs=bnd (Ns mm s ⟨[],[],[]⟩ vs) fun x=>bnd (mU s x.2 x.2.box) fun y=>bnd (qB s y.2.tree) fun ts=>grd (Mt y.2 y.1.length=true) (bnd (M x.1 y.1 ts) fun r=>s.Nr dst y.2 r):=id rfl
@[simp] theorem ao6 (cc:iF)(rr:Ay):S.Nr s dst cc rr=Et s dst cc rr (wM rr):=id rfl
@[simp] theorem ao7 (cc:iF)(rr:Ay):Et s dst cc rr none=s.back dst cc rr:=id rfl
@[simp] theorem ao8 (cc:iF)(rr:Ay):Et s dst cc rr (some vs)=if(cc.box.isEmpty&&cc.tree.isEmpty)=true then bnd (zW cc (dst.getD 0) vs) (OU s dst)else s.back dst cc rr:=id rfl
@[simp] theorem ao9:wM ⟨.ref 0 0,[vs],[]⟩=some vs:=id rfl
@[simp] theorem apa (tr:List (Nat×List (List D))):wM ⟨x,[],tr⟩=none:=acE _ _
@[simp] theorem apb (bs:List (List V))(tr:List (Nat×List (List D)))(z:Value):wM ⟨.v z,bs,tr⟩=none:=id rfl
@[simp] theorem apc (bs:List (List V))(tr:List (Nat×List (List D)))  :wM ⟨.own p,bs,tr⟩=none:=id rfl
@[simp] theorem apd (bs:List (List V))(tr:List (Nat×List (List D)))  :wM ⟨.agg ws,bs,tr⟩=none:=id rfl
@[simp] theorem ape (bs:List (List V))(tr:List (Nat×List (List D)))  :wM ⟨.fK ws,bs,tr⟩=none:=id rfl
@[simp] theorem apf (bs:List (List V))(tr:List (Nat×List (List D)))  :wM ⟨.nil,bs,tr⟩=none:=id rfl
@[simp] theorem apg (bs:List (List V))(tr:List (Nat×List (List D)))  :wM ⟨.dead,bs,tr⟩=none:=id rfl
@[simp] theorem aph (e:List (Nat×V))(b:List (Nat×List V))(t f:List (Nat×List (List D))):OU ⟨e,b,t,f⟩ (some n) vs=grd ((look n b).isNone=true) (some ⟨put n (.ref n 0) e,(n,vs)::b,t,f⟩):=id rfl
end
section
variable (P:Program) (G:List (FuncId×Bool×aN)) (s:S) (n m p q kk:Nat) (x y:V) (vs ws:List V) (rows:List (List D)) (dst:Option Nat) (ats:Array TypeId) (o o1 o2:Operand)
@[simp] theorem apj (u:ByteArray):kI P s dst .len ats [.v (.string u)]=bnd ats[0]? fun t=>grd (ZC P t=true) (some (s.put dst (.v (.int .i64 u.size)))):=id rfl
@[simp] theorem apk:kI P s dst .len ats [.nil]=bnd ats[0]? fun t=>grd (zN P t=true) (bnd (s.rows (.nil)) fun rows=>some (s.put dst (.v (.int .i64 rows.length)))):=id rfl
@[simp] theorem apl (w:Option Nat):kI P s dst .len ats [.aP w rows]=bnd ats[0]? fun t=>grd (zN P t=true) (bnd (s.rows (.aP w rows)) fun rows=>some (s.put dst (.v (.int .i64 rows.length)))):=id rfl
@[simp] theorem apm:kI P s dst .len ats [.fz rows]=bnd ats[0]? fun t=>grd (zN P t=true) (bnd (s.rows (.fz rows)) fun rows=>some (s.put dst (.v (.int .i64 rows.length)))):=id rfl
@[simp] theorem apn:kI P s dst .len ats [.own p]=bnd ats[0]? fun t=>grd (zN P t=true) (bnd (s.rows (.own p)) fun rows=>some (s.put dst (.v (.int .i64 rows.length)))):=id rfl
@[simp] theorem apo:kI P s dst .len ats [.inn p n m q]=bnd ats[0]? fun t=>grd (zN P t=true) (bnd (s.rows (.inn p n m q)) fun rows=>some (s.put dst (.v (.int .i64 rows.length)))):=id rfl
@[simp] theorem apq:kI P s dst .append ats [x,y]=bnd ats[0]? fun t=>bnd ats[1]? fun t1=>grd (Du P t1=true) (IZ P s dst t x y):=id rfl
@[simp] theorem apr (a c:Int):kI P s dst .max ats [.v (.int .i64 a), .v (.int .i64 c)]=some (s.put dst (.v (.int .i64 (max a c)))):=id rfl
@[simp] theorem aps (a c:Int):kI P s dst .min ats [.v (.int .i64 a), .v (.int .i64 c)]=some (s.put dst (.v (.int .i64 (min a c)))):=id rfl
@[simp] theorem apt (a:Int):qY [.a (.int .u8 a)]=some (UInt8.ofNat a.toNat):=id rfl
@[simp] theorem apu (d0:TypeDesc):KR P s dst x d0 (.slice n)=bnd (P.underlying n) fun d=>grd (Eu d=true) (Gl s dst x):=id rfl
@[simp] theorem apv (k:IntKind)(d0:TypeDesc):KR P s dst x d0 (.int k)=bnd (wN P s x d0 (.int k)) fun v=>some (s.put dst v):=id rfl
@[simp] theorem apw (d0:TypeDesc):KR P s dst x d0 .string=bnd (wN P s x d0 .string) fun v=>some (s.put dst v):=id rfl
@[simp] theorem apx (u:ByteArray)(e:List (Nat×V))(b:List (Nat×List V))(t f:List (Nat×List (List D))):Gl ⟨e,b,t,f⟩ (some n) (.v (.string u))=grd (fresh ⟨e,b,t,f⟩ n=true∧u.size≤4611686018427387904) (some ⟨put n (.fz (nV u)) e,b,t,(n,[])::f⟩):=id rfl
@[simp] theorem apy (k:IntKind)(d0:TypeDesc):wN P s x d0 (.int k)=bnd (idxOf x) fun n=>some (.v (.int k (k.wrap n))):=id rfl
@[simp] theorem apz (u:ByteArray)(d0:TypeDesc):wN P s (.v (.string u)) d0 .string=some (.v (.string u)):=id rfl
@[simp] theorem apA  (d0:TypeDesc):wN P s (.nil) d0 .string=xV P s (.nil) d0:=id rfl
@[simp] theorem apB (w:Option Nat)(d0:TypeDesc):wN P s (.aP w rows) d0 .string=xV P s (.aP w rows) d0:=id rfl
@[simp] theorem apC  (d0:TypeDesc):wN P s (.fz rows) d0 .string=xV P s (.fz rows) d0:=id rfl
@[simp] theorem apD  (d0:TypeDesc):wN P s (.own p) d0 .string=xV P s (.own p) d0:=id rfl
@[simp] theorem apE  (d0:TypeDesc):wN P s (.inn p n m q) d0 .string=xV P s (.inn p n m q) d0:=id rfl
@[simp] theorem apF (d0:TypeDesc):xV P s x d0=bnd (iN d0) fun e=>bnd (P.underlying e) fun d=>grd (Eu d=true) (bnd (s.rows x) fun rows=>bnd (bG qY rows) fun l=>some (.v (.string ⟨l.toArray⟩))):=id rfl
@[simp] theorem apG:Eu (.int .u8)=true:=id rfl
@[simp] theorem apH (fs:Array Field):Pg P (.agf fs) n=bnd fs[n]? fun f=>some (f.offset,P.cellsOf f.type):=id rfl
@[simp] theorem apI:Pg P (.arr m) n=some (n*P.cellsOf m,P.cellsOf m):=id rfl
@[simp] theorem apJ (fs:Parts):sG P fs vs []=some vs:=id rfl
@[simp] theorem apK (fs:Parts)(r:List (Nat×V)):sG P fs vs ((n,x)::r)=bnd (Pg P fs n) fun f=>grd (x.cells.length=f.2∧f.1+x.cells.length≤vs.length∧x.cells.all V.one=true) (sG P fs (setAt vs f.1 x.cells) r):=id rfl
@[simp] theorem apL (fs:Array Field):yR (.struct fs)=some (.agf fs):=id rfl
@[simp] theorem apM:yR (.array n m)=some (.arr m):=id rfl
@[simp] theorem apN:pE s (n,o)=bnd (s.ev o) fun v=>some (n,v):=id rfl
@[simp] theorem apO:kC s none=some none:=id rfl
@[simp] theorem apP:kC s (some o)=bnd (s.ev o) fun v=>some (some v):=id rfl
@[simp] theorem apQ:Nt (.ref n m)=some (.ref n m):=id rfl
@[simp] theorem apR:Nt (.pe x kk n m)=some (.pe x kk n m):=id rfl
@[simp] theorem apS:Ph n (.fK vs)=vs[n]?:=id rfl
@[simp] theorem apT:Ta (.agg vs)=some vs:=id rfl
@[simp] theorem apU:UM (.fn n vs)=some (n,vs):=id rfl
@[simp] theorem apV (e:List (Nat×V))(b:List (Nat×List V))(t f:List (Nat×List (List D))):S.uO ⟨e,b,t,f⟩ (some n) vs=grd ((look n b).isNone=true) (some ⟨put n (.ref n 0) e,(n,vs)::b,t,f⟩):=id rfl
@[simp] theorem apW (z:Value):Mv (.v z)=true:=id rfl
@[simp] theorem apX (M:aN):wO false M s dst vs=vU false M s dst vs:=by unfold wO;split;rw [if_neg (by simp)];rfl
@[simp] theorem apY (M:aN):wO true M s dst []=vU true M s dst []:=id rfl
@[simp] theorem apZ (M:aN):wO true M s dst (.inn n m p q::vs)=WZ M s dst n m p q vs:=id rfl
@[simp] theorem ap0 (M:aN)(z:Value):wO true M s dst (.v z::vs)=vU true M s dst (.v z::vs):=id rfl
@[simp] theorem ap1 (M:aN)  :wO true M s dst (.nil::vs)=vU true M s dst (.nil::vs):=id rfl
@[simp] theorem ap2 (M:aN)(o:Option Nat):wO true M s dst (.aP o rows::vs)=vU true M s dst (.aP o rows::vs):=id rfl
@[simp] theorem ap3 (M:aN)  :wO true M s dst (.fz rows::vs)=vU true M s dst (.fz rows::vs):=id rfl
@[simp] theorem ap4 (M:aN)  :wO true M s dst (.own p::vs)=vU true M s dst (.own p::vs):=id rfl
@[simp] theorem ap5 (M:aN)  :wO true M s dst (.agg ws::vs)=vU true M s dst (.agg ws::vs):=id rfl
@[simp] theorem ap6 (M:aN)  :wO true M s dst (.ref n m::vs)=vU true M s dst (.ref n m::vs):=id rfl
@[simp] theorem ap7 (M:aN)  :wO true M s dst (.fn n ws::vs)=vU true M s dst (.fn n ws::vs):=id rfl
@[simp] theorem ap8 (M:aN):WZ M s dst p n m q vs=bnd (look p s.tree) fun rows=>bnd rows[n]? fun r=>bnd r[m]? fun d=>bnd (KP d) fun rs=>grd (r.length=q∧vs.all Mv=true) (bnd (M (.own 0::vs) [] [rs]) (OV s dst p n m rows r)):=id rfl
@[simp] theorem ap9 (r:List D)(rs:List (List D))(e:List (Nat×V))(b:List (Nat×List V))(t f:List (Nat×List (List D))):OV ⟨e,b,t,f⟩ dst p n m rows r ⟨x,[],[(0,rs)]⟩=grd (Mv x=true) (some (S.put ⟨e,b,upd p (rows.set n (r.set m (.l rs))) t,f⟩ dst x)):=id rfl
@[simp] theorem aqa (z:Builtin):J3 P G s dst ats vs (.builtin z)=kI P s dst z ats vs:=id rfl
@[simp] theorem aqb:J3 P G s dst ats vs (.value o)=bnd (s.ev o) fun f=>bnd (UM f) fun f=>bnd (look f.1 G) fun M=>wO M.1 M.2 s dst (vs++f.2):=id rfl
@[simp] theorem aqc:iJ P G s dst (.move o)=bnd (s.ev o) fun v=>some (s.put dst v):=id rfl
@[simp] theorem aqd:iJ P G s dst (.assign o)=bnd (s.ev o) fun v=>some (s.put dst v):=id rfl
@[simp] theorem aqe:iJ P G s dst (.pick o o1 o2)=bnd (s.ev o) fun c=>bnd (Ep c) fun b=>bnd (s.ev (if b then o1 else o2)) fun v=>some (s.put dst v):=id rfl
@[simp] theorem aqf:iJ P G s dst (.alloc n)=bnd (jM P n) fun cs=>s.uO dst cs:=id rfl
@[simp] theorem aqg:iJ P G s dst (.box n o)=bnd (s.ev o) fun v=>grd (v.cells.length=P.cellsOf n∧v.cells.all V.one=true) (s.uO dst v.cells):=id rfl
@[simp] theorem aqh:iJ P G s dst (.load n o)=bnd (s.ev o) fun p=>bnd (s.load P n p) fun v=>some (s.put dst v):=id rfl
@[simp] theorem aqi:iJ P G s dst (.store n o o1)=bnd (s.ev o) fun p=>bnd (s.ev o1) fun v=>bnd (s.store P n p v) fun s=>some (s.skip dst):=id rfl
@[simp] theorem aqj:iJ P G s dst (.nilCheck o)=bnd (s.ev o) fun v=>bnd (Nt v) fun v=>some (s.put dst v):=id rfl
@[simp] theorem aqk:iJ P G s dst (.fieldAddr n o m)=bnd (s.ev o) fun x=>bnd (bZ P n m) fun f=>bnd (xU x f.1) fun v=>some (s.put dst v):=id rfl
@[simp] theorem aql:iJ P G s dst (.field n o m)=bnd (s.ev o) fun x=>bnd (Ta x) fun cs=>bnd (bZ P n m) fun f=>bnd (pz P f.2) fun g=>bnd (span cs f.1 (P.cellsOf f.2) g) fun v=>some (s.put dst v):=id rfl
@[simp] theorem aqm:iJ P G s dst (.indexAddr n o o1)=bnd (s.ev o) fun x=>bnd (s.ev o1) fun i=>bnd (idxOf i) fun i=>bnd (mE P n) fun e=>bnd (lK P s x i e.1 e.2) fun v=>some (s.put dst v):=id rfl
@[simp] theorem aqn:iJ P G s dst (.index n o o1)=bnd (s.ev o) fun x=>bnd (s.ev o1) fun i=>bnd (idxOf i) fun i=>bnd (Gh P n x i) fun v=>some (s.put dst v):=id rfl
@[simp] theorem aqo:iJ P G s dst (.extract o n)=bnd (s.ev o) fun x=>bnd (Ph n x) fun v=>some (s.put dst v):=id rfl
@[simp] theorem aqp:iJ P G s dst (.convert n m o)=bnd (s.ev o) fun x=>bnd (P.underlying n) fun d0=>bnd (P.underlying m) fun d=>KR P s dst x d0 d:=id rfl
@[simp] theorem aqr (ps:Array (Nat×Operand)):iJ P G s dst (.build n ps)=bnd (P.underlying n) fun d=>bnd (yR d) fun fs=>grd (jm P n=true) (bnd (jM P n) fun z=>bnd (bG (pE s) ps.toList) fun vs=>bnd (sG P fs z vs) fun cs=>some (s.put dst (.agg cs))):=id rfl
@[simp] theorem aqs (ps:Array (Nat×Operand)):iJ P G s dst (.buildSlice n m ps)=bnd (P.underlying n) fun d=>bnd (iN d) fun e=>bnd (bG (pE s) ps.toList) fun vs=>grd ((iA P e&&decide (m*P.cellsOf e≤16777216)&&upto 0 m (vs.map (·.1))&&vs.all fun v=>decide (v.2.cells.length=P.cellsOf e)&&v.2.cells.all V.one)=true) (bnd (kG s (vs.map (·.2))) fun x=>x.2.newTree dst x.1):=id rfl
@[simp] theorem aqt (z:BinOp):iJ P G s dst (.binOp z n o o1 m)=bnd (s.ev o) fun x=>bnd (s.ev o1) fun y=>bnd (bin P n z x y) fun v=>some (s.put dst v):=id rfl
@[simp] theorem aqu (z:UnOp):iJ P G s dst (.unOp z n o)=bnd (s.ev o) fun x=>bnd (un z x) fun v=>some (s.put dst v):=id rfl
@[simp] theorem aqv (lo hi:Option Operand):iJ P G s dst (.slice n o lo hi none)=bnd (s.ev o) fun x=>bnd (kC s lo) fun l=>bnd (kC s hi) fun h=>bnd (P.underlying n) fun d=>C8 P s dst x l h d:=id rfl
@[simp] theorem aqw (ol oh:Option V)(dd:TypeDesc):C8 P s dst (.own p) ol oh dd=ZE P s dst p ol oh dd (look p s.dG):=id rfl
@[simp] theorem aqx (ol oh:Option V)(dd:TypeDesc):ZE P s dst p ol oh dd (some rows)=bnd (qX P s (.own p) ol oh dd) fun v=>some (s.put dst v):=id rfl
@[simp] theorem aqy (ol oh:Option V)(dd:TypeDesc):ZE P s dst p ol oh dd none=ahC P s dst p ol oh dd (look p s.tree):=id rfl
@[simp] theorem aqz (ol oh:Option V)(dd:TypeDesc):ahC P s dst p ol oh dd (some rows)=aek P s dst p rows ol oh dd:=id rfl
@[simp] theorem aqA (ol oh:Option V):aek P s dst p rows ol oh (.slice n)=grd (eF P n=true) (UN s dst (P.cellsOf n) p rows ol oh):=id rfl
@[simp] theorem aqB (ol oh:Option V):UN s dst kk p rows ol oh=bnd (bounds rows.length ol oh) fun q=>if q.1<q.2 then grd (wid kk rows=true) ((s.kill p).newTree dst ((rows.drop q.1).take (q.2-q.1)))else some (s.put dst (.aP none [])):=id rfl
@[simp] theorem aqC (ol oh:Option V)(dd:TypeDesc)  :C8 P s dst (.nil) ol oh dd=bnd (qX P s (.nil) ol oh dd) fun v=>some (s.put dst v):=id rfl
@[simp] theorem aqD (ol oh:Option V)(dd:TypeDesc)(w:Option Nat):C8 P s dst (.aP w rows) ol oh dd=bnd (qX P s (.aP w rows) ol oh dd) fun v=>some (s.put dst v):=id rfl
@[simp] theorem aqE (ol oh:Option V)(dd:TypeDesc)  :C8 P s dst (.fz rows) ol oh dd=bnd (qX P s (.fz rows) ol oh dd) fun v=>some (s.put dst v):=id rfl
@[simp] theorem aqF (ol oh:Option V)(dd:TypeDesc)(z:Value):C8 P s dst (.v z) ol oh dd=bnd (qX P s (.v z) ol oh dd) fun v=>some (s.put dst v):=id rfl
@[simp] theorem aqG:iJ P G s dst (.makeSlice n o o1)=bnd (s.ev o) fun n1=>bnd (s.ev o1) fun c=>Pj P s dst n n1 c:=id rfl
@[simp] theorem aqH:Pj P s dst n x y=bnd (P.underlying n) fun d=>bnd (iN d) fun e=>bnd (idxOf x) fun l=>bnd (idxOf y) fun cc=>grd (iA P e=true∧0≤l∧l=cc∧l.toNat*P.bytesOf e≤140737488355328∧l≤4611686018427387904) (bnd (jM P e) fun z=>bnd (bG zT z) fun r=>s.newTree dst (List.replicate l.toNat r)):=id rfl
@[simp] theorem aqI (c:Call):iJ P G s dst (.call c)=bnd (bG s.ev c.args.toList) fun args=>J3 P G s dst c.argTypes args c.callee:=id rfl
@[simp] theorem aqJ (ops:Array Oper):S.wants ops s none=some true:=id rfl
@[simp] theorem aqK (ops:Array Oper)(g:Bool):S.wants ops s (some (n,g))=I6 s g ((ops[n]?).bind (·.dst)):=id rfl
@[simp] theorem aqL (g:Bool):I6 s g (some n)=J4 g (look n s.env):=id rfl
@[simp] theorem aqM (g:Bool):J4 g none=none:=id rfl
@[simp] theorem aqN (g:Bool):J4 g (some (.fK []))=some false:=id rfl
@[simp] theorem aqO (g h:Bool):J4 g (some (.v (.bool h)))=some (h==g):=id rfl
end
section
variable (l:List Nat) (mp:List (Nat×Nat)) (n m p q kk:Nat) (x y:V) (vs ws:List V) (rows:List (List D))
@[simp] theorem aqP:Bb mp (.own p)= .own (ren mp p):=id rfl
@[simp] theorem aqQ:Bb mp (.inn p n m q)= .inn (ren mp p) n m q:=id rfl
@[simp] theorem aqR:uz l (.inn p n m q)=if l.contains p then l else l++ [p]:=id rfl
@[simp] theorem aqS:ren mp p=(look p mp).getD p:=id rfl
@[simp] theorem aqT:Bb mp (.pe x kk n m)= .pe (Bb mp x) kk n m:=id rfl
@[simp] theorem aqU:Bb mp (.agg vs)= .agg (Gd mp vs):=id rfl
@[simp] theorem aqV:Bb mp (.fK vs)= .fK (Gd mp vs):=id rfl
@[simp] theorem aqW:Bb mp (.fn n vs)= .fn n (Gd mp vs):=id rfl
@[simp] theorem aqX (z:Value):Bb mp (.v z)= .v z:=id rfl
@[simp] theorem aqY (z:Value):uz l (.v z)=l:=id rfl
@[simp] theorem aqZ:Bb mp (.nil)= .nil:=id rfl
@[simp] theorem aq0:uz l (.nil)=l:=id rfl
@[simp] theorem aq1 (em:List (Int×Int)):Bb mp (.mp em)= .mp em:=id rfl
@[simp] theorem aq2 (em:List (Int×Int)):uz l (.mp em)=l:=id rfl
@[simp] theorem aq3 (o:Option Nat):Bb mp (.aP o rows)= .aP o rows:=id rfl
@[simp] theorem aq4 (o:Option Nat):uz l (.aP o rows)=l:=id rfl
@[simp] theorem aq5:Bb mp (.fz rows)= .fz rows:=id rfl
@[simp] theorem aq6:uz l (.fz rows)=l:=id rfl
@[simp] theorem aq7:Bb mp (.ref n m)= .ref n m:=id rfl
@[simp] theorem aq8:uz l (.ref n m)=l:=id rfl
@[simp] theorem aq9:Bb mp (.dead)= .dead:=id rfl
@[simp] theorem ara:uz l (.dead)=l:=id rfl
@[simp] theorem arb:Gd mp []= []:=id rfl
@[simp] theorem ard:Gd mp (x::vs)=Bb mp x::Gd mp vs:=id rfl
@[simp] theorem arf:uz l (.own p)=if l.contains p then l else l++ [p]:=id rfl
@[simp] theorem arh:uz l (.pe x kk n m)=uz l x:=id rfl
@[simp] theorem ari:uz l (.agg vs)=zZ l vs:=id rfl
@[simp] theorem arj:uz l (.fK vs)=zZ l vs:=id rfl
@[simp] theorem ark:uz l (.fn n vs)=zZ l vs:=id rfl
@[simp] theorem arl:zZ l []=l:=id rfl
@[simp] theorem arn:zZ l (x::vs)=zZ (uz l x) vs:=id rfl
@[simp] theorem aro:dW n []=([],[]):=id rfl
@[simp] theorem arp (e:List (Nat×V)):dW n ((m, .nil)::e)=((m, .own n)::(dW (n+1) e).1,n::(dW (n+1) e).2):=id rfl
@[simp] theorem arq:cu n []=([],[]):=id rfl
@[simp] theorem ars:cu n (.nil::vs)=(.own n::(cu (n+1) vs).1,n::(cu (n+1) vs).2):=id rfl
@[simp] theorem aru (z:Value)(e:List (Nat×V)):dW n ((m, .v z)::e)=((m, .v z)::(dW n e).1,(dW n e).2):=id rfl
@[simp] theorem arv (z:Value):cu n (.v z::vs)=(.v z::(cu n vs).1,(cu n vs).2):=id rfl
@[simp] theorem arw (em:List (Int×Int))(e:List (Nat×V)):dW n ((m, .mp em)::e)=((m, .mp em)::(dW n e).1,(dW n e).2):=id rfl
@[simp] theorem arx (em:List (Int×Int)):cu n (.mp em::vs)=(.mp em::(cu n vs).1,(cu n vs).2):=id rfl
@[simp] theorem arz (o:Option Nat)(e:List (Nat×V)):dW n ((m, .aP o rows)::e)=((m, .aP o rows)::(dW n e).1,(dW n e).2):=id rfl
@[simp] theorem arA (o:Option Nat):cu n (.aP o rows::vs)=(.aP o rows::(cu n vs).1,(cu n vs).2):=id rfl
@[simp] theorem arB  (e:List (Nat×V)):dW n ((m, .fz rows)::e)=((m, .fz rows)::(dW n e).1,(dW n e).2):=id rfl
@[simp] theorem arC:cu n (.fz rows::vs)=(.fz rows::(cu n vs).1,(cu n vs).2):=id rfl
@[simp] theorem arD  (e:List (Nat×V)):dW n ((m, .own p)::e)=((m, .own p)::(dW n e).1,(dW n e).2):=id rfl
@[simp] theorem arE:cu n (.own p::vs)=(.own p::(cu n vs).1,(cu n vs).2):=id rfl
@[simp] theorem arF (r0:Nat)(e:List (Nat×V)):dW n ((m, .inn p q kk r0)::e)=((m, .inn p q kk r0)::(dW n e).1,(dW n e).2):=id rfl
@[simp] theorem arG (r0:Nat):cu n (.inn p q kk r0::vs)=(.inn p q kk r0::(cu n vs).1,(cu n vs).2):=id rfl
@[simp] theorem arH  (e:List (Nat×V)):dW n ((m, .ref p q)::e)=((m, .ref p q)::(dW n e).1,(dW n e).2):=id rfl
@[simp] theorem arI:cu n (.ref p q::vs)=(.ref p q::(cu n vs).1,(cu n vs).2):=id rfl
@[simp] theorem arJ  (e:List (Nat×V)):dW n ((m, .pe x kk p q)::e)=((m, .pe x kk p q)::(dW n e).1,(dW n e).2):=id rfl
@[simp] theorem arK:cu n (.pe x kk p q::vs)=(.pe x kk p q::(cu n vs).1,(cu n vs).2):=id rfl
@[simp] theorem arL  (e:List (Nat×V)):dW n ((m, .agg ws)::e)=((m, .agg ws)::(dW n e).1,(dW n e).2):=id rfl
@[simp] theorem arM:cu n (.agg ws::vs)=(.agg ws::(cu n vs).1,(cu n vs).2):=id rfl
@[simp] theorem arN  (e:List (Nat×V)):dW n ((m, .fK ws)::e)=((m, .fK ws)::(dW n e).1,(dW n e).2):=id rfl
@[simp] theorem arO:cu n (.fK ws::vs)=(.fK ws::(cu n vs).1,(cu n vs).2):=id rfl
@[simp] theorem arP  (e:List (Nat×V)):dW n ((m, .fn p ws)::e)=((m, .fn p ws)::(dW n e).1,(dW n e).2):=id rfl
@[simp] theorem arQ:cu n (.fn p ws::vs)=(.fn p ws::(cu n vs).1,(cu n vs).2):=id rfl
@[simp] theorem arR  (e:List (Nat×V)):dW n ((m, .dead)::e)=((m, .dead)::(dW n e).1,(dW n e).2):=id rfl
@[simp] theorem arS:cu n (.dead::vs)=(.dead::(cu n vs).1,(cu n vs).2):=id rfl
@[simp] theorem arT:mV n []=([],[]):=id rfl
@[simp] theorem arU (b:List (Nat×List V)):mV n ((m,vs)::b)=((m,(cu n vs).1)::(mV (n+(cu n vs).2.length) b).1,(cu n vs).2++(mV (n+(cu n vs).2.length) b).2):=id rfl
@[simp] theorem arV (e:List (Nat×V)):aem l e=bG (fun t=>bnd (look t e) fun v=>some (t,v)) l:=id rfl
@[simp] theorem arW (b:List (Nat×List V)):aen l b=bG (fun t=>bnd (look t b) fun v=>some (t,v)) l:=id rfl
@[simp] theorem arX:iL l (.ref n m)=l.contains n:=id rfl
@[simp] theorem arY:iL l (.pe x kk n m)=iL l x:=id rfl
@[simp] theorem arZ:iL l (.agg vs)=iL.go l vs:=id rfl
@[simp] theorem ar0:iL l (.fK vs)=iL.go l vs:=id rfl
@[simp] theorem ar1:iL l (.fn n vs)=iL.go l vs:=id rfl
@[simp] theorem ar2 (z:Value):iL l (.v z)=true:=id rfl
@[simp] theorem ar3:iL l (.nil)=true:=id rfl
@[simp] theorem ar4 (em:List (Int×Int)):iL l (.mp em)=true:=id rfl
@[simp] theorem ar5 (o:Option Nat):iL l (.aP o rows)=true:=id rfl
@[simp] theorem ar6:iL l (.fz rows)=true:=id rfl
@[simp] theorem ar7:iL l (.own n)=true:=id rfl
@[simp] theorem ar8:iL l (.inn n m p q)=true:=id rfl
@[simp] theorem ar9:iL l (.dead)=true:=id rfl
@[simp] theorem asa:iL.go l []=true:=id rfl
@[simp] theorem asb:iL.go l (x::vs)=(iL l x&&iL.go l vs):=id rfl
@[simp] theorem asc (tr:List (Nat×List (List D))):metIn tr [] n= []:=id rfl
@[simp] theorem ase (tr:List (Nat×List (List D))):metIn tr (p::l) n=Mx p n (metIn tr l) (look p tr):=id rfl
@[simp] theorem asf (k:Nat→List (Nat×Nat×List (List D))):Mx p n k (some rows)=if 1000000000≤p∧p<2000000000 then(p,p,rows)::k n else(p,2000000000+n,rows)::k (n+1):=id rfl
@[simp] theorem asg (k:Nat→List (Nat×Nat×List (List D))):Mx p n k none=k n:=id rfl
@[simp] theorem ash (e:List (Nat×V))(b:List (Nat×List V))(t f:List (Nat×List (List D))):S.abV e b t f=S.JD (metIn t (zZ (zZ [] (e.map (·.2))) (b.flatMap (·.2))) (1000*f.length)) e b f:=id rfl
@[simp] theorem asi (mm:List (Nat×Nat×List (List D)))(e:List (Nat×V))(b:List (Nat×List V))(f:List (Nat×List (List D))):S.JD mm e b f=⟨e.map fun x=>(x.1,Bb (mm.map fun x=>(x.1,x.2.1)) x.2),b.map fun x=>(x.1,Gd (mm.map fun x=>(x.1,x.2.1)) x.2),(mm.map (·.2)).reverse,f⟩:=id rfl
@[simp] theorem asj (ts bs:List Nat)(e:List (Nat×V))(b:List (Nat×List V))(t f:List (Nat×List (List D))):S.head ts bs ⟨e,b,t,f⟩=bnd (aem ts e) fun env=>bnd (aen bs b) fun box=>grd ((desc ts&&desc bs&&env.all (fun x=>iL bs x.2)&&box.all (fun x=>x.2.all (iL bs))&&t.all (fun x=>decide (x.1<3000000000))&&f.all (fun x=>decide (x.1<2000000000+1000*f.length))&&decide (f.length<1000))=true) (some (S.abV (dW 3000000000 env).1 (mV (3000000000+(dW 3000000000 env).2.length) box).1 (t++((dW 3000000000 env).2++(mV (3000000000+(dW 3000000000 env).2.length) box).2).map fun p=>(p,[])) f)):=id rfl
@[simp] theorem asl (hs:List (Nat×List Nat×List Nat))(fs:List (Nat×List Nat))(ds:List (Nat×List Nat×List (Nat×List Nat)))(ns:List (Nat×List Nat×List Nat))(s:S):mg.head ⟨hs,fs,ds,ns⟩ n s=Gm s (look n hs):=id rfl
@[simp] theorem asn (hs:List (Nat×List Nat×List Nat))(fs:List (Nat×List Nat))(ds:List (Nat×List Nat×List (Nat×List Nat)))(ns:List (Nat×List Nat×List Nat)):mg.bars ⟨hs,fs,ds,ns⟩ n=UQ (look n ds):=id rfl
@[simp] theorem aso (z:List Nat×List (Nat×List Nat)):UQ (some z)=z:=id rfl
@[simp] theorem asq:UQ none=([],[]):=id rfl
@[simp] theorem asr (s:S)(ts bs:List Nat):Gm s (some (ts,bs))=s.head ts bs:=id rfl
@[simp] theorem asu (s:S):Gm s none=some s:=id rfl
@[simp] theorem asv (hs:List (Nat×List Nat×List Nat))(fs:List (Nat×List Nat))(ds:List (Nat×List Nat×List (Nat×List Nat)))(ns:List (Nat×List Nat×List Nat))(s:S):mg.reg ⟨hs,fs,ds,ns⟩ n s=bnd (Gm s (look n ns)) fun s=>Td s (look n fs):=id rfl
@[simp] theorem asw (s:S):Td s (some l)=uD s l:=id rfl
@[simp] theorem asx (s:S):Td s none=some s:=id rfl
@[simp] theorem asy (s:S):uD s []=some s:=id rfl
@[simp] theorem asz (s:S):uD s (n::l)=bnd (s.freeze n) fun s=>uD s l:=id rfl
@[simp] theorem asA (s:S):S.freeze s n=bnd (look n s.env) fun v=>KS s v:=id rfl
@[simp] theorem asB (s:S):KS s (.own p)=yZ s p (look p s.tree):=id rfl
@[simp] theorem asC (q:Nat)(s:S):KS s (.ref p q)=bnd (look p s.box) fun cs=>kD s cs:=id rfl
@[simp] theorem asD (s:S):kD s []=some s:=id rfl
@[simp] theorem asE (s:S)(vs:List V):kD s (.own p::vs)=bnd (yZ s p (look p s.tree)) fun s=>kD s vs:=id rfl
@[simp] theorem asF (s:S)(vs:List V)(z:Value):kD s (.v z::vs)=kD s vs:=id rfl
@[simp] theorem asG (s:S)(vs:List V)  :kD s (.nil::vs)=kD s vs:=id rfl
@[simp] theorem asH (s:S)(vs:List V)(em:List (Int×Int)):kD s (.mp em::vs)=kD s vs:=id rfl
@[simp] theorem asI (s:S)(vs:List V)(o:Option Nat)(rows:List (List D)):kD s (.aP o rows::vs)=kD s vs:=id rfl
@[simp] theorem asJ (s:S)(vs:List V)(rows:List (List D)):kD s (.fz rows::vs)=kD s vs:=id rfl
@[simp] theorem asK (s:S)(vs:List V)  :kD s (.dead::vs)=kD s vs:=id rfl
@[simp] theorem asL (s:S)(vs:List V)(q:Nat):kD s (.ref p q::vs)=kD s vs:=id rfl
@[simp] theorem asM (e:List (Nat×V))(b:List (Nat×List V))(t f:List (Nat×List (List D))):yZ ⟨e,b,t,f⟩ p (some rows)=some ⟨e,b,drop1 p t,(p,rows)::f⟩:=id rfl
@[simp] theorem asN (s:S):yZ s p none=some s:=id rfl
end
section
variable (s:S) (n m p q kk:Nat) (x y:V) (vs ws:List V) (rows:List (List D)) (l:List (Nat×List (List D)))
@[simp] theorem asO:jS (.ref n m)= .ref (1000000000+n) m:=id rfl
@[simp] theorem asP:jS (.own n)= .own (1000000000+n):=id rfl
@[simp] theorem asQ:jS (.inn n m p q)= .inn (1000000000+n) m p q:=id rfl
@[simp] theorem asR:jS (.agg vs)= .agg (ny vs):=id rfl
@[simp] theorem asS:jS (.fK vs)= .fK (ny vs):=id rfl
@[simp] theorem asT:jS (.pe x kk n m)= .pe (jS x) kk n m:=id rfl
@[simp] theorem asU:jS (.fn n vs)= .fn n (ny vs):=id rfl
@[simp] theorem asV (z:Value):jS (.v z)= .v z:=id rfl
@[simp] theorem asW:jS (.nil)= .nil:=id rfl
@[simp] theorem asX (em:List (Int×Int)):jS (.mp em)= .mp em:=id rfl
@[simp] theorem asY (o:Option Nat):jS (.aP o rows)= .aP o rows:=id rfl
@[simp] theorem asZ:jS (.fz rows)= .fz rows:=id rfl
@[simp] theorem as0:jS (.dead)= .dead:=id rfl
@[simp] theorem as1:ny []= []:=id rfl
@[simp] theorem as2:ny (x::vs)=jS x::ny vs:=id rfl
@[simp] theorem as3 (z:Value):y5 s n l (.v z)=some (.v z,l):=id rfl
@[simp] theorem as4:y5 s n l .nil=some (.own (n+l.length),l++ [(0,[])]):=id rfl
@[simp] theorem as5 (o:Option Nat):y5 s n l (.aP o rows)=some (.aP o rows,l):=id rfl
@[simp] theorem as6:y5 s n l (.agg vs)=bnd (MF s n l vs) fun x=>some (.agg x.1,x.2):=id rfl
@[simp] theorem as7:y5 s n l (.fK vs)=bnd (MF s n l vs) fun x=>some (.fK x.1,x.2):=id rfl
@[simp] theorem as8:y5 s n l (.ref p q)=grd (1000000000≤p) (some (.ref (p-1000000000) q,l)):=id rfl
@[simp] theorem as9:y5 s n l (.own p)=if 1000000000≤p∧p<1000000000+n then grd ((look p s.tree).isSome=true) (some (.own (p-1000000000),l))else bnd (s.rows (.own p)) fun rows=>grd ((look p l).isNone=true) (some (.own (n+l.length),l++ [(p,rows)])):=id rfl
@[simp] theorem ata:y5 s n l .dead=some (.dead,l):=id rfl
@[simp] theorem atb:MF s n l []=some ([],l):=id rfl
@[simp] theorem atc:MF s n l (x::vs)=bnd (y5 s n l x) fun x=>bnd (MF s n x.2 vs) fun y=>some (x.1::y.1,y.2):=id rfl
@[simp] theorem atd:UU s n l []=some ([],l):=id rfl
@[simp] theorem ate (ps:List Nat):UU s n l (p::ps)=bnd (look (1000000000+p) s.box) fun cs=>bnd (MF s n l cs) fun x=>bnd (UU s n x.2 ps) fun y=>some (x.1::y.1,y.2):=id rfl
@[simp] theorem atf (P:Program):KX P s (.tmp n)=look n s.env:=id rfl
@[simp] theorem atg (P:Program):KX P s (.cell n m)=bnd (look n s.env) fun p=>s.load P m p:=id rfl
@[simp] theorem ath:F5 [x]=x:=id rfl
@[simp] theorem ati:F5 []= .fK []:=id rfl
@[simp] theorem atj:F5 (x::y::vs)= .fK (x::y::vs):=id rfl
@[simp] theorem atl:iw s n 0= []:=id rfl
@[simp] theorem atm:iw s n (m+1)=I7 n (iw s (n+1) m) (look (1000000000+n) s.tree):=id rfl
@[simp] theorem atn:I7 n l (some rows)=(n,rows)::l:=id rfl
@[simp] theorem ato:I7 n l none=l:=id rfl
@[simp] theorem atp (P:Program)(rs:List ResultVar):sQ P rs n m s=bnd (bG (KX P s) rs) fun vs=>bnd (y5 s m [] (F5 vs)) fun x=>bnd (UU s m x.2 (List.range' 0 n)) fun y=>grd ((s.box.all fun x=>decide (x.1<1000000000+n))=true) (some ⟨x.1,y.1,iw s 0 m++kK m y.2⟩):=id rfl
@[simp] theorem atq (P:Program)(fn:Func):J8 P fn n m (.normal, .on s)=sQ P fn.results.toList n m s:=id rfl
@[simp] theorem atr (P:Program)(fn:Func):J8 P fn n m (.ret, .on s)=sQ P fn.results.toList n m s:=id rfl
@[simp] theorem att (z:Q):Gr n (.exit m,z)=if m=n then some (.normal,z)else some (.exit m,z):=id rfl
@[simp] theorem atu (z:Q):Gr n (.normal,z)=some (.normal,z):=id rfl
@[simp] theorem atv (z:Q):Gr n (.ret,z)=some (.ret,z):=id rfl
@[simp] theorem atw (ops:Array Oper)(d:Bool):Code.first (.region n ops d)=n:=id rfl
@[simp] theorem atx (c d:Code):Code.first (.seq c d)=Code.first c:=id rfl
@[simp] theorem aty (c:Code):Code.first (.block n c)=Code.first c:=id rfl
@[simp] theorem atz (c:Code):Code.first (.loop c)=Code.first c:=id rfl
@[simp] theorem atA (c:Code):Code.first (.scope c)=Code.first c:=id rfl
@[simp] theorem atB (P:Program)(G:List (FuncId×Bool×aN))(gh:mg)(bs:List (List V))(ts:List (List (List D))):aG P G gh n vs bs ts=bnd P.funcs[n]? fun fn=>bnd fn.body fun c=>grd (vs.length≤1000∧bs.length≤1000∧ts.length≤1000) <| bnd (Eo P G gh c (.on ⟨(bO 0 (vs.map jS)).reverse,(bO 1000000000 (bs.map ny)).reverse,(bO 1000000000 ts).reverse,[]⟩)) (J8 P fn bs.length ts.length):=id rfl
@[simp] theorem atC (P:Program)(G:List (FuncId×Bool×aN))(gh:mg)(bs:List (List V))(ts:List (List (List D))):Xc P G gh n vs bs ts=bnd P.funcs[n]? fun fn=>bnd fn.body fun c=>grd (vs.length≤1000∧bs.length=0∧ts.length=0) <| bnd (Eo P G gh c (.on ⟨(bO 0 (vs.map jS)).reverse,[],[],[]⟩)) (Pq P fn):=id rfl
@[simp] theorem atD (P:Program)(fn:Func)(s:S):Pq P fn (.normal, .on s)=bnd (bG (KX P s) fn.results.toList) fun vs=>Gs s (F5 vs):=id rfl
@[simp] theorem atE (P:Program)(fn:Func)(s:S):Pq P fn (.ret, .on s)=bnd (bG (KX P s) fn.results.toList) fun vs=>Gs s (F5 vs):=id rfl
@[simp] theorem atF (s:S):Gs s (.ref n 0)=bnd (look n s.box) fun cs=>grd (cs.all Pp=true) (some ⟨.ref 0 0,[cs],[]⟩):=id rfl
@[simp] theorem atG (z:Value):Pp (.v z)=true:=id rfl
@[simp] theorem atH (oo:Option Nat):Pp (.aP oo rows)=true:=id rfl
@[simp] theorem atI (o:Option (List (List D))):mD (some rows) o=some rows:=id rfl
@[simp] theorem atJ (o:Option (List (List D))):mD none o=o:=id rfl
end
theorem qy (s:S)(d:Nat)(v:V):grd ((jo s []&&kJ s [])=true) (some (s.app (some d) ⟨v,[],[]⟩))=some (s.put (some d) v):=by rw [eH _ (show(jo s []&&kJ s [])=true from rfl)];rfl
section
variable (P:Program) (G:List (FuncId×Bool×aN)) (s:S) (n m p q kk d:Nat) (x y:V) (vs ws:List V) (rows:List (List D)) (ats:Array TypeId) (o o1 o2:Operand)
@[simp] theorem atK:jX P G s (some d) (.move o)=iJ P G s (some d) (.move o):=by simp only [jX,qm,je,iJ,aY,iP,oL,qy]
@[simp] theorem atL:jX P G s (some d) (.assign o)=iJ P G s (some d) (.assign o):=by simp only [jX,qm,je,iJ,aY,iP,oL,qy]
@[simp] theorem atM:jX P G s (some d) (.pick o o1 o2)=iJ P G s (some d) (.pick o o1 o2):=by simp only [jX,qm,je,iJ,aY,iP,oL,qy]
@[simp] theorem atO:jX P G s (some d) (.load n o)=iJ P G s (some d) (.load n o):=by simp only [jX,qm,je,iJ,aY,iP,oL,qy]
@[simp] theorem atP:jX P G s (some d) (.nilCheck o)=iJ P G s (some d) (.nilCheck o):=by simp only [jX,qm,je,iJ,aY,iP,oL,qy]
@[simp] theorem atQ:jX P G s (some d) (.fieldAddr n o m)=iJ P G s (some d) (.fieldAddr n o m):=by simp only [jX,qm,je,iJ,aY,iP,oL,qy]
@[simp] theorem atS:jX P G s (some d) (.field n o m)=iJ P G s (some d) (.field n o m):=by simp only [jX,qm,je,iJ,aY,iP,oL,qy]
@[simp] theorem atT:jX P G s (some d) (.indexAddr n o o1)=iJ P G s (some d) (.indexAddr n o o1):=by simp only [jX,qm,je,iJ,aY,iP,oL,qy]
@[simp] theorem atU:jX P G s (some d) (.index n o o1)=iJ P G s (some d) (.index n o o1):=by simp only [jX,qm,je,iJ,aY,iP,oL,qy]
@[simp] theorem atV:jX P G s (some d) (.extract o n)=iJ P G s (some d) (.extract o n):=by simp only [jX,qm,je,iJ,aY,iP,oL,qy]
@[simp] theorem atW (ps:Array (Nat×Operand)):jX P G s (some d) (.build n ps)=iJ P G s (some d) (.build n ps):=by simp only [jX,qm,je,iJ,aY,iP,oL,qy]
@[simp] theorem atX (z:BinOp):jX P G s (some d) (.binOp z n o o1 m)=iJ P G s (some d) (.binOp z n o o1 m):=by simp only [jX,qm,je,iJ,aY,iP,oL,qy]
@[simp] theorem atY (z:UnOp):jX P G s (some d) (.unOp z n o)=iJ P G s (some d) (.unOp z n o):=by simp only [jX,qm,je,iJ,aY,iP,oL,qy]
@[simp] theorem atZ (z:Fn)(first ps:Array Operand):jX P G s (some d) (.makeFunc z first ps)=iJ P G s (some d) (.makeFunc z first ps):=by simp only [jX,qm,je,iJ,aY,iP,oL,qy]
@[simp] theorem at1 (lo hi:Option Operand):jX P G s (some d) (.slice n o lo hi none)=bnd (s.ev o) fun x=>bnd (kC s lo) fun l=>bnd (kC s hi) fun h=>bnd (P.underlying n) fun dd=>bnd (qX P s x l h dd) fun v=>some (s.put (some d) v):=by simp only [jX,qm,je,aY,iP,oL,qy]
@[simp] theorem at5:jX P G s (some d) (.convert n m o)=bnd (s.ev o) fun x=>bnd (P.underlying n) fun d0=>bnd (P.underlying m) fun dd=>bnd (wN P s x d0 dd) fun v=>some (s.put (some d) v):=by simp only [jX,qm,je,aY,iP,oL,qy]
@[simp] theorem at6:jX P G s (some d) (.alloc n)=iJ P G s (some d) (.alloc n):=by simp only [jX,qm,iJ,aY,iP,S.uO,jo,kJ,Bool.and_true,Bool.true_and];rfl
@[simp] theorem at7:jX P G s (some d) (.box n o)=iJ P G s (some d) (.box n o):=by simp only [jX,qm,iJ,aY,iP,oL,S.uO,jo,kJ,Bool.and_true,Bool.true_and];rfl
@[simp] theorem aua (c:Call):jX P G s (some d) (.call c)=bnd (bnd (bG s.ev c.args.toList) fun args=>xW P G s d c.argTypes args c.callee) fun e=>grd ((jo s e.tree&&kJ s e.box)=true) (some (s.app (some d) e)):=id rfl
@[simp] theorem aub (ps:Array (Nat×Operand)):jX P G s (some d) (.buildSlice n m ps)=bnd (bnd (P.underlying n) fun ds=>bnd (iN ds) fun e=>bnd (bG (pE s) ps.toList) fun vs=>grd ((iA P e&&decide (m*P.cellsOf e≤16777216)&&upto 0 m (vs.map (·.1))&&vs.all fun v=>decide (v.2.cells.length=P.cellsOf e)&&v.2.cells.all V.one)=true) (bnd (bG (fun v:Nat×V=>bG zT v.2.cells) vs) fun rows=>some ⟨.own d,[(d,rows)],[]⟩)) fun e:Eff=>grd ((jo s e.tree&&kJ s e.box)=true) (some (s.app (some d) e)):=id rfl
@[simp] theorem auc (z:Builtin):xW P G s d ats vs (.builtin z)=W9 P s d z ats vs:=id rfl
@[simp] theorem aud:xW P G s d ats vs (.value o)=bnd (s.ev o) fun f=>bnd (UM f) fun f=>bnd (look f.1 G) fun M=>grd (M.1=false) (Ev M.2 s d (vs++f.2)):=id rfl
@[simp] theorem aue:W9 P s d .append ats [x,y]=bnd ats[0]? fun t=>bnd ats[1]? fun t1=>grd (Du P t1=true) (bnd (P.underlying t) fun ds=>bnd (iN ds) fun e=>bnd (nI s y) fun new=>Gn P s d e new x):=id rfl
@[simp] theorem auf:W9 P s d .len ats vs=bnd (BZ P s .len ats vs) fun v=>some ⟨v,[],[]⟩:=id rfl
@[simp] theorem aug:W9 P s d .max ats vs=bnd (BZ P s .max ats vs) fun v=>some ⟨v,[],[]⟩:=id rfl
@[simp] theorem auh:W9 P s d .min ats vs=bnd (BZ P s .min ats vs) fun v=>some ⟨v,[],[]⟩:=id rfl
@[simp] theorem aui (u:ByteArray):BZ P s .len ats [.v (.string u)]=bnd ats[0]? fun t=>grd (ZC P t=true) (some (.v (.int .i64 u.size))):=id rfl
@[simp] theorem auj:BZ P s .len ats [.nil]=bnd ats[0]? fun t=>grd (zN P t=true) (bnd (s.rows (.nil)) fun rows=>some (.v (.int .i64 rows.length))):=id rfl
@[simp] theorem auk:nI s (.nil)=bnd (s.rows (.nil)) fun rows=>grd (dN rows=true) (some rows):=id rfl
@[simp] theorem aul (w:Option Nat):BZ P s .len ats [.aP w rows]=bnd ats[0]? fun t=>grd (zN P t=true) (bnd (s.rows (.aP w rows)) fun rows=>some (.v (.int .i64 rows.length))):=id rfl
@[simp] theorem aum (w:Option Nat):nI s (.aP w rows)=bnd (s.rows (.aP w rows)) fun rows=>grd (dN rows=true) (some rows):=id rfl
@[simp] theorem aun:BZ P s .len ats [.fz rows]=bnd ats[0]? fun t=>grd (zN P t=true) (bnd (s.rows (.fz rows)) fun rows=>some (.v (.int .i64 rows.length))):=id rfl
@[simp] theorem auo:nI s (.fz rows)=bnd (s.rows (.fz rows)) fun rows=>grd (dN rows=true) (some rows):=id rfl
@[simp] theorem aup:BZ P s .len ats [.own p]=bnd ats[0]? fun t=>grd (zN P t=true) (bnd (s.rows (.own p)) fun rows=>some (.v (.int .i64 rows.length))):=id rfl
@[simp] theorem auq:nI s (.own p)=bnd (s.rows (.own p)) fun rows=>grd (dN rows=true) (some rows):=id rfl
@[simp] theorem aur:BZ P s .len ats [.inn p n m q]=bnd ats[0]? fun t=>grd (zN P t=true) (bnd (s.rows (.inn p n m q)) fun rows=>some (.v (.int .i64 rows.length))):=id rfl
@[simp] theorem aus:nI s (.inn p n m q)=bnd (s.rows (.inn p n m q)) fun rows=>grd (dN rows=true) (some rows):=id rfl
@[simp] theorem aut (u:ByteArray):nI s (.v (.string u))=some (u.toList.map fun c=> [.a (.int .u8 (c.toNat:Int))]):=id rfl
@[simp] theorem auu (a c:Int):BZ P s .max ats [.v (.int .i64 a), .v (.int .i64 c)]=some (.v (.int .i64 (max a c))):=id rfl
@[simp] theorem auv (a c:Int):BZ P s .min ats [.v (.int .i64 a), .v (.int .i64 c)]=some (.v (.int .i64 (min a c))):=id rfl
@[simp] theorem auw:Gn P s d n rows .nil=grd (lD P n rows.length=true∧wid (P.cellsOf n) rows=true) (some ⟨.own d,[(d,rows)],[]⟩):=id rfl
@[simp] theorem auy:Gn P s d n rows (.own p)=bnd (look p s.tree) fun rs=>grd (rs.isEmpty=true∧lD P n rows.length=true∧wid (P.cellsOf n) rows=true) (some ⟨.own d,[(d,rows)],[]⟩):=id rfl
@[simp] theorem auz (M:aN):Ev M s d vs=bnd (vT s ⟨[],[],[]⟩ vs) fun x=>grd ((x.2.box.isEmpty&&x.2.tree.isEmpty)=true) (bnd (M x.1 [] []) fun r=>grd (r.box.isEmpty=true) (bnd (nO x.2 d r.val) fun v=>some ⟨v,uQ d r.tree,[]⟩)):=id rfl
@[simp] theorem auA:uQ n []= []:=id rfl
@[simp] theorem auB (r:List (Nat×List (List D))):uQ n ((q,rows)::r)=(1000*(n+1)+q,rows)::uQ n r:=id rfl
@[simp] theorem auC:jo s []=true:=id rfl
@[simp] theorem auD (r:List (Nat×List (List D)))(e:List (Nat×V))(b:List (Nat×List V))(t f:List (Nat×List (List D))):jo ⟨e,b,t,f⟩ ((q,rows)::r)=(fresh ⟨e,b,t,f⟩ q&&decide (q<1000000000)&&jo ⟨e,b,(q,rows)::t,f⟩ r):=id rfl
@[simp] theorem auE:kJ s []=true:=id rfl
@[simp] theorem auF (r:List (Nat×List V))(e:List (Nat×V))(b:List (Nat×List V))(t f:List (Nat×List (List D))):kJ ⟨e,b,t,f⟩ ((q,vs)::r)=((look q b).isNone&&kJ ⟨e,(q,vs)::b,t,f⟩ r):=id rfl
@[simp] theorem auG (tt:List (Nat×List (List D)))(bb:List (Nat×List V))(e:List (Nat×V))(b:List (Nat×List V))(t f:List (Nat×List (List D))):S.app ⟨e,b,t,f⟩ (some d) ⟨x,tt,bb⟩=⟨put d x e,bb++b,tt.reverse++t,f⟩:=id rfl
@[simp] theorem auH (w:Option Nat):sD P G s w (.store n o o1)=bnd (s.ev o) fun p=>bnd (s.ev o1) fun v=>grd (eF P n=true∧v.cells.length=P.cellsOf n∧w.isNone=true) (Dv s v p):=id rfl
@[simp] theorem auI (w:Option Nat)(c:Call):sD P G s w (.call c)=bnd (bG s.ev c.args.toList) fun args=>xY P G s w c.argTypes args c.callee:=id rfl
@[simp] theorem auJ (w:Option Nat):xY P G s w ats vs (.value o)=bnd (s.ev o) fun f=>bnd (UM f) fun f=>bnd (look f.1 G) fun M=>grd (M.1=false) (Nv M.2 s (w.getD 0) (vs++f.2)):=id rfl
@[simp] theorem auK (w:Option Nat)(z:Builtin):xY P G s w ats vs (.builtin z)=Pm P s w z ats vs:=id rfl
@[simp] theorem auL (w:Option Nat):Pm P s w .append ats [x,y]=bnd ats[0]? fun t=>bnd ats[1]? fun t1=>grd (Du P t1=true) (bnd (P.underlying t) fun ds=>bnd (iN ds) fun e=>bnd (nI s y) fun new=>xX P s w e new x):=id rfl
@[simp] theorem auM (w:Option Nat):xX P s w n rows .nil=grd (lD P n rows.length=true∧wid (P.cellsOf n) rows=true) (bnd w fun t=>grd (fresh s t=true) (some ⟨.own t,s.box,(t,rows)::s.tree,[],[]⟩)):=id rfl
@[simp] theorem auN (w:Option Nat):xX P s w n rows (.own p)=bnd (look p s.tree) fun rs=>grd (lD P n (rs.length+rows.length)=true∧wid (P.cellsOf n) rs=true∧wid (P.cellsOf n) rows=true) (bnd w fun t=>grd (fresh s t=true) (some ⟨.own t,oK p s.box,(t,rs++rows)::drop1 p s.tree,[p],[]⟩)):=id rfl
@[simp] theorem auO (z:Builtin)(ar:Array Operand)(at_:Array TypeId):isApp (.call ⟨.builtin z,ar,at_⟩)=true:=id rfl
@[simp] theorem auP (ar:Array Operand)(at_:Array TypeId):isApp (.call ⟨.value o,ar,at_⟩)=false:=id rfl
@[simp] theorem auQ:isApp (.store n o o1)=false:=id rfl
@[simp] theorem auR (ps:Array (Nat×Operand)):isApp (.buildSlice n m ps)=false:=id rfl
@[simp] theorem auS:Dw [] x=true:=id rfl
@[simp] theorem auT (ks:List Nat):Dw (p::ks) x=(!aM p x&&Dw ks x):=id rfl
@[simp] theorem auU (ks:List Nat):mq ks s (.tmp n)=match look n s.env with|some v=>Dw ks v|none=>true:=id rfl
@[simp] theorem auV (ks:List Nat)(z:Value):mq ks s (.const z)=true:=id rfl
@[simp] theorem auW (ks:List Nat)(z:FuncId):mq ks s (.func z)=true:=id rfl
@[simp] theorem auX (ks:List Nat):eO ks s (.alloc n)=true:=by simp [eO,Op.operands,Call.operands]
@[simp] theorem auY (ks:List Nat):eO ks s (.move o)=mq ks s o:=by simp [eO,Op.operands,Call.operands]
@[simp] theorem auZ (ks:List Nat):eO ks s (.assign o)=mq ks s o:=by simp [eO,Op.operands,Call.operands]
@[simp] theorem au0 (ks:List Nat):eO ks s (.box n o)=mq ks s o:=by simp [eO,Op.operands,Call.operands]
@[simp] theorem au1 (ks:List Nat):eO ks s (.load n o)=mq ks s o:=by simp [eO,Op.operands,Call.operands]
@[simp] theorem au2 (ks:List Nat):eO ks s (.nilCheck o)=mq ks s o:=by simp [eO,Op.operands,Call.operands]
@[simp] theorem au3 (ks:List Nat):eO ks s (.fieldAddr n o m)=mq ks s o:=by simp [eO,Op.operands,Call.operands]
@[simp] theorem au4 (ks:List Nat):eO ks s (.field n o m)=mq ks s o:=by simp [eO,Op.operands,Call.operands]
@[simp] theorem au5 (ks:List Nat):eO ks s (.extract o n)=mq ks s o:=by simp [eO,Op.operands,Call.operands]
@[simp] theorem au6 (ks:List Nat)(z:UnOp):eO ks s (.unOp z n o)=mq ks s o:=by simp [eO,Op.operands,Call.operands]
@[simp] theorem au7 (ks:List Nat)(o2:Operand):eO ks s (.pick o o1 o2)=(mq ks s o&&(mq ks s o1&&mq ks s o2)):=by simp [eO,Op.operands,Call.operands]
@[simp] theorem au8 (ks:List Nat)(z:BinOp):eO ks s (.binOp z n o o1 m)=(mq ks s o&&mq ks s o1):=by simp [eO,Op.operands,Call.operands]
@[simp] theorem au9 (ks:List Nat):eO ks s (.indexAddr n o o1)=(mq ks s o&&mq ks s o1):=by simp [eO,Op.operands,Call.operands]
@[simp] theorem ava (ks:List Nat):eO ks s (.index n o o1)=(mq ks s o&&mq ks s o1):=by simp [eO,Op.operands,Call.operands]
@[simp] theorem avb (ks:List Nat):eO ks s (.slice n o none none none)=mq ks s o:=by simp [eO,Op.operands,Call.operands]
@[simp] theorem avc (ks:List Nat):eO ks s (.slice n o (some o1) none none)=(mq ks s o&&mq ks s o1):=by simp [eO,Op.operands,Call.operands]
@[simp] theorem avd (ks:List Nat):eO ks s (.slice n o none (some o1) none)=(mq ks s o&&mq ks s o1):=by simp [eO,Op.operands,Call.operands]
@[simp] theorem ave (ks:List Nat)(o2:Operand):eO ks s (.slice n o (some o1) (some o2) none)=(mq ks s o&&(mq ks s o1&&mq ks s o2)):=by simp [eO,Op.operands,Call.operands]
@[simp] theorem avf (ks:List Nat)(ps:Array (Nat×Operand)):eO ks s (.buildSlice n m ps)=(ps.toList.all fun x=>mq ks s x.2):=by simp [eO,Op.operands,List.all_map,Function.comp_def]
@[simp] theorem avg (ks:List Nat)(ps:Array (Nat×Operand)):eO ks s (.build n ps)=(ps.toList.all fun x=>mq ks s x.2):=by simp [eO,Op.operands,List.all_map,Function.comp_def]
@[simp] theorem avh (ks:List Nat)(z:Builtin)(ar:Array Operand)(at_:Array TypeId):eO ks s (.call ⟨.builtin z,ar,at_⟩)=(ar.toList.all fun x=>mq ks s x):=by simp [eO,Op.operands,Call.operands]
@[simp] theorem avi (ks:List Nat)(ar:Array Operand)(at_:Array TypeId):eO ks s (.call ⟨.value o,ar,at_⟩)=(mq ks s o&&ar.toList.all fun x=>mq ks s x):=by simp [eO,Op.operands,Call.operands]
@[simp] theorem avj (ks:List Nat)(os:Array Oper):Da os s ks []=some ():=id rfl
@[simp] theorem avk (ks:List Nat)(os:Array Oper)(l:List Nat):Da os s ks (n::l)=bnd os[n]? fun o=>bnd o.dst fun d=>bnd (look d s.env) fun v=>grd ((Dw ks v&&eO ks s o.op)=true) (Da os s ks l):=id rfl
@[simp] theorem avl:Dv s x (.ref n m)=bnd (look n s.box) fun cs=>grd (m+x.cells.length≤cs.length∧x.cells.all V.one=true) (some ⟨.fK [],upd n (setAt cs m x.cells) s.box,s.tree,[],[]⟩):=id rfl
@[simp] theorem avm (M:aN):Nv M s d vs=bnd (vT s ⟨[],[],[]⟩ vs) fun x=>bnd (mU s x.2 x.2.box) fun y=>grd ((y.2.tree.isEmpty&&Mt y.2 y.1.length)=true) (bnd (M x.1 y.1 []) fun r=>bnd (iO y.2 d y.2.box r.box s) fun s=>bnd (jP y.2 d r.tree s) fun s=>bnd (nO y.2 d r.val) fun v=>some ⟨v,s.box,s.tree,[],[]⟩):=id rfl
@[simp] theorem avn (l li:List Nat)(tt:List (Nat×List (List D)))(bb:List (Nat×List V))(e:List (Nat×V))(b:List (Nat×List V))(t f:List (Nat×List (List D))):S.iB ⟨e,b,t,f⟩ none ⟨x,bb,tt,l,li⟩=⟨FZ li (qC l e),bb,tt,f⟩:=id rfl
@[simp] theorem avo (l li:List Nat)(tt:List (Nat×List (List D)))(bb:List (Nat×List V))(e:List (Nat×V))(b:List (Nat×List V))(t f:List (Nat×List (List D))):S.iB ⟨e,b,t,f⟩ (some d) ⟨x,bb,tt,l,li⟩=⟨put d x (FZ li (qC l e)),bb,tt,f⟩:=id rfl
@[simp] theorem avp (s0:S)(os:Array Oper):oM P os s0 s []=some ():=id rfl
@[simp] theorem avq (s0:S)(os:Array Oper)(l:List Nat):oM P os s0 s (n::l)=bnd os[n]? fun o=>bnd o.dst fun d=>bnd (look d s.env) fun v=>bnd (je P s o.op) fun u=>Bc u v (bnd (look d s0.env) fun v0=>Bc v0 v (oM P os s0 s l)):=id rfl
@[simp] theorem avr (e:List (Nat×V)):qC [] e=e:=id rfl
@[simp] theorem avs (e:List (Nat×V)):FZ [] e=e:=id rfl
@[simp] theorem avt (l:List Nat)(e:List (Nat×V)):FZ (n::l) e=FZ l (OA n e):=id rfl
@[simp] theorem avu (l:List Nat)(e:List (Nat×V)):qC (n::l) e=qC l (zU n e):=id rfl
@[simp] theorem avv:KV []= []:=id rfl
@[simp] theorem avw (l:List V):KV (x::l)=owns x.cells++KV l:=id rfl
@[simp] theorem avx:owns []= []:=id rfl
@[simp] theorem avy (l:List V):owns (.own p::l)=p::owns l:=id rfl
@[simp] theorem avz (l:List V)  :owns (.nil::l)=owns l:=id rfl
@[simp] theorem avA (l:List V)(w:Option Nat):owns (.aP w rows::l)=owns l:=id rfl
@[simp] theorem avB (l:List V)  :owns (.fz rows::l)=owns l:=id rfl
@[simp] theorem avC (l:List V)(z:Value):owns (.v z::l)=owns l:=id rfl
@[simp] theorem avD (l:List V)  :owns (.ref n m::l)=owns l:=id rfl
@[simp] theorem avE (l:List V)  :owns (.inn p n m q::l)=owns l:=id rfl
@[simp] theorem avF (l:List V)  :owns (.agg vs::l)=owns l:=id rfl
@[simp] theorem avG (l:List V)  :owns (.fK vs::l)=owns l:=id rfl
@[simp] theorem avH (w:Option Nat):OX w vs (rows,s)=bnd w fun t=>grd (fresh s t=true) (some ⟨.own t,s.box,(t,rows)::s.tree,KV vs,[]⟩):=id rfl
@[simp] theorem avI (w:Option Nat)(ps:Array (Nat×Operand)):sD P G s w (.buildSlice n m ps)=bnd (P.underlying n) fun dd=>bnd (iN dd) fun e=>bnd (bG (pE s) ps.toList) fun vs=>grd ((iA P e&&decide (m*P.cellsOf e≤16777216)&&upto 0 m (vs.map (·.1))&&vs.all fun v=>decide (v.2.cells.length=P.cellsOf e)&&v.2.cells.all V.one)=true) (bnd (kG s (vs.map (·.2))) fun x=>OX w (vs.map (·.2)) x):=id rfl
@[simp] theorem avJ (first:Array Operand):fnV vs first (.func n)=grd (first.isEmpty=true) (some (.fn n vs)):=id rfl
@[simp] theorem avK (dst:Option Nat)(z:Fn)(first ps:Array Operand):iJ P G s dst (.makeFunc z first ps)=bnd (bG s.ev ps.toList) fun vs=>bnd (fnV vs first z) fun v=>some (s.put dst v):=id rfl
@[simp] theorem avL (z:Fn)(first ps:Array Operand):je P s (.makeFunc z first ps)=bnd (bG s.ev ps.toList) fun vs=>fnV vs first z:=id rfl
@[simp] theorem avM:je P s (.move o)=s.ev o:=id rfl
@[simp] theorem avN:je P s (.assign o)=s.ev o:=id rfl
@[simp] theorem avO:je P s (.load n o)=bnd (s.ev o) fun p=>s.load P n p:=id rfl
@[simp] theorem avP:je P s (.nilCheck o)=bnd (s.ev o) fun v=>Nt v:=id rfl
@[simp] theorem avQ:je P s (.fieldAddr n o m)=bnd (s.ev o) fun x=>bnd (bZ P n m) fun f=>xU x f.1:=id rfl
@[simp] theorem avR:je P s (.extract o n)=bnd (s.ev o) fun x=>Ph n x:=id rfl
@[simp] theorem avS (z:BinOp):je P s (.binOp z n o o1 m)=bnd (s.ev o) fun x=>bnd (s.ev o1) fun y=>bin P n z x y:=id rfl
@[simp] theorem avT (z:UnOp):je P s (.unOp z n o)=bnd (s.ev o) fun x=>un z x:=id rfl
@[simp] theorem avU:je P s (.field n o m)=bnd (s.ev o) fun x=>bnd (Ta x) fun cs=>bnd (bZ P n m) fun f=>bnd (pz P f.2) fun g=>span cs f.1 (P.cellsOf f.2) g:=id rfl
@[simp] theorem avV:je P s (.indexAddr n o o1)=bnd (s.ev o) fun x=>bnd (s.ev o1) fun i=>bnd (idxOf i) fun i=>bnd (mE P n) fun e=>lK P s x i e.1 e.2:=id rfl
@[simp] theorem avW:je P s (.index n o o1)=bnd (s.ev o) fun x=>bnd (s.ev o1) fun i=>bnd (idxOf i) fun i=>Gh P n x i:=id rfl
@[simp] theorem avX (dst:Option Nat):iJ P G s dst (.lookup n o o1 true)=bnd (s.ev o) fun m=>bnd (s.ev o1) fun k=>bnd (acF m) fun es=>bnd (Tc k) fun a=>bnd (OB P n) fun z=>some (s.put dst (Mw z (rT a es))):=id rfl
@[simp] theorem avY (em:List (Int×Int)):acF (.mp em)=some em:=id rfl
@[simp] theorem avZ (a:Int):Tc (.v (.int .i64 a))=some a:=id rfl
@[simp] theorem av0 (a:Int):rT a []=none:=id rfl
@[simp] theorem av1 (a b z:Int)(em:List (Int×Int)):rT a ((b,z)::em)=if a=b then some z else rT a em:=id rfl
@[simp] theorem av2 (z a:Int):Mw z (some a)= .fK [.v (.int .i64 a), .v (.bool true)]:=id rfl
@[simp] theorem av3 (z:Int):Mw z none= .fK [.v (.int .i64 z), .v (.bool false)]:=id rfl
@[simp] theorem av4:C9 []=true:=id rfl
@[simp] theorem av5 (a z:Int)(em:List (Int×Int)):C9 ((a,z)::em)=((rT a em).isNone&&C9 em):=id rfl
@[simp] theorem av6 (tt:TypeId)(pp:String)(af:Array Edge)(r:List Oper):Pk (⟨some d, .makeMap n none,tt,pp,af,none⟩::r)=some (n,d,(pF n d r []).1,(pF n d r []).2):=id rfl
@[simp] theorem av7 (em:List (Int×Int)):pF n d [] em=(em,[]):=id rfl
@[simp] theorem av8 (a z:Int)(em:List (Int×Int))(tt:TypeId)(pp:String)(af:Array Edge)(r:List Oper):pF n d (⟨none, .insert m (.tmp p) (.const (.int .i64 a)) (.const (.int .i64 z)),tt,pp,af,none⟩::r) em=if m=n∧p=d then pF n d r (em++ [(a,z)])else(em,⟨none, .insert m (.tmp p) (.const (.int .i64 a)) (.const (.int .i64 z)),tt,pp,af,none⟩::r):=by simp only [pF,Nu];split<;>rfl
@[simp] theorem av9 (op:Op)(gu:Option (Nat×Bool))(em:List (Int×Int))(tt:TypeId)(pp:String)(af:Array Edge)(r:List Oper):pF n d (⟨some p,op,tt,pp,af,gu⟩::r) em=(em,⟨some p,op,tt,pp,af,gu⟩::r):=by simp only [pF,Nu];rfl
@[simp] theorem awc (e:List (Nat×V))(b:List (Nat×List V))(t f:List (Nat×List (List D)))(em:List (Int×Int)):S.OW ⟨e,b,t,f⟩ d em=⟨put d (.mp em) e,b,t,(d,[])::f⟩:=id rfl
@[simp] theorem awd (z:BinOp):bin P n z (.agg vs) (.agg ws)=bnd (eqT P n) fun m=>grd (vs.length=m) (bnd (CZ vs ws) fun g=>aej g z):=id rfl
@[simp] theorem awe (g:Bool):aej g .eql=some (.v (.bool g)):=id rfl
@[simp] theorem awf (g:Bool):aej g .neq=some (.v (.bool !g)):=id rfl
@[simp] theorem awg:CZ [] []=some true:=id rfl
@[simp] theorem awh (a b:Int):CZ (.v (.int .i64 a)::vs) (.v (.int .i64 b)::ws)=bnd (CZ vs ws) fun g=>some (a==b&&g):=id rfl
@[simp] theorem awi (c:Call):je P s (.call c)=bnd (bG s.ev c.args.toList) fun vs=>KU vs c.callee:=id rfl
@[simp] theorem awj (z:Builtin):KU vs (.builtin z)=KT z vs:=id rfl
@[simp] theorem awk (a b:Int):KT .max [.v (.int .i64 a), .v (.int .i64 b)]=some (.v (.int .i64 (max a b))):=id rfl
@[simp] theorem awl (a b:Int):KT .min [.v (.int .i64 a), .v (.int .i64 b)]=some (.v (.int .i64 (min a b))):=id rfl
@[simp] theorem awm (w:Option Nat):xX P s w n rows (.inn p m q kk)=bnd (s.rows (.inn p m q kk)) fun rs0=>grd (lD P n (rs0.length+rows.length)=true∧wid (P.cellsOf n) rs0=true∧wid (P.cellsOf n) rows=true) (bnd (look p s.tree) fun rs=>bnd rs[m]? fun r=>grd (¬(1000000000≤p∧p<2000000000)) (bnd w fun t=>grd (fresh s t=true) (some ⟨.own t,Gi p s.box,(t,rs0++rows)::upd p (rs.set m (r.set q .gone)) s.tree,[],[p]⟩))):=id rfl
@[simp] theorem awn (os:Array Oper)(w:Option Nat)(l ks:List Nat)(b:List (Nat×List V))(tt:List (Nat×List (List D))):MB P os s w l ⟨x,b,tt,ks,[]⟩=Bc b s.box (bnd (Da os s ks l) fun _=>some (s.iB w ⟨x,b,tt,ks,[]⟩)):=id rfl
@[simp] theorem awo (os:Array Oper)(w:Option Nat)(l ks r:List Nat)(b:List (Nat×List V))(tt:List (Nat×List (List D))):MB P os s w l ⟨x,b,tt,ks,n::r⟩=grd (J6 os l=true) (bnd (oM P os s (s.iB w ⟨x,b,tt,ks,n::r⟩) l) fun _=>some (s.iB w ⟨x,b,tt,ks,n::r⟩)):=id rfl
@[simp] theorem awp (os:Array Oper):J6 os []=true:=id rfl
@[simp] theorem awq (os:Array Oper)(l:List Nat):J6 os (n::l)=(aeo os[n]?&&J6 os l):=id rfl
@[simp] theorem awr (w:Option Nat)(op:Op)(tt:TypeId)(pp:String)(af:Array Edge)(gu:Option (Nat×Bool)):aeo (some ⟨w,op,tt,pp,af,gu⟩)=isVal op:=id rfl
@[simp] theorem awt:isVal (.move o)=true:=id rfl
@[simp] theorem awu:isVal (.load n o)=true:=id rfl
@[simp] theorem awv:isVal (.fieldAddr n o m)=true:=id rfl
@[simp] theorem aww:isVal (.indexAddr n o o1)=true:=id rfl
@[simp] theorem awx:isVal (.extract o n)=true:=id rfl
@[simp] theorem awy:isVal (.field n o m)=true:=id rfl
@[simp] theorem awz:isVal (.index n o o1)=true:=id rfl
@[simp] theorem awC (z:BinOp):isVal (.binOp z n o o1 m)=true:=id rfl
@[simp] theorem awD (z:UnOp):isVal (.unOp z n o)=true:=id rfl
@[simp] theorem awE:Dv s x (.pe (.own q) kk p m)=Az s q kk p m x.atom:=id rfl
@[simp] theorem awF:Az s q kk p m none=none:=id rfl
@[simp] theorem awG (d1:D):Az s q kk p m (some d1)=bnd (look q s.tree) fun rs=>bnd rs[p]? fun r=>bnd r[m]? fun d0=>grd (r.length=kk∧sF d0=true∧A9 d1=true) (some ⟨.fK [],s.box,upd q (rs.set p (r.set m d1)) s.tree,[],[]⟩):=id rfl
end
@[simp] theorem ts3:eF prog 3=true:=aW (by kernel_rfl)
@[simp] theorem to3:iA prog 3=true:=aW (by kernel_rfl)
@[simp] theorem tc3:prog.cellsOf 3=1:=aW (by kernel_rfl)
@[simp] theorem tb3:prog.bytesOf 3=8:=aW (by kernel_rfl)
@[simp] theorem ta3:pz prog 3=some false:=aW (by kernel_rfl)
@[simp] theorem tz3:jM prog 3=some [.v (.int .i64 0)]:=aW (by kernel_rfl)
@[simp] theorem ts4:eF prog 4=true:=aW (by kernel_rfl)
@[simp] theorem to4:iA prog 4=true:=aW (by kernel_rfl)
@[simp] theorem tc4:prog.cellsOf 4=1:=aW (by kernel_rfl)
@[simp] theorem tb4:prog.bytesOf 4=1:=aW (by kernel_rfl)
@[simp] theorem ta4:pz prog 4=some false:=aW (by kernel_rfl)
@[simp] theorem tz4:jM prog 4=some [.v (.bool false)]:=aW (by kernel_rfl)
@[simp] theorem ts5:eF prog 5=true:=aW (by kernel_rfl)
@[simp] theorem to5:iA prog 5=true:=aW (by kernel_rfl)
@[simp] theorem tc5:prog.cellsOf 5=1:=aW (by kernel_rfl)
@[simp] theorem tb5:prog.bytesOf 5=1:=aW (by kernel_rfl)
@[simp] theorem ta5:pz prog 5=some false:=aW (by kernel_rfl)
@[simp] theorem tz5:jM prog 5=some [.v (.int .u8 0)]:=aW (by kernel_rfl)
@[simp] theorem ts9:eF prog 9=true:=aW (by kernel_rfl)
@[simp] theorem to9:iA prog 9=true:=aW (by kernel_rfl)
@[simp] theorem tc9:prog.cellsOf 9=1:=aW (by kernel_rfl)
@[simp] theorem tb9:prog.bytesOf 9=16:=aW (by kernel_rfl)
@[simp] theorem ta9:pz prog 9=some false:=aW (by kernel_rfl)
@[simp] theorem tz9:jM prog 9=some [.v (.string ⟨#[]⟩)]:=aW (by kernel_rfl)
@[simp] theorem tw9:Du prog 9=true:=aW (by kernel_rfl)
@[simp] theorem tx9:ZC prog 9=true:=aW (by kernel_rfl)
@[simp] theorem awH:eF prog 22=true:=aW (by kernel_rfl)
@[simp] theorem awI:iA prog 22=true:=aW (by kernel_rfl)
@[simp] theorem awJ:prog.cellsOf 22=1:=aW (by kernel_rfl)
@[simp] theorem awK:prog.bytesOf 22=24:=aW (by kernel_rfl)
@[simp] theorem awL:pz prog 22=some false:=aW (by kernel_rfl)
@[simp] theorem awM:jM prog 22=some [.nil]:=aW (by kernel_rfl)
@[simp] theorem awN:mE prog 22=some (5,none):=aW (by kernel_rfl)
@[simp] theorem awO:Du prog 22=true:=aW (by kernel_rfl)
@[simp] theorem awP:zN prog 22=true:=aW (by kernel_rfl)
@[simp] theorem awQ:eF prog 23=true:=aW (by kernel_rfl)
@[simp] theorem awR:iA prog 23=true:=aW (by kernel_rfl)
@[simp] theorem awS:prog.cellsOf 23=1:=aW (by kernel_rfl)
@[simp] theorem awT:prog.bytesOf 23=24:=aW (by kernel_rfl)
@[simp] theorem awU:pz prog 23=some false:=aW (by kernel_rfl)
@[simp] theorem awV:jM prog 23=some [.nil]:=aW (by kernel_rfl)
@[simp] theorem awW:mE prog 23=some (3,none):=aW (by kernel_rfl)
@[simp] theorem awX:Du prog 23=true:=aW (by kernel_rfl)
@[simp] theorem awY:zN prog 23=true:=aW (by kernel_rfl)
@[simp] theorem awZ:eF prog 25=true:=aW (by kernel_rfl)
@[simp] theorem aw0:iA prog 25=true:=aW (by kernel_rfl)
@[simp] theorem aw1:prog.cellsOf 25=2:=aW (by kernel_rfl)
@[simp] theorem aw2:prog.bytesOf 25=32:=aW (by kernel_rfl)
@[simp] theorem aw3:pz prog 25=some true:=aW (by kernel_rfl)
@[simp] theorem aw4:jM prog 25=some [.nil, .v (.int .i64 0)]:=aW (by kernel_rfl)
@[simp] theorem aw5:jm prog 25=true:=aW (by kernel_rfl)
@[simp] theorem ajA:bZ prog 25 0=some (0,23):=aW (by kernel_rfl)
@[simp] theorem ajB:bZ prog 25 1=some (1,3):=aW (by kernel_rfl)
@[simp] theorem aw6:eF prog 26=true:=aW (by kernel_rfl)
@[simp] theorem aw7:iA prog 26=true:=aW (by kernel_rfl)
@[simp] theorem aw8:prog.cellsOf 26=1:=aW (by kernel_rfl)
@[simp] theorem aw9:prog.bytesOf 26=24:=aW (by kernel_rfl)
@[simp] theorem axa:pz prog 26=some false:=aW (by kernel_rfl)
@[simp] theorem axb:jM prog 26=some [.nil]:=aW (by kernel_rfl)
@[simp] theorem axc:mE prog 26=some (142,none):=aW (by kernel_rfl)
@[simp] theorem axd:Du prog 26=true:=aW (by kernel_rfl)
@[simp] theorem axe:zN prog 26=true:=aW (by kernel_rfl)
@[simp] theorem axf:eF prog 28=true:=aW (by kernel_rfl)
@[simp] theorem axg:iA prog 28=true:=aW (by kernel_rfl)
@[simp] theorem axh:prog.cellsOf 28=1:=aW (by kernel_rfl)
@[simp] theorem axi:prog.bytesOf 28=24:=aW (by kernel_rfl)
@[simp] theorem axj:pz prog 28=some true:=aW (by kernel_rfl)
@[simp] theorem axk:jM prog 28=some [.nil]:=aW (by kernel_rfl)
@[simp] theorem axl:jm prog 28=true:=aW (by kernel_rfl)
@[simp] theorem ajC:bZ prog 28 0=some (0,26):=aW (by kernel_rfl)
@[simp] theorem axn:eF prog 29=true:=aW (by kernel_rfl)
@[simp] theorem axo:iA prog 29=true:=aW (by kernel_rfl)
@[simp] theorem axp:prog.cellsOf 29=1:=aW (by kernel_rfl)
@[simp] theorem axq:prog.bytesOf 29=24:=aW (by kernel_rfl)
@[simp] theorem axr:pz prog 29=some false:=aW (by kernel_rfl)
@[simp] theorem axt:jM prog 29=some [.nil]:=aW (by kernel_rfl)
@[simp] theorem axu:mE prog 29=some (25,none):=aW (by kernel_rfl)
@[simp] theorem axv:Du prog 29=true:=aW (by kernel_rfl)
@[simp] theorem axw:zN prog 29=true:=aW (by kernel_rfl)
@[simp] theorem axx:eF prog 31=true:=aW (by kernel_rfl)
@[simp] theorem axy:iA prog 31=true:=aW (by kernel_rfl)
@[simp] theorem axz:prog.cellsOf 31=1:=aW (by kernel_rfl)
@[simp] theorem axA:prog.bytesOf 31=24:=aW (by kernel_rfl)
@[simp] theorem axB:pz prog 31=some true:=aW (by kernel_rfl)
@[simp] theorem axC:jM prog 31=some [.nil]:=aW (by kernel_rfl)
@[simp] theorem axD:jm prog 31=true:=aW (by kernel_rfl)
@[simp] theorem ajD:bZ prog 31 0=some (0,29):=aW (by kernel_rfl)
@[simp] theorem axE:eF prog 33=true:=aW (by kernel_rfl)
@[simp] theorem axF:iA prog 33=true:=aW (by kernel_rfl)
@[simp] theorem axG:prog.cellsOf 33=20:=aW (by kernel_rfl)
@[simp] theorem axH:prog.bytesOf 33=256:=aW (by kernel_rfl)
@[simp] theorem axI:pz prog 33=some true:=aW (by kernel_rfl)
@[simp] theorem axJ:jM prog 33=some [.v (.bool false), .v (.int .i64 0), .nil, .v (.int .i64 0), .v (.int .i64 0), .v (.int .i64 0), .v (.int .i64 0), .v (.int .i64 0), .v (.int .i64 0), .v (.int .i64 0), .v (.int .i64 0), .nil, .nil, .v (.int .i64 0), .nil, .v (.int .i64 0), .nil, .v (.int .i64 0), .nil, .v (.int .i64 0)]:=aW (by kernel_rfl)
@[simp] theorem axK:jm prog 33=true:=aW (by kernel_rfl)
@[simp] theorem ajE:bZ prog 33 0=some (0,4):=aW (by kernel_rfl)
@[simp] theorem ajF:bZ prog 33 1=some (1,3):=aW (by kernel_rfl)
@[simp] theorem ajG:bZ prog 33 2=some (2,25):=aW (by kernel_rfl)
@[simp] theorem ajH:bZ prog 33 3=some (4,3):=aW (by kernel_rfl)
@[simp] theorem ajI:bZ prog 33 4=some (5,3):=aW (by kernel_rfl)
@[simp] theorem ajJ:bZ prog 33 5=some (6,3):=aW (by kernel_rfl)
@[simp] theorem ajK:bZ prog 33 6=some (7,3):=aW (by kernel_rfl)
@[simp] theorem ajL:bZ prog 33 7=some (8,3):=aW (by kernel_rfl)
@[simp] theorem ajM:bZ prog 33 8=some (9,3):=aW (by kernel_rfl)
@[simp] theorem ajN:bZ prog 33 9=some (10,3):=aW (by kernel_rfl)
@[simp] theorem aje:bZ prog 33 10=some (11,28):=aW (by kernel_rfl)
@[simp] theorem ajf:bZ prog 33 11=some (12,31):=aW (by kernel_rfl)
@[simp] theorem ajg:bZ prog 33 12=some (13,3):=aW (by kernel_rfl)
@[simp] theorem ajh:bZ prog 33 13=some (14,25):=aW (by kernel_rfl)
@[simp] theorem aji:bZ prog 33 14=some (16,23):=aW (by kernel_rfl)
@[simp] theorem ajj:bZ prog 33 15=some (17,3):=aW (by kernel_rfl)
@[simp] theorem ajk:bZ prog 33 16=some (18,25):=aW (by kernel_rfl)
@[simp] theorem axL:eF prog 34=true:=aW (by kernel_rfl)
@[simp] theorem axM:iA prog 34=true:=aW (by kernel_rfl)
@[simp] theorem axN:prog.cellsOf 34=1:=aW (by kernel_rfl)
@[simp] theorem axO:prog.bytesOf 34=24:=aW (by kernel_rfl)
@[simp] theorem axP:pz prog 34=some false:=aW (by kernel_rfl)
@[simp] theorem axQ:jM prog 34=some [.nil]:=aW (by kernel_rfl)
@[simp] theorem axR:mE prog 34=some (9,none):=aW (by kernel_rfl)
@[simp] theorem axS:Du prog 34=true:=aW (by kernel_rfl)
@[simp] theorem axT:zN prog 34=true:=aW (by kernel_rfl)
@[simp] theorem axU:eF prog 36=true:=aW (by kernel_rfl)
@[simp] theorem axV:iA prog 36=true:=aW (by kernel_rfl)
@[simp] theorem axW:prog.cellsOf 36=2:=aW (by kernel_rfl)
@[simp] theorem axX:prog.bytesOf 36=32:=aW (by kernel_rfl)
@[simp] theorem axY:pz prog 36=some true:=aW (by kernel_rfl)
@[simp] theorem axZ:jM prog 36=some [.v (.int .i64 0), .nil]:=aW (by kernel_rfl)
@[simp] theorem ax0:jm prog 36=true:=aW (by kernel_rfl)
@[simp] theorem ajO:bZ prog 36 0=some (0,3):=aW (by kernel_rfl)
@[simp] theorem ajP:bZ prog 36 1=some (1,34):=aW (by kernel_rfl)
@[simp] theorem ax1:eF prog 38=true:=aW (by kernel_rfl)
@[simp] theorem ax2:iA prog 38=true:=aW (by kernel_rfl)
@[simp] theorem ax3:prog.cellsOf 38=2:=aW (by kernel_rfl)
@[simp] theorem ax4:prog.bytesOf 38=16:=aW (by kernel_rfl)
@[simp] theorem ax5:pz prog 38=some true:=aW (by kernel_rfl)
@[simp] theorem ax6:jM prog 38=some [.v (.int .i64 0), .v (.int .i64 0)]:=aW (by kernel_rfl)
@[simp] theorem ax7:eqT prog 38=some 2:=aW (by kernel_rfl)
@[simp] theorem ax8:jm prog 38=true:=aW (by kernel_rfl)
@[simp] theorem ajQ:bZ prog 38 0=some (0,3):=aW (by kernel_rfl)
@[simp] theorem ajR:bZ prog 38 1=some (1,3):=aW (by kernel_rfl)
@[simp] theorem ax9:eF prog 45=true:=aW (by kernel_rfl)
@[simp] theorem aya:iA prog 45=true:=aW (by kernel_rfl)
@[simp] theorem ayb:prog.cellsOf 45=2:=aW (by kernel_rfl)
@[simp] theorem ayc:prog.bytesOf 45=32:=aW (by kernel_rfl)
@[simp] theorem ayd:pz prog 45=some true:=aW (by kernel_rfl)
@[simp] theorem aye:jM prog 45=some [.nil, .v (.int .i64 0)]:=aW (by kernel_rfl)
@[simp] theorem ayf:jm prog 45=true:=aW (by kernel_rfl)
@[simp] theorem ajS:bZ prog 45 0=some (0,23):=aW (by kernel_rfl)
@[simp] theorem ajT:bZ prog 45 1=some (1,3):=aW (by kernel_rfl)
@[simp] theorem ayg:eF prog 46=true:=aW (by kernel_rfl)
@[simp] theorem ayh:iA prog 46=true:=aW (by kernel_rfl)
@[simp] theorem ayi:prog.cellsOf 46=1:=aW (by kernel_rfl)
@[simp] theorem ayj:prog.bytesOf 46=24:=aW (by kernel_rfl)
@[simp] theorem ayk:pz prog 46=some false:=aW (by kernel_rfl)
@[simp] theorem ayl:jM prog 46=some [.nil]:=aW (by kernel_rfl)
@[simp] theorem aym:mE prog 46=some (183,none):=aW (by kernel_rfl)
@[simp] theorem ayn:Du prog 46=true:=aW (by kernel_rfl)
@[simp] theorem ayo:zN prog 46=true:=aW (by kernel_rfl)
@[simp] theorem ayp:eF prog 48=true:=aW (by kernel_rfl)
@[simp] theorem ayq:iA prog 48=true:=aW (by kernel_rfl)
@[simp] theorem ayr:prog.cellsOf 48=1:=aW (by kernel_rfl)
@[simp] theorem ays:prog.bytesOf 48=24:=aW (by kernel_rfl)
@[simp] theorem ayt:pz prog 48=some true:=aW (by kernel_rfl)
@[simp] theorem ayu:jM prog 48=some [.nil]:=aW (by kernel_rfl)
@[simp] theorem ayv:jm prog 48=true:=aW (by kernel_rfl)
@[simp] theorem ajU:bZ prog 48 0=some (0,46):=aW (by kernel_rfl)
@[simp] theorem ayw:eF prog 49=true:=aW (by kernel_rfl)
@[simp] theorem ayx:iA prog 49=true:=aW (by kernel_rfl)
@[simp] theorem ayy:prog.cellsOf 49=1:=aW (by kernel_rfl)
@[simp] theorem ayz:prog.bytesOf 49=24:=aW (by kernel_rfl)
@[simp] theorem ayA:pz prog 49=some false:=aW (by kernel_rfl)
@[simp] theorem ayB:jM prog 49=some [.nil]:=aW (by kernel_rfl)
@[simp] theorem ayC:mE prog 49=some (45,none):=aW (by kernel_rfl)
@[simp] theorem ayD:Du prog 49=true:=aW (by kernel_rfl)
@[simp] theorem ayE:zN prog 49=true:=aW (by kernel_rfl)
@[simp] theorem ayF:eF prog 51=true:=aW (by kernel_rfl)
@[simp] theorem ayG:iA prog 51=true:=aW (by kernel_rfl)
@[simp] theorem ayH:prog.cellsOf 51=1:=aW (by kernel_rfl)
@[simp] theorem ayI:prog.bytesOf 51=24:=aW (by kernel_rfl)
@[simp] theorem ayJ:pz prog 51=some true:=aW (by kernel_rfl)
@[simp] theorem ayK:jM prog 51=some [.nil]:=aW (by kernel_rfl)
@[simp] theorem ayL:jm prog 51=true:=aW (by kernel_rfl)
@[simp] theorem ajV:bZ prog 51 0=some (0,49):=aW (by kernel_rfl)
@[simp] theorem ayM:eF prog 53=true:=aW (by kernel_rfl)
@[simp] theorem ayN:iA prog 53=true:=aW (by kernel_rfl)
@[simp] theorem ayO:prog.cellsOf 53=20:=aW (by kernel_rfl)
@[simp] theorem ayP:prog.bytesOf 53=256:=aW (by kernel_rfl)
@[simp] theorem ayQ:pz prog 53=some true:=aW (by kernel_rfl)
@[simp] theorem ayR:jM prog 53=some [.v (.bool false), .v (.int .i64 0), .nil, .v (.int .i64 0), .v (.int .i64 0), .v (.int .i64 0), .v (.int .i64 0), .v (.int .i64 0), .v (.int .i64 0), .v (.int .i64 0), .v (.int .i64 0), .nil, .nil, .v (.int .i64 0), .nil, .v (.int .i64 0), .nil, .v (.int .i64 0), .nil, .v (.int .i64 0)]:=aW (by kernel_rfl)
@[simp] theorem ayS:jm prog 53=true:=aW (by kernel_rfl)
@[simp] theorem ajW:bZ prog 53 0=some (0,4):=aW (by kernel_rfl)
@[simp] theorem ajX:bZ prog 53 1=some (1,3):=aW (by kernel_rfl)
@[simp] theorem ajY:bZ prog 53 2=some (2,45):=aW (by kernel_rfl)
@[simp] theorem ajZ:bZ prog 53 3=some (4,3):=aW (by kernel_rfl)
@[simp] theorem aj0:bZ prog 53 4=some (5,3):=aW (by kernel_rfl)
@[simp] theorem aj1:bZ prog 53 5=some (6,3):=aW (by kernel_rfl)
@[simp] theorem aj2:bZ prog 53 6=some (7,3):=aW (by kernel_rfl)
@[simp] theorem aj3:bZ prog 53 7=some (8,3):=aW (by kernel_rfl)
@[simp] theorem aj4:bZ prog 53 8=some (9,3):=aW (by kernel_rfl)
@[simp] theorem aj5:bZ prog 53 9=some (10,3):=aW (by kernel_rfl)
@[simp] theorem ajl:bZ prog 53 10=some (11,48):=aW (by kernel_rfl)
@[simp] theorem ajm:bZ prog 53 11=some (12,51):=aW (by kernel_rfl)
@[simp] theorem ajn:bZ prog 53 12=some (13,3):=aW (by kernel_rfl)
@[simp] theorem ajo:bZ prog 53 13=some (14,45):=aW (by kernel_rfl)
@[simp] theorem ajp:bZ prog 53 14=some (16,23):=aW (by kernel_rfl)
@[simp] theorem ajq:bZ prog 53 15=some (17,3):=aW (by kernel_rfl)
@[simp] theorem ajr:bZ prog 53 16=some (18,45):=aW (by kernel_rfl)
@[simp] theorem ayT:eF prog 54=true:=aW (by kernel_rfl)
@[simp] theorem ayU:iA prog 54=true:=aW (by kernel_rfl)
@[simp] theorem ayV:prog.cellsOf 54=2:=aW (by kernel_rfl)
@[simp] theorem ayW:prog.bytesOf 54=32:=aW (by kernel_rfl)
@[simp] theorem ayX:pz prog 54=some true:=aW (by kernel_rfl)
@[simp] theorem ayY:jM prog 54=some [.v (.int .i64 0), .nil]:=aW (by kernel_rfl)
@[simp] theorem ayZ:jm prog 54=true:=aW (by kernel_rfl)
@[simp] theorem aj6:bZ prog 54 0=some (0,3):=aW (by kernel_rfl)
@[simp] theorem aj7:bZ prog 54 1=some (1,34):=aW (by kernel_rfl)
@[simp] theorem ay0:eF prog 55=true:=aW (by kernel_rfl)
@[simp] theorem ay1:iA prog 55=true:=aW (by kernel_rfl)
@[simp] theorem ay2:prog.cellsOf 55=2:=aW (by kernel_rfl)
@[simp] theorem ay3:prog.bytesOf 55=16:=aW (by kernel_rfl)
@[simp] theorem ay4:pz prog 55=some true:=aW (by kernel_rfl)
@[simp] theorem ay5:jM prog 55=some [.v (.int .i64 0), .v (.int .i64 0)]:=aW (by kernel_rfl)
@[simp] theorem ay6:eqT prog 55=some 2:=aW (by kernel_rfl)
@[simp] theorem ay7:jm prog 55=true:=aW (by kernel_rfl)
@[simp] theorem aj8:bZ prog 55 0=some (0,3):=aW (by kernel_rfl)
@[simp] theorem aj9:bZ prog 55 1=some (1,3):=aW (by kernel_rfl)
@[simp] theorem ay8:eF prog 66=true:=aW (by kernel_rfl)
@[simp] theorem ay9:iA prog 66=true:=aW (by kernel_rfl)
@[simp] theorem aza:prog.cellsOf 66=1:=aW (by kernel_rfl)
@[simp] theorem azb:prog.bytesOf 66=24:=aW (by kernel_rfl)
@[simp] theorem azc:pz prog 66=some false:=aW (by kernel_rfl)
@[simp] theorem azd:jM prog 66=some [.nil]:=aW (by kernel_rfl)
@[simp] theorem aze:mE prog 66=some (55,none):=aW (by kernel_rfl)
@[simp] theorem azf:Du prog 66=true:=aW (by kernel_rfl)
@[simp] theorem azg:zN prog 66=true:=aW (by kernel_rfl)
@[simp] theorem azh:eF prog 70=true:=aW (by kernel_rfl)
@[simp] theorem azi:iA prog 70=true:=aW (by kernel_rfl)
@[simp] theorem azj:prog.cellsOf 70=1:=aW (by kernel_rfl)
@[simp] theorem azk:prog.bytesOf 70=24:=aW (by kernel_rfl)
@[simp] theorem azl:pz prog 70=some false:=aW (by kernel_rfl)
@[simp] theorem azm:jM prog 70=some [.nil]:=aW (by kernel_rfl)
@[simp] theorem azn:mE prog 70=some (38,none):=aW (by kernel_rfl)
@[simp] theorem azo:Du prog 70=true:=aW (by kernel_rfl)
@[simp] theorem azp:zN prog 70=true:=aW (by kernel_rfl)
@[simp] theorem akR:eF prog 108=true:=aW (by kernel_rfl)
@[simp] theorem akS:iA prog 108=true:=aW (by kernel_rfl)
@[simp] theorem akT:prog.cellsOf 108=3:=aW (by kernel_rfl)
@[simp] theorem akU:prog.bytesOf 108=40:=aW (by kernel_rfl)
@[simp] theorem akV:pz prog 108=some true:=aW (by kernel_rfl)
@[simp] theorem akW:jM prog 108=some [.nil, .v (.int .i64 0), .v (.int .i64 0)]:=aW (by kernel_rfl)
@[simp] theorem akX:jm prog 108=true:=aW (by kernel_rfl)
@[simp] theorem ajs:bZ prog 108 0=some (0,22):=aW (by kernel_rfl)
@[simp] theorem ajt:bZ prog 108 1=some (1,3):=aW (by kernel_rfl)
@[simp] theorem aju:bZ prog 108 2=some (2,3):=aW (by kernel_rfl)
@[simp] theorem akY:eF prog 142=true:=aW (by kernel_rfl)
@[simp] theorem akZ:iA prog 142=true:=aW (by kernel_rfl)
@[simp] theorem ak0:prog.cellsOf 142=1:=aW (by kernel_rfl)
@[simp] theorem ak1:prog.bytesOf 142=24:=aW (by kernel_rfl)
@[simp] theorem ak2:pz prog 142=some true:=aW (by kernel_rfl)
@[simp] theorem ak3:jM prog 142=some [.nil]:=aW (by kernel_rfl)
@[simp] theorem ak4:jm prog 142=true:=aW (by kernel_rfl)
@[simp] theorem ajv:bZ prog 142 0=some (0,23):=aW (by kernel_rfl)
@[simp] theorem ak5:eF prog 162=true:=aW (by kernel_rfl)
@[simp] theorem ak6:iA prog 162=true:=aW (by kernel_rfl)
@[simp] theorem ak7:prog.cellsOf 162=1:=aW (by kernel_rfl)
@[simp] theorem ak8:prog.bytesOf 162=8:=aW (by kernel_rfl)
@[simp] theorem ak9:pz prog 162=some false:=aW (by kernel_rfl)
@[simp] theorem ala:OB prog 162=some 0:=aW (by kernel_rfl)
@[simp] theorem alb:eF prog 183=true:=aW (by kernel_rfl)
@[simp] theorem alc:iA prog 183=true:=aW (by kernel_rfl)
@[simp] theorem ald:prog.cellsOf 183=1:=aW (by kernel_rfl)
@[simp] theorem ale:prog.bytesOf 183=24:=aW (by kernel_rfl)
@[simp] theorem alf:pz prog 183=some true:=aW (by kernel_rfl)
@[simp] theorem alg:jM prog 183=some [.nil]:=aW (by kernel_rfl)
@[simp] theorem alh:jm prog 183=true:=aW (by kernel_rfl)
@[simp] theorem ajw:bZ prog 183 0=some (0,23):=aW (by kernel_rfl)
@[simp] theorem ali:eF prog 217=true:=aW (by kernel_rfl)
@[simp] theorem alj:iA prog 217=true:=aW (by kernel_rfl)
@[simp] theorem alk:prog.cellsOf 217=1:=aW (by kernel_rfl)
@[simp] theorem alm:prog.bytesOf 217=4:=aW (by kernel_rfl)
@[simp] theorem aln:pz prog 217=some false:=aW (by kernel_rfl)
@[simp] theorem alo:jM prog 217=some [.v (.int .u32 0)]:=aW (by kernel_rfl)
abbrev vI (x:Int):V:= .v (.int .i64 x)
noncomputable def K3 (f:Q→Option (Ex×Q)):Option (Ex×Q)→Option (Ex×Q)
 | some (.normal,s)=>uM f s
 | some (.exit i,s)=>some (.exit i,s)
 | some (.ret,s)=>some (.ret,s)
 | none=>none
section
variable (f:Q→Option (Ex×Q)) (s:Q)
@[simp ↓] theorem Aa:K3 f (some (.normal,s))=uM f s:=id rfl
@[simp ↓] theorem ahF (i:Nat):K3 f (some (.exit i,s))=some (.exit i,s):=id rfl
@[simp ↓] theorem aiu:K3 f (some (.ret,s))=some (.ret,s):=id rfl
@[simp ↓] theorem ahG:K3 f none=none:=id rfl
end
@[congr] theorem ahd {r r':Option (Ex×Q)}(f:Q→Option (Ex×Q))(h:r=r'):K3 f r=K3 f r':=by rw [h]
theorem bL (f:Q→Option (Ex×Q))(s:Q):uM f s=K3 f (f s):=by
 cases hl:uM f s with
 | some r=>
  obtain⟨n,hn⟩:=J9 hl
  cases n with
  | zero=>cases hn
  | succ n=>
   unfold rounds at hn
   split at hn
   ·rename_i s' e;rw [e,Aa];exact(KZ hn).symm
   ·rw [hn]
    obtain⟨e,q⟩:=r
    cases e
    ·exact absurd hn (by rename_i h;exact h _)
    ·rfl
    ·rfl
 | none=>
  cases e:f s with
  | none=>rfl
  | some r=>
   obtain⟨ex,q⟩:=r
   cases ex with
   | normal=>
    rw [Aa]
    cases h2:uM f q with
    | none=>rfl
    | some r2=>
     obtain⟨n,hn⟩:=J9 h2
     have:rounds f (n+1) s=some r2:=by unfold rounds;rw [e];exact hn
     rw [KZ this]at hl;cases hl
   | exit i=>
    have:rounds f 1 s=some (.exit i,q):=by unfold rounds;rw [e]
    rw [KZ this]at hl;cases hl
   | ret=>
    have:rounds f 1 s=some (.ret,q):=by unfold rounds;rw [e]
    rw [KZ this]at hl;cases hl
theorem aJ {f:Q→Option (Ex×Q)}{s:Q}(st:Nat→Q)(n:Nat)(h0:s=st 0)(hs:∀j,j<n→f (st j)=some (.normal,st (j+1))):uM f s=K3 f (f (st n)):=by
 rw [h0,←bL]
 have:∀k,k≤n→uM f (st 0)=uM f (st k):=by
  intro k;induction k with
  | zero=>intro _;rfl
  | succ k ih=>
   intro h
   rw [ih (by omega),bL,hs k (by omega),Aa]
 exact this n (Nat.le_refl _)
theorem bM (n:Int)(h: -9223372036854775808≤n∧n≤9223372036854775807):IntKind.i64.wrap n=n:=IntWalk.i64_in n h
def R64 (n:Int):Prop:= -9223372036854775808≤n∧n≤9223372036854775807
theorem R64.wrap {n:Int}(h:R64 n):IntKind.i64.wrap n=n:=IntWalk.i64_in n h
def gY (x a b:Int):Bool:=decide (a≤x)&&decide (x≤b)
theorem bA {x a b:Int}:gY x a b=true↔a≤x∧x≤b:=by simp [gY]
theorem MG {x a b:Int}(h:gY x a b=true):a≤x∧x≤b:=bA.1 h
theorem oF {x a b:Int}(h:¬(gY x a b=true)):gY x a b=false:=by simpa using h
@[simp] theorem akb:IntKind.i64.wrap 0=0:=bM 0 (by omega)
@[simp] theorem akc:IntKind.i64.wrap 1=1:=bM 1 (by omega)
@[simp] theorem akd:IntKind.i64.wrap 2=2:=bM 2 (by omega)
@[simp] theorem ake:IntKind.i64.wrap 3=3:=bM 3 (by omega)
@[simp] theorem akf:IntKind.i64.wrap 4=4:=bM 4 (by omega)
@[simp] theorem akg:IntKind.i64.wrap 5=5:=bM 5 (by omega)
@[simp] theorem akh:IntKind.i64.wrap 6=6:=bM 6 (by omega)
@[simp] theorem aki:IntKind.i64.wrap 7=7:=bM 7 (by omega)
@[simp] theorem akj:IntKind.i64.wrap 8=8:=bM 8 (by omega)
@[simp] theorem akk:IntKind.i64.wrap 9=9:=bM 9 (by omega)
end Go.Proofs.YtlpdjhiggpblcaaGreat
