/- Part 2 of a proof in several texts (an abstract evaluator, what the functions compute). -/
import Derived.Test.YtlpdjhiggpblcaaGreatPkEdKey1
import Derived.Test.YtlpdjhiggpblcaaGreatRows
open Go.Proofs.Tryz
namespace Go.Proofs.YtlpdjhiggpblcaaGreat
set_option linter.unusedSectionVars false
set_option linter.unusedSimpArgs false
set_option linter.unusedVariables false
open Go.RowKit
section
variable {α β:Type} (k j:Nat) (x y:α) (r:List (Nat×α))
@[simp] theorem s1:look k ([]:List (Nat×α))=none:=id rfl
@[simp] theorem s2:look k ((j,x)::r)=if k=j then some x else look k r:=id rfl
@[simp] theorem s3:put k x []= [(k,x)]:=id rfl
@[simp] theorem s4:put k x ((j,y)::r)=if k=j then(k,x)::r else if j<k then(k,x)::(j,y)::r else(j,y)::put k x r:=id rfl
@[simp] theorem s5:drop1 k ([]:List (Nat×α))= []:=id rfl
@[simp] theorem s6:drop1 k ((j,y)::r)=if k=j then drop1 k r else(j,y)::drop1 k r:=id rfl
@[simp] theorem s7:upd k x ([]:List (Nat×α))= []:=id rfl
@[simp] theorem s8:upd k x ((j,y)::r)=if k=j then(k,x)::r else(j,y)::upd k x r:=id rfl
@[simp] theorem s9:bV k ([]:List α)= []:=id rfl
@[simp] theorem s10 (l:List α):bV k (x::l)=(k,x)::bV (k+1) l:=id rfl
@[simp] theorem s11:kF k ([]:List (Nat×α))= []:=id rfl
@[simp] theorem s12:kF k ((j,x)::r)=(k,x)::kF (k+1) r:=id rfl
@[simp] theorem s13 (f:α→Option β):bH f []=some []:=id rfl
@[simp] theorem s14 (f:α→Option β)(l:List α):bH f (x::l)=bnd (f x) fun y=>bnd (bH f l) fun l=>some (y::l):=id rfl
@[simp] theorem s15:desc []=true:=id rfl
@[simp] theorem s16:desc [k]=true:=id rfl
@[simp] theorem s17 (l:List Nat):desc (k::j::l)=(decide (j<k)&&desc (j::l)):=id rfl
@[simp] theorem s18 (n:Nat):pos k [] n=none:=id rfl
@[simp] theorem s19 (l:List Nat)(n:Nat):pos k (j::l) n=if k=j then some n else pos k l (n+1):=id rfl
end
section
variable (P:Program) (G:List (FuncId×Bool×aN)) (e:List (Nat×V)) (b:List (Nat×List V)) (t f:List (Nat×List (List D))) (s:S) (n m p q kk:Nat) (x y:V) (vs:List V) (rows:List (List D))
@[simp] theorem s20:S.put ⟨e,b,t,f⟩ (some n) x=⟨put n x e,b,t,f⟩:=id rfl
@[simp] theorem s21:S.put s none x=s:=id rfl
@[simp] theorem s22:S.skip ⟨e,b,t,f⟩ (some n)=⟨drop1 n e,b,t,f⟩:=id rfl
@[simp] theorem s23:S.skip s none=s:=id rfl
@[simp] theorem s24 (z:Bool):uN (.bool z)=some (.v (.bool z)):=id rfl
@[simp] theorem s25 (k:IntKind)(z:Int):uN (.int k z)=some (.v (.int k z)):=id rfl
@[simp] theorem s26 (z:ByteArray):uN (.string z)=some (.v (.string z)):=id rfl
@[simp] theorem s27:uN (.slice none 0 0)=some .nil:=id rfl
@[simp] theorem s28:uN (.pointer none)=some (.v (.pointer none)):=id rfl
@[simp] theorem s29:uN (.agg #[])=some (.agg []):=id rfl
@[simp] theorem s30:yu (.slice none 0 0)= .nil:=id rfl
@[simp] theorem s31 (z:Bool):yu (.bool z)= .v (.bool z):=id rfl
@[simp] theorem s32 (k:IntKind)(z:Int):yu (.int k z)= .v (.int k z):=id rfl
@[simp] theorem s33 (z:ByteArray):yu (.string z)= .v (.string z):=id rfl
@[simp] theorem s34:yu (.pointer none)= .v (.pointer none):=id rfl
@[simp] theorem s35 (cs:Array Value):uN (.agg cs)=some (.agg (cs.toList.map yu)):=id rfl
@[simp] theorem s36:s.ev (.tmp n)=look n s.env:=id rfl
@[simp] theorem s37 (c:Value):s.ev (.const c)=uN c:=id rfl
@[simp] theorem s38:s.ev (.func n)=some (.fn n []):=id rfl
@[simp] theorem s39:V.cells (.agg vs)=vs:=id rfl
@[simp] theorem s40 (z:Value):V.cells (.v z)= [.v z]:=id rfl
@[simp] theorem s41:V.cells (.nil)= [.nil]:=id rfl
@[simp] theorem s42 (o:Option Nat):V.cells (.aM o rows)= [.aM o rows]:=id rfl
@[simp] theorem s43:V.cells (.own n)= [.own n]:=id rfl
@[simp] theorem s44:V.cells (.fz rows)= [.fz rows]:=id rfl
@[simp] theorem s45 (em:List (Int×Int)):V.cells (.mp em)= [.mp em]:=id rfl
@[simp] theorem s46:V.cells (.ref n m)= [.ref n m]:=id rfl
@[simp] theorem s47:V.cells (.pe x kk n m)= [.pe x kk n m]:=id rfl
@[simp] theorem s48:V.cells (.fn n vs)= [.fn n vs]:=id rfl
@[simp] theorem s49:s.rows .nil=some []:=id rfl
@[simp] theorem s50 (o:Option Nat):s.rows (.aM o rows)=some rows:=id rfl
@[simp] theorem s51:s.rows (.fz rows)=some rows:=id rfl
@[simp] theorem s52:s.rows (.own p)=lT (look p s.tree) (look p s.dJ):=id rfl
@[simp] theorem s53 (z:Value):s.under x n m q (.a z)=some (.v z):=id rfl
@[simp] theorem s54 (o:Option Nat)(rs:List (List D)):s.under (.aM o rs) n m q (.l rows)=some (.aM none rows):=id rfl
@[simp] theorem s55 (rs:List (List D)):s.under (.fz rs) n m q (.l rows)=some (.fz rows):=id rfl
@[simp] theorem s56:s.under (.own p) n m q (.l rows)=D8 p m q n rows (look p s.dJ):=id rfl
@[simp] theorem s57 (rs:List (List D)):D8 p m q n rows (some rs)=some (.fz rows):=id rfl
@[simp] theorem s58:D8 p m q n rows none=some (.inn p m q n):=id rfl
@[simp] theorem s59:vB s x n m q []=some []:=id rfl
@[simp] theorem s60 (d:D)(l:List D):vB s x n m q (d::l)=bnd (s.under x n m q d) fun v=>bnd (vB s x n m (q+1) l) fun l=>some (v::l):=id rfl
@[simp] theorem s61:s.rows (.inn p m q n)=bnd (look p s.tree) fun rows=>bnd rows[m]? fun r=>grd (r.length=n) (bnd r[q]? LQ):=id rfl
@[simp] theorem s62:LQ (.l rows)=some rows:=id rfl
@[simp] theorem s63:V.cells (.inn p m q n)= [.inn p m q n]:=id rfl
@[simp] theorem s64:V.one (.inn p m q n)=true:=id rfl
@[simp] theorem s65:sH .gone=false:=id rfl
@[simp] theorem s66:yc .gone=true:=id rfl
@[simp] theorem s67 (z:Array Field):sG (.struct z)=true:=id rfl
@[simp] theorem s68:sG (.array n m)=true:=id rfl
@[simp] theorem s69:sG (.bool)=false:=id rfl
@[simp] theorem s70 (k:IntKind):sG (.int k)=false:=id rfl
@[simp] theorem s71:sG (.string)=false:=id rfl
@[simp] theorem s72:sG (.slice n)=false:=id rfl
@[simp] theorem s73:sG (.pointer n)=false:=id rfl
@[simp] theorem s74 (a c:Array TypeId)(d:Bool):sG (.func a c d)=false:=id rfl
@[simp] theorem s75 (z:Array (String×TypeId)):sG (.interface z)=false:=id rfl
@[simp] theorem s76:sG (.map n m)=false:=id rfl
@[simp] theorem s77:span vs n m true=grd (n+m≤vs.length) (some (.agg ((vs.drop n).take m))):=id rfl
@[simp] theorem s78:span vs n m false=vs[n]?:=id rfl
@[simp] theorem s79:s.load P n (.ref p m)=bnd (oN P n) fun g=>bnd (look p s.box) fun cs=>span cs m (P.cellsOf n) g:=id rfl
@[simp] theorem s80:s.load P n (.pe x kk p m)=bnd (oN P n) fun g=>bnd (s.rows x) fun rows=>bnd rows[p]? fun r=>grd (r.length=kk) (s.Jy x kk p r m (P.cellsOf n) g):=id rfl
@[simp] theorem s81 (r:List D):s.Jy x kk p r n m true=grd (n+m≤r.length) (bnd (vB s x kk p n ((r.drop n).take m)) fun cs=>some (.agg cs)):=id rfl
@[simp] theorem s82 (r:List D):s.Jy x kk p r n m false=bnd r[n]? (s.under x kk p n):=id rfl
@[simp] theorem s83:setAt vs n []=vs:=id rfl
@[simp] theorem s84 (ws:List V):setAt vs n (x::ws)=setAt (vs.set n x) (n+1) ws:=id rfl
@[simp] theorem s85:yc (.l rows)=true:=id rfl
@[simp] theorem s86 (z:Value):yc (.a z)=z.oneCell':=id rfl
@[simp] theorem s87 (z:Value):V.one (.v z)=z.oneCell':=id rfl
@[simp] theorem s88:V.one .nil=true:=id rfl
@[simp] theorem s89 (o:Option Nat):V.one (.aM o rows)=true:=id rfl
@[simp] theorem s90:V.one (.fz rows)=true:=id rfl
@[simp] theorem s91 (em:List (Int×Int)):V.one (.mp em)=true:=id rfl
@[simp] theorem s92:V.one (.own p)=true:=id rfl
@[simp] theorem s93:V.one (.ref n m)=true:=id rfl
@[simp] theorem s94:V.one (.pe x kk n m)=true:=id rfl
@[simp] theorem s95:V.one (.fn n vs)=true:=id rfl
@[simp] theorem s96 (k:IntKind)(a:Int):Value.oneCell' (.int k a)=true:=id rfl
@[simp] theorem s97 (g:Bool):Value.oneCell' (.bool g)=true:=id rfl
@[simp] theorem s98 (u:ByteArray):Value.oneCell' (.string u)=true:=id rfl
@[simp] theorem s99 (o:Option Addr):Value.oneCell' (.pointer o)=true:=id rfl
@[simp] theorem aod (z:Value):Value.oneCell' (.iface n z)=true:=id rfl
@[simp] theorem aoe:Value.oneCell' (.nilIface)=true:=id rfl
@[simp] theorem aof:Value.oneCell' (.nilFunc)=true:=id rfl
@[simp] theorem aog (z:Value):V.atom (.v z)=some (.a z):=id rfl
@[simp] theorem aoh (z:Value):sH (.a z)=true:=id rfl
@[simp] theorem aoi:sH (.l rows)=false:=id rfl
@[simp] theorem aoj:S.store P ⟨e,b,t,f⟩ n (.ref p m) x=grd (eY P n=true∧x.cells.length=P.cellsOf n) (bnd (look p b) fun cs=>grd (m+x.cells.length≤cs.length∧x.cells.all V.one=true) (some ⟨e,upd p (setAt cs m x.cells) b,t,f⟩)):=id rfl
@[simp] theorem aok:S.store P s n (.pe (.own q) kk p m) x=grd (eY P n=true∧x.cells.length=P.cellsOf n) (BJ s q kk p m x x.atom):=id rfl
@[simp] theorem aol (d:D):BJ ⟨e,b,t,f⟩ q kk p m x (some d)=bnd (look q t) fun rows=>bnd rows[p]? fun r=>bnd r[m]? fun d0=>grd (r.length=kk∧sH d0=true∧yc d=true) (some ⟨e,b,upd q (rows.set p (r.set m d)) t,f⟩):=id rfl
@[simp] theorem aom:BJ s q kk p m x none=bnd (iP s x.cells) fun z=>bnd (look q z.2.tree) fun rows=>bnd rows[p]? fun r=>grd (r.length=kk∧m+z.1.length≤r.length∧x.cells.all V.one=true∧¬(1000000000≤q∧q<2000000000)) (some (z.2.turned q (rows.set p (ET r m z.1)))):=id rfl
@[simp] theorem aon (i0 j0 k0:Nat):S.store P s n (.pe (.inn q i0 j0 k0) kk p m) x=grd (eY P n=true∧x.cells.length=P.cellsOf n) (G5 s q i0 j0 k0 kk p m x.atom):=id rfl
@[simp] theorem aoo (i0 j0 k0:Nat)(d:D):G5 ⟨e,b,t,f⟩ q i0 j0 k0 kk p m (some d)=bnd (look q t) fun rows=>bnd rows[i0]? fun r=>bnd r[j0]? fun c=>bnd (LQ c) fun rs=>bnd rs[p]? fun r1=>bnd r1[m]? fun d0=>grd (r.length=k0∧r1.length=kk∧sH d0=true∧yc d=true) (some ⟨e,b,upd q (rows.set i0 (r.set j0 (.l (rs.set p (r1.set m d))))) t,f⟩):=id rfl
@[simp] theorem aop:V.atom (.own q)=none:=id rfl
@[simp] theorem aoq:V.atom (.nil)=none:=id rfl
@[simp] theorem aor:V.atom (.agg vs)=none:=id rfl
@[simp] theorem aos (r:List D):ET r m []=r:=id rfl
@[simp] theorem aot (r ds:List D)(d:D):ET r m (d::ds)=ET (r.set m d) (m+1) ds:=id rfl
@[simp] theorem aou:S.turned ⟨e,b,t,f⟩ p rows=⟨Qj p e,GZ p b,upd p rows t,f⟩:=id rfl
@[simp] theorem aov:Qj p []= []:=id rfl
@[simp] theorem aow:Qj p ((n,x)::e)=(n,if kC p x=true then .dead else x)::Qj p e:=id rfl
@[simp] theorem aox:YH p []= []:=id rfl
@[simp] theorem aoy:YH p (x::vs)=(if kC p x=true then .dead else x)::YH p vs:=id rfl
@[simp] theorem aoz:GZ p []= []:=id rfl
@[simp] theorem aoA:GZ p ((n,vs)::b)=(n,YH p vs)::GZ p b:=id rfl
@[simp] theorem aoB (z:Value):kC p (.v z)=false:=id rfl
@[simp] theorem aoC:kC p .nil=false:=id rfl
@[simp] theorem aoD (o:Option Nat):kC p (.aM o rows)=false:=id rfl
@[simp] theorem aoE:kC p (.fz rows)=false:=id rfl
@[simp] theorem aoF (em:List (Int×Int)):kC p (.mp em)=false:=id rfl
@[simp] theorem aoG:kC p (.own q)=false:=id rfl
@[simp] theorem aoH:kC p (.inn q n m kk)=decide (p=q):=id rfl
@[simp] theorem aoI:kC p (.ref n m)=false:=id rfl
@[simp] theorem aoJ:kC p (.pe x kk n m)=kC p x:=id rfl
@[simp] theorem aoK:kC p (.agg vs)=kC.any p vs:=id rfl
@[simp] theorem aoL:kC p (.fT vs)=kC.any p vs:=id rfl
@[simp] theorem aoM:kC p (.fn n vs)=kC.any p vs:=id rfl
@[simp] theorem aoN:kC p .dead=false:=id rfl
@[simp] theorem aoO:kC.any p []=false:=id rfl
@[simp] theorem aoP:kC.any p (x::vs)=(kC p x||kC.any p vs):=id rfl
end
section
variable (P:Program) (t:TypeId) (k k2:IntKind) (a c:Int) (u v:ByteArray) (g h:Bool)
@[simp] theorem aoQ:bin P t .add (.v (.int k a)) (.v (.int k2 c))=bnd (grd (k=k2) (some (.int k (k.wrap (a+c))))) fun v=>some (.v v):=id rfl
@[simp] theorem aoR:bin P t .sub (.v (.int k a)) (.v (.int k2 c))=bnd (grd (k=k2) (some (.int k (k.wrap (a-c))))) fun v=>some (.v v):=id rfl
@[simp] theorem aoS:bin P t .mul (.v (.int k a)) (.v (.int k2 c))=bnd (grd (k=k2) (some (.int k (k.wrap (a*c))))) fun v=>some (.v v):=id rfl
@[simp] theorem aoT:bin P t .quo (.v (.int k a)) (.v (.int k2 c))=bnd (grd (k=k2) (grd (c≠0) (some (.int k (k.wrap (a.tdiv c)))))) fun v=>some (.v v):=id rfl
@[simp] theorem aoU:bin P t .rem (.v (.int k a)) (.v (.int k2 c))=bnd (grd (k=k2) (grd (c≠0) (some (.int k (a.tmod c))))) fun v=>some (.v v):=id rfl
@[simp] theorem aoV:bin P t .and (.v (.int k a)) (.v (.int k2 c))=bnd (grd (k=k2) (some (.int k (k.wrap (BitVec.ofInt k.bits a &&& BitVec.ofInt k.bits c).toNat)))) fun v=>some (.v v):=id rfl
@[simp] theorem aoW:bin P t .or (.v (.int k a)) (.v (.int k2 c))=bnd (grd (k=k2) (some (.int k (k.wrap (BitVec.ofInt k.bits a ||| BitVec.ofInt k.bits c).toNat)))) fun v=>some (.v v):=id rfl
@[simp] theorem aoX:bin P t .xor (.v (.int k a)) (.v (.int k2 c))=bnd (grd (k=k2) (some (.int k (k.wrap (BitVec.ofInt k.bits a ^^^ BitVec.ofInt k.bits c).toNat)))) fun v=>some (.v v):=id rfl
@[simp] theorem aoY:bin P t .eql (.v (.int k a)) (.v (.int k2 c))=bnd (grd (k=k2) (some (.bool (a==c)))) fun v=>some (.v v):=id rfl
@[simp] theorem aoZ:bin P t .neq (.v (.int k a)) (.v (.int k2 c))=bnd (grd (k=k2) (some (.bool (a != c)))) fun v=>some (.v v):=id rfl
@[simp] theorem ao0:bin P t .lss (.v (.int k a)) (.v (.int k2 c))=bnd (grd (k=k2) (some (.bool (decide (a<c))))) fun v=>some (.v v):=id rfl
@[simp] theorem ao1:bin P t .leq (.v (.int k a)) (.v (.int k2 c))=bnd (grd (k=k2) (some (.bool (decide (a≤c))))) fun v=>some (.v v):=id rfl
@[simp] theorem ao2:bin P t .gtr (.v (.int k a)) (.v (.int k2 c))=bnd (grd (k=k2) (some (.bool (decide (c<a))))) fun v=>some (.v v):=id rfl
@[simp] theorem ao3:bin P t .geq (.v (.int k a)) (.v (.int k2 c))=bnd (grd (k=k2) (some (.bool (decide (c≤a))))) fun v=>some (.v v):=id rfl
@[simp] theorem ao4:bin P t .shl (.v (.int k a)) (.v (.int k2 c))=bnd (grd (0≤c) (some (.int k (k.wrap (a*2 ^ (min c.toNat k.bits)))))) fun v=>some (.v v):=id rfl
@[simp] theorem ao5:bin P t .shr (.v (.int k a)) (.v (.int k2 c))=bnd (grd (0≤c) (some (.int k (a.fdiv (2 ^ (min c.toNat k.bits)))))) fun v=>some (.v v):=id rfl
@[simp] theorem ao6:bin P t .add (.v (.string u)) (.v (.string v))=bnd (grd (u.size+v.size≤9223372036854775807) (some (.string (u++v)))) fun v=>some (.v v):=id rfl
@[simp] theorem ao7:bin P t .eql (.v (.string u)) (.v (.string v))=bnd (some (.bool (u.toList==v.toList))) fun v=>some (.v v):=id rfl
@[simp] theorem ao8:bin P t .neq (.v (.string u)) (.v (.string v))=bnd (some (.bool (!(u.toList==v.toList)))) fun v=>some (.v v):=id rfl
@[simp] theorem ao9:bin P t .lss (.v (.string u)) (.v (.string v))=bnd (some (.bool (Op.bytesLess u.toList v.toList))) fun v=>some (.v v):=id rfl
@[simp] theorem apa:bin P t .leq (.v (.string u)) (.v (.string v))=bnd (some (.bool (Op.bytesLess u.toList v.toList||u.toList==v.toList))) fun v=>some (.v v):=id rfl
@[simp] theorem apb:bin P t .gtr (.v (.string u)) (.v (.string v))=bnd (some (.bool (!(Op.bytesLess u.toList v.toList||u.toList==v.toList)))) fun v=>some (.v v):=id rfl
@[simp] theorem apc:bin P t .geq (.v (.string u)) (.v (.string v))=bnd (some (.bool (!(Op.bytesLess u.toList v.toList)))) fun v=>some (.v v):=id rfl
@[simp] theorem apd:bin P t .eql (.v (.bool g)) (.v (.bool h))=bnd (P.underlying t) fun d=>bnd (aby .eql g h d) fun v=>some (.v v):=id rfl
@[simp] theorem ape:aby .eql g h .bool=some (.bool (g==h)):=id rfl
@[simp] theorem apf (n m:Nat):bin P t .eql (.ref n m) (.v (.pointer none))=bnd (P.underlying t) fun d=>bnd (abz .eql d) fun v=>some (.v v):=id rfl
@[simp] theorem apg (n:Nat):abz .eql (.pointer n)=some (.bool false):=id rfl
@[simp] theorem aph:bin P t .neq (.v (.bool g)) (.v (.bool h))=bnd (P.underlying t) fun d=>bnd (aby .neq g h d) fun v=>some (.v v):=id rfl
@[simp] theorem apj:aby .neq g h .bool=some (.bool (g != h)):=id rfl
@[simp] theorem apk (n m:Nat):bin P t .neq (.ref n m) (.v (.pointer none))=bnd (P.underlying t) fun d=>bnd (abz .neq d) fun v=>some (.v v):=id rfl
@[simp] theorem apl (n:Nat):abz .neq (.pointer n)=some (.bool true):=id rfl
@[simp] theorem apm:un .neg (.v (.int k a))=some (.v (.int k (k.wrap (0-a)))):=id rfl
@[simp] theorem apn:un .not (.v (.bool g))=some (.v (.bool !g)):=id rfl
@[simp] theorem apo:idxOf (.v (.int k a))=some a:=id rfl
@[simp] theorem apq:ER (.v (.bool g))=some g:=id rfl
@[simp] theorem apr:WC a none=some a:=id rfl
@[simp] theorem aps (x:V):WC a (some x)=idxOf x:=id rfl
@[simp] theorem apt (n:Nat)(lo hi:Option V):bounds n lo hi=bnd (WC 0 lo) fun l=>bnd (WC n hi) fun h=>grd (0≤l∧l≤h∧h≤n) (some (l.toNat,h.toNat)):=id rfl
end
section
variable (P:Program) (G:List (FuncId×Bool×aN)) (e:List (Nat×V)) (b:List (Nat×List V)) (t f:List (Nat×List (List D))) (s:S) (n m p q kk:Nat) (x y:V) (vs ws:List V) (rows:List (List D)) (dst:Option Nat)
@[simp] theorem apu (lo hi:Option V):qK P s x lo hi .string=LU x lo hi:=id rfl
@[simp] theorem apv (u:ByteArray)(lo hi:Option V):LU (.v (.string u)) lo hi=bnd (bounds u.size lo hi) fun p=>some (.v (.string (u.extract p.1 p.2))):=id rfl
@[simp] theorem apw (lo hi:Option V):qK P s x lo hi (.slice n)=grd (eY P n=true) (ES (P.cellsOf n) s x lo hi):=id rfl
@[simp] theorem apx (lo hi:Option V):ES n s .nil lo hi=bnd (bounds 0 lo hi) fun _=>some .nil:=id rfl
@[simp] theorem apy (o:Option Nat)(lo hi:Option V):ES n s (.aM o rows) lo hi=cutV n rows lo hi (.aM none):=id rfl
@[simp] theorem apz (lo hi:Option V):ES n s (.fz rows) lo hi=cutV n rows lo hi .fz:=id rfl
@[simp] theorem apA (lo hi:Option V):ES n s (.own p) lo hi=bnd (look p s.dJ) fun rows=>cutV n rows lo hi .fz:=id rfl
@[simp] theorem apB (lo hi:Option V)(g:List (List D)→V):cutV n rows lo hi g=bnd (bounds rows.length lo hi) fun p=>grd (wid n rows=true) (some (g ((rows.drop p.1).take (p.2-p.1)))):=id rfl
@[simp] theorem apC:wid n []=true:=id rfl
@[simp] theorem apD (r:List D):wid n (r::rows)=(decide (r.length=n)&&r.all yc&&wid n rows):=id rfl
@[simp] theorem apE (fs:Array Field):abA P n (.struct fs)=bnd fs[n]? fun d=>grd (P.cellsOf d.type≠0) (some (d.offset,d.type)):=id rfl
@[simp] theorem apF:yw (.ref n m) p=some (.ref n (m+p)):=id rfl
@[simp] theorem apG:yw (.pe x kk n m) p=some (.pe x kk n (m+p)):=id rfl
@[simp] theorem apH:ad8 (.slice n)=some (n,none):=id rfl
@[simp] theorem apI:ad8 (.array n m)=some (m,some n):=id rfl
@[simp] theorem apJ (i:Int):lq P s x i n (some m)=grd (eY P n=true∧0≤i∧i<m) (yw x (i.toNat*P.cellsOf n)):=id rfl
@[simp] theorem apK (i:Int):lq P s x i n none=bnd (s.rows x) fun rows=>grd (eY P n=true∧0≤i∧i<rows.length) (some (.pe x (P.cellsOf n) i.toNat 0)):=id rfl
@[simp] theorem apL (u:ByteArray)(i:Int):GY P n (.v (.string u)) i=bnd (P.underlying n) fun d=>grd (NP d=true∧0≤i∧i<u.size) (some (.v (.int .u8 ((u.toList[i.toNat]?.getD 0).toNat:Int)))):=id rfl
@[simp] theorem apM:NP .string=true:=id rfl
@[simp] theorem apN (i:Int):GY P n (.agg vs) i=bnd (lU P n) fun e=>bnd e.2 fun n=>grd (eY P e.1=true∧0≤i∧i<n) (bnd (oN P e.1) fun g=>span vs (i.toNat*P.cellsOf e.1) (P.cellsOf e.1) g):=id rfl
@[simp] theorem apO (z:Value):Ap (.v z)=some (.a z):=id rfl
@[simp] theorem apP:Ap .nil=some (.l []):=id rfl
@[simp] theorem apQ (z:Value):aP p (.v z)=false:=id rfl
@[simp] theorem apR:aP p .nil=false:=id rfl
@[simp] theorem apS (o:Option Nat):aP p (.aM o rows)=false:=id rfl
@[simp] theorem apT:aP p (.fz rows)=false:=id rfl
@[simp] theorem apU (em:List (Int×Int)):aP p (.mp em)=false:=id rfl
@[simp] theorem apV:aP p (.own q)=decide (p=q):=id rfl
@[simp] theorem apW:aP p (.inn q n m kk)=decide (p=q):=id rfl
@[simp] theorem apX:aP p (.ref n m)=false:=id rfl
@[simp] theorem apY:aP p (.pe x kk n m)=aP p x:=id rfl
@[simp] theorem apZ:aP p (.agg vs)=aP.any p vs:=id rfl
@[simp] theorem ap0:aP p (.fT vs)=aP.any p vs:=id rfl
@[simp] theorem ap1:aP p (.fn n vs)=aP.any p vs:=id rfl
@[simp] theorem ap2:aP p .dead=false:=id rfl
@[simp] theorem ap3:aP.any p []=false:=id rfl
@[simp] theorem ap4:aP.any p (x::vs)=(aP p x||aP.any p vs):=id rfl
@[simp] theorem ap5:Aq p []= []:=id rfl
@[simp] theorem ap6:Aq p ((n,x)::e)=(n,if aP p x=true then .dead else x)::Aq p e:=id rfl
@[simp] theorem ap7:Ar p []= []:=id rfl
@[simp] theorem ap8:Ar p (x::vs)=(if aP p x=true then .dead else x)::Ar p vs:=id rfl
@[simp] theorem ap9:oq p []= []:=id rfl
@[simp] theorem aqa:oq p ((n,vs)::b)=(n,Ar p vs)::oq p b:=id rfl
@[simp] theorem aqb:S.kill ⟨e,b,t,f⟩ p=⟨Aq p e,oq p b,drop1 p t,f⟩:=id rfl
@[simp] theorem aqc:iP s []=some ([],s):=id rfl
@[simp] theorem aqd:iP s (.own p::vs)=bnd (look p s.tree) fun rows=>bnd (iP (s.kill p) vs) fun x=>some (.l rows::x.1,x.2):=id rfl
@[simp] theorem aqe (z:Value):iP s (.v z::vs)=bnd (iP s vs) fun x=>some (.a z::x.1,x.2):=id rfl
@[simp] theorem aqf:iP s (.nil::vs)=bnd (iP s vs) fun x=>some (.l []::x.1,x.2):=id rfl
@[simp] theorem aqg:ku s []=some ([],s):=id rfl
@[simp] theorem aqh:ku s (x::vs)=bnd (iP s x.cells) fun x=>bnd (ku x.2 vs) fun y=>some (x.1::y.1,y.2):=id rfl
@[simp] theorem aqi:fresh ⟨e,b,t,f⟩ n=((look n t).isNone&&(look n f).isNone):=id rfl
@[simp] theorem aqj:S.newTree ⟨e,b,t,f⟩ (some n) rows=grd (fresh ⟨e,b,t,f⟩ n=true) (some ⟨put n (.own n) e,b,(n,rows)::t,f⟩):=id rfl
@[simp] theorem aqk:upto n m []=decide (n=m):=id rfl
@[simp] theorem aql (r:List Nat):upto n m (p::r)=(decide (p=n)&&upto (n+1) m r):=id rfl
@[simp] theorem aqm:dV []=true:=id rfl
@[simp] theorem aqn (r:List D):dV (r::rows)=(r.all sH&&dV rows):=id rfl
@[simp] theorem aqo (u:ByteArray):Km s (.v (.string u))=some (u.toList.map fun c=> [.a (.int .u8 (c.toNat:Int))],s):=id rfl
@[simp] theorem aqp:Km s .nil=some ([],s):=id rfl
@[simp] theorem aqr (o:Option Nat):Km s (.aM o rows)=grd (dV rows=true) (some (rows,s)):=id rfl
@[simp] theorem aqs:Km s (.fz rows)=grd (dV rows=true) (some (rows,s)):=id rfl
@[simp] theorem aqt:Km s (.own q)=KT s q (look q s.tree):=id rfl
@[simp] theorem aqu:Km s (.inn p q n m)=bnd (s.rows (.inn p q n m)) fun rows=>grd (dV rows=true) (some (rows,s)):=id rfl
@[simp] theorem aqv:KT s q (some rows)=some (rows,if dV rows=true then s else s.kill q):=id rfl
@[simp] theorem aqw:KT s q none=bnd (look q s.dJ) fun rows=>grd (dV rows=true) (some (rows,s)):=id rfl
@[simp] theorem aqx:kU P n m=(iC P n&&decide (m*P.bytesOf n≤140737488355328)&&decide (m≤4611686018427387904)):=id rfl
@[simp] theorem aqy:rE P s dst n rows .nil=grd (kU P n rows.length=true∧wid (P.cellsOf n) rows=true) (s.newTree dst rows):=id rfl
@[simp] theorem aqz:rE P s dst n rows (.own p)=bnd (look p s.tree) fun Rc=>grd (kU P n (Rc.length+rows.length)=true∧wid (P.cellsOf n) Rc=true∧wid (P.cellsOf n) rows=true) ((s.kill p).newTree dst (Rc++rows)):=id rfl
@[simp] theorem aqA:rE P s dst n rows (.inn p q m kk)=bnd (s.rows (.inn p q m kk)) fun Rc=>grd (kU P n (Rc.length+rows.length)=true∧wid (P.cellsOf n) Rc=true∧wid (P.cellsOf n) rows=true) (bnd (s.Cz p q m) fun s=>s.newTree dst (Rc++rows)):=id rfl
@[simp] theorem aqB:s.Cz p q m=bnd (look p s.tree) fun rows=>bnd rows[q]? fun r=>grd (¬(1000000000≤p∧p<2000000000)) (some (s.turned p (rows.set q (r.set m .gone)))):=id rfl
@[simp] theorem aqC:iV (.slice n)=some n:=id rfl
@[simp] theorem aqD:Jz P s dst n x y=bnd (P.underlying n) fun d=>bnd (iV d) fun e=>bnd (Km s y) fun z=>rE P z.2 dst e z.1 x:=id rfl
end
section
variable (s:S) (c:iK) (src:List V) (bs ts:List Nat) (n m p q kk:Nat) (x y:V) (vs ws:List V) (rows:List (List D)) (dst:Option Nat)
@[simp] theorem aqE (z:Value):jV s c (.v z)=some (.v z,c):=id rfl
@[simp] theorem aqF:jV s ⟨src,bs,ts⟩ (.ref n m)=JA src bs ts n m (pos n bs 0):=id rfl
@[simp] theorem aqG:JA src bs ts n m (some p)=some (.ref p m,⟨src,bs,ts⟩):=id rfl
@[simp] theorem aqH:JA src bs ts n m none=some (.ref bs.length m,⟨src,bs++ [n],ts⟩):=id rfl
@[simp] theorem aqI:jV s c (.agg vs)=bnd (wm s c vs) fun x=>some (.agg x.1,x.2):=id rfl
@[simp] theorem aqJ:jV s c (.fn n vs)=bnd (wm s c vs) fun x=>some (.fn n x.1,x.2):=id rfl
@[simp] theorem aqK:jV s ⟨src,bs,ts⟩ .nil=some (.aM (some src.length) [],⟨src++ [.nil],bs,ts⟩):=id rfl
@[simp] theorem aqL (o:Option Nat):jV s ⟨src,bs,ts⟩ (.aM o rows)=some (.aM (some src.length) rows,⟨src++ [.aM o rows],bs,ts⟩):=id rfl
@[simp] theorem aqM:jV s ⟨src,bs,ts⟩ (.fz rows)=some (.aM (some src.length) rows,⟨src++ [.fz rows],bs,ts⟩):=id rfl
@[simp] theorem aqN:jV s ⟨src,bs,ts⟩ (.own p)=bnd (s.rows (.own p)) fun rows=>some (.aM (some src.length) rows,⟨src++ [.own p],bs,ts⟩):=id rfl
@[simp] theorem aqO:jV s ⟨src,bs,ts⟩ (.inn p q n m)=bnd (s.rows (.inn p q n m)) fun rows=>some (.aM (some src.length) rows,⟨src++ [.inn p q n m],bs,ts⟩):=id rfl
@[simp] theorem aqP:wm s c []=some ([],c):=id rfl
@[simp] theorem aqQ:wm s c (x::vs)=bnd (jV s c x) fun x=>bnd (wm s x.2 vs) fun y=>some (x.1::y.1,y.2):=id rfl
@[simp] theorem aqR:dh s c []=some ([],c):=id rfl
@[simp] theorem aqS:dh s ⟨src,bs,ts⟩ (.own p::vs)=CB src bs ts p (fun c=>dh s c vs) (pos p ts 0) (look p s.dJ):=id rfl
@[simp] theorem aqT (k:iK→Option (List V×iK)):CB src bs ts p k none (some rows)=bnd (k ⟨src++ [.own p],bs,ts⟩) fun x=>some (.aM (some src.length) rows::x.1,x.2):=id rfl
@[simp] theorem aqU (k:iK→Option (List V×iK)):CB src bs ts p k none none=bnd (k ⟨src,bs,ts++ [p]⟩) fun x=>some (.own ts.length::x.1,x.2):=id rfl
@[simp] theorem aqV:dh s c (.dead::vs)=bnd (dh s c vs) fun x=>some (.dead::x.1,x.2):=id rfl
@[simp] theorem aqW (z:Value):dh s c (.v z::vs)=bnd (jV s c (.v z)) fun x=>bnd (dh s x.2 vs) fun y=>some (x.1::y.1,y.2):=id rfl
@[simp] theorem aqX:dh s c (.nil::vs)=bnd (jV s c (.nil)) fun x=>bnd (dh s x.2 vs) fun y=>some (x.1::y.1,y.2):=id rfl
@[simp] theorem aqY (o:Option Nat):dh s c (.aM o rows::vs)=bnd (jV s c (.aM o rows)) fun x=>bnd (dh s x.2 vs) fun y=>some (x.1::y.1,y.2):=id rfl
@[simp] theorem aqZ:dh s c (.fz rows::vs)=bnd (jV s c (.fz rows)) fun x=>bnd (dh s x.2 vs) fun y=>some (x.1::y.1,y.2):=id rfl
@[simp] theorem aq0:dh s c (.inn p n m q::vs)=bnd (jV s c (.inn p n m q)) fun x=>bnd (dh s x.2 vs) fun y=>some (x.1::y.1,y.2):=id rfl
@[simp] theorem aq1:dh s c (.ref n m::vs)=bnd (jV s c (.ref n m)) fun x=>bnd (dh s x.2 vs) fun y=>some (x.1::y.1,y.2):=id rfl
@[simp] theorem aq2:dh s c (.fn n ws::vs)=bnd (jV s c (.fn n ws)) fun x=>bnd (dh s x.2 vs) fun y=>some (x.1::y.1,y.2):=id rfl
@[simp] theorem aq3:mF s c []=some ([],c):=id rfl
@[simp] theorem aq4:mF s c (n::bs)=bnd (look n s.box) fun cs=>bnd (dh s c cs) fun x=>bnd (mF s x.2 bs) fun y=>some (x.1::y.1,y.2):=id rfl
@[simp] theorem aq5:stable .nil=true:=id rfl
@[simp] theorem aq6 (o:Option Nat):stable (.aM o rows)=true:=id rfl
@[simp] theorem aq7:stable (.own p)=false:=id rfl
@[simp] theorem aq8:stable (.inn p n m q)=false:=id rfl
@[simp] theorem aq9:stable (.fz rows)=false:=id rfl
@[simp] theorem ara:gV c n q=QY n q c.tree[q]?:=id rfl
@[simp] theorem arb:QY n q (some p)=p:=id rfl
@[simp] theorem ard:QY n q none=1000*(n+1)+q:=id rfl
@[simp] theorem arf (z:Value):nC c n (.v z)=some (.v z):=id rfl
@[simp] theorem arh:nC c n .nil=some .nil:=id rfl
@[simp] theorem ari:nC c n (.aM (some m) rows)=c.src[m]?:=id rfl
@[simp] theorem arj:nC c n (.aM none rows)=grd ((c.src.all stable||rows.isEmpty)=true) (some (.aM none rows)):=id rfl
@[simp] theorem ark:nC c n (.own q)=some (.own (gV c n q)):=id rfl
@[simp] theorem arl:nC c n (.ref p m)=bnd c.box[p]? fun b=>some (.ref b m):=id rfl
@[simp] theorem arn:nC c n (.agg vs)=bnd (Au c n vs) fun cs=>some (.agg cs):=id rfl
@[simp] theorem aro:nC c n (.fT vs)=bnd (Au c n vs) fun cs=>some (.fT cs):=id rfl
@[simp] theorem arp:nC c n .dead=some .dead:=id rfl
@[simp] theorem arq:Au c n []=some []:=id rfl
@[simp] theorem ars:Au c n (x::vs)=bnd (nC c n x) fun v=>bnd (Au c n vs) fun r=>some (v::r):=id rfl
@[simp] theorem aru:iW c n [] [] s=some s:=id rfl
@[simp] theorem arv (vss:List (List V))(e:List (Nat×V))(b:List (Nat×List V))(t f:List (Nat×List (List D))):iW c n (p::bs) (vs::vss) ⟨e,b,t,f⟩=bnd (Au c n vs) fun cs=>iW c n bs vss ⟨e,upd p cs b,t,f⟩:=id rfl
@[simp] theorem arw:jR c n [] s=some s:=id rfl
@[simp] theorem arx (r:List (Nat×List (List D)))(e:List (Nat×V))(b:List (Nat×List V))(t f:List (Nat×List (List D))):jR c n ((q,rows)::r) ⟨e,b,t,f⟩=if q<c.tree.length then jR c n r ⟨e,b,t,f⟩else grd (fresh ⟨e,b,t,f⟩ (gV c n q)=true∧gV c n q<1000000000) (jR c n r ⟨e,b,(gV c n q,rows)::t,f⟩):=id rfl
@[simp] theorem arz:qg s []=some []:=id rfl
@[simp] theorem arA:qg s (p::ts)=bnd (look p s.tree) fun rows=>bnd (qg s ts) fun r=>some (rows::r):=id rfl
@[simp] theorem arB (l:List (Nat×List (List D))):gT l [] n s=s:=id rfl
@[simp] theorem arC (l:List (Nat×List (List D))):gT l (p::ts) n s=gT l ts (n+1) (JB s p (look n l)):=id rfl
@[simp] theorem arD (e:List (Nat×V))(b:List (Nat×List V))(t f:List (Nat×List (List D))):JB ⟨e,b,t,f⟩ p (some rows)=⟨e,b,upd p rows t,f⟩:=id rfl
@[simp] theorem arE:JB s p none=s.kill p:=id rfl
@[simp] theorem arF (r:Cw):S.back s dst c r=bnd (iW c (dst.getD 0) c.box r.box (gT r.tree c.tree 0 s)) fun s=>bnd (jR c (dst.getD 0) r.tree s) fun s=>bnd (nC c (dst.getD 0) r.val) fun v=>some (s.put dst v):=id rfl
@[simp] theorem arG:NQ c n=(YJ c&&decide (c.box.length=n)):=id rfl
@[simp] theorem arH:YJ c=(c.tree.all fun p=>c.src.all fun v=> !aP p v):=id rfl
@[simp] theorem arI:O6 true s c vs=pV s c vs:=id rfl
@[simp] theorem arJ:O6 false s c vs=wm s c vs:=id rfl
@[simp] theorem arK:pV s c []=some ([],c):=id rfl
@[simp] theorem arL:pV s c (.agg ws::vs)=bnd (dh s c ws) fun x=>bnd (pV s x.2 vs) fun y=>some (.agg x.1::y.1,y.2):=id rfl
@[simp] theorem arM (z:Value):pV s c (.v z::vs)=bnd (dh s c [.v z]) fun x=>bnd (pV s x.2 vs) fun y=>some (x.1++y.1,y.2):=id rfl
@[simp] theorem arN:pV s c (.nil::vs)=bnd (dh s c [.nil]) fun x=>bnd (pV s x.2 vs) fun y=>some (x.1++y.1,y.2):=id rfl
@[simp] theorem arO (o:Option Nat):pV s c (.aM o rows::vs)=bnd (dh s c [.aM o rows]) fun x=>bnd (pV s x.2 vs) fun y=>some (x.1++y.1,y.2):=id rfl
@[simp] theorem arP:pV s c (.fz rows::vs)=bnd (dh s c [.fz rows]) fun x=>bnd (pV s x.2 vs) fun y=>some (x.1++y.1,y.2):=id rfl
@[simp] theorem arQ:pV s c (.own p::vs)=bnd (dh s c [.own p]) fun x=>bnd (pV s x.2 vs) fun y=>some (x.1++y.1,y.2):=id rfl
@[simp] theorem arR:pV s c (.inn p n m q::vs)=bnd (dh s c [.inn p n m q]) fun x=>bnd (pV s x.2 vs) fun y=>some (x.1++y.1,y.2):=id rfl
@[simp] theorem arS:pV s c (.ref n m::vs)=bnd (dh s c [.ref n m]) fun x=>bnd (pV s x.2 vs) fun y=>some (x.1++y.1,y.2):=id rfl
@[simp] theorem arT:pV s c (.fn n ws::vs)=bnd (dh s c [.fn n ws]) fun x=>bnd (pV s x.2 vs) fun y=>some (x.1++y.1,y.2):=id rfl
@[simp] theorem arU (mm:Bool)(M:aN):wo mm M s dst vs=bnd (O6 mm s ⟨[],[],[]⟩ vs) fun x=>bnd (mF s x.2 x.2.box) fun y=>bnd (qg s y.2.tree) fun ts=>grd (NQ y.2 y.1.length=true) (bnd (M x.1 y.1 ts) fun r=>s.O5 dst y.2 r):=id rfl
@[simp] theorem arV (cc:iK)(rr:Cw):S.O5 s dst cc rr=EU s dst cc rr (wV rr):=id rfl
@[simp] theorem arW (cc:iK)(rr:Cw):EU s dst cc rr none=s.back dst cc rr:=id rfl
@[simp] theorem arX (cc:iK)(rr:Cw):EU s dst cc rr (some vs)=if(cc.box.isEmpty&&cc.tree.isEmpty)=true then bnd (Au cc (dst.getD 0) vs) (QC s dst)else s.back dst cc rr:=id rfl
@[simp] theorem arY:wV ⟨.ref 0 0,[vs],[]⟩=some vs:=id rfl
@[simp] theorem arZ (tr:List (Nat×List (List D))):wV ⟨x,[],tr⟩=none:=aeM _ _
@[simp] theorem ar0 (bs:List (List V))(tr:List (Nat×List (List D)))(z:Value):wV ⟨.v z,bs,tr⟩=none:=id rfl
@[simp] theorem ar1 (bs:List (List V))(tr:List (Nat×List (List D)))  :wV ⟨.own p,bs,tr⟩=none:=id rfl
@[simp] theorem ar2 (bs:List (List V))(tr:List (Nat×List (List D)))  :wV ⟨.agg ws,bs,tr⟩=none:=id rfl
@[simp] theorem ar3 (bs:List (List V))(tr:List (Nat×List (List D)))  :wV ⟨.fT ws,bs,tr⟩=none:=id rfl
@[simp] theorem ar4 (bs:List (List V))(tr:List (Nat×List (List D)))  :wV ⟨.nil,bs,tr⟩=none:=id rfl
@[simp] theorem ar5 (bs:List (List V))(tr:List (Nat×List (List D)))  :wV ⟨.dead,bs,tr⟩=none:=id rfl
@[simp] theorem ar6 (e:List (Nat×V))(b:List (Nat×List V))(t f:List (Nat×List (List D))):QC ⟨e,b,t,f⟩ (some n) vs=grd ((look n b).isNone=true) (some ⟨put n (.ref n 0) e,(n,vs)::b,t,f⟩):=id rfl
end
section
variable (P:Program) (G:List (FuncId×Bool×aN)) (s:S) (n m p q kk:Nat) (x y:V) (vs ws:List V) (rows:List (List D)) (dst:Option Nat) (ats:Array TypeId) (o o1 o2:Operand)
@[simp] theorem ar7 (u:ByteArray):kD P s dst .len ats [.v (.string u)]=bnd ats[0]? fun t=>grd (abB P t=true) (some (s.put dst (.v (.int .i64 u.size)))):=id rfl
@[simp] theorem ar8:kD P s dst .len ats [.nil]=bnd ats[0]? fun t=>grd (Ag P t=true) (bnd (s.rows (.nil)) fun rows=>some (s.put dst (.v (.int .i64 rows.length)))):=id rfl
@[simp] theorem ar9 (w:Option Nat):kD P s dst .len ats [.aM w rows]=bnd ats[0]? fun t=>grd (Ag P t=true) (bnd (s.rows (.aM w rows)) fun rows=>some (s.put dst (.v (.int .i64 rows.length)))):=id rfl
@[simp] theorem asa:kD P s dst .len ats [.fz rows]=bnd ats[0]? fun t=>grd (Ag P t=true) (bnd (s.rows (.fz rows)) fun rows=>some (s.put dst (.v (.int .i64 rows.length)))):=id rfl
@[simp] theorem asb:kD P s dst .len ats [.own p]=bnd ats[0]? fun t=>grd (Ag P t=true) (bnd (s.rows (.own p)) fun rows=>some (s.put dst (.v (.int .i64 rows.length)))):=id rfl
@[simp] theorem asc:kD P s dst .len ats [.inn p n m q]=bnd ats[0]? fun t=>grd (Ag P t=true) (bnd (s.rows (.inn p n m q)) fun rows=>some (s.put dst (.v (.int .i64 rows.length)))):=id rfl
@[simp] theorem ase:kD P s dst .append ats [x,y]=bnd ats[0]? fun t=>bnd ats[1]? fun t1=>grd (D9 P t1=true) (Jz P s dst t x y):=id rfl
@[simp] theorem asf (a c:Int):kD P s dst .max ats [.v (.int .i64 a), .v (.int .i64 c)]=some (s.put dst (.v (.int .i64 (max a c)))):=id rfl
@[simp] theorem asg (a c:Int):kD P s dst .min ats [.v (.int .i64 a), .v (.int .i64 c)]=some (s.put dst (.v (.int .i64 (min a c)))):=id rfl
@[simp] theorem ash (a:Int):qL [.a (.int .u8 a)]=some (UInt8.ofNat a.toNat):=id rfl
@[simp] theorem asi (d0:TypeDesc):LV P s dst x d0 (.slice n)=bnd (P.underlying n) fun d=>grd (EW d=true) (G6 s dst x):=id rfl
@[simp] theorem asj (k:IntKind)(d0:TypeDesc):LV P s dst x d0 (.int k)=bnd (wW P s x d0 (.int k)) fun v=>some (s.put dst v):=id rfl
@[simp] theorem asl (d0:TypeDesc):LV P s dst x d0 .string=bnd (wW P s x d0 .string) fun v=>some (s.put dst v):=id rfl
@[simp] theorem asn (u:ByteArray)(e:List (Nat×V))(b:List (Nat×List V))(t f:List (Nat×List (List D))):G6 ⟨e,b,t,f⟩ (some n) (.v (.string u))=grd (fresh ⟨e,b,t,f⟩ n=true∧u.size≤4611686018427387904) (some ⟨put n (.fz (nL u)) e,b,t,(n,[])::f⟩):=id rfl
@[simp] theorem aso (k:IntKind)(d0:TypeDesc):wW P s x d0 (.int k)=bnd (idxOf x) fun n=>some (.v (.int k (k.wrap n))):=id rfl
@[simp] theorem asq (u:ByteArray)(d0:TypeDesc):wW P s (.v (.string u)) d0 .string=some (.v (.string u)):=id rfl
@[simp] theorem asr  (d0:TypeDesc):wW P s (.nil) d0 .string=yx P s (.nil) d0:=id rfl
@[simp] theorem asu (w:Option Nat)(d0:TypeDesc):wW P s (.aM w rows) d0 .string=yx P s (.aM w rows) d0:=id rfl
@[simp] theorem asv  (d0:TypeDesc):wW P s (.fz rows) d0 .string=yx P s (.fz rows) d0:=id rfl
@[simp] theorem asw  (d0:TypeDesc):wW P s (.own p) d0 .string=yx P s (.own p) d0:=id rfl
@[simp] theorem asx  (d0:TypeDesc):wW P s (.inn p n m q) d0 .string=yx P s (.inn p n m q) d0:=id rfl
@[simp] theorem asy (d0:TypeDesc):yx P s x d0=bnd (iV d0) fun e=>bnd (P.underlying e) fun d=>grd (EW d=true) (bnd (s.rows x) fun rows=>bnd (bH qL rows) fun l=>some (.v (.string ⟨l.toArray⟩))):=id rfl
@[simp] theorem asz:EW (.int .u8)=true:=id rfl
@[simp] theorem asA (fs:Array Field):QZ P (.aiH fs) n=bnd fs[n]? fun f=>some (f.offset,P.cellsOf f.type):=id rfl
@[simp] theorem asB:QZ P (.arr m) n=some (n*P.cellsOf m,P.cellsOf m):=id rfl
@[simp] theorem asC (fs:Parts):rV P fs vs []=some vs:=id rfl
@[simp] theorem asD (fs:Parts)(r:List (Nat×V)):rV P fs vs ((n,x)::r)=bnd (QZ P fs n) fun f=>grd (x.cells.length=f.2∧f.1+x.cells.length≤vs.length∧x.cells.all V.one=true) (rV P fs (setAt vs f.1 x.cells) r):=id rfl
@[simp] theorem asE (fs:Array Field):zi (.struct fs)=some (.aiH fs):=id rfl
@[simp] theorem asF:zi (.array n m)=some (.arr m):=id rfl
@[simp] theorem asG:oO s (n,o)=bnd (s.ev o) fun v=>some (n,v):=id rfl
@[simp] theorem asH:j5 s none=some none:=id rfl
@[simp] theorem asI:j5 s (some o)=bnd (s.ev o) fun v=>some (some v):=id rfl
@[simp] theorem asJ:O7 (.ref n m)=some (.ref n m):=id rfl
@[simp] theorem asK:O7 (.pe x kk n m)=some (.pe x kk n m):=id rfl
@[simp] theorem asL:Q0 n (.fT vs)=vs[n]?:=id rfl
@[simp] theorem asM:U6 (.agg vs)=some vs:=id rfl
@[simp] theorem asN:WE (.fn n vs)=some (n,vs):=id rfl
@[simp] theorem asO (e:List (Nat×V))(b:List (Nat×List V))(t f:List (Nat×List (List D))):S.uO ⟨e,b,t,f⟩ (some n) vs=grd ((look n b).isNone=true) (some ⟨put n (.ref n 0) e,(n,vs)::b,t,f⟩):=id rfl
@[simp] theorem asP (z:Value):NR (.v z)=true:=id rfl
@[simp] theorem asQ (M:aN):wX false M s dst vs=wo false M s dst vs:=by unfold wX;split;rw [if_neg (by simp)];rfl
@[simp] theorem asR (M:aN):wX true M s dst []=wo true M s dst []:=id rfl
@[simp] theorem asS (M:aN):wX true M s dst (.inn n m p q::vs)=YK M s dst n m p q vs:=id rfl
@[simp] theorem asT (M:aN)(z:Value):wX true M s dst (.v z::vs)=wo true M s dst (.v z::vs):=id rfl
@[simp] theorem asU (M:aN)  :wX true M s dst (.nil::vs)=wo true M s dst (.nil::vs):=id rfl
@[simp] theorem asV (M:aN)(o:Option Nat):wX true M s dst (.aM o rows::vs)=wo true M s dst (.aM o rows::vs):=id rfl
@[simp] theorem asW (M:aN)  :wX true M s dst (.fz rows::vs)=wo true M s dst (.fz rows::vs):=id rfl
@[simp] theorem asX (M:aN)  :wX true M s dst (.own p::vs)=wo true M s dst (.own p::vs):=id rfl
@[simp] theorem asY (M:aN)  :wX true M s dst (.agg ws::vs)=wo true M s dst (.agg ws::vs):=id rfl
@[simp] theorem asZ (M:aN)  :wX true M s dst (.ref n m::vs)=wo true M s dst (.ref n m::vs):=id rfl
@[simp] theorem as0 (M:aN)  :wX true M s dst (.fn n ws::vs)=wo true M s dst (.fn n ws::vs):=id rfl
@[simp] theorem as1 (M:aN):YK M s dst p n m q vs=bnd (look p s.tree) fun rows=>bnd rows[n]? fun r=>bnd r[m]? fun d=>bnd (LQ d) fun rs=>grd (r.length=q∧vs.all NR=true) (bnd (M (.own 0::vs) [] [rs]) (QD s dst p n m rows r)):=id rfl
@[simp] theorem as2 (r:List D)(rs:List (List D))(e:List (Nat×V))(b:List (Nat×List V))(t f:List (Nat×List (List D))):QD ⟨e,b,t,f⟩ dst p n m rows r ⟨x,[],[(0,rs)]⟩=grd (NR x=true) (some (S.put ⟨e,b,upd p (rows.set n (r.set m (.l rs))) t,f⟩ dst x)):=id rfl
@[simp] theorem as3 (z:Builtin):KV P G s dst ats vs (.builtin z)=kD P s dst z ats vs:=id rfl
@[simp] theorem as4:KV P G s dst ats vs (.value o)=bnd (s.ev o) fun f=>bnd (WE f) fun f=>bnd (look f.1 G) fun M=>wX M.1 M.2 s dst (vs++f.2):=id rfl
@[simp] theorem as5:iN P G s dst (.move o)=bnd (s.ev o) fun v=>some (s.put dst v):=id rfl
@[simp] theorem as6:iN P G s dst (.assign o)=bnd (s.ev o) fun v=>some (s.put dst v):=id rfl
@[simp] theorem as7:iN P G s dst (.pick o o1 o2)=bnd (s.ev o) fun c=>bnd (ER c) fun b=>bnd (s.ev (if b then o1 else o2)) fun v=>some (s.put dst v):=id rfl
@[simp] theorem as8:iN P G s dst (.alloc n)=bnd (jO P n) fun cs=>s.uO dst cs:=id rfl
@[simp] theorem as9:iN P G s dst (.box n o)=bnd (s.ev o) fun v=>grd (v.cells.length=P.cellsOf n∧v.cells.all V.one=true) (s.uO dst v.cells):=id rfl
@[simp] theorem ata:iN P G s dst (.load n o)=bnd (s.ev o) fun p=>bnd (s.load P n p) fun v=>some (s.put dst v):=id rfl
@[simp] theorem atb:iN P G s dst (.store n o o1)=bnd (s.ev o) fun p=>bnd (s.ev o1) fun v=>bnd (s.store P n p v) fun s=>some (s.skip dst):=id rfl
@[simp] theorem atc:iN P G s dst (.nilCheck o)=bnd (s.ev o) fun v=>bnd (O7 v) fun v=>some (s.put dst v):=id rfl
@[simp] theorem atd:iN P G s dst (.fieldAddr n o m)=bnd (s.ev o) fun x=>bnd (bZ P n m) fun f=>bnd (yw x f.1) fun v=>some (s.put dst v):=id rfl
@[simp] theorem ate:iN P G s dst (.field n o m)=bnd (s.ev o) fun x=>bnd (U6 x) fun cs=>bnd (bZ P n m) fun f=>bnd (oN P f.2) fun g=>bnd (span cs f.1 (P.cellsOf f.2) g) fun v=>some (s.put dst v):=id rfl
@[simp] theorem atf:iN P G s dst (.indexAddr n o o1)=bnd (s.ev o) fun x=>bnd (s.ev o1) fun i=>bnd (idxOf i) fun i=>bnd (lU P n) fun e=>bnd (lq P s x i e.1 e.2) fun v=>some (s.put dst v):=id rfl
@[simp] theorem atg:iN P G s dst (.index n o o1)=bnd (s.ev o) fun x=>bnd (s.ev o1) fun i=>bnd (idxOf i) fun i=>bnd (GY P n x i) fun v=>some (s.put dst v):=id rfl
@[simp] theorem ath:iN P G s dst (.extract o n)=bnd (s.ev o) fun x=>bnd (Q0 n x) fun v=>some (s.put dst v):=id rfl
@[simp] theorem ati:iN P G s dst (.convert n m o)=bnd (s.ev o) fun x=>bnd (P.underlying n) fun d0=>bnd (P.underlying m) fun d=>LV P s dst x d0 d:=id rfl
@[simp] theorem atj (ps:Array (Nat×Operand)):iN P G s dst (.build n ps)=bnd (P.underlying n) fun d=>bnd (zi d) fun fs=>grd (jm P n=true) (bnd (jO P n) fun z=>bnd (bH (oO s) ps.toList) fun vs=>bnd (rV P fs z vs) fun cs=>some (s.put dst (.agg cs))):=id rfl
@[simp] theorem atl (ps:Array (Nat×Operand)):iN P G s dst (.buildSlice n m ps)=bnd (P.underlying n) fun d=>bnd (iV d) fun e=>bnd (bH (oO s) ps.toList) fun vs=>grd ((iC P e&&decide (m*P.cellsOf e≤16777216)&&upto 0 m (vs.map (·.1))&&vs.all fun v=>decide (v.2.cells.length=P.cellsOf e)&&v.2.cells.all V.one)=true) (bnd (ku s (vs.map (·.2))) fun x=>x.2.newTree dst x.1):=id rfl
@[simp] theorem atm (z:BinOp):iN P G s dst (.binOp z n o o1 m)=bnd (s.ev o) fun x=>bnd (s.ev o1) fun y=>bnd (bin P n z x y) fun v=>some (s.put dst v):=id rfl
@[simp] theorem atn (z:UnOp):iN P G s dst (.unOp z n o)=bnd (s.ev o) fun x=>bnd (un z x) fun v=>some (s.put dst v):=id rfl
@[simp] theorem ato (lo hi:Option Operand):iN P G s dst (.slice n o lo hi none)=bnd (s.ev o) fun x=>bnd (j5 s lo) fun l=>bnd (j5 s hi) fun h=>bnd (P.underlying n) fun d=>Dz P s dst x l h d:=id rfl
@[simp] theorem atp (ol oh:Option V)(dd:TypeDesc):Dz P s dst (.own p) ol oh dd=abC P s dst p ol oh dd (look p s.dJ):=id rfl
@[simp] theorem atq (ol oh:Option V)(dd:TypeDesc):abC P s dst p ol oh dd (some rows)=bnd (qK P s (.own p) ol oh dd) fun v=>some (s.put dst v):=id rfl
@[simp] theorem atr (ol oh:Option V)(dd:TypeDesc):abC P s dst p ol oh dd none=akc P s dst p ol oh dd (look p s.tree):=id rfl
@[simp] theorem att (ol oh:Option V)(dd:TypeDesc):akc P s dst p ol oh dd (some rows)=agz P s dst p rows ol oh dd:=id rfl
@[simp] theorem atu (ol oh:Option V):agz P s dst p rows ol oh (.slice n)=grd (eY P n=true) (WG s dst (P.cellsOf n) p rows ol oh):=id rfl
@[simp] theorem atv (ol oh:Option V):WG s dst kk p rows ol oh=bnd (bounds rows.length ol oh) fun q=>if q.1<q.2 then grd (wid kk rows=true) ((s.kill p).newTree dst ((rows.drop q.1).take (q.2-q.1)))else some (s.put dst (.aM none [])):=id rfl
@[simp] theorem atw (ol oh:Option V)(dd:TypeDesc)  :Dz P s dst (.nil) ol oh dd=bnd (qK P s (.nil) ol oh dd) fun v=>some (s.put dst v):=id rfl
@[simp] theorem atx (ol oh:Option V)(dd:TypeDesc)(w:Option Nat):Dz P s dst (.aM w rows) ol oh dd=bnd (qK P s (.aM w rows) ol oh dd) fun v=>some (s.put dst v):=id rfl
@[simp] theorem aty (ol oh:Option V)(dd:TypeDesc)  :Dz P s dst (.fz rows) ol oh dd=bnd (qK P s (.fz rows) ol oh dd) fun v=>some (s.put dst v):=id rfl
@[simp] theorem atz (ol oh:Option V)(dd:TypeDesc)(z:Value):Dz P s dst (.v z) ol oh dd=bnd (qK P s (.v z) ol oh dd) fun v=>some (s.put dst v):=id rfl
@[simp] theorem atA:iN P G s dst (.makeSlice n o o1)=bnd (s.ev o) fun n1=>bnd (s.ev o1) fun c=>Q5 P s dst n n1 c:=id rfl
@[simp] theorem atB:Q5 P s dst n x y=bnd (P.underlying n) fun d=>bnd (iV d) fun e=>bnd (idxOf x) fun l=>bnd (idxOf y) fun cc=>grd (iC P e=true∧0≤l∧l=cc∧l.toNat*P.bytesOf e≤140737488355328∧l≤4611686018427387904) (bnd (jO P e) fun z=>bnd (bH Ap z) fun r=>s.newTree dst (List.replicate l.toNat r)):=id rfl
@[simp] theorem atC (c:Call):iN P G s dst (.call c)=bnd (bH s.ev c.args.toList) fun args=>KV P G s dst c.argTypes args c.callee:=id rfl
@[simp] theorem atD (ops:Array Oper):S.wants ops s none=some true:=id rfl
@[simp] theorem atE (ops:Array Oper)(g:Bool):S.wants ops s (some (n,g))=JC s g ((ops[n]?).bind (·.dst)):=id rfl
@[simp] theorem atF (g:Bool):JC s g (some n)=KW g (look n s.env):=id rfl
@[simp] theorem atG (g:Bool):KW g none=none:=id rfl
@[simp] theorem atH (g:Bool):KW g (some (.fT []))=some false:=id rfl
@[simp] theorem atI (g h:Bool):KW g (some (.v (.bool h)))=some (h==g):=id rfl
end
section
variable (l:List Nat) (mp:List (Nat×Nat)) (n m p q kk:Nat) (x y:V) (vs ws:List V) (rows:List (List D))
@[simp] theorem atJ:BK mp (.own p)= .own (ren mp p):=id rfl
@[simp] theorem atK:BK mp (.inn p n m q)= .inn (ren mp p) n m q:=id rfl
@[simp] theorem atL:uj l (.inn p n m q)=if l.contains p then l else l++ [p]:=id rfl
@[simp] theorem atM:ren mp p=(look p mp).getD p:=id rfl
@[simp] theorem atO:BK mp (.pe x kk n m)= .pe (BK mp x) kk n m:=id rfl
@[simp] theorem atP:BK mp (.agg vs)= .agg (GU mp vs):=id rfl
@[simp] theorem atQ:BK mp (.fT vs)= .fT (GU mp vs):=id rfl
@[simp] theorem atS:BK mp (.fn n vs)= .fn n (GU mp vs):=id rfl
@[simp] theorem atT (z:Value):BK mp (.v z)= .v z:=id rfl
@[simp] theorem atU (z:Value):uj l (.v z)=l:=id rfl
@[simp] theorem atV:BK mp (.nil)= .nil:=id rfl
@[simp] theorem atW:uj l (.nil)=l:=id rfl
@[simp] theorem atX (em:List (Int×Int)):BK mp (.mp em)= .mp em:=id rfl
@[simp] theorem atY (em:List (Int×Int)):uj l (.mp em)=l:=id rfl
@[simp] theorem atZ (o:Option Nat):BK mp (.aM o rows)= .aM o rows:=id rfl
@[simp] theorem at1 (o:Option Nat):uj l (.aM o rows)=l:=id rfl
@[simp] theorem at5:BK mp (.fz rows)= .fz rows:=id rfl
@[simp] theorem at6:uj l (.fz rows)=l:=id rfl
@[simp] theorem at7:BK mp (.ref n m)= .ref n m:=id rfl
@[simp] theorem aua:uj l (.ref n m)=l:=id rfl
@[simp] theorem aub:BK mp (.dead)= .dead:=id rfl
@[simp] theorem auc:uj l (.dead)=l:=id rfl
@[simp] theorem aud:GU mp []= []:=id rfl
@[simp] theorem aue:GU mp (x::vs)=BK mp x::GU mp vs:=id rfl
@[simp] theorem auf:uj l (.own p)=if l.contains p then l else l++ [p]:=id rfl
@[simp] theorem aug:uj l (.pe x kk n m)=uj l x:=id rfl
@[simp] theorem auh:uj l (.agg vs)=Aw l vs:=id rfl
@[simp] theorem aui:uj l (.fT vs)=Aw l vs:=id rfl
@[simp] theorem auj:uj l (.fn n vs)=Aw l vs:=id rfl
@[simp] theorem auk:Aw l []=l:=id rfl
@[simp] theorem aul:Aw l (x::vs)=Aw (uj l x) vs:=id rfl
@[simp] theorem aum:eF n []=([],[]):=id rfl
@[simp] theorem aun (e:List (Nat×V)):eF n ((m, .nil)::e)=((m, .own n)::(eF (n+1) e).1,n::(eF (n+1) e).2):=id rfl
@[simp] theorem auo:cB n []=([],[]):=id rfl
@[simp] theorem aup:cB n (.nil::vs)=(.own n::(cB (n+1) vs).1,n::(cB (n+1) vs).2):=id rfl
@[simp] theorem auq (z:Value)(e:List (Nat×V)):eF n ((m, .v z)::e)=((m, .v z)::(eF n e).1,(eF n e).2):=id rfl
@[simp] theorem aur (z:Value):cB n (.v z::vs)=(.v z::(cB n vs).1,(cB n vs).2):=id rfl
@[simp] theorem aus (em:List (Int×Int))(e:List (Nat×V)):eF n ((m, .mp em)::e)=((m, .mp em)::(eF n e).1,(eF n e).2):=id rfl
@[simp] theorem aut (em:List (Int×Int)):cB n (.mp em::vs)=(.mp em::(cB n vs).1,(cB n vs).2):=id rfl
@[simp] theorem auu (o:Option Nat)(e:List (Nat×V)):eF n ((m, .aM o rows)::e)=((m, .aM o rows)::(eF n e).1,(eF n e).2):=id rfl
@[simp] theorem auv (o:Option Nat):cB n (.aM o rows::vs)=(.aM o rows::(cB n vs).1,(cB n vs).2):=id rfl
@[simp] theorem auw  (e:List (Nat×V)):eF n ((m, .fz rows)::e)=((m, .fz rows)::(eF n e).1,(eF n e).2):=id rfl
@[simp] theorem auy:cB n (.fz rows::vs)=(.fz rows::(cB n vs).1,(cB n vs).2):=id rfl
@[simp] theorem auz  (e:List (Nat×V)):eF n ((m, .own p)::e)=((m, .own p)::(eF n e).1,(eF n e).2):=id rfl
@[simp] theorem auA:cB n (.own p::vs)=(.own p::(cB n vs).1,(cB n vs).2):=id rfl
@[simp] theorem auB (r0:Nat)(e:List (Nat×V)):eF n ((m, .inn p q kk r0)::e)=((m, .inn p q kk r0)::(eF n e).1,(eF n e).2):=id rfl
@[simp] theorem auC (r0:Nat):cB n (.inn p q kk r0::vs)=(.inn p q kk r0::(cB n vs).1,(cB n vs).2):=id rfl
@[simp] theorem auD  (e:List (Nat×V)):eF n ((m, .ref p q)::e)=((m, .ref p q)::(eF n e).1,(eF n e).2):=id rfl
@[simp] theorem auE:cB n (.ref p q::vs)=(.ref p q::(cB n vs).1,(cB n vs).2):=id rfl
@[simp] theorem auF  (e:List (Nat×V)):eF n ((m, .pe x kk p q)::e)=((m, .pe x kk p q)::(eF n e).1,(eF n e).2):=id rfl
@[simp] theorem auG:cB n (.pe x kk p q::vs)=(.pe x kk p q::(cB n vs).1,(cB n vs).2):=id rfl
@[simp] theorem auH  (e:List (Nat×V)):eF n ((m, .agg ws)::e)=((m, .agg ws)::(eF n e).1,(eF n e).2):=id rfl
@[simp] theorem auI:cB n (.agg ws::vs)=(.agg ws::(cB n vs).1,(cB n vs).2):=id rfl
@[simp] theorem auJ  (e:List (Nat×V)):eF n ((m, .fT ws)::e)=((m, .fT ws)::(eF n e).1,(eF n e).2):=id rfl
@[simp] theorem auK:cB n (.fT ws::vs)=(.fT ws::(cB n vs).1,(cB n vs).2):=id rfl
@[simp] theorem auL  (e:List (Nat×V)):eF n ((m, .fn p ws)::e)=((m, .fn p ws)::(eF n e).1,(eF n e).2):=id rfl
@[simp] theorem auM:cB n (.fn p ws::vs)=(.fn p ws::(cB n vs).1,(cB n vs).2):=id rfl
@[simp] theorem auN  (e:List (Nat×V)):eF n ((m, .dead)::e)=((m, .dead)::(eF n e).1,(eF n e).2):=id rfl
@[simp] theorem auO:cB n (.dead::vs)=(.dead::(cB n vs).1,(cB n vs).2):=id rfl
@[simp] theorem auP:mG n []=([],[]):=id rfl
@[simp] theorem auQ (b:List (Nat×List V)):mG n ((m,vs)::b)=((m,(cB n vs).1)::(mG (n+(cB n vs).2.length) b).1,(cB n vs).2++(mG (n+(cB n vs).2.length) b).2):=id rfl
@[simp] theorem auR (e:List (Nat×V)):agB l e=bH (fun t=>bnd (look t e) fun v=>some (t,v)) l:=id rfl
@[simp] theorem auS (b:List (Nat×List V)):agC l b=bH (fun t=>bnd (look t b) fun v=>some (t,v)) l:=id rfl
@[simp] theorem auT:iT l (.ref n m)=l.contains n:=id rfl
@[simp] theorem auU:iT l (.pe x kk n m)=iT l x:=id rfl
@[simp] theorem auV:iT l (.agg vs)=iT.go l vs:=id rfl
@[simp] theorem auW:iT l (.fT vs)=iT.go l vs:=id rfl
@[simp] theorem auX:iT l (.fn n vs)=iT.go l vs:=id rfl
@[simp] theorem auY (z:Value):iT l (.v z)=true:=id rfl
@[simp] theorem auZ:iT l (.nil)=true:=id rfl
@[simp] theorem au0 (em:List (Int×Int)):iT l (.mp em)=true:=id rfl
@[simp] theorem au1 (o:Option Nat):iT l (.aM o rows)=true:=id rfl
@[simp] theorem au2:iT l (.fz rows)=true:=id rfl
@[simp] theorem au3:iT l (.own n)=true:=id rfl
@[simp] theorem au4:iT l (.inn n m p q)=true:=id rfl
@[simp] theorem au5:iT l (.dead)=true:=id rfl
@[simp] theorem au6:iT.go l []=true:=id rfl
@[simp] theorem au7:iT.go l (x::vs)=(iT l x&&iT.go l vs):=id rfl
@[simp] theorem au8 (tr:List (Nat×List (List D))):metIn tr [] n= []:=id rfl
@[simp] theorem au9 (tr:List (Nat×List (List D))):metIn tr (p::l) n=NT p n (metIn tr l) (look p tr):=id rfl
@[simp] theorem ava (k:Nat→List (Nat×Nat×List (List D))):NT p n k (some rows)=if 1000000000≤p∧p<2000000000 then(p,p,rows)::k n else(p,2000000000+n,rows)::k (n+1):=id rfl
@[simp] theorem avb (k:Nat→List (Nat×Nat×List (List D))):NT p n k none=k n:=id rfl
@[simp] theorem avc (e:List (Nat×V))(b:List (Nat×List V))(t f:List (Nat×List (List D))):S.ad9 e b t f=S.Kv (metIn t (Aw (Aw [] (e.map (·.2))) (b.flatMap (·.2))) (1000*f.length)) e b f:=id rfl
@[simp] theorem avd (mm:List (Nat×Nat×List (List D)))(e:List (Nat×V))(b:List (Nat×List V))(f:List (Nat×List (List D))):S.Kv mm e b f=⟨e.map fun x=>(x.1,BK (mm.map fun x=>(x.1,x.2.1)) x.2),b.map fun x=>(x.1,GU (mm.map fun x=>(x.1,x.2.1)) x.2),(mm.map (·.2)).reverse,f⟩:=id rfl
@[simp] theorem ave (ts bs:List Nat)(e:List (Nat×V))(b:List (Nat×List V))(t f:List (Nat×List (List D))):S.head ts bs ⟨e,b,t,f⟩=bnd (agB ts e) fun env=>bnd (agC bs b) fun box=>grd ((desc ts&&desc bs&&env.all (fun x=>iT bs x.2)&&box.all (fun x=>x.2.all (iT bs))&&t.all (fun x=>decide (x.1<3000000000))&&f.all (fun x=>decide (x.1<2000000000+1000*f.length))&&decide (f.length<1000))=true) (some (S.ad9 (eF 3000000000 env).1 (mG (3000000000+(eF 3000000000 env).2.length) box).1 (t++((eF 3000000000 env).2++(mG (3000000000+(eF 3000000000 env).2.length) box).2).map fun p=>(p,[])) f)):=id rfl
@[simp] theorem avf (hs:List (Nat×List Nat×List Nat))(fs:List (Nat×List Nat))(ds:List (Nat×List Nat×List (Nat×List Nat)))(ns:List (Nat×List Nat×List Nat))(s:S):ou.head ⟨hs,fs,ds,ns⟩ n s=G7 s (look n hs):=id rfl
@[simp] theorem avg (hs:List (Nat×List Nat×List Nat))(fs:List (Nat×List Nat))(ds:List (Nat×List Nat×List (Nat×List Nat)))(ns:List (Nat×List Nat×List Nat)):ou.bars ⟨hs,fs,ds,ns⟩ n=WI (look n ds):=id rfl
@[simp] theorem avh (z:List Nat×List (Nat×List Nat)):WI (some z)=z:=id rfl
@[simp] theorem avi:WI none=([],[]):=id rfl
@[simp] theorem avj (s:S)(ts bs:List Nat):G7 s (some (ts,bs))=s.head ts bs:=id rfl
@[simp] theorem avk (s:S):G7 s none=some s:=id rfl
@[simp] theorem avl (hs:List (Nat×List Nat×List Nat))(fs:List (Nat×List Nat))(ds:List (Nat×List Nat×List (Nat×List Nat)))(ns:List (Nat×List Nat×List Nat))(s:S):ou.reg ⟨hs,fs,ds,ns⟩ n s=bnd (G7 s (look n ns)) fun s=>U8 s (look n fs):=id rfl
@[simp] theorem avm (s:S):U8 s (some l)=um s l:=id rfl
@[simp] theorem avn (s:S):U8 s none=some s:=id rfl
@[simp] theorem avo (s:S):um s []=some s:=id rfl
@[simp] theorem avp (s:S):um s (n::l)=bnd (s.freeze n) fun s=>um s l:=id rfl
@[simp] theorem avq (s:S):S.freeze s n=bnd (look n s.env) fun v=>LW s v:=id rfl
@[simp] theorem avr (s:S):LW s (.own p)=zy s p (look p s.tree):=id rfl
@[simp] theorem avs (q:Nat)(s:S):LW s (.ref p q)=bnd (look p s.box) fun cs=>j6 s cs:=id rfl
@[simp] theorem avt (s:S):j6 s []=some s:=id rfl
@[simp] theorem avu (s:S)(vs:List V):j6 s (.own p::vs)=bnd (zy s p (look p s.tree)) fun s=>j6 s vs:=id rfl
@[simp] theorem avv (s:S)(vs:List V)(z:Value):j6 s (.v z::vs)=j6 s vs:=id rfl
@[simp] theorem avw (s:S)(vs:List V)  :j6 s (.nil::vs)=j6 s vs:=id rfl
@[simp] theorem avx (s:S)(vs:List V)(em:List (Int×Int)):j6 s (.mp em::vs)=j6 s vs:=id rfl
@[simp] theorem avy (s:S)(vs:List V)(o:Option Nat)(rows:List (List D)):j6 s (.aM o rows::vs)=j6 s vs:=id rfl
@[simp] theorem avz (s:S)(vs:List V)(rows:List (List D)):j6 s (.fz rows::vs)=j6 s vs:=id rfl
@[simp] theorem avA (s:S)(vs:List V)  :j6 s (.dead::vs)=j6 s vs:=id rfl
@[simp] theorem avB (s:S)(vs:List V)(q:Nat):j6 s (.ref p q::vs)=j6 s vs:=id rfl
@[simp] theorem avC (e:List (Nat×V))(b:List (Nat×List V))(t f:List (Nat×List (List D))):zy ⟨e,b,t,f⟩ p (some rows)=some ⟨e,b,drop1 p t,(p,rows)::f⟩:=id rfl
@[simp] theorem avD (s:S):zy s p none=some s:=id rfl
end
section
variable (s:S) (n m p q kk:Nat) (x y:V) (vs ws:List V) (rows:List (List D)) (l:List (Nat×List (List D)))
@[simp] theorem avE:l6 (.ref n m)= .ref (1000000000+n) m:=id rfl
@[simp] theorem avF:l6 (.own n)= .own (1000000000+n):=id rfl
@[simp] theorem avG:l6 (.inn n m p q)= .inn (1000000000+n) m p q:=id rfl
@[simp] theorem avH:l6 (.agg vs)= .agg (nX vs):=id rfl
@[simp] theorem avI:l6 (.fT vs)= .fT (nX vs):=id rfl
@[simp] theorem avJ:l6 (.pe x kk n m)= .pe (l6 x) kk n m:=id rfl
@[simp] theorem avK:l6 (.fn n vs)= .fn n (nX vs):=id rfl
@[simp] theorem avL (z:Value):l6 (.v z)= .v z:=id rfl
@[simp] theorem avM:l6 (.nil)= .nil:=id rfl
@[simp] theorem avN (em:List (Int×Int)):l6 (.mp em)= .mp em:=id rfl
@[simp] theorem avO (o:Option Nat):l6 (.aM o rows)= .aM o rows:=id rfl
@[simp] theorem avP:l6 (.fz rows)= .fz rows:=id rfl
@[simp] theorem avQ:l6 (.dead)= .dead:=id rfl
@[simp] theorem avR:nX []= []:=id rfl
@[simp] theorem avS:nX (x::vs)=l6 x::nX vs:=id rfl
@[simp] theorem avT (z:Value):zA s n l (.v z)=some (.v z,l):=id rfl
@[simp] theorem avU:zA s n l .nil=some (.own (n+l.length),l++ [(0,[])]):=id rfl
@[simp] theorem avV (o:Option Nat):zA s n l (.aM o rows)=some (.aM o rows,l):=id rfl
@[simp] theorem avW:zA s n l (.agg vs)=bnd (NZ s n l vs) fun x=>some (.agg x.1,x.2):=id rfl
@[simp] theorem avX:zA s n l (.fT vs)=bnd (NZ s n l vs) fun x=>some (.fT x.1,x.2):=id rfl
@[simp] theorem avY:zA s n l (.ref p q)=grd (1000000000≤p) (some (.ref (p-1000000000) q,l)):=id rfl
@[simp] theorem avZ:zA s n l (.own p)=if 1000000000≤p∧p<1000000000+n then grd ((look p s.tree).isSome=true) (some (.own (p-1000000000),l))else bnd (s.rows (.own p)) fun rows=>grd ((look p l).isNone=true) (some (.own (n+l.length),l++ [(p,rows)])):=id rfl
@[simp] theorem av0:zA s n l .dead=some (.dead,l):=id rfl
@[simp] theorem av1:NZ s n l []=some ([],l):=id rfl
@[simp] theorem av2:NZ s n l (x::vs)=bnd (zA s n l x) fun x=>bnd (NZ s n x.2 vs) fun y=>some (x.1::y.1,y.2):=id rfl
@[simp] theorem av3:WK s n l []=some ([],l):=id rfl
@[simp] theorem av4 (ps:List Nat):WK s n l (p::ps)=bnd (look (1000000000+p) s.box) fun cs=>bnd (NZ s n l cs) fun x=>bnd (WK s n x.2 ps) fun y=>some (x.1::y.1,y.2):=id rfl
@[simp] theorem av5 (P:Program):WL P s (.tmp n)=look n s.env:=id rfl
@[simp] theorem av6 (P:Program):WL P s (.cell n m)=bnd (look n s.env) fun p=>s.load P m p:=id rfl
@[simp] theorem av7:Ra [x]=x:=id rfl
@[simp] theorem av8:Ra []= .fT []:=id rfl
@[simp] theorem av9:Ra (x::y::vs)= .fT (x::y::vs):=id rfl
@[simp] theorem awc:iw s n 0= []:=id rfl
@[simp] theorem awd:iw s n (m+1)=JE n (iw s (n+1) m) (look (1000000000+n) s.tree):=id rfl
@[simp] theorem awe:JE n l (some rows)=(n,rows)::l:=id rfl
@[simp] theorem awf:JE n l none=l:=id rfl
@[simp] theorem awg (P:Program)(rs:List ResultVar):sI P rs n m s=bnd (bH (WL P s) rs) fun vs=>bnd (zA s m [] (Ra vs)) fun x=>bnd (WK s m x.2 (List.range' 0 n)) fun y=>grd ((s.box.all fun x=>decide (x.1<1000000000+n))=true) (some ⟨x.1,y.1,iw s 0 m++kF m y.2⟩):=id rfl
@[simp] theorem awh (P:Program)(fn:Func):Rb P fn n m (.normal, .on s)=sI P fn.results.toList n m s:=id rfl
@[simp] theorem awi (P:Program)(fn:Func):Rb P fn n m (.ret, .on s)=sI P fn.results.toList n m s:=id rfl
@[simp] theorem awj (z:Q):Hg n (.exit m,z)=if m=n then some (.normal,z)else some (.exit m,z):=id rfl
@[simp] theorem awk (z:Q):Hg n (.normal,z)=some (.normal,z):=id rfl
@[simp] theorem awl (z:Q):Hg n (.ret,z)=some (.ret,z):=id rfl
@[simp] theorem awm (ops:Array Oper)(d:Bool):Code.first (.region n ops d)=n:=id rfl
@[simp] theorem awn (c d:Code):Code.first (.seq c d)=Code.first c:=id rfl
@[simp] theorem awo (c:Code):Code.first (.block n c)=Code.first c:=id rfl
@[simp] theorem awp (c:Code):Code.first (.loop c)=Code.first c:=id rfl
@[simp] theorem awq (c:Code):Code.first (.scope c)=Code.first c:=id rfl
@[simp] theorem awr (P:Program)(G:List (FuncId×Bool×aN))(gh:ou)(bs:List (List V))(ts:List (List (List D))):aJ P G gh n vs bs ts=bnd P.funcs[n]? fun fn=>bnd fn.body fun c=>grd (vs.length≤1000∧bs.length≤1000∧ts.length≤1000) <| bnd (JD P G gh c (.on ⟨(bV 0 (vs.map l6)).reverse,(bV 1000000000 (bs.map nX)).reverse,(bV 1000000000 ts).reverse,[]⟩)) (Rb P fn bs.length ts.length):=id rfl
@[simp] theorem awt (o:Option (List (List D))):lT (some rows) o=some rows:=id rfl
@[simp] theorem awu (o:Option (List (List D))):lT none o=o:=id rfl
end
theorem p8 (s:S)(d:Nat)(v:V):grd ((jo s []&&kE s [])=true) (some (s.app (some d) ⟨v,[],[]⟩))=some (s.put (some d) v):=by rw [eB _ (show(jo s []&&kE s [])=true from rfl)];rfl
section
variable (P:Program) (G:List (FuncId×Bool×aN)) (s:S) (n m p q kk d:Nat) (x y:V) (vs ws:List V) (rows:List (List D)) (ats:Array TypeId) (o o1 o2:Operand)
@[simp] theorem awv:jW P G s (some d) (.move o)=iN P G s (some d) (.move o):=by simp only [jW,pW,jh,iN,bq,iX,oz,p8]
@[simp] theorem aww:jW P G s (some d) (.assign o)=iN P G s (some d) (.assign o):=by simp only [jW,pW,jh,iN,bq,iX,oz,p8]
@[simp] theorem awx:jW P G s (some d) (.pick o o1 o2)=iN P G s (some d) (.pick o o1 o2):=by simp only [jW,pW,jh,iN,bq,iX,oz,p8]
@[simp] theorem awy:jW P G s (some d) (.load n o)=iN P G s (some d) (.load n o):=by simp only [jW,pW,jh,iN,bq,iX,oz,p8]
@[simp] theorem awz:jW P G s (some d) (.nilCheck o)=iN P G s (some d) (.nilCheck o):=by simp only [jW,pW,jh,iN,bq,iX,oz,p8]
@[simp] theorem awC:jW P G s (some d) (.fieldAddr n o m)=iN P G s (some d) (.fieldAddr n o m):=by simp only [jW,pW,jh,iN,bq,iX,oz,p8]
@[simp] theorem awD:jW P G s (some d) (.field n o m)=iN P G s (some d) (.field n o m):=by simp only [jW,pW,jh,iN,bq,iX,oz,p8]
@[simp] theorem awE:jW P G s (some d) (.indexAddr n o o1)=iN P G s (some d) (.indexAddr n o o1):=by simp only [jW,pW,jh,iN,bq,iX,oz,p8]
@[simp] theorem awF:jW P G s (some d) (.index n o o1)=iN P G s (some d) (.index n o o1):=by simp only [jW,pW,jh,iN,bq,iX,oz,p8]
@[simp] theorem awG:jW P G s (some d) (.extract o n)=iN P G s (some d) (.extract o n):=by simp only [jW,pW,jh,iN,bq,iX,oz,p8]
@[simp] theorem awH (ps:Array (Nat×Operand)):jW P G s (some d) (.build n ps)=iN P G s (some d) (.build n ps):=by simp only [jW,pW,jh,iN,bq,iX,oz,p8]
@[simp] theorem awI (z:BinOp):jW P G s (some d) (.binOp z n o o1 m)=iN P G s (some d) (.binOp z n o o1 m):=by simp only [jW,pW,jh,iN,bq,iX,oz,p8]
@[simp] theorem awJ (z:UnOp):jW P G s (some d) (.unOp z n o)=iN P G s (some d) (.unOp z n o):=by simp only [jW,pW,jh,iN,bq,iX,oz,p8]
@[simp] theorem awK (z:Fn)(first ps:Array Operand):jW P G s (some d) (.makeFunc z first ps)=iN P G s (some d) (.makeFunc z first ps):=by simp only [jW,pW,jh,iN,bq,iX,oz,p8]
@[simp] theorem awL (lo hi:Option Operand):jW P G s (some d) (.slice n o lo hi none)=bnd (s.ev o) fun x=>bnd (j5 s lo) fun l=>bnd (j5 s hi) fun h=>bnd (P.underlying n) fun dd=>bnd (qK P s x l h dd) fun v=>some (s.put (some d) v):=by simp only [jW,pW,jh,bq,iX,oz,p8]
@[simp] theorem awM:jW P G s (some d) (.convert n m o)=bnd (s.ev o) fun x=>bnd (P.underlying n) fun d0=>bnd (P.underlying m) fun dd=>bnd (wW P s x d0 dd) fun v=>some (s.put (some d) v):=by simp only [jW,pW,jh,bq,iX,oz,p8]
@[simp] theorem awN:jW P G s (some d) (.alloc n)=iN P G s (some d) (.alloc n):=by simp only [jW,pW,iN,bq,iX,S.uO,jo,kE,Bool.and_true,Bool.true_and];rfl
@[simp] theorem awO:jW P G s (some d) (.box n o)=iN P G s (some d) (.box n o):=by simp only [jW,pW,iN,bq,iX,oz,S.uO,jo,kE,Bool.and_true,Bool.true_and];rfl
@[simp] theorem awP (c:Call):jW P G s (some d) (.call c)=bnd (bnd (bH s.ev c.args.toList) fun args=>yA P G s d c.argTypes args c.callee) fun e=>grd ((jo s e.tree&&kE s e.box)=true) (some (s.app (some d) e)):=id rfl
@[simp] theorem awQ (ps:Array (Nat×Operand)):jW P G s (some d) (.buildSlice n m ps)=bnd (bnd (P.underlying n) fun ds=>bnd (iV ds) fun e=>bnd (bH (oO s) ps.toList) fun vs=>grd ((iC P e&&decide (m*P.cellsOf e≤16777216)&&upto 0 m (vs.map (·.1))&&vs.all fun v=>decide (v.2.cells.length=P.cellsOf e)&&v.2.cells.all V.one)=true) (bnd (bH (fun v:Nat×V=>bH Ap v.2.cells) vs) fun rows=>some ⟨.own d,[(d,rows)],[]⟩)) fun e:Eff=>grd ((jo s e.tree&&kE s e.box)=true) (some (s.app (some d) e)):=id rfl
@[simp] theorem awR (z:Builtin):yA P G s d ats vs (.builtin z)=YL P s d z ats vs:=id rfl
@[simp] theorem awS:yA P G s d ats vs (.value o)=bnd (s.ev o) fun f=>bnd (WE f) fun f=>bnd (look f.1 G) fun M=>grd (M.1=false) (EX M.2 s d (vs++f.2)):=id rfl
@[simp] theorem awT:YL P s d .append ats [x,y]=bnd ats[0]? fun t=>bnd ats[1]? fun t1=>grd (D9 P t1=true) (bnd (P.underlying t) fun ds=>bnd (iV ds) fun e=>bnd (mZ s y) fun new=>G8 P s d e new x):=id rfl
@[simp] theorem awU:YL P s d .len ats vs=bnd (Cx P s .len ats vs) fun v=>some ⟨v,[],[]⟩:=id rfl
@[simp] theorem awV:YL P s d .max ats vs=bnd (Cx P s .max ats vs) fun v=>some ⟨v,[],[]⟩:=id rfl
@[simp] theorem awW:YL P s d .min ats vs=bnd (Cx P s .min ats vs) fun v=>some ⟨v,[],[]⟩:=id rfl
@[simp] theorem awX (u:ByteArray):Cx P s .len ats [.v (.string u)]=bnd ats[0]? fun t=>grd (abB P t=true) (some (.v (.int .i64 u.size))):=id rfl
@[simp] theorem awY:Cx P s .len ats [.nil]=bnd ats[0]? fun t=>grd (Ag P t=true) (bnd (s.rows (.nil)) fun rows=>some (.v (.int .i64 rows.length))):=id rfl
@[simp] theorem awZ:mZ s (.nil)=bnd (s.rows (.nil)) fun rows=>grd (dV rows=true) (some rows):=id rfl
@[simp] theorem aw0 (w:Option Nat):Cx P s .len ats [.aM w rows]=bnd ats[0]? fun t=>grd (Ag P t=true) (bnd (s.rows (.aM w rows)) fun rows=>some (.v (.int .i64 rows.length))):=id rfl
@[simp] theorem aw1 (w:Option Nat):mZ s (.aM w rows)=bnd (s.rows (.aM w rows)) fun rows=>grd (dV rows=true) (some rows):=id rfl
@[simp] theorem aw2:Cx P s .len ats [.fz rows]=bnd ats[0]? fun t=>grd (Ag P t=true) (bnd (s.rows (.fz rows)) fun rows=>some (.v (.int .i64 rows.length))):=id rfl
@[simp] theorem aw3:mZ s (.fz rows)=bnd (s.rows (.fz rows)) fun rows=>grd (dV rows=true) (some rows):=id rfl
@[simp] theorem aw4:Cx P s .len ats [.own p]=bnd ats[0]? fun t=>grd (Ag P t=true) (bnd (s.rows (.own p)) fun rows=>some (.v (.int .i64 rows.length))):=id rfl
@[simp] theorem aw5:mZ s (.own p)=bnd (s.rows (.own p)) fun rows=>grd (dV rows=true) (some rows):=id rfl
@[simp] theorem aw6:Cx P s .len ats [.inn p n m q]=bnd ats[0]? fun t=>grd (Ag P t=true) (bnd (s.rows (.inn p n m q)) fun rows=>some (.v (.int .i64 rows.length))):=id rfl
@[simp] theorem aw7:mZ s (.inn p n m q)=bnd (s.rows (.inn p n m q)) fun rows=>grd (dV rows=true) (some rows):=id rfl
@[simp] theorem aw8 (u:ByteArray):mZ s (.v (.string u))=some (u.toList.map fun c=> [.a (.int .u8 (c.toNat:Int))]):=id rfl
@[simp] theorem aw9 (a c:Int):Cx P s .max ats [.v (.int .i64 a), .v (.int .i64 c)]=some (.v (.int .i64 (max a c))):=id rfl
@[simp] theorem axa (a c:Int):Cx P s .min ats [.v (.int .i64 a), .v (.int .i64 c)]=some (.v (.int .i64 (min a c))):=id rfl
@[simp] theorem axb:G8 P s d n rows .nil=grd (kU P n rows.length=true∧wid (P.cellsOf n) rows=true) (some ⟨.own d,[(d,rows)],[]⟩):=id rfl
@[simp] theorem axc:G8 P s d n rows (.own p)=bnd (look p s.tree) fun rs=>grd (rs.isEmpty=true∧kU P n rows.length=true∧wid (P.cellsOf n) rows=true) (some ⟨.own d,[(d,rows)],[]⟩):=id rfl
@[simp] theorem axd (M:aN):EX M s d vs=bnd (wm s ⟨[],[],[]⟩ vs) fun x=>grd ((x.2.box.isEmpty&&x.2.tree.isEmpty)=true) (bnd (M x.1 [] []) fun r=>grd (r.box.isEmpty=true) (bnd (nC x.2 d r.val) fun v=>some ⟨v,uR d r.tree,[]⟩)):=id rfl
@[simp] theorem axe:uR n []= []:=id rfl
@[simp] theorem axf (r:List (Nat×List (List D))):uR n ((q,rows)::r)=(1000*(n+1)+q,rows)::uR n r:=id rfl
@[simp] theorem axg:jo s []=true:=id rfl
@[simp] theorem axh (r:List (Nat×List (List D)))(e:List (Nat×V))(b:List (Nat×List V))(t f:List (Nat×List (List D))):jo ⟨e,b,t,f⟩ ((q,rows)::r)=(fresh ⟨e,b,t,f⟩ q&&decide (q<1000000000)&&jo ⟨e,b,(q,rows)::t,f⟩ r):=id rfl
@[simp] theorem axi:kE s []=true:=id rfl
@[simp] theorem axj (r:List (Nat×List V))(e:List (Nat×V))(b:List (Nat×List V))(t f:List (Nat×List (List D))):kE ⟨e,b,t,f⟩ ((q,vs)::r)=((look q b).isNone&&kE ⟨e,(q,vs)::b,t,f⟩ r):=id rfl
@[simp] theorem axk (tt:List (Nat×List (List D)))(bb:List (Nat×List V))(e:List (Nat×V))(b:List (Nat×List V))(t f:List (Nat×List (List D))):S.app ⟨e,b,t,f⟩ (some d) ⟨x,tt,bb⟩=⟨put d x e,bb++b,tt.reverse++t,f⟩:=id rfl
@[simp] theorem axl (w:Option Nat):rU P G s w (.store n o o1)=bnd (s.ev o) fun p=>bnd (s.ev o1) fun v=>grd (eY P n=true∧v.cells.length=P.cellsOf n∧w.isNone=true) (Ea s v p):=id rfl
@[simp] theorem axn (w:Option Nat)(c:Call):rU P G s w (.call c)=bnd (bH s.ev c.args.toList) fun args=>yC P G s w c.argTypes args c.callee:=id rfl
@[simp] theorem axo (w:Option Nat):yC P G s w ats vs (.value o)=bnd (s.ev o) fun f=>bnd (WE f) fun f=>bnd (look f.1 G) fun M=>grd (M.1=false) (O9 M.2 s (w.getD 0) (vs++f.2)):=id rfl
@[simp] theorem axp (w:Option Nat)(z:Builtin):yC P G s w ats vs (.builtin z)=Q7 P s w z ats vs:=id rfl
@[simp] theorem axq (w:Option Nat):Q7 P s w .append ats [x,y]=bnd ats[0]? fun t=>bnd ats[1]? fun t1=>grd (D9 P t1=true) (bnd (P.underlying t) fun ds=>bnd (iV ds) fun e=>bnd (mZ s y) fun new=>yB P s w e new x):=id rfl
@[simp] theorem axr (w:Option Nat):yB P s w n rows .nil=grd (kU P n rows.length=true∧wid (P.cellsOf n) rows=true) (bnd w fun t=>grd (fresh s t=true) (some ⟨.own t,s.box,(t,rows)::s.tree,[],[]⟩)):=id rfl
@[simp] theorem axt (w:Option Nat):yB P s w n rows (.own p)=bnd (look p s.tree) fun rs=>grd (kU P n (rs.length+rows.length)=true∧wid (P.cellsOf n) rs=true∧wid (P.cellsOf n) rows=true) (bnd w fun t=>grd (fresh s t=true) (some ⟨.own t,oq p s.box,(t,rs++rows)::drop1 p s.tree,[p],[]⟩)):=id rfl
@[simp] theorem axu (z:Builtin)(ar:Array Operand)(at_:Array TypeId):isApp (.call ⟨.builtin z,ar,at_⟩)=true:=id rfl
@[simp] theorem axv (ar:Array Operand)(at_:Array TypeId):isApp (.call ⟨.value o,ar,at_⟩)=false:=id rfl
@[simp] theorem axw:isApp (.store n o o1)=false:=id rfl
@[simp] theorem axx (ps:Array (Nat×Operand)):isApp (.buildSlice n m ps)=false:=id rfl
@[simp] theorem axy:Eb [] x=true:=id rfl
@[simp] theorem axz (ks:List Nat):Eb (p::ks) x=(!aP p x&&Eb ks x):=id rfl
@[simp] theorem axA (ks:List Nat):lS ks s (.tmp n)=match look n s.env with|some v=>Eb ks v|none=>true:=id rfl
@[simp] theorem axB (ks:List Nat)(z:Value):lS ks s (.const z)=true:=id rfl
@[simp] theorem axC (ks:List Nat)(z:FuncId):lS ks s (.func z)=true:=id rfl
@[simp] theorem axD (ks:List Nat):fq ks s (.alloc n)=true:=by simp [fq,Op.operands,Call.operands]
@[simp] theorem axE (ks:List Nat):fq ks s (.move o)=lS ks s o:=by simp [fq,Op.operands,Call.operands]
@[simp] theorem axF (ks:List Nat):fq ks s (.assign o)=lS ks s o:=by simp [fq,Op.operands,Call.operands]
@[simp] theorem axG (ks:List Nat):fq ks s (.box n o)=lS ks s o:=by simp [fq,Op.operands,Call.operands]
@[simp] theorem axH (ks:List Nat):fq ks s (.load n o)=lS ks s o:=by simp [fq,Op.operands,Call.operands]
@[simp] theorem axI (ks:List Nat):fq ks s (.nilCheck o)=lS ks s o:=by simp [fq,Op.operands,Call.operands]
@[simp] theorem axJ (ks:List Nat):fq ks s (.fieldAddr n o m)=lS ks s o:=by simp [fq,Op.operands,Call.operands]
@[simp] theorem axK (ks:List Nat):fq ks s (.field n o m)=lS ks s o:=by simp [fq,Op.operands,Call.operands]
@[simp] theorem axL (ks:List Nat):fq ks s (.extract o n)=lS ks s o:=by simp [fq,Op.operands,Call.operands]
@[simp] theorem axM (ks:List Nat)(z:UnOp):fq ks s (.unOp z n o)=lS ks s o:=by simp [fq,Op.operands,Call.operands]
@[simp] theorem axN (ks:List Nat)(o2:Operand):fq ks s (.pick o o1 o2)=(lS ks s o&&(lS ks s o1&&lS ks s o2)):=by simp [fq,Op.operands,Call.operands]
@[simp] theorem axO (ks:List Nat)(z:BinOp):fq ks s (.binOp z n o o1 m)=(lS ks s o&&lS ks s o1):=by simp [fq,Op.operands,Call.operands]
@[simp] theorem axP (ks:List Nat):fq ks s (.indexAddr n o o1)=(lS ks s o&&lS ks s o1):=by simp [fq,Op.operands,Call.operands]
@[simp] theorem axQ (ks:List Nat):fq ks s (.index n o o1)=(lS ks s o&&lS ks s o1):=by simp [fq,Op.operands,Call.operands]
@[simp] theorem axR (ks:List Nat):fq ks s (.slice n o none none none)=lS ks s o:=by simp [fq,Op.operands,Call.operands]
@[simp] theorem axS (ks:List Nat):fq ks s (.slice n o (some o1) none none)=(lS ks s o&&lS ks s o1):=by simp [fq,Op.operands,Call.operands]
@[simp] theorem axT (ks:List Nat):fq ks s (.slice n o none (some o1) none)=(lS ks s o&&lS ks s o1):=by simp [fq,Op.operands,Call.operands]
@[simp] theorem axU (ks:List Nat)(o2:Operand):fq ks s (.slice n o (some o1) (some o2) none)=(lS ks s o&&(lS ks s o1&&lS ks s o2)):=by simp [fq,Op.operands,Call.operands]
@[simp] theorem axV (ks:List Nat)(ps:Array (Nat×Operand)):fq ks s (.buildSlice n m ps)=(ps.toList.all fun x=>lS ks s x.2):=by simp [fq,Op.operands,List.all_map,Function.comp_def]
@[simp] theorem axW (ks:List Nat)(ps:Array (Nat×Operand)):fq ks s (.build n ps)=(ps.toList.all fun x=>lS ks s x.2):=by simp [fq,Op.operands,List.all_map,Function.comp_def]
@[simp] theorem axX (ks:List Nat)(z:Builtin)(ar:Array Operand)(at_:Array TypeId):fq ks s (.call ⟨.builtin z,ar,at_⟩)=(ar.toList.all fun x=>lS ks s x):=by simp [fq,Op.operands,Call.operands]
@[simp] theorem axY (ks:List Nat)(ar:Array Operand)(at_:Array TypeId):fq ks s (.call ⟨.value o,ar,at_⟩)=(lS ks s o&&ar.toList.all fun x=>lS ks s x):=by simp [fq,Op.operands,Call.operands]
@[simp] theorem axZ (ks:List Nat)(os:Array Oper):DF os s ks []=some ():=id rfl
@[simp] theorem ax0 (ks:List Nat)(os:Array Oper)(l:List Nat):DF os s ks (n::l)=bnd os[n]? fun o=>bnd o.dst fun d=>bnd (look d s.env) fun v=>grd ((Eb ks v&&fq ks s o.op)=true) (DF os s ks l):=id rfl
@[simp] theorem ax1:Ea s x (.ref n m)=bnd (look n s.box) fun cs=>grd (m+x.cells.length≤cs.length∧x.cells.all V.one=true) (some ⟨.fT [],upd n (setAt cs m x.cells) s.box,s.tree,[],[]⟩):=id rfl
@[simp] theorem ax2 (M:aN):O9 M s d vs=bnd (wm s ⟨[],[],[]⟩ vs) fun x=>bnd (mF s x.2 x.2.box) fun y=>grd ((y.2.tree.isEmpty&&NQ y.2 y.1.length)=true) (bnd (M x.1 y.1 []) fun r=>bnd (iW y.2 d y.2.box r.box s) fun s=>bnd (jR y.2 d r.tree s) fun s=>bnd (nC y.2 d r.val) fun v=>some ⟨v,s.box,s.tree,[],[]⟩):=id rfl
@[simp] theorem ax3 (l li:List Nat)(tt:List (Nat×List (List D)))(bb:List (Nat×List V))(e:List (Nat×V))(b:List (Nat×List V))(t f:List (Nat×List (List D))):S.iD ⟨e,b,t,f⟩ none ⟨x,bb,tt,l,li⟩=⟨GD li (qh l e),bb,tt,f⟩:=id rfl
@[simp] theorem ax4 (l li:List Nat)(tt:List (Nat×List (List D)))(bb:List (Nat×List V))(e:List (Nat×V))(b:List (Nat×List V))(t f:List (Nat×List (List D))):S.iD ⟨e,b,t,f⟩ (some d) ⟨x,bb,tt,l,li⟩=⟨put d x (GD li (qh l e)),bb,tt,f⟩:=id rfl
@[simp] theorem ax5 (s0:S)(os:Array Oper):oC P os s0 s []=some ():=id rfl
@[simp] theorem ax6 (s0:S)(os:Array Oper)(l:List Nat):oC P os s0 s (n::l)=bnd os[n]? fun o=>bnd o.dst fun d=>bnd (look d s.env) fun v=>bnd (jh P s o.op) fun u=>BL u v (bnd (look d s0.env) fun v0=>BL v0 v (oC P os s0 s l)):=id rfl
@[simp] theorem ax7 (e:List (Nat×V)):qh [] e=e:=id rfl
@[simp] theorem ax8 (e:List (Nat×V)):GD [] e=e:=id rfl
@[simp] theorem ax9 (l:List Nat)(e:List (Nat×V)):GD (n::l) e=GD l (Qj n e):=id rfl
@[simp] theorem aya (l:List Nat)(e:List (Nat×V)):qh (n::l) e=qh l (Aq n e):=id rfl
@[simp] theorem ayb:LZ []= []:=id rfl
@[simp] theorem ayc (l:List V):LZ (x::l)=owns x.cells++LZ l:=id rfl
@[simp] theorem ayd:owns []= []:=id rfl
@[simp] theorem aye (l:List V):owns (.own p::l)=p::owns l:=id rfl
@[simp] theorem ayf (l:List V)  :owns (.nil::l)=owns l:=id rfl
@[simp] theorem ayg (l:List V)(w:Option Nat):owns (.aM w rows::l)=owns l:=id rfl
@[simp] theorem ayh (l:List V)  :owns (.fz rows::l)=owns l:=id rfl
@[simp] theorem ayi (l:List V)(z:Value):owns (.v z::l)=owns l:=id rfl
@[simp] theorem ayj (l:List V)  :owns (.ref n m::l)=owns l:=id rfl
@[simp] theorem ayk (l:List V)  :owns (.inn p n m q::l)=owns l:=id rfl
@[simp] theorem ayl (l:List V)  :owns (.agg vs::l)=owns l:=id rfl
@[simp] theorem aym (l:List V)  :owns (.fT vs::l)=owns l:=id rfl
@[simp] theorem ayn (w:Option Nat):QF w vs (rows,s)=bnd w fun t=>grd (fresh s t=true) (some ⟨.own t,s.box,(t,rows)::s.tree,LZ vs,[]⟩):=id rfl
@[simp] theorem ayo (w:Option Nat)(ps:Array (Nat×Operand)):rU P G s w (.buildSlice n m ps)=bnd (P.underlying n) fun dd=>bnd (iV dd) fun e=>bnd (bH (oO s) ps.toList) fun vs=>grd ((iC P e&&decide (m*P.cellsOf e≤16777216)&&upto 0 m (vs.map (·.1))&&vs.all fun v=>decide (v.2.cells.length=P.cellsOf e)&&v.2.cells.all V.one)=true) (bnd (ku s (vs.map (·.2))) fun x=>QF w (vs.map (·.2)) x):=id rfl
@[simp] theorem ayp (first:Array Operand):fnV vs first (.func n)=grd (first.isEmpty=true) (some (.fn n vs)):=id rfl
@[simp] theorem ayq (dst:Option Nat)(z:Fn)(first ps:Array Operand):iN P G s dst (.makeFunc z first ps)=bnd (bH s.ev ps.toList) fun vs=>bnd (fnV vs first z) fun v=>some (s.put dst v):=id rfl
@[simp] theorem ayr (z:Fn)(first ps:Array Operand):jh P s (.makeFunc z first ps)=bnd (bH s.ev ps.toList) fun vs=>fnV vs first z:=id rfl
@[simp] theorem ays:jh P s (.move o)=s.ev o:=id rfl
@[simp] theorem ayt:jh P s (.assign o)=s.ev o:=id rfl
@[simp] theorem ayu:jh P s (.load n o)=bnd (s.ev o) fun p=>s.load P n p:=id rfl
@[simp] theorem ayv:jh P s (.nilCheck o)=bnd (s.ev o) fun v=>O7 v:=id rfl
@[simp] theorem ayw:jh P s (.fieldAddr n o m)=bnd (s.ev o) fun x=>bnd (bZ P n m) fun f=>yw x f.1:=id rfl
@[simp] theorem ayx:jh P s (.extract o n)=bnd (s.ev o) fun x=>Q0 n x:=id rfl
@[simp] theorem ayy (z:BinOp):jh P s (.binOp z n o o1 m)=bnd (s.ev o) fun x=>bnd (s.ev o1) fun y=>bin P n z x y:=id rfl
@[simp] theorem ayz (z:UnOp):jh P s (.unOp z n o)=bnd (s.ev o) fun x=>un z x:=id rfl
@[simp] theorem ayA:jh P s (.field n o m)=bnd (s.ev o) fun x=>bnd (U6 x) fun cs=>bnd (bZ P n m) fun f=>bnd (oN P f.2) fun g=>span cs f.1 (P.cellsOf f.2) g:=id rfl
@[simp] theorem ayB:jh P s (.indexAddr n o o1)=bnd (s.ev o) fun x=>bnd (s.ev o1) fun i=>bnd (idxOf i) fun i=>bnd (lU P n) fun e=>lq P s x i e.1 e.2:=id rfl
@[simp] theorem ayC:jh P s (.index n o o1)=bnd (s.ev o) fun x=>bnd (s.ev o1) fun i=>bnd (idxOf i) fun i=>GY P n x i:=id rfl
@[simp] theorem ayD (dst:Option Nat):iN P G s dst (.lookup n o o1 true)=bnd (s.ev o) fun m=>bnd (s.ev o1) fun k=>bnd (aeN m) fun es=>bnd (U7 k) fun a=>bnd (Qk P n) fun z=>some (s.put dst (NS z (rF a es))):=id rfl
@[simp] theorem ayE (em:List (Int×Int)):aeN (.mp em)=some em:=id rfl
@[simp] theorem ayF (a:Int):U7 (.v (.int .i64 a))=some a:=id rfl
@[simp] theorem ayG (a:Int):rF a []=none:=id rfl
@[simp] theorem ayH (a b z:Int)(em:List (Int×Int)):rF a ((b,z)::em)=if a=b then some z else rF a em:=id rfl
@[simp] theorem ayI (z a:Int):NS z (some a)= .fT [.v (.int .i64 a), .v (.bool true)]:=id rfl
@[simp] theorem ayJ (z:Int):NS z none= .fT [.v (.int .i64 z), .v (.bool false)]:=id rfl
@[simp] theorem ayK:DC []=true:=id rfl
@[simp] theorem ayL (a z:Int)(em:List (Int×Int)):DC ((a,z)::em)=((rF a em).isNone&&DC em):=id rfl
@[simp] theorem ayM (tt:TypeId)(pp:String)(af:Array Edge)(r:List Oper):Q6 (⟨some d, .makeMap n none,tt,pp,af,none⟩::r)=some (n,d,(oP n d r []).1,(oP n d r []).2):=id rfl
@[simp] theorem ayN (em:List (Int×Int)):oP n d [] em=(em,[]):=id rfl
@[simp] theorem ayO (a z:Int)(em:List (Int×Int))(tt:TypeId)(pp:String)(af:Array Edge)(r:List Oper):oP n d (⟨none, .insert m (.tmp p) (.const (.int .i64 a)) (.const (.int .i64 z)),tt,pp,af,none⟩::r) em=if m=n∧p=d then oP n d r (em++ [(a,z)])else(em,⟨none, .insert m (.tmp p) (.const (.int .i64 a)) (.const (.int .i64 z)),tt,pp,af,none⟩::r):=by simp only [oP,O8];split<;>rfl
@[simp] theorem ayP (op:Op)(gu:Option (Nat×Bool))(em:List (Int×Int))(tt:TypeId)(pp:String)(af:Array Edge)(r:List Oper):oP n d (⟨some p,op,tt,pp,af,gu⟩::r) em=(em,⟨some p,op,tt,pp,af,gu⟩::r):=by simp only [oP,O8];rfl
@[simp] theorem ayQ (e:List (Nat×V))(b:List (Nat×List V))(t f:List (Nat×List (List D)))(em:List (Int×Int)):S.QE ⟨e,b,t,f⟩ d em=⟨put d (.mp em) e,b,t,(d,[])::f⟩:=id rfl
@[simp] theorem ayR (z:BinOp):bin P n z (.agg vs) (.agg ws)=bnd (eqT P n) fun m=>grd (vs.length=m) (bnd (Dy vs ws) fun g=>agy g z):=id rfl
@[simp] theorem ayS (g:Bool):agy g .eql=some (.v (.bool g)):=id rfl
@[simp] theorem ayT (g:Bool):agy g .neq=some (.v (.bool !g)):=id rfl
@[simp] theorem ayU:Dy [] []=some true:=id rfl
@[simp] theorem ayV (a b:Int):Dy (.v (.int .i64 a)::vs) (.v (.int .i64 b)::ws)=bnd (Dy vs ws) fun g=>some (a==b&&g):=id rfl
@[simp] theorem ayW (c:Call):jh P s (.call c)=bnd (bH s.ev c.args.toList) fun vs=>LY vs c.callee:=id rfl
@[simp] theorem ayX (z:Builtin):LY vs (.builtin z)=LX z vs:=id rfl
@[simp] theorem ayY (a b:Int):LX .max [.v (.int .i64 a), .v (.int .i64 b)]=some (.v (.int .i64 (max a b))):=id rfl
@[simp] theorem ayZ (a b:Int):LX .min [.v (.int .i64 a), .v (.int .i64 b)]=some (.v (.int .i64 (min a b))):=id rfl
@[simp] theorem ay0 (w:Option Nat):yB P s w n rows (.inn p m q kk)=bnd (s.rows (.inn p m q kk)) fun rs0=>grd (kU P n (rs0.length+rows.length)=true∧wid (P.cellsOf n) rs0=true∧wid (P.cellsOf n) rows=true) (bnd (look p s.tree) fun rs=>bnd rs[m]? fun r=>grd (¬(1000000000≤p∧p<2000000000)) (bnd w fun t=>grd (fresh s t=true) (some ⟨.own t,GZ p s.box,(t,rs0++rows)::upd p (rs.set m (r.set q .gone)) s.tree,[],[p]⟩))):=id rfl
@[simp] theorem ay1 (os:Array Oper)(w:Option Nat)(l ks:List Nat)(b:List (Nat×List V))(tt:List (Nat×List (List D))):NU P os s w l ⟨x,b,tt,ks,[]⟩=BL b s.box (bnd (DF os s ks l) fun _=>some (s.iD w ⟨x,b,tt,ks,[]⟩)):=id rfl
@[simp] theorem ay2 (os:Array Oper)(w:Option Nat)(l ks r:List Nat)(b:List (Nat×List V))(tt:List (Nat×List (List D))):NU P os s w l ⟨x,b,tt,ks,n::r⟩=grd (KY os l=true) (bnd (oC P os s (s.iD w ⟨x,b,tt,ks,n::r⟩) l) fun _=>some (s.iD w ⟨x,b,tt,ks,n::r⟩)):=id rfl
@[simp] theorem ay3 (os:Array Oper):KY os []=true:=id rfl
@[simp] theorem ay4 (os:Array Oper)(l:List Nat):KY os (n::l)=(agD os[n]?&&KY os l):=id rfl
@[simp] theorem ay5 (w:Option Nat)(op:Op)(tt:TypeId)(pp:String)(af:Array Edge)(gu:Option (Nat×Bool)):agD (some ⟨w,op,tt,pp,af,gu⟩)=isVal op:=id rfl
@[simp] theorem ay6:isVal (.move o)=true:=id rfl
@[simp] theorem ay7:isVal (.load n o)=true:=id rfl
@[simp] theorem ay8:isVal (.fieldAddr n o m)=true:=id rfl
@[simp] theorem ay9:isVal (.indexAddr n o o1)=true:=id rfl
@[simp] theorem aza:isVal (.extract o n)=true:=id rfl
@[simp] theorem azb:isVal (.field n o m)=true:=id rfl
@[simp] theorem azc:isVal (.index n o o1)=true:=id rfl
@[simp] theorem azd (z:BinOp):isVal (.binOp z n o o1 m)=true:=id rfl
@[simp] theorem aze (z:UnOp):isVal (.unOp z n o)=true:=id rfl
@[simp] theorem azf:Ea s x (.pe (.own q) kk p m)=Bh s q kk p m x.atom:=id rfl
@[simp] theorem azg:Bh s q kk p m none=none:=id rfl
@[simp] theorem azh (d1:D):Bh s q kk p m (some d1)=bnd (look q s.tree) fun rs=>bnd rs[p]? fun r=>bnd r[m]? fun d0=>grd (r.length=kk∧sH d0=true∧yc d1=true) (some ⟨.fT [],s.box,upd q (rs.set p (r.set m d1)) s.tree,[],[]⟩):=id rfl
end
@[simp] theorem ts3:eY prog 3=true:=aV (by kernel_rfl)
@[simp] theorem to3:iC prog 3=true:=aV (by kernel_rfl)
@[simp] theorem tc3:prog.cellsOf 3=1:=aV (by kernel_rfl)
@[simp] theorem tb3:prog.bytesOf 3=8:=aV (by kernel_rfl)
@[simp] theorem ta3:oN prog 3=some false:=aV (by kernel_rfl)
@[simp] theorem tz3:jO prog 3=some [.v (.int .i64 0)]:=aV (by kernel_rfl)
@[simp] theorem ts4:eY prog 4=true:=aV (by kernel_rfl)
@[simp] theorem to4:iC prog 4=true:=aV (by kernel_rfl)
@[simp] theorem tc4:prog.cellsOf 4=1:=aV (by kernel_rfl)
@[simp] theorem tb4:prog.bytesOf 4=1:=aV (by kernel_rfl)
@[simp] theorem ta4:oN prog 4=some false:=aV (by kernel_rfl)
@[simp] theorem tz4:jO prog 4=some [.v (.bool false)]:=aV (by kernel_rfl)
@[simp] theorem ts5:eY prog 5=true:=aV (by kernel_rfl)
@[simp] theorem to5:iC prog 5=true:=aV (by kernel_rfl)
@[simp] theorem tc5:prog.cellsOf 5=1:=aV (by kernel_rfl)
@[simp] theorem tb5:prog.bytesOf 5=1:=aV (by kernel_rfl)
@[simp] theorem ta5:oN prog 5=some false:=aV (by kernel_rfl)
@[simp] theorem tz5:jO prog 5=some [.v (.int .u8 0)]:=aV (by kernel_rfl)
@[simp] theorem ts9:eY prog 9=true:=aV (by kernel_rfl)
@[simp] theorem to9:iC prog 9=true:=aV (by kernel_rfl)
@[simp] theorem tc9:prog.cellsOf 9=1:=aV (by kernel_rfl)
@[simp] theorem tb9:prog.bytesOf 9=16:=aV (by kernel_rfl)
@[simp] theorem ta9:oN prog 9=some false:=aV (by kernel_rfl)
@[simp] theorem tz9:jO prog 9=some [.v (.string ⟨#[]⟩)]:=aV (by kernel_rfl)
@[simp] theorem tw9:D9 prog 9=true:=aV (by kernel_rfl)
@[simp] theorem tx9:abB prog 9=true:=aV (by kernel_rfl)
@[simp] theorem azi:eY prog 22=true:=aV (by kernel_rfl)
@[simp] theorem azj:iC prog 22=true:=aV (by kernel_rfl)
@[simp] theorem azk:prog.cellsOf 22=1:=aV (by kernel_rfl)
@[simp] theorem azl:prog.bytesOf 22=24:=aV (by kernel_rfl)
@[simp] theorem azm:oN prog 22=some false:=aV (by kernel_rfl)
@[simp] theorem azn:jO prog 22=some [.nil]:=aV (by kernel_rfl)
@[simp] theorem azo:lU prog 22=some (5,none):=aV (by kernel_rfl)
@[simp] theorem azp:D9 prog 22=true:=aV (by kernel_rfl)
@[simp] theorem azq:Ag prog 22=true:=aV (by kernel_rfl)
@[simp] theorem azr:eY prog 23=true:=aV (by kernel_rfl)
@[simp] theorem azs:iC prog 23=true:=aV (by kernel_rfl)
@[simp] theorem azt:prog.cellsOf 23=1:=aV (by kernel_rfl)
@[simp] theorem azu:prog.bytesOf 23=24:=aV (by kernel_rfl)
@[simp] theorem azv:oN prog 23=some false:=aV (by kernel_rfl)
@[simp] theorem azw:jO prog 23=some [.nil]:=aV (by kernel_rfl)
@[simp] theorem azx:lU prog 23=some (3,none):=aV (by kernel_rfl)
@[simp] theorem azy:D9 prog 23=true:=aV (by kernel_rfl)
@[simp] theorem azz:Ag prog 23=true:=aV (by kernel_rfl)
@[simp] theorem azA:eY prog 25=true:=aV (by kernel_rfl)
@[simp] theorem azB:iC prog 25=true:=aV (by kernel_rfl)
@[simp] theorem azC:prog.cellsOf 25=2:=aV (by kernel_rfl)
@[simp] theorem azD:prog.bytesOf 25=32:=aV (by kernel_rfl)
@[simp] theorem azE:oN prog 25=some true:=aV (by kernel_rfl)
@[simp] theorem azF:jO prog 25=some [.nil, .v (.int .i64 0)]:=aV (by kernel_rfl)
@[simp] theorem azG:jm prog 25=true:=aV (by kernel_rfl)
@[simp] theorem amc:bZ prog 25 0=some (0,23):=aV (by kernel_rfl)
@[simp] theorem amd:bZ prog 25 1=some (1,3):=aV (by kernel_rfl)
@[simp] theorem azH:eY prog 26=true:=aV (by kernel_rfl)
@[simp] theorem azI:iC prog 26=true:=aV (by kernel_rfl)
@[simp] theorem azJ:prog.cellsOf 26=1:=aV (by kernel_rfl)
@[simp] theorem azK:prog.bytesOf 26=24:=aV (by kernel_rfl)
@[simp] theorem azL:oN prog 26=some false:=aV (by kernel_rfl)
@[simp] theorem azM:jO prog 26=some [.nil]:=aV (by kernel_rfl)
@[simp] theorem azN:lU prog 26=some (142,none):=aV (by kernel_rfl)
@[simp] theorem azO:D9 prog 26=true:=aV (by kernel_rfl)
@[simp] theorem azP:Ag prog 26=true:=aV (by kernel_rfl)
@[simp] theorem azQ:eY prog 28=true:=aV (by kernel_rfl)
@[simp] theorem azR:iC prog 28=true:=aV (by kernel_rfl)
@[simp] theorem azS:prog.cellsOf 28=1:=aV (by kernel_rfl)
@[simp] theorem azT:prog.bytesOf 28=24:=aV (by kernel_rfl)
@[simp] theorem azU:oN prog 28=some true:=aV (by kernel_rfl)
@[simp] theorem azV:jO prog 28=some [.nil]:=aV (by kernel_rfl)
@[simp] theorem azW:jm prog 28=true:=aV (by kernel_rfl)
@[simp] theorem ame:bZ prog 28 0=some (0,26):=aV (by kernel_rfl)
@[simp] theorem azX:eY prog 29=true:=aV (by kernel_rfl)
@[simp] theorem azY:iC prog 29=true:=aV (by kernel_rfl)
@[simp] theorem azZ:prog.cellsOf 29=1:=aV (by kernel_rfl)
@[simp] theorem az0:prog.bytesOf 29=24:=aV (by kernel_rfl)
@[simp] theorem az1:oN prog 29=some false:=aV (by kernel_rfl)
@[simp] theorem az2:jO prog 29=some [.nil]:=aV (by kernel_rfl)
@[simp] theorem az3:lU prog 29=some (25,none):=aV (by kernel_rfl)
@[simp] theorem az4:D9 prog 29=true:=aV (by kernel_rfl)
@[simp] theorem az5:Ag prog 29=true:=aV (by kernel_rfl)
@[simp] theorem az6:eY prog 31=true:=aV (by kernel_rfl)
@[simp] theorem az7:iC prog 31=true:=aV (by kernel_rfl)
@[simp] theorem az8:prog.cellsOf 31=1:=aV (by kernel_rfl)
@[simp] theorem az9:prog.bytesOf 31=24:=aV (by kernel_rfl)
@[simp] theorem aAa:oN prog 31=some true:=aV (by kernel_rfl)
@[simp] theorem aAb:jO prog 31=some [.nil]:=aV (by kernel_rfl)
@[simp] theorem aAc:jm prog 31=true:=aV (by kernel_rfl)
@[simp] theorem amf:bZ prog 31 0=some (0,29):=aV (by kernel_rfl)
@[simp] theorem aAd:eY prog 33=true:=aV (by kernel_rfl)
@[simp] theorem aAe:iC prog 33=true:=aV (by kernel_rfl)
@[simp] theorem aAf:prog.cellsOf 33=20:=aV (by kernel_rfl)
@[simp] theorem aAg:prog.bytesOf 33=256:=aV (by kernel_rfl)
@[simp] theorem aAh:oN prog 33=some true:=aV (by kernel_rfl)
@[simp] theorem aAi:jO prog 33=some [.v (.bool false), .v (.int .i64 0), .nil, .v (.int .i64 0), .v (.int .i64 0), .v (.int .i64 0), .v (.int .i64 0), .v (.int .i64 0), .v (.int .i64 0), .v (.int .i64 0), .v (.int .i64 0), .nil, .nil, .v (.int .i64 0), .nil, .v (.int .i64 0), .nil, .v (.int .i64 0), .nil, .v (.int .i64 0)]:=aV (by kernel_rfl)
@[simp] theorem aAj:jm prog 33=true:=aV (by kernel_rfl)
@[simp] theorem amg:bZ prog 33 0=some (0,4):=aV (by kernel_rfl)
@[simp] theorem amh:bZ prog 33 1=some (1,3):=aV (by kernel_rfl)
@[simp] theorem ami:bZ prog 33 2=some (2,25):=aV (by kernel_rfl)
@[simp] theorem amj:bZ prog 33 3=some (4,3):=aV (by kernel_rfl)
@[simp] theorem amk:bZ prog 33 4=some (5,3):=aV (by kernel_rfl)
@[simp] theorem aml:bZ prog 33 5=some (6,3):=aV (by kernel_rfl)
@[simp] theorem amm:bZ prog 33 6=some (7,3):=aV (by kernel_rfl)
@[simp] theorem amn:bZ prog 33 7=some (8,3):=aV (by kernel_rfl)
@[simp] theorem amo:bZ prog 33 8=some (9,3):=aV (by kernel_rfl)
@[simp] theorem amq:bZ prog 33 9=some (10,3):=aV (by kernel_rfl)
@[simp] theorem alQ:bZ prog 33 10=some (11,28):=aV (by kernel_rfl)
@[simp] theorem alR:bZ prog 33 11=some (12,31):=aV (by kernel_rfl)
@[simp] theorem alS:bZ prog 33 12=some (13,3):=aV (by kernel_rfl)
@[simp] theorem alT:bZ prog 33 13=some (14,25):=aV (by kernel_rfl)
@[simp] theorem alU:bZ prog 33 14=some (16,23):=aV (by kernel_rfl)
@[simp] theorem alV:bZ prog 33 15=some (17,3):=aV (by kernel_rfl)
@[simp] theorem alW:bZ prog 33 16=some (18,25):=aV (by kernel_rfl)
@[simp] theorem aAk:eY prog 34=true:=aV (by kernel_rfl)
@[simp] theorem aAl:iC prog 34=true:=aV (by kernel_rfl)
@[simp] theorem aAm:prog.cellsOf 34=1:=aV (by kernel_rfl)
@[simp] theorem aAn:prog.bytesOf 34=24:=aV (by kernel_rfl)
@[simp] theorem aAo:oN prog 34=some false:=aV (by kernel_rfl)
@[simp] theorem aAp:jO prog 34=some [.nil]:=aV (by kernel_rfl)
@[simp] theorem aAq:lU prog 34=some (9,none):=aV (by kernel_rfl)
@[simp] theorem aAr:D9 prog 34=true:=aV (by kernel_rfl)
@[simp] theorem aAs:Ag prog 34=true:=aV (by kernel_rfl)
@[simp] theorem aAt:eY prog 36=true:=aV (by kernel_rfl)
@[simp] theorem aAu:iC prog 36=true:=aV (by kernel_rfl)
@[simp] theorem aAv:prog.cellsOf 36=2:=aV (by kernel_rfl)
@[simp] theorem aAw:prog.bytesOf 36=32:=aV (by kernel_rfl)
@[simp] theorem aAx:oN prog 36=some true:=aV (by kernel_rfl)
@[simp] theorem aAy:jO prog 36=some [.v (.int .i64 0), .nil]:=aV (by kernel_rfl)
@[simp] theorem aAz:jm prog 36=true:=aV (by kernel_rfl)
@[simp] theorem amr:bZ prog 36 0=some (0,3):=aV (by kernel_rfl)
@[simp] theorem ams:bZ prog 36 1=some (1,34):=aV (by kernel_rfl)
@[simp] theorem aAA:eY prog 38=true:=aV (by kernel_rfl)
@[simp] theorem aAB:iC prog 38=true:=aV (by kernel_rfl)
@[simp] theorem aAC:prog.cellsOf 38=2:=aV (by kernel_rfl)
@[simp] theorem aAD:prog.bytesOf 38=16:=aV (by kernel_rfl)
@[simp] theorem aAE:oN prog 38=some true:=aV (by kernel_rfl)
@[simp] theorem aAF:jO prog 38=some [.v (.int .i64 0), .v (.int .i64 0)]:=aV (by kernel_rfl)
@[simp] theorem aAG:eqT prog 38=some 2:=aV (by kernel_rfl)
@[simp] theorem aAH:jm prog 38=true:=aV (by kernel_rfl)
@[simp] theorem amt:bZ prog 38 0=some (0,3):=aV (by kernel_rfl)
@[simp] theorem amu:bZ prog 38 1=some (1,3):=aV (by kernel_rfl)
@[simp] theorem aAI:eY prog 45=true:=aV (by kernel_rfl)
@[simp] theorem aAJ:iC prog 45=true:=aV (by kernel_rfl)
@[simp] theorem aAK:prog.cellsOf 45=2:=aV (by kernel_rfl)
@[simp] theorem aAL:prog.bytesOf 45=32:=aV (by kernel_rfl)
@[simp] theorem aAM:oN prog 45=some true:=aV (by kernel_rfl)
@[simp] theorem aAN:jO prog 45=some [.nil, .v (.int .i64 0)]:=aV (by kernel_rfl)
@[simp] theorem aAO:jm prog 45=true:=aV (by kernel_rfl)
@[simp] theorem amv:bZ prog 45 0=some (0,23):=aV (by kernel_rfl)
@[simp] theorem amw:bZ prog 45 1=some (1,3):=aV (by kernel_rfl)
@[simp] theorem aAP:eY prog 46=true:=aV (by kernel_rfl)
@[simp] theorem aAQ:iC prog 46=true:=aV (by kernel_rfl)
@[simp] theorem aAR:prog.cellsOf 46=1:=aV (by kernel_rfl)
@[simp] theorem aAS:prog.bytesOf 46=24:=aV (by kernel_rfl)
@[simp] theorem aAT:oN prog 46=some false:=aV (by kernel_rfl)
@[simp] theorem aAU:jO prog 46=some [.nil]:=aV (by kernel_rfl)
@[simp] theorem aAV:lU prog 46=some (183,none):=aV (by kernel_rfl)
@[simp] theorem aAW:D9 prog 46=true:=aV (by kernel_rfl)
@[simp] theorem aAX:Ag prog 46=true:=aV (by kernel_rfl)
@[simp] theorem aAY:eY prog 48=true:=aV (by kernel_rfl)
@[simp] theorem aAZ:iC prog 48=true:=aV (by kernel_rfl)
@[simp] theorem aA0:prog.cellsOf 48=1:=aV (by kernel_rfl)
@[simp] theorem aA1:prog.bytesOf 48=24:=aV (by kernel_rfl)
@[simp] theorem aA2:oN prog 48=some true:=aV (by kernel_rfl)
@[simp] theorem aA3:jO prog 48=some [.nil]:=aV (by kernel_rfl)
@[simp] theorem aA4:jm prog 48=true:=aV (by kernel_rfl)
@[simp] theorem amx:bZ prog 48 0=some (0,46):=aV (by kernel_rfl)
@[simp] theorem aA5:eY prog 49=true:=aV (by kernel_rfl)
@[simp] theorem aA6:iC prog 49=true:=aV (by kernel_rfl)
@[simp] theorem aA7:prog.cellsOf 49=1:=aV (by kernel_rfl)
@[simp] theorem aA8:prog.bytesOf 49=24:=aV (by kernel_rfl)
@[simp] theorem aA9:oN prog 49=some false:=aV (by kernel_rfl)
@[simp] theorem aBa:jO prog 49=some [.nil]:=aV (by kernel_rfl)
@[simp] theorem aBb:lU prog 49=some (45,none):=aV (by kernel_rfl)
@[simp] theorem aBd:D9 prog 49=true:=aV (by kernel_rfl)
@[simp] theorem aBe:Ag prog 49=true:=aV (by kernel_rfl)
@[simp] theorem aBf:eY prog 51=true:=aV (by kernel_rfl)
@[simp] theorem aBg:iC prog 51=true:=aV (by kernel_rfl)
@[simp] theorem aBh:prog.cellsOf 51=1:=aV (by kernel_rfl)
@[simp] theorem aBi:prog.bytesOf 51=24:=aV (by kernel_rfl)
@[simp] theorem aBj:oN prog 51=some true:=aV (by kernel_rfl)
@[simp] theorem aBk:jO prog 51=some [.nil]:=aV (by kernel_rfl)
@[simp] theorem aBl:jm prog 51=true:=aV (by kernel_rfl)
@[simp] theorem amy:bZ prog 51 0=some (0,49):=aV (by kernel_rfl)
@[simp] theorem aBm:eY prog 53=true:=aV (by kernel_rfl)
@[simp] theorem aBn:iC prog 53=true:=aV (by kernel_rfl)
@[simp] theorem aBo:prog.cellsOf 53=20:=aV (by kernel_rfl)
@[simp] theorem aBp:prog.bytesOf 53=256:=aV (by kernel_rfl)
@[simp] theorem aBq:oN prog 53=some true:=aV (by kernel_rfl)
@[simp] theorem aBr:jO prog 53=some [.v (.bool false), .v (.int .i64 0), .nil, .v (.int .i64 0), .v (.int .i64 0), .v (.int .i64 0), .v (.int .i64 0), .v (.int .i64 0), .v (.int .i64 0), .v (.int .i64 0), .v (.int .i64 0), .nil, .nil, .v (.int .i64 0), .nil, .v (.int .i64 0), .nil, .v (.int .i64 0), .nil, .v (.int .i64 0)]:=aV (by kernel_rfl)
@[simp] theorem aBs:jm prog 53=true:=aV (by kernel_rfl)
@[simp] theorem amA:bZ prog 53 0=some (0,4):=aV (by kernel_rfl)
@[simp] theorem amB:bZ prog 53 1=some (1,3):=aV (by kernel_rfl)
@[simp] theorem amC:bZ prog 53 2=some (2,45):=aV (by kernel_rfl)
@[simp] theorem amD:bZ prog 53 3=some (4,3):=aV (by kernel_rfl)
@[simp] theorem amE:bZ prog 53 4=some (5,3):=aV (by kernel_rfl)
@[simp] theorem amF:bZ prog 53 5=some (6,3):=aV (by kernel_rfl)
@[simp] theorem amG:bZ prog 53 6=some (7,3):=aV (by kernel_rfl)
@[simp] theorem amH:bZ prog 53 7=some (8,3):=aV (by kernel_rfl)
@[simp] theorem amI:bZ prog 53 8=some (9,3):=aV (by kernel_rfl)
@[simp] theorem amJ:bZ prog 53 9=some (10,3):=aV (by kernel_rfl)
@[simp] theorem alX:bZ prog 53 10=some (11,48):=aV (by kernel_rfl)
@[simp] theorem alY:bZ prog 53 11=some (12,51):=aV (by kernel_rfl)
@[simp] theorem alZ:bZ prog 53 12=some (13,3):=aV (by kernel_rfl)
@[simp] theorem al0:bZ prog 53 13=some (14,45):=aV (by kernel_rfl)
@[simp] theorem al1:bZ prog 53 14=some (16,23):=aV (by kernel_rfl)
@[simp] theorem al2:bZ prog 53 15=some (17,3):=aV (by kernel_rfl)
@[simp] theorem al3:bZ prog 53 16=some (18,45):=aV (by kernel_rfl)
@[simp] theorem aBt:eY prog 54=true:=aV (by kernel_rfl)
@[simp] theorem aBu:iC prog 54=true:=aV (by kernel_rfl)
@[simp] theorem aBv:prog.cellsOf 54=2:=aV (by kernel_rfl)
@[simp] theorem aBw:prog.bytesOf 54=32:=aV (by kernel_rfl)
@[simp] theorem aBx:oN prog 54=some true:=aV (by kernel_rfl)
@[simp] theorem aBy:jO prog 54=some [.v (.int .i64 0), .nil]:=aV (by kernel_rfl)
@[simp] theorem aBz:jm prog 54=true:=aV (by kernel_rfl)
@[simp] theorem amK:bZ prog 54 0=some (0,3):=aV (by kernel_rfl)
@[simp] theorem amL:bZ prog 54 1=some (1,34):=aV (by kernel_rfl)
@[simp] theorem aBA:eY prog 55=true:=aV (by kernel_rfl)
@[simp] theorem aBB:iC prog 55=true:=aV (by kernel_rfl)
@[simp] theorem aBC:prog.cellsOf 55=2:=aV (by kernel_rfl)
@[simp] theorem aBD:prog.bytesOf 55=16:=aV (by kernel_rfl)
@[simp] theorem aBE:oN prog 55=some true:=aV (by kernel_rfl)
@[simp] theorem aBF:jO prog 55=some [.v (.int .i64 0), .v (.int .i64 0)]:=aV (by kernel_rfl)
@[simp] theorem aBG:eqT prog 55=some 2:=aV (by kernel_rfl)
@[simp] theorem aBH:jm prog 55=true:=aV (by kernel_rfl)
@[simp] theorem amM:bZ prog 55 0=some (0,3):=aV (by kernel_rfl)
@[simp] theorem amN:bZ prog 55 1=some (1,3):=aV (by kernel_rfl)
@[simp] theorem aBI:eY prog 66=true:=aV (by kernel_rfl)
@[simp] theorem aBJ:iC prog 66=true:=aV (by kernel_rfl)
@[simp] theorem aBK:prog.cellsOf 66=1:=aV (by kernel_rfl)
@[simp] theorem aBL:prog.bytesOf 66=24:=aV (by kernel_rfl)
@[simp] theorem aBM:oN prog 66=some false:=aV (by kernel_rfl)
@[simp] theorem aBN:jO prog 66=some [.nil]:=aV (by kernel_rfl)
@[simp] theorem aBO:lU prog 66=some (55,none):=aV (by kernel_rfl)
@[simp] theorem aBP:D9 prog 66=true:=aV (by kernel_rfl)
@[simp] theorem aBQ:Ag prog 66=true:=aV (by kernel_rfl)
@[simp] theorem aBR:eY prog 70=true:=aV (by kernel_rfl)
@[simp] theorem aBS:iC prog 70=true:=aV (by kernel_rfl)
@[simp] theorem aBT:prog.cellsOf 70=1:=aV (by kernel_rfl)
@[simp] theorem aBU:prog.bytesOf 70=24:=aV (by kernel_rfl)
@[simp] theorem aBV:oN prog 70=some false:=aV (by kernel_rfl)
@[simp] theorem aBW:jO prog 70=some [.nil]:=aV (by kernel_rfl)
@[simp] theorem aBX:lU prog 70=some (38,none):=aV (by kernel_rfl)
@[simp] theorem aBY:D9 prog 70=true:=aV (by kernel_rfl)
@[simp] theorem aBZ:Ag prog 70=true:=aV (by kernel_rfl)
@[simp] theorem anD:eY prog 108=true:=aV (by kernel_rfl)
@[simp] theorem anE:iC prog 108=true:=aV (by kernel_rfl)
@[simp] theorem anF:prog.cellsOf 108=3:=aV (by kernel_rfl)
@[simp] theorem anG:prog.bytesOf 108=40:=aV (by kernel_rfl)
@[simp] theorem anH:oN prog 108=some true:=aV (by kernel_rfl)
@[simp] theorem anI:jO prog 108=some [.nil, .v (.int .i64 0), .v (.int .i64 0)]:=aV (by kernel_rfl)
@[simp] theorem anJ:jm prog 108=true:=aV (by kernel_rfl)
@[simp] theorem al4:bZ prog 108 0=some (0,22):=aV (by kernel_rfl)
@[simp] theorem al5:bZ prog 108 1=some (1,3):=aV (by kernel_rfl)
@[simp] theorem al6:bZ prog 108 2=some (2,3):=aV (by kernel_rfl)
@[simp] theorem anK:eY prog 142=true:=aV (by kernel_rfl)
@[simp] theorem anL:iC prog 142=true:=aV (by kernel_rfl)
@[simp] theorem anM:prog.cellsOf 142=1:=aV (by kernel_rfl)
@[simp] theorem anN:prog.bytesOf 142=24:=aV (by kernel_rfl)
@[simp] theorem anO:oN prog 142=some true:=aV (by kernel_rfl)
@[simp] theorem anP:jO prog 142=some [.nil]:=aV (by kernel_rfl)
@[simp] theorem anQ:jm prog 142=true:=aV (by kernel_rfl)
@[simp] theorem al7:bZ prog 142 0=some (0,23):=aV (by kernel_rfl)
@[simp] theorem anR:eY prog 162=true:=aV (by kernel_rfl)
@[simp] theorem anS:iC prog 162=true:=aV (by kernel_rfl)
@[simp] theorem anT:prog.cellsOf 162=1:=aV (by kernel_rfl)
@[simp] theorem anU:prog.bytesOf 162=8:=aV (by kernel_rfl)
@[simp] theorem anV:oN prog 162=some false:=aV (by kernel_rfl)
@[simp] theorem anW:Qk prog 162=some 0:=aV (by kernel_rfl)
@[simp] theorem anX:eY prog 183=true:=aV (by kernel_rfl)
@[simp] theorem anY:iC prog 183=true:=aV (by kernel_rfl)
@[simp] theorem anZ:prog.cellsOf 183=1:=aV (by kernel_rfl)
@[simp] theorem an0:prog.bytesOf 183=24:=aV (by kernel_rfl)
@[simp] theorem an1:oN prog 183=some true:=aV (by kernel_rfl)
@[simp] theorem an2:jO prog 183=some [.nil]:=aV (by kernel_rfl)
@[simp] theorem an3:jm prog 183=true:=aV (by kernel_rfl)
@[simp] theorem al8:bZ prog 183 0=some (0,23):=aV (by kernel_rfl)
@[simp] theorem an4:eY prog 217=true:=aV (by kernel_rfl)
@[simp] theorem an5:iC prog 217=true:=aV (by kernel_rfl)
@[simp] theorem an6:prog.cellsOf 217=1:=aV (by kernel_rfl)
@[simp] theorem an7:prog.bytesOf 217=4:=aV (by kernel_rfl)
@[simp] theorem an8:oN prog 217=some false:=aV (by kernel_rfl)
@[simp] theorem an9:jO prog 217=some [.v (.int .u32 0)]:=aV (by kernel_rfl)
abbrev vI (x:Int):V:= .v (.int .i64 x)
noncomputable def Ma (f:Q→Option (Ex×Q)):Option (Ex×Q)→Option (Ex×Q)
 | some (.normal,s)=>yg f s
 | some (.exit i,s)=>some (.exit i,s)
 | some (.ret,s)=>some (.ret,s)
 | none=>none
section
variable (f:Q→Option (Ex×Q)) (s:Q)
@[simp ↓] theorem Az:Ma f (some (.normal,s))=yg f s:=id rfl
@[simp ↓] theorem akf (i:Nat):Ma f (some (.exit i,s))=some (.exit i,s):=id rfl
@[simp ↓] theorem ak5:Ma f (some (.ret,s))=some (.ret,s):=id rfl
@[simp ↓] theorem akg:Ma f none=none:=id rfl
end
@[congr] theorem ajE {r r':Option (Ex×Q)}(f:Q→Option (Ex×Q))(h:r=r'):Ma f r=Ma f r':=by rw [h]
theorem bK (f:Q→Option (Ex×Q))(s:Q):yg f s=Ma f (f s):=by
 cases hl:yg f s with
 | some r=>
  obtain⟨n,hn⟩:=K3 hl
  cases n with
  | zero=>cases hn
  | succ n=>
   unfold rounds at hn
   split at hn
   ·rename_i s' e;rw [e,Az];exact(L9 hn).symm
   ·rw [hn]
    obtain⟨e,q⟩:=r
    cases e
    ·exact absurd hn (by rename_i h;exact h _)
    ·rfl
    ·rfl
 | none=>
  cases e:f s with
  | none=>rfl
  | some r=>
   obtain⟨ex,q⟩:=r
   cases ex with
   | normal=>
    rw [Az]
    cases h2:yg f q with
    | none=>rfl
    | some r2=>
     obtain⟨n,hn⟩:=K3 h2
     have:rounds f (n+1) s=some r2:=by unfold rounds;rw [e];exact hn
     rw [L9 this]at hl;cases hl
   | exit i=>
    have:rounds f 1 s=some (.exit i,q):=by unfold rounds;rw [e]
    rw [L9 this]at hl;cases hl
   | ret=>
    have:rounds f 1 s=some (.ret,q):=by unfold rounds;rw [e]
    rw [L9 this]at hl;cases hl
theorem aF {f:Q→Option (Ex×Q)}{s:Q}(st:Nat→Q)(n:Nat)(h0:s=st 0)(hs:∀j,j<n→f (st j)=some (.normal,st (j+1))):yg f s=Ma f (f (st n)):=by
 rw [h0,←bK]
 have:∀k,k≤n→yg f (st 0)=yg f (st k):=by
  intro k;induction k with
  | zero=>intro _;rfl
  | succ k ih=>
   intro h
   rw [ih (by omega),bK,hs k (by omega),Az]
 exact this n (Nat.le_refl _)
theorem bM (n:Int)(h: -9223372036854775808≤n∧n≤9223372036854775807):IntKind.i64.wrap n=n:=IntWalk.i64_in n h
def R64 (n:Int):Prop:= -9223372036854775808≤n∧n≤9223372036854775807
theorem R64.wrap {n:Int}(h:R64 n):IntKind.i64.wrap n=n:=IntWalk.i64_in n h
def iq (x a b:Int):Bool:=decide (a≤x)&&decide (x≤b)
theorem bB {x a b:Int}:iq x a b=true↔a≤x∧x≤b:=by simp [iq]
theorem Rf {x a b:Int}(h:iq x a b=true):a≤x∧x≤b:=bB.1 h
theorem qj {x a b:Int}(h:¬(iq x a b=true)):iq x a b=false:=by simpa using h
@[simp] theorem amO:IntKind.i64.wrap 0=0:=bM 0 (by omega)
@[simp] theorem amP:IntKind.i64.wrap 1=1:=bM 1 (by omega)
@[simp] theorem amQ:IntKind.i64.wrap 2=2:=bM 2 (by omega)
@[simp] theorem amR:IntKind.i64.wrap 3=3:=bM 3 (by omega)
@[simp] theorem amS:IntKind.i64.wrap 4=4:=bM 4 (by omega)
@[simp] theorem amT:IntKind.i64.wrap 5=5:=bM 5 (by omega)
@[simp] theorem amU:IntKind.i64.wrap 6=6:=bM 6 (by omega)
@[simp] theorem amV:IntKind.i64.wrap 7=7:=bM 7 (by omega)
@[simp] theorem amW:IntKind.i64.wrap 8=8:=bM 8 (by omega)
@[simp] theorem amX:IntKind.i64.wrap 9=9:=bM 9 (by omega)
end Go.Proofs.YtlpdjhiggpblcaaGreat
