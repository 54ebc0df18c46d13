/- Part 2 of a proof in several texts (an abstract evaluator, what the functions compute). -/
import Derived.Test.YtlpdjhiggpblcaaGreatPkEdKeys1
import Derived.Test.YtlpdjhiggpblcaaGreatRows
open Go.Proofs.Tryz
namespace Go.Proofs.YtlpdjhiggpblcaaGreat
set_option linter.unusedSectionVars false
set_option linter.unusedSimpArgs false
set_option linter.unusedVariables false
open Go.RowKit
section
variable {α β:Type} (k j:Nat) (x y:α) (r:List (Nat×α))
@[simp] theorem s1:look k ([]:List (Nat×α))=none:=id rfl
@[simp] theorem s2:look k ((j,x)::r)=if k=j then some x else look k r:=id rfl
@[simp] theorem s3:put k x []= [(k,x)]:=id rfl
@[simp] theorem s4:put k x ((j,y)::r)=if k=j then(k,x)::r else if j<k then(k,x)::(j,y)::r else(j,y)::put k x r:=id rfl
@[simp] theorem s5:drop1 k ([]:List (Nat×α))= []:=id rfl
@[simp] theorem s6:drop1 k ((j,y)::r)=if k=j then drop1 k r else(j,y)::drop1 k r:=id rfl
@[simp] theorem s7:upd k x ([]:List (Nat×α))= []:=id rfl
@[simp] theorem s8:upd k x ((j,y)::r)=if k=j then(k,x)::r else(j,y)::upd k x r:=id rfl
@[simp] theorem s9:bW k ([]:List α)= []:=id rfl
@[simp] theorem s10 (l:List α):bW k (x::l)=(k,x)::bW (k+1) l:=id rfl
@[simp] theorem s11:kG k ([]:List (Nat×α))= []:=id rfl
@[simp] theorem s12:kG k ((j,x)::r)=(k,x)::kG (k+1) r:=id rfl
@[simp] theorem s13 (f:α→Option β):bK f []=some []:=id rfl
@[simp] theorem s14 (f:α→Option β)(l:List α):bK f (x::l)=bnd (f x) fun y=>bnd (bK f l) fun l=>some (y::l):=id rfl
@[simp] theorem s15:desc []=true:=id rfl
@[simp] theorem s16:desc [k]=true:=id rfl
@[simp] theorem s17 (l:List Nat):desc (k::j::l)=(decide (j<k)&&desc (j::l)):=id rfl
@[simp] theorem s18 (n:Nat):pos k [] n=none:=id rfl
@[simp] theorem s19 (l:List Nat)(n:Nat):pos k (j::l) n=if k=j then some n else pos k l (n+1):=id rfl
end
section
variable (P:Program) (G:List (FuncId×Bool×aN)) (e:List (Nat×V)) (b:List (Nat×List V)) (t f:List (Nat×List (List D))) (s:S) (n m p q kk:Nat) (x y:V) (vs:List V) (rows:List (List D))
@[simp] theorem s20:S.put ⟨e,b,t,f⟩ (some n) x=⟨put n x e,b,t,f⟩:=id rfl
@[simp] theorem s21:S.put s none x=s:=id rfl
@[simp] theorem s22:S.skip ⟨e,b,t,f⟩ (some n)=⟨drop1 n e,b,t,f⟩:=id rfl
@[simp] theorem s23:S.skip s none=s:=id rfl
@[simp] theorem s24 (z:Bool):uX (.bool z)=some (.v (.bool z)):=id rfl
@[simp] theorem s25 (k:IntKind)(z:Int):uX (.int k z)=some (.v (.int k z)):=id rfl
@[simp] theorem s26 (z:ByteArray):uX (.string z)=some (.v (.string z)):=id rfl
@[simp] theorem s27:uX (.slice none 0 0)=some .nil:=id rfl
@[simp] theorem s28:uX (.pointer none)=some (.v (.pointer none)):=id rfl
@[simp] theorem s29:uX (.agg #[])=some (.agg []):=id rfl
@[simp] theorem s30:yN (.slice none 0 0)= .nil:=id rfl
@[simp] theorem s31 (z:Bool):yN (.bool z)= .v (.bool z):=id rfl
@[simp] theorem s32 (k:IntKind)(z:Int):yN (.int k z)= .v (.int k z):=id rfl
@[simp] theorem s33 (z:ByteArray):yN (.string z)= .v (.string z):=id rfl
@[simp] theorem s34:yN (.pointer none)= .v (.pointer none):=id rfl
@[simp] theorem s35 (cs:Array Value):uX (.agg cs)=some (.agg (cs.toList.map yN)):=id rfl
@[simp] theorem s36:s.ev (.tmp n)=look n s.env:=id rfl
@[simp] theorem s37 (c:Value):s.ev (.const c)=uX c:=id rfl
@[simp] theorem s38:s.ev (.func n)=some (.fn n []):=id rfl
@[simp] theorem s39:V.cells (.agg vs)=vs:=id rfl
@[simp] theorem s40 (z:Value):V.cells (.v z)= [.v z]:=id rfl
@[simp] theorem s41:V.cells (.nil)= [.nil]:=id rfl
@[simp] theorem s42 (o:Option Nat):V.cells (.aL o rows)= [.aL o rows]:=id rfl
@[simp] theorem s43:V.cells (.own n)= [.own n]:=id rfl
@[simp] theorem s44:V.cells (.fz rows)= [.fz rows]:=id rfl
@[simp] theorem s45 (em:List (Int×Int)):V.cells (.mp em)= [.mp em]:=id rfl
@[simp] theorem s46:V.cells (.ref n m)= [.ref n m]:=id rfl
@[simp] theorem s47:V.cells (.pe x kk n m)= [.pe x kk n m]:=id rfl
@[simp] theorem s48:V.cells (.fn n vs)= [.fn n vs]:=id rfl
@[simp] theorem s49:s.rows .nil=some []:=id rfl
@[simp] theorem s50 (o:Option Nat):s.rows (.aL o rows)=some rows:=id rfl
@[simp] theorem s51:s.rows (.fz rows)=some rows:=id rfl
@[simp] theorem s52:s.rows (.own p)=lY (look p s.tree) (look p s.dK):=id rfl
@[simp] theorem s53 (z:Value):s.under x n m q (.a z)=some (.v z):=id rfl
@[simp] theorem s54 (o:Option Nat)(rs:List (List D)):s.under (.aL o rs) n m q (.l rows)=some (.aL none rows):=id rfl
@[simp] theorem s55 (rs:List (List D)):s.under (.fz rs) n m q (.l rows)=some (.fz rows):=id rfl
@[simp] theorem s56:s.under (.own p) n m q (.l rows)=Et p m q n rows (look p s.dK):=id rfl
@[simp] theorem s57 (rs:List (List D)):Et p m q n rows (some rs)=some (.fz rows):=id rfl
@[simp] theorem s58:Et p m q n rows none=some (.inn p m q n):=id rfl
@[simp] theorem s59:vN s x n m q []=some []:=id rfl
@[simp] theorem s60 (d:D)(l:List D):vN s x n m q (d::l)=bnd (s.under x n m q d) fun v=>bnd (vN s x n m (q+1) l) fun l=>some (v::l):=id rfl
@[simp] theorem s61:s.rows (.inn p m q n)=bnd (look p s.tree) fun rows=>bnd rows[m]? fun r=>grd (r.length=n) (bnd r[q]? MH):=id rfl
@[simp] theorem s62:MH (.l rows)=some rows:=id rfl
@[simp] theorem s63:V.cells (.inn p m q n)= [.inn p m q n]:=id rfl
@[simp] theorem s64:V.one (.inn p m q n)=true:=id rfl
@[simp] theorem s65:tq .gone=false:=id rfl
@[simp] theorem s66:yI .gone=true:=id rfl
@[simp] theorem s67 (z:Array Field):sZ (.struct z)=true:=id rfl
@[simp] theorem s68:sZ (.array n m)=true:=id rfl
@[simp] theorem s69:sZ (.bool)=false:=id rfl
@[simp] theorem s70 (k:IntKind):sZ (.int k)=false:=id rfl
@[simp] theorem s71:sZ (.string)=false:=id rfl
@[simp] theorem s72:sZ (.slice n)=false:=id rfl
@[simp] theorem s73:sZ (.pointer n)=false:=id rfl
@[simp] theorem s74 (a c:Array TypeId)(d:Bool):sZ (.func a c d)=false:=id rfl
@[simp] theorem s75 (z:Array (String×TypeId)):sZ (.interface z)=false:=id rfl
@[simp] theorem s76:sZ (.map n m)=false:=id rfl
@[simp] theorem s77:span vs n m true=grd (n+m≤vs.length) (some (.agg ((vs.drop n).take m))):=id rfl
@[simp] theorem s78:span vs n m false=vs[n]?:=id rfl
@[simp] theorem s79:s.load P n (.ref p m)=bnd (o8 P n) fun g=>bnd (look p s.box) fun cs=>span cs m (P.cellsOf n) g:=id rfl
@[simp] theorem s80:s.load P n (.pe x kk p m)=bnd (o8 P n) fun g=>bnd (s.rows x) fun rows=>bnd rows[p]? fun r=>grd (r.length=kk) (s.J6 x kk p r m (P.cellsOf n) g):=id rfl
@[simp] theorem s81 (r:List D):s.J6 x kk p r n m true=grd (n+m≤r.length) (bnd (vN s x kk p n ((r.drop n).take m)) fun cs=>some (.agg cs)):=id rfl
@[simp] theorem s82 (r:List D):s.J6 x kk p r n m false=bnd r[n]? (s.under x kk p n):=id rfl
@[simp] theorem s83:setAt vs n []=vs:=id rfl
@[simp] theorem s84 (ws:List V):setAt vs n (x::ws)=setAt (vs.set n x) (n+1) ws:=id rfl
@[simp] theorem s85:yI (.l rows)=true:=id rfl
@[simp] theorem s86 (z:Value):yI (.a z)=z.oneCell':=id rfl
@[simp] theorem s87 (z:Value):V.one (.v z)=z.oneCell':=id rfl
@[simp] theorem s88:V.one .nil=true:=id rfl
@[simp] theorem s89 (o:Option Nat):V.one (.aL o rows)=true:=id rfl
@[simp] theorem s90:V.one (.fz rows)=true:=id rfl
@[simp] theorem s91 (em:List (Int×Int)):V.one (.mp em)=true:=id rfl
@[simp] theorem s92:V.one (.own p)=true:=id rfl
@[simp] theorem s93:V.one (.ref n m)=true:=id rfl
@[simp] theorem s94:V.one (.pe x kk n m)=true:=id rfl
@[simp] theorem s95:V.one (.fn n vs)=true:=id rfl
@[simp] theorem s96 (k:IntKind)(a:Int):Value.oneCell' (.int k a)=true:=id rfl
@[simp] theorem s97 (g:Bool):Value.oneCell' (.bool g)=true:=id rfl
@[simp] theorem s98 (u:ByteArray):Value.oneCell' (.string u)=true:=id rfl
@[simp] theorem s99 (o:Option Addr):Value.oneCell' (.pointer o)=true:=id rfl
@[simp] theorem apf (z:Value):Value.oneCell' (.iface n z)=true:=id rfl
@[simp] theorem apg:Value.oneCell' (.nilIface)=true:=id rfl
@[simp] theorem aph:Value.oneCell' (.nilFunc)=true:=id rfl
@[simp] theorem apj (z:Value):V.atom (.v z)=some (.a z):=id rfl
@[simp] theorem apk (z:Value):tq (.a z)=true:=id rfl
@[simp] theorem apl:tq (.l rows)=false:=id rfl
@[simp] theorem apm:S.store P ⟨e,b,t,f⟩ n (.ref p m) x=grd (fq P n=true∧x.cells.length=P.cellsOf n) (bnd (look p b) fun cs=>grd (m+x.cells.length≤cs.length∧x.cells.all V.one=true) (some ⟨e,upd p (setAt cs m x.cells) b,t,f⟩)):=id rfl
@[simp] theorem apn:S.store P s n (.pe (.own q) kk p m) x=grd (fq P n=true∧x.cells.length=P.cellsOf n) (Cj s q kk p m x x.atom):=id rfl
@[simp] theorem apo (d:D):Cj ⟨e,b,t,f⟩ q kk p m x (some d)=bnd (look q t) fun rows=>bnd rows[p]? fun r=>bnd r[m]? fun d0=>grd (r.length=kk∧tq d0=true∧yI d=true) (some ⟨e,b,upd q (rows.set p (r.set m d)) t,f⟩):=id rfl
@[simp] theorem apq:Cj s q kk p m x none=bnd (iT s x.cells) fun z=>bnd (look q z.2.tree) fun rows=>bnd rows[p]? fun r=>grd (r.length=kk∧m+z.1.length≤r.length∧x.cells.all V.one=true∧¬(1000000000≤q∧q<2000000000)) (some (z.2.turned q (rows.set p (Fy r m z.1)))):=id rfl
@[simp] theorem apr (i0 j0 k0:Nat):S.store P s n (.pe (.inn q i0 j0 k0) kk p m) x=grd (fq P n=true∧x.cells.length=P.cellsOf n) (H9 s q i0 j0 k0 kk p m x.atom):=id rfl
@[simp] theorem aps (i0 j0 k0:Nat)(d:D):H9 ⟨e,b,t,f⟩ q i0 j0 k0 kk p m (some d)=bnd (look q t) fun rows=>bnd rows[i0]? fun r=>bnd r[j0]? fun c=>bnd (MH c) fun rs=>bnd rs[p]? fun r1=>bnd r1[m]? fun d0=>grd (r.length=k0∧r1.length=kk∧tq d0=true∧yI d=true) (some ⟨e,b,upd q (rows.set i0 (r.set j0 (.l (rs.set p (r1.set m d))))) t,f⟩):=id rfl
@[simp] theorem apt:V.atom (.own q)=none:=id rfl
@[simp] theorem apu:V.atom (.nil)=none:=id rfl
@[simp] theorem apv:V.atom (.agg vs)=none:=id rfl
@[simp] theorem apw (r:List D):Fy r m []=r:=id rfl
@[simp] theorem apx (r ds:List D)(d:D):Fy r m (d::ds)=Fy (r.set m d) (m+1) ds:=id rfl
@[simp] theorem apy:S.turned ⟨e,b,t,f⟩ p rows=⟨QV p e,H8 p b,upd p rows t,f⟩:=id rfl
@[simp] theorem apz:QV p []= []:=id rfl
@[simp] theorem apA:QV p ((n,x)::e)=(n,if kD p x=true then .dead else x)::QV p e:=id rfl
@[simp] theorem apB:Ze p []= []:=id rfl
@[simp] theorem apC:Ze p (x::vs)=(if kD p x=true then .dead else x)::Ze p vs:=id rfl
@[simp] theorem apD:H8 p []= []:=id rfl
@[simp] theorem apE:H8 p ((n,vs)::b)=(n,Ze p vs)::H8 p b:=id rfl
@[simp] theorem apF (z:Value):kD p (.v z)=false:=id rfl
@[simp] theorem apG:kD p .nil=false:=id rfl
@[simp] theorem apH (o:Option Nat):kD p (.aL o rows)=false:=id rfl
@[simp] theorem apI:kD p (.fz rows)=false:=id rfl
@[simp] theorem apJ (em:List (Int×Int)):kD p (.mp em)=false:=id rfl
@[simp] theorem apK:kD p (.own q)=false:=id rfl
@[simp] theorem apL:kD p (.inn q n m kk)=decide (p=q):=id rfl
@[simp] theorem apM:kD p (.ref n m)=false:=id rfl
@[simp] theorem apN:kD p (.pe x kk n m)=kD p x:=id rfl
@[simp] theorem apO:kD p (.agg vs)=kD.any p vs:=id rfl
@[simp] theorem apP:kD p (.fU vs)=kD.any p vs:=id rfl
@[simp] theorem apQ:kD p (.fn n vs)=kD.any p vs:=id rfl
@[simp] theorem apR:kD p .dead=false:=id rfl
@[simp] theorem apS:kD.any p []=false:=id rfl
@[simp] theorem apT:kD.any p (x::vs)=(kD p x||kD.any p vs):=id rfl
end
section
variable (P:Program) (t:TypeId) (k k2:IntKind) (a c:Int) (u v:ByteArray) (g h:Bool)
@[simp] theorem apU:bin P t .add (.v (.int k a)) (.v (.int k2 c))=bnd (grd (k=k2) (some (.int k (k.wrap (a+c))))) fun v=>some (.v v):=id rfl
@[simp] theorem apV:bin P t .sub (.v (.int k a)) (.v (.int k2 c))=bnd (grd (k=k2) (some (.int k (k.wrap (a-c))))) fun v=>some (.v v):=id rfl
@[simp] theorem apW:bin P t .mul (.v (.int k a)) (.v (.int k2 c))=bnd (grd (k=k2) (some (.int k (k.wrap (a*c))))) fun v=>some (.v v):=id rfl
@[simp] theorem apX:bin P t .quo (.v (.int k a)) (.v (.int k2 c))=bnd (grd (k=k2) (grd (c≠0) (some (.int k (k.wrap (a.tdiv c)))))) fun v=>some (.v v):=id rfl
@[simp] theorem apY:bin P t .rem (.v (.int k a)) (.v (.int k2 c))=bnd (grd (k=k2) (grd (c≠0) (some (.int k (a.tmod c))))) fun v=>some (.v v):=id rfl
@[simp] theorem apZ:bin P t .and (.v (.int k a)) (.v (.int k2 c))=bnd (grd (k=k2) (some (.int k (k.wrap (BitVec.ofInt k.bits a &&& BitVec.ofInt k.bits c).toNat)))) fun v=>some (.v v):=id rfl
@[simp] theorem ap0:bin P t .or (.v (.int k a)) (.v (.int k2 c))=bnd (grd (k=k2) (some (.int k (k.wrap (BitVec.ofInt k.bits a ||| BitVec.ofInt k.bits c).toNat)))) fun v=>some (.v v):=id rfl
@[simp] theorem ap1:bin P t .xor (.v (.int k a)) (.v (.int k2 c))=bnd (grd (k=k2) (some (.int k (k.wrap (BitVec.ofInt k.bits a ^^^ BitVec.ofInt k.bits c).toNat)))) fun v=>some (.v v):=id rfl
@[simp] theorem ap2:bin P t .eql (.v (.int k a)) (.v (.int k2 c))=bnd (grd (k=k2) (some (.bool (a==c)))) fun v=>some (.v v):=id rfl
@[simp] theorem ap3:bin P t .neq (.v (.int k a)) (.v (.int k2 c))=bnd (grd (k=k2) (some (.bool (a != c)))) fun v=>some (.v v):=id rfl
@[simp] theorem ap4:bin P t .lss (.v (.int k a)) (.v (.int k2 c))=bnd (grd (k=k2) (some (.bool (decide (a<c))))) fun v=>some (.v v):=id rfl
@[simp] theorem ap5:bin P t .leq (.v (.int k a)) (.v (.int k2 c))=bnd (grd (k=k2) (some (.bool (decide (a≤c))))) fun v=>some (.v v):=id rfl
@[simp] theorem ap6:bin P t .gtr (.v (.int k a)) (.v (.int k2 c))=bnd (grd (k=k2) (some (.bool (decide (c<a))))) fun v=>some (.v v):=id rfl
@[simp] theorem ap7:bin P t .geq (.v (.int k a)) (.v (.int k2 c))=bnd (grd (k=k2) (some (.bool (decide (c≤a))))) fun v=>some (.v v):=id rfl
@[simp] theorem ap8:bin P t .shl (.v (.int k a)) (.v (.int k2 c))=bnd (grd (0≤c) (some (.int k (k.wrap (a*2 ^ (min c.toNat k.bits)))))) fun v=>some (.v v):=id rfl
@[simp] theorem ap9:bin P t .shr (.v (.int k a)) (.v (.int k2 c))=bnd (grd (0≤c) (some (.int k (a.fdiv (2 ^ (min c.toNat k.bits)))))) fun v=>some (.v v):=id rfl
@[simp] theorem aqa:bin P t .add (.v (.string u)) (.v (.string v))=bnd (grd (u.size+v.size≤9223372036854775807) (some (.string (u++v)))) fun v=>some (.v v):=id rfl
@[simp] theorem aqb:bin P t .eql (.v (.string u)) (.v (.string v))=bnd (some (.bool (u.toList==v.toList))) fun v=>some (.v v):=id rfl
@[simp] theorem aqc:bin P t .neq (.v (.string u)) (.v (.string v))=bnd (some (.bool (!(u.toList==v.toList)))) fun v=>some (.v v):=id rfl
@[simp] theorem aqd:bin P t .lss (.v (.string u)) (.v (.string v))=bnd (some (.bool (Op.bytesLess u.toList v.toList))) fun v=>some (.v v):=id rfl
@[simp] theorem aqe:bin P t .leq (.v (.string u)) (.v (.string v))=bnd (some (.bool (Op.bytesLess u.toList v.toList||u.toList==v.toList))) fun v=>some (.v v):=id rfl
@[simp] theorem aqf:bin P t .gtr (.v (.string u)) (.v (.string v))=bnd (some (.bool (!(Op.bytesLess u.toList v.toList||u.toList==v.toList)))) fun v=>some (.v v):=id rfl
@[simp] theorem aqg:bin P t .geq (.v (.string u)) (.v (.string v))=bnd (some (.bool (!(Op.bytesLess u.toList v.toList)))) fun v=>some (.v v):=id rfl
@[simp] theorem aqh:bin P t .eql (.v (.bool g)) (.v (.bool h))=bnd (P.underlying t) fun d=>bnd (ab4 .eql g h d) fun v=>some (.v v):=id rfl
@[simp] theorem aqi:ab4 .eql g h .bool=some (.bool (g==h)):=id rfl
@[simp] theorem aqj (n m:Nat):bin P t .eql (.ref n m) (.v (.pointer none))=bnd (P.underlying t) fun d=>bnd (ab5 .eql d) fun v=>some (.v v):=id rfl
@[simp] theorem aqk (n:Nat):ab5 .eql (.pointer n)=some (.bool false):=id rfl
@[simp] theorem aql:bin P t .neq (.v (.bool g)) (.v (.bool h))=bnd (P.underlying t) fun d=>bnd (ab4 .neq g h d) fun v=>some (.v v):=id rfl
@[simp] theorem aqm:ab4 .neq g h .bool=some (.bool (g != h)):=id rfl
@[simp] theorem aqn (n m:Nat):bin P t .neq (.ref n m) (.v (.pointer none))=bnd (P.underlying t) fun d=>bnd (ab5 .neq d) fun v=>some (.v v):=id rfl
@[simp] theorem aqo (n:Nat):ab5 .neq (.pointer n)=some (.bool true):=id rfl
@[simp] theorem aqp:un .neg (.v (.int k a))=some (.v (.int k (k.wrap (0-a)))):=id rfl
@[simp] theorem aqr:un .not (.v (.bool g))=some (.v (.bool !g)):=id rfl
@[simp] theorem aqs:idxOf (.v (.int k a))=some a:=id rfl
@[simp] theorem aqt:Fw (.v (.bool g))=some g:=id rfl
@[simp] theorem aqu:Xm a none=some a:=id rfl
@[simp] theorem aqv (x:V):Xm a (some x)=idxOf x:=id rfl
@[simp] theorem aqw (n:Nat)(lo hi:Option V):bounds n lo hi=bnd (Xm 0 lo) fun l=>bnd (Xm n hi) fun h=>grd (0≤l∧l≤h∧h≤n) (some (l.toNat,h.toNat)):=id rfl
end
section
variable (P:Program) (G:List (FuncId×Bool×aN)) (e:List (Nat×V)) (b:List (Nat×List V)) (t f:List (Nat×List (List D))) (s:S) (n m p q kk:Nat) (x y:V) (vs ws:List V) (rows:List (List D)) (dst:Option Nat)
@[simp] theorem aqx (lo hi:Option V):qY P s x lo hi .string=MI x lo hi:=id rfl
@[simp] theorem aqy (u:ByteArray)(lo hi:Option V):MI (.v (.string u)) lo hi=bnd (bounds u.size lo hi) fun p=>some (.v (.string (u.extract p.1 p.2))):=id rfl
@[simp] theorem aqz (lo hi:Option V):qY P s x lo hi (.slice n)=grd (fq P n=true) (Fx (P.cellsOf n) s x lo hi):=id rfl
@[simp] theorem aqA (lo hi:Option V):Fx n s .nil lo hi=bnd (bounds 0 lo hi) fun _=>some .nil:=id rfl
@[simp] theorem aqB (o:Option Nat)(lo hi:Option V):Fx n s (.aL o rows) lo hi=cutV n rows lo hi (.aL none):=id rfl
@[simp] theorem aqC (lo hi:Option V):Fx n s (.fz rows) lo hi=cutV n rows lo hi .fz:=id rfl
@[simp] theorem aqD (lo hi:Option V):Fx n s (.own p) lo hi=bnd (look p s.dK) fun rows=>cutV n rows lo hi .fz:=id rfl
@[simp] theorem aqE (lo hi:Option V)(g:List (List D)→V):cutV n rows lo hi g=bnd (bounds rows.length lo hi) fun p=>grd (wid n rows=true) (some (g ((rows.drop p.1).take (p.2-p.1)))):=id rfl
@[simp] theorem aqF:wid n []=true:=id rfl
@[simp] theorem aqG (r:List D):wid n (r::rows)=(decide (r.length=n)&&r.all yI&&wid n rows):=id rfl
@[simp] theorem aqH (fs:Array Field):ab6 P n (.struct fs)=bnd fs[n]? fun d=>grd (P.cellsOf d.type≠0) (some (d.offset,d.type)):=id rfl
@[simp] theorem aqI:yO (.ref n m) p=some (.ref n (m+p)):=id rfl
@[simp] theorem aqJ:yO (.pe x kk n m) p=some (.pe x kk n (m+p)):=id rfl
@[simp] theorem aqK:aeG (.slice n)=some (n,none):=id rfl
@[simp] theorem aqL:aeG (.array n m)=some (m,some n):=id rfl
@[simp] theorem aqM (i:Int):lI P s x i n (some m)=grd (fq P n=true∧0≤i∧i<m) (yO x (i.toNat*P.cellsOf n)):=id rfl
@[simp] theorem aqN (i:Int):lI P s x i n none=bnd (s.rows x) fun rows=>grd (fq P n=true∧0≤i∧i<rows.length) (some (.pe x (P.cellsOf n) i.toNat 0)):=id rfl
@[simp] theorem aqO (u:ByteArray)(i:Int):H7 P n (.v (.string u)) i=bnd (P.underlying n) fun d=>grd (Oz d=true∧0≤i∧i<u.size) (some (.v (.int .u8 ((u.toList[i.toNat]?.getD 0).toNat:Int)))):=id rfl
@[simp] theorem aqP:Oz .string=true:=id rfl
@[simp] theorem aqQ (i:Int):H7 P n (.agg vs) i=bnd (lZ P n) fun e=>bnd e.2 fun n=>grd (fq P e.1=true∧0≤i∧i<n) (bnd (o8 P e.1) fun g=>span vs (i.toNat*P.cellsOf e.1) (P.cellsOf e.1) g):=id rfl
@[simp] theorem aqR (z:Value):AV (.v z)=some (.a z):=id rfl
@[simp] theorem aqS:AV .nil=some (.l []):=id rfl
@[simp] theorem aqT (z:Value):aP p (.v z)=false:=id rfl
@[simp] theorem aqU:aP p .nil=false:=id rfl
@[simp] theorem aqV (o:Option Nat):aP p (.aL o rows)=false:=id rfl
@[simp] theorem aqW:aP p (.fz rows)=false:=id rfl
@[simp] theorem aqX (em:List (Int×Int)):aP p (.mp em)=false:=id rfl
@[simp] theorem aqY:aP p (.own q)=decide (p=q):=id rfl
@[simp] theorem aqZ:aP p (.inn q n m kk)=decide (p=q):=id rfl
@[simp] theorem aq0:aP p (.ref n m)=false:=id rfl
@[simp] theorem aq1:aP p (.pe x kk n m)=aP p x:=id rfl
@[simp] theorem aq2:aP p (.agg vs)=aP.any p vs:=id rfl
@[simp] theorem aq3:aP p (.fU vs)=aP.any p vs:=id rfl
@[simp] theorem aq4:aP p (.fn n vs)=aP.any p vs:=id rfl
@[simp] theorem aq5:aP p .dead=false:=id rfl
@[simp] theorem aq6:aP.any p []=false:=id rfl
@[simp] theorem aq7:aP.any p (x::vs)=(aP p x||aP.any p vs):=id rfl
@[simp] theorem aq8:AX p []= []:=id rfl
@[simp] theorem aq9:AX p ((n,x)::e)=(n,if aP p x=true then .dead else x)::AX p e:=id rfl
@[simp] theorem ara:AY p []= []:=id rfl
@[simp] theorem arb:AY p (x::vs)=(if aP p x=true then .dead else x)::AY p vs:=id rfl
@[simp] theorem ard:oH p []= []:=id rfl
@[simp] theorem arf:oH p ((n,vs)::b)=(n,AY p vs)::oH p b:=id rfl
@[simp] theorem arh:S.kill ⟨e,b,t,f⟩ p=⟨AX p e,oH p b,drop1 p t,f⟩:=id rfl
@[simp] theorem ari:iT s []=some ([],s):=id rfl
@[simp] theorem arj:iT s (.own p::vs)=bnd (look p s.tree) fun rows=>bnd (iT (s.kill p) vs) fun x=>some (.l rows::x.1,x.2):=id rfl
@[simp] theorem ark (z:Value):iT s (.v z::vs)=bnd (iT s vs) fun x=>some (.a z::x.1,x.2):=id rfl
@[simp] theorem arl:iT s (.nil::vs)=bnd (iT s vs) fun x=>some (.l []::x.1,x.2):=id rfl
@[simp] theorem arn:kC s []=some ([],s):=id rfl
@[simp] theorem aro:kC s (x::vs)=bnd (iT s x.cells) fun x=>bnd (kC x.2 vs) fun y=>some (x.1::y.1,y.2):=id rfl
@[simp] theorem arp:fresh ⟨e,b,t,f⟩ n=((look n t).isNone&&(look n f).isNone):=id rfl
@[simp] theorem arq:S.newTree ⟨e,b,t,f⟩ (some n) rows=grd (fresh ⟨e,b,t,f⟩ n=true) (some ⟨put n (.own n) e,b,(n,rows)::t,f⟩):=id rfl
@[simp] theorem ars:upto n m []=decide (n=m):=id rfl
@[simp] theorem aru (r:List Nat):upto n m (p::r)=(decide (p=n)&&upto (n+1) m r):=id rfl
@[simp] theorem arv:dU []=true:=id rfl
@[simp] theorem arw (r:List D):dU (r::rows)=(r.all tq&&dU rows):=id rfl
@[simp] theorem arx (u:ByteArray):KV s (.v (.string u))=some (u.toList.map fun c=> [.a (.int .u8 (c.toNat:Int))],s):=id rfl
@[simp] theorem arz:KV s .nil=some ([],s):=id rfl
@[simp] theorem arA (o:Option Nat):KV s (.aL o rows)=grd (dU rows=true) (some (rows,s)):=id rfl
@[simp] theorem arB:KV s (.fz rows)=grd (dU rows=true) (some (rows,s)):=id rfl
@[simp] theorem arC:KV s (.own q)=LC s q (look q s.tree):=id rfl
@[simp] theorem arD:KV s (.inn p q n m)=bnd (s.rows (.inn p q n m)) fun rows=>grd (dU rows=true) (some (rows,s)):=id rfl
@[simp] theorem arE:LC s q (some rows)=some (rows,if dU rows=true then s else s.kill q):=id rfl
@[simp] theorem arF:LC s q none=bnd (look q s.dK) fun rows=>grd (dU rows=true) (some (rows,s)):=id rfl
@[simp] theorem arG:lC P n m=(iF P n&&decide (m*P.bytesOf n≤140737488355328)&&decide (m≤4611686018427387904)):=id rfl
@[simp] theorem arH:rW P s dst n rows .nil=grd (lC P n rows.length=true∧wid (P.cellsOf n) rows=true) (s.newTree dst rows):=id rfl
@[simp] theorem arI:rW P s dst n rows (.own p)=bnd (look p s.tree) fun RP=>grd (lC P n (RP.length+rows.length)=true∧wid (P.cellsOf n) RP=true∧wid (P.cellsOf n) rows=true) ((s.kill p).newTree dst (RP++rows)):=id rfl
@[simp] theorem arJ:rW P s dst n rows (.inn p q m kk)=bnd (s.rows (.inn p q m kk)) fun RP=>grd (lC P n (RP.length+rows.length)=true∧wid (P.cellsOf n) RP=true∧wid (P.cellsOf n) rows=true) (bnd (s.Db p q m) fun s=>s.newTree dst (RP++rows)):=id rfl
@[simp] theorem arK:s.Db p q m=bnd (look p s.tree) fun rows=>bnd rows[q]? fun r=>grd (¬(1000000000≤p∧p<2000000000)) (some (s.turned p (rows.set q (r.set m .gone)))):=id rfl
@[simp] theorem arL:iW (.slice n)=some n:=id rfl
@[simp] theorem arM:J7 P s dst n x y=bnd (P.underlying n) fun d=>bnd (iW d) fun e=>bnd (KV s y) fun z=>rW P z.2 dst e z.1 x:=id rfl
end
section
variable (s:S) (c:iN) (src:List V) (bs ts:List Nat) (n m p q kk:Nat) (x y:V) (vs ws:List V) (rows:List (List D)) (dst:Option Nat)
@[simp] theorem arN (z:Value):jV s c (.v z)=some (.v z,c):=id rfl
@[simp] theorem arO:jV s ⟨src,bs,ts⟩ (.ref n m)=J8 src bs ts n m (pos n bs 0):=id rfl
@[simp] theorem arP:J8 src bs ts n m (some p)=some (.ref p m,⟨src,bs,ts⟩):=id rfl
@[simp] theorem arQ:J8 src bs ts n m none=some (.ref bs.length m,⟨src,bs++ [n],ts⟩):=id rfl
@[simp] theorem arR:jV s c (.agg vs)=bnd (wF s c vs) fun x=>some (.agg x.1,x.2):=id rfl
@[simp] theorem arS:jV s c (.fn n vs)=bnd (wF s c vs) fun x=>some (.fn n x.1,x.2):=id rfl
@[simp] theorem arT:jV s ⟨src,bs,ts⟩ .nil=some (.aL (some src.length) [],⟨src++ [.nil],bs,ts⟩):=id rfl
@[simp] theorem arU (o:Option Nat):jV s ⟨src,bs,ts⟩ (.aL o rows)=some (.aL (some src.length) rows,⟨src++ [.aL o rows],bs,ts⟩):=id rfl
@[simp] theorem arV:jV s ⟨src,bs,ts⟩ (.fz rows)=some (.aL (some src.length) rows,⟨src++ [.fz rows],bs,ts⟩):=id rfl
@[simp] theorem arW:jV s ⟨src,bs,ts⟩ (.own p)=bnd (s.rows (.own p)) fun rows=>some (.aL (some src.length) rows,⟨src++ [.own p],bs,ts⟩):=id rfl
@[simp] theorem arX:jV s ⟨src,bs,ts⟩ (.inn p q n m)=bnd (s.rows (.inn p q n m)) fun rows=>some (.aL (some src.length) rows,⟨src++ [.inn p q n m],bs,ts⟩):=id rfl
@[simp] theorem arY:wF s c []=some ([],c):=id rfl
@[simp] theorem arZ:wF s c (x::vs)=bnd (jV s c x) fun x=>bnd (wF s x.2 vs) fun y=>some (x.1::y.1,y.2):=id rfl
@[simp] theorem ar0:cZ s c []=some ([],c):=id rfl
@[simp] theorem ar1:cZ s ⟨src,bs,ts⟩ (.own p::vs)=Dc src bs ts p (fun c=>cZ s c vs) (pos p ts 0) (look p s.dK):=id rfl
@[simp] theorem ar2 (k:iN→Option (List V×iN)):Dc src bs ts p k none (some rows)=bnd (k ⟨src++ [.own p],bs,ts⟩) fun x=>some (.aL (some src.length) rows::x.1,x.2):=id rfl
@[simp] theorem ar3 (k:iN→Option (List V×iN)):Dc src bs ts p k none none=bnd (k ⟨src,bs,ts++ [p]⟩) fun x=>some (.own ts.length::x.1,x.2):=id rfl
@[simp] theorem ar4:cZ s c (.dead::vs)=bnd (cZ s c vs) fun x=>some (.dead::x.1,x.2):=id rfl
@[simp] theorem ar5 (z:Value):cZ s c (.v z::vs)=bnd (jV s c (.v z)) fun x=>bnd (cZ s x.2 vs) fun y=>some (x.1::y.1,y.2):=id rfl
@[simp] theorem ar6:cZ s c (.nil::vs)=bnd (jV s c (.nil)) fun x=>bnd (cZ s x.2 vs) fun y=>some (x.1::y.1,y.2):=id rfl
@[simp] theorem ar7 (o:Option Nat):cZ s c (.aL o rows::vs)=bnd (jV s c (.aL o rows)) fun x=>bnd (cZ s x.2 vs) fun y=>some (x.1::y.1,y.2):=id rfl
@[simp] theorem ar8:cZ s c (.fz rows::vs)=bnd (jV s c (.fz rows)) fun x=>bnd (cZ s x.2 vs) fun y=>some (x.1::y.1,y.2):=id rfl
@[simp] theorem ar9:cZ s c (.inn p n m q::vs)=bnd (jV s c (.inn p n m q)) fun x=>bnd (cZ s x.2 vs) fun y=>some (x.1::y.1,y.2):=id rfl
@[simp] theorem asa:cZ s c (.ref n m::vs)=bnd (jV s c (.ref n m)) fun x=>bnd (cZ s x.2 vs) fun y=>some (x.1::y.1,y.2):=id rfl
@[simp] theorem asb:cZ s c (.fn n ws::vs)=bnd (jV s c (.fn n ws)) fun x=>bnd (cZ s x.2 vs) fun y=>some (x.1::y.1,y.2):=id rfl
@[simp] theorem asc:mP s c []=some ([],c):=id rfl
@[simp] theorem ase:mP s c (n::bs)=bnd (look n s.box) fun cs=>bnd (cZ s c cs) fun x=>bnd (mP s x.2 bs) fun y=>some (x.1::y.1,y.2):=id rfl
@[simp] theorem asf:stable .nil=true:=id rfl
@[simp] theorem asg (o:Option Nat):stable (.aL o rows)=true:=id rfl
@[simp] theorem ash:stable (.own p)=false:=id rfl
@[simp] theorem asi:stable (.inn p n m q)=false:=id rfl
@[simp] theorem asj:stable (.fz rows)=false:=id rfl
@[simp] theorem asl:gX c n q=RB n q c.tree[q]?:=id rfl
@[simp] theorem asn:RB n q (some p)=p:=id rfl
@[simp] theorem aso:RB n q none=1000*(n+1)+q:=id rfl
@[simp] theorem asq (z:Value):nK c n (.v z)=some (.v z):=id rfl
@[simp] theorem asr:nK c n .nil=some .nil:=id rfl
@[simp] theorem asu:nK c n (.aL (some m) rows)=c.src[m]?:=id rfl
@[simp] theorem asv:nK c n (.aL none rows)=grd ((c.src.all stable||rows.isEmpty)=true) (some (.aL none rows)):=id rfl
@[simp] theorem asw:nK c n (.own q)=some (.own (gX c n q)):=id rfl
@[simp] theorem asx:nK c n (.ref p m)=bnd c.box[p]? fun b=>some (.ref b m):=id rfl
@[simp] theorem asy:nK c n (.agg vs)=bnd (AZ c n vs) fun cs=>some (.agg cs):=id rfl
@[simp] theorem asz:nK c n (.fU vs)=bnd (AZ c n vs) fun cs=>some (.fU cs):=id rfl
@[simp] theorem asA:nK c n .dead=some .dead:=id rfl
@[simp] theorem asB:AZ c n []=some []:=id rfl
@[simp] theorem asC:AZ c n (x::vs)=bnd (nK c n x) fun v=>bnd (AZ c n vs) fun r=>some (v::r):=id rfl
@[simp] theorem asD:iX c n [] [] s=some s:=id rfl
@[simp] theorem asE (vss:List (List V))(e:List (Nat×V))(b:List (Nat×List V))(t f:List (Nat×List (List D))):iX c n (p::bs) (vs::vss) ⟨e,b,t,f⟩=bnd (AZ c n vs) fun cs=>iX c n bs vss ⟨e,upd p cs b,t,f⟩:=id rfl
@[simp] theorem asF:jQ c n [] s=some s:=id rfl
@[simp] theorem asG (r:List (Nat×List (List D)))(e:List (Nat×V))(b:List (Nat×List V))(t f:List (Nat×List (List D))):jQ c n ((q,rows)::r) ⟨e,b,t,f⟩=if q<c.tree.length then jQ c n r ⟨e,b,t,f⟩else grd (fresh ⟨e,b,t,f⟩ (gX c n q)=true∧gX c n q<1000000000) (jQ c n r ⟨e,b,(gX c n q,rows)::t,f⟩):=id rfl
@[simp] theorem asH:qA s []=some []:=id rfl
@[simp] theorem asI:qA s (p::ts)=bnd (look p s.tree) fun rows=>bnd (qA s ts) fun r=>some (rows::r):=id rfl
@[simp] theorem asJ (l:List (Nat×List (List D))):gV l [] n s=s:=id rfl
@[simp] theorem asK (l:List (Nat×List (List D))):gV l (p::ts) n s=gV l ts (n+1) (J9 s p (look n l)):=id rfl
@[simp] theorem asL (e:List (Nat×V))(b:List (Nat×List V))(t f:List (Nat×List (List D))):J9 ⟨e,b,t,f⟩ p (some rows)=⟨e,b,upd p rows t,f⟩:=id rfl
@[simp] theorem asM:J9 s p none=s.kill p:=id rfl
@[simp] theorem asN (r:A9):S.back s dst c r=bnd (iX c (dst.getD 0) c.box r.box (gV r.tree c.tree 0 s)) fun s=>bnd (jQ c (dst.getD 0) r.tree s) fun s=>bnd (nK c (dst.getD 0) r.val) fun v=>some (s.put dst v):=id rfl
@[simp] theorem asO:OA c n=(Zg c&&decide (c.box.length=n)):=id rfl
@[simp] theorem asP:Zg c=(c.tree.all fun p=>c.src.all fun v=> !aP p v):=id rfl
@[simp] theorem asQ:PZ true s c vs=qh s c vs:=id rfl
@[simp] theorem asR:PZ false s c vs=wF s c vs:=id rfl
@[simp] theorem asS:qh s c []=some ([],c):=id rfl
@[simp] theorem asT:qh s c (.agg ws::vs)=bnd (cZ s c ws) fun x=>bnd (qh s x.2 vs) fun y=>some (.agg x.1::y.1,y.2):=id rfl
@[simp] theorem asU (z:Value):qh s c (.v z::vs)=bnd (cZ s c [.v z]) fun x=>bnd (qh s x.2 vs) fun y=>some (x.1++y.1,y.2):=id rfl
@[simp] theorem asV:qh s c (.nil::vs)=bnd (cZ s c [.nil]) fun x=>bnd (qh s x.2 vs) fun y=>some (x.1++y.1,y.2):=id rfl
@[simp] theorem asW (o:Option Nat):qh s c (.aL o rows::vs)=bnd (cZ s c [.aL o rows]) fun x=>bnd (qh s x.2 vs) fun y=>some (x.1++y.1,y.2):=id rfl
@[simp] theorem asX:qh s c (.fz rows::vs)=bnd (cZ s c [.fz rows]) fun x=>bnd (qh s x.2 vs) fun y=>some (x.1++y.1,y.2):=id rfl
@[simp] theorem asY:qh s c (.own p::vs)=bnd (cZ s c [.own p]) fun x=>bnd (qh s x.2 vs) fun y=>some (x.1++y.1,y.2):=id rfl
@[simp] theorem asZ:qh s c (.inn p n m q::vs)=bnd (cZ s c [.inn p n m q]) fun x=>bnd (qh s x.2 vs) fun y=>some (x.1++y.1,y.2):=id rfl
@[simp] theorem as0:qh s c (.ref n m::vs)=bnd (cZ s c [.ref n m]) fun x=>bnd (qh s x.2 vs) fun y=>some (x.1++y.1,y.2):=id rfl
@[simp] theorem as1:qh s c (.fn n ws::vs)=bnd (cZ s c [.fn n ws]) fun x=>bnd (qh s x.2 vs) fun y=>some (x.1++y.1,y.2):=id rfl
@[simp] theorem as2 (mm:Bool)(M:aN):wG mm M s dst vs=bnd (PZ mm s ⟨[],[],[]⟩ vs) fun x=>bnd (mP s x.2 x.2.box) fun y=>bnd (qA s y.2.tree) fun ts=>grd (OA y.2 y.1.length=true) (bnd (M x.1 y.1 ts) fun r=>s.PY dst y.2 r):=id rfl
@[simp] theorem as3 (cc:iN)(rr:A9):S.PY s dst cc rr=Fz s dst cc rr (xA rr):=id rfl
@[simp] theorem as4 (cc:iN)(rr:A9):Fz s dst cc rr none=s.back dst cc rr:=id rfl
@[simp] theorem as5 (cc:iN)(rr:A9):Fz s dst cc rr (some vs)=if(cc.box.isEmpty&&cc.tree.isEmpty)=true then bnd (AZ cc (dst.getD 0) vs) (Rj s dst)else s.back dst cc rr:=id rfl
@[simp] theorem as6:xA ⟨.ref 0 0,[vs],[]⟩=some vs:=id rfl
@[simp] theorem as7 (tr:List (Nat×List (List D))):xA ⟨x,[],tr⟩=none:=afj _ _
@[simp] theorem as8 (bs:List (List V))(tr:List (Nat×List (List D)))(z:Value):xA ⟨.v z,bs,tr⟩=none:=id rfl
@[simp] theorem as9 (bs:List (List V))(tr:List (Nat×List (List D)))  :xA ⟨.own p,bs,tr⟩=none:=id rfl
@[simp] theorem ata (bs:List (List V))(tr:List (Nat×List (List D)))  :xA ⟨.agg ws,bs,tr⟩=none:=id rfl
@[simp] theorem atb (bs:List (List V))(tr:List (Nat×List (List D)))  :xA ⟨.fU ws,bs,tr⟩=none:=id rfl
@[simp] theorem atc (bs:List (List V))(tr:List (Nat×List (List D)))  :xA ⟨.nil,bs,tr⟩=none:=id rfl
@[simp] theorem atd (bs:List (List V))(tr:List (Nat×List (List D)))  :xA ⟨.dead,bs,tr⟩=none:=id rfl
@[simp] theorem ate (e:List (Nat×V))(b:List (Nat×List V))(t f:List (Nat×List (List D))):Rj ⟨e,b,t,f⟩ (some n) vs=grd ((look n b).isNone=true) (some ⟨put n (.ref n 0) e,(n,vs)::b,t,f⟩):=id rfl
end
section
variable (P:Program) (G:List (FuncId×Bool×aN)) (s:S) (n m p q kk:Nat) (x y:V) (vs ws:List V) (rows:List (List D)) (dst:Option Nat) (ats:Array TypeId) (o o1 o2:Operand)
@[simp] theorem atf (u:ByteArray):kE P s dst .len ats [.v (.string u)]=bnd ats[0]? fun t=>grd (ab7 P t=true) (some (s.put dst (.v (.int .i64 u.size)))):=id rfl
@[simp] theorem atg:kE P s dst .len ats [.nil]=bnd ats[0]? fun t=>grd (AF P t=true) (bnd (s.rows (.nil)) fun rows=>some (s.put dst (.v (.int .i64 rows.length)))):=id rfl
@[simp] theorem ath (w:Option Nat):kE P s dst .len ats [.aL w rows]=bnd ats[0]? fun t=>grd (AF P t=true) (bnd (s.rows (.aL w rows)) fun rows=>some (s.put dst (.v (.int .i64 rows.length)))):=id rfl
@[simp] theorem ati:kE P s dst .len ats [.fz rows]=bnd ats[0]? fun t=>grd (AF P t=true) (bnd (s.rows (.fz rows)) fun rows=>some (s.put dst (.v (.int .i64 rows.length)))):=id rfl
@[simp] theorem atj:kE P s dst .len ats [.own p]=bnd ats[0]? fun t=>grd (AF P t=true) (bnd (s.rows (.own p)) fun rows=>some (s.put dst (.v (.int .i64 rows.length)))):=id rfl
@[simp] theorem atl:kE P s dst .len ats [.inn p n m q]=bnd ats[0]? fun t=>grd (AF P t=true) (bnd (s.rows (.inn p n m q)) fun rows=>some (s.put dst (.v (.int .i64 rows.length)))):=id rfl
@[simp] theorem atm:kE P s dst .append ats [x,y]=bnd ats[0]? fun t=>bnd ats[1]? fun t1=>grd (Eu P t1=true) (J7 P s dst t x y):=id rfl
@[simp] theorem atn (a c:Int):kE P s dst .max ats [.v (.int .i64 a), .v (.int .i64 c)]=some (s.put dst (.v (.int .i64 (max a c)))):=id rfl
@[simp] theorem ato (a c:Int):kE P s dst .min ats [.v (.int .i64 a), .v (.int .i64 c)]=some (s.put dst (.v (.int .i64 (min a c)))):=id rfl
@[simp] theorem atp (a:Int):qZ [.a (.int .u8 a)]=some (UInt8.ofNat a.toNat):=id rfl
@[simp] theorem atq (d0:TypeDesc):MJ P s dst x d0 (.slice n)=bnd (P.underlying n) fun d=>grd (FB d=true) (Ia s dst x):=id rfl
@[simp] theorem atr (k:IntKind)(d0:TypeDesc):MJ P s dst x d0 (.int k)=bnd (xB P s x d0 (.int k)) fun v=>some (s.put dst v):=id rfl
@[simp] theorem att (d0:TypeDesc):MJ P s dst x d0 .string=bnd (xB P s x d0 .string) fun v=>some (s.put dst v):=id rfl
@[simp] theorem atu (u:ByteArray)(e:List (Nat×V))(b:List (Nat×List V))(t f:List (Nat×List (List D))):Ia ⟨e,b,t,f⟩ (some n) (.v (.string u))=grd (fresh ⟨e,b,t,f⟩ n=true∧u.size≤4611686018427387904) (some ⟨put n (.fz (nS u)) e,b,t,(n,[])::f⟩):=id rfl
@[simp] theorem atv (k:IntKind)(d0:TypeDesc):xB P s x d0 (.int k)=bnd (idxOf x) fun n=>some (.v (.int k (k.wrap n))):=id rfl
@[simp] theorem atw (u:ByteArray)(d0:TypeDesc):xB P s (.v (.string u)) d0 .string=some (.v (.string u)):=id rfl
@[simp] theorem atx  (d0:TypeDesc):xB P s (.nil) d0 .string=yP P s (.nil) d0:=id rfl
@[simp] theorem aty (w:Option Nat)(d0:TypeDesc):xB P s (.aL w rows) d0 .string=yP P s (.aL w rows) d0:=id rfl
@[simp] theorem atz  (d0:TypeDesc):xB P s (.fz rows) d0 .string=yP P s (.fz rows) d0:=id rfl
@[simp] theorem atA  (d0:TypeDesc):xB P s (.own p) d0 .string=yP P s (.own p) d0:=id rfl
@[simp] theorem atB  (d0:TypeDesc):xB P s (.inn p n m q) d0 .string=yP P s (.inn p n m q) d0:=id rfl
@[simp] theorem atC (d0:TypeDesc):yP P s x d0=bnd (iW d0) fun e=>bnd (P.underlying e) fun d=>grd (FB d=true) (bnd (s.rows x) fun rows=>bnd (bK qZ rows) fun l=>some (.v (.string ⟨l.toArray⟩))):=id rfl
@[simp] theorem atD:FB (.int .u8)=true:=id rfl
@[simp] theorem atE (fs:Array Field):RD P (.ajt fs) n=bnd fs[n]? fun f=>some (f.offset,P.cellsOf f.type):=id rfl
@[simp] theorem atF:RD P (.arr m) n=some (n*P.cellsOf m,P.cellsOf m):=id rfl
@[simp] theorem atG (fs:Parts):sN P fs vs []=some vs:=id rfl
@[simp] theorem atH (fs:Parts)(r:List (Nat×V)):sN P fs vs ((n,x)::r)=bnd (RD P fs n) fun f=>grd (x.cells.length=f.2∧f.1+x.cells.length≤vs.length∧x.cells.all V.one=true) (sN P fs (setAt vs f.1 x.cells) r):=id rfl
@[simp] theorem atI (fs:Array Field):zI (.struct fs)=some (.ajt fs):=id rfl
@[simp] theorem atJ:zI (.array n m)=some (.arr m):=id rfl
@[simp] theorem atK:o9 s (n,o)=bnd (s.ev o) fun v=>some (n,v):=id rfl
@[simp] theorem atL:kg s none=some none:=id rfl
@[simp] theorem atM:kg s (some o)=bnd (s.ev o) fun v=>some (some v):=id rfl
@[simp] theorem atO:P5 (.ref n m)=some (.ref n m):=id rfl
@[simp] theorem atP:P5 (.pe x kk n m)=some (.pe x kk n m):=id rfl
@[simp] theorem atQ:RF n (.fU vs)=vs[n]?:=id rfl
@[simp] theorem atS:VG (.agg vs)=some vs:=id rfl
@[simp] theorem atT:Xn (.fn n vs)=some (n,vs):=id rfl
@[simp] theorem atU (e:List (Nat×V))(b:List (Nat×List V))(t f:List (Nat×List (List D))):S.uY ⟨e,b,t,f⟩ (some n) vs=grd ((look n b).isNone=true) (some ⟨put n (.ref n 0) e,(n,vs)::b,t,f⟩):=id rfl
@[simp] theorem atV (z:Value):OB (.v z)=true:=id rfl
@[simp] theorem atW (M:aN):xC false M s dst vs=wG false M s dst vs:=by unfold xC;split;rw [if_neg (by simp)];rfl
@[simp] theorem atX (M:aN):xC true M s dst []=wG true M s dst []:=id rfl
@[simp] theorem atY (M:aN):xC true M s dst (.inn n m p q::vs)=Zh M s dst n m p q vs:=id rfl
@[simp] theorem atZ (M:aN)(z:Value):xC true M s dst (.v z::vs)=wG true M s dst (.v z::vs):=id rfl
@[simp] theorem at1 (M:aN)  :xC true M s dst (.nil::vs)=wG true M s dst (.nil::vs):=id rfl
@[simp] theorem at5 (M:aN)(o:Option Nat):xC true M s dst (.aL o rows::vs)=wG true M s dst (.aL o rows::vs):=id rfl
@[simp] theorem at6 (M:aN)  :xC true M s dst (.fz rows::vs)=wG true M s dst (.fz rows::vs):=id rfl
@[simp] theorem at7 (M:aN)  :xC true M s dst (.own p::vs)=wG true M s dst (.own p::vs):=id rfl
@[simp] theorem aua (M:aN)  :xC true M s dst (.agg ws::vs)=wG true M s dst (.agg ws::vs):=id rfl
@[simp] theorem aub (M:aN)  :xC true M s dst (.ref n m::vs)=wG true M s dst (.ref n m::vs):=id rfl
@[simp] theorem auc (M:aN)  :xC true M s dst (.fn n ws::vs)=wG true M s dst (.fn n ws::vs):=id rfl
@[simp] theorem aud (M:aN):Zh M s dst p n m q vs=bnd (look p s.tree) fun rows=>bnd rows[n]? fun r=>bnd r[m]? fun d=>bnd (MH d) fun rs=>grd (r.length=q∧vs.all OB=true) (bnd (M (.own 0::vs) [] [rs]) (Rk s dst p n m rows r)):=id rfl
@[simp] theorem aue (r:List D)(rs:List (List D))(e:List (Nat×V))(b:List (Nat×List V))(t f:List (Nat×List (List D))):Rk ⟨e,b,t,f⟩ dst p n m rows r ⟨x,[],[(0,rs)]⟩=grd (OB x=true) (some (S.put ⟨e,b,upd p (rows.set n (r.set m (.l rs))) t,f⟩ dst x)):=id rfl
@[simp] theorem auf (z:Builtin):LG P G s dst ats vs (.builtin z)=kE P s dst z ats vs:=id rfl
@[simp] theorem aug:LG P G s dst ats vs (.value o)=bnd (s.ev o) fun f=>bnd (Xn f) fun f=>bnd (look f.1 G) fun M=>xC M.1 M.2 s dst (vs++f.2):=id rfl
@[simp] theorem auh:iR P G s dst (.move o)=bnd (s.ev o) fun v=>some (s.put dst v):=id rfl
@[simp] theorem aui:iR P G s dst (.assign o)=bnd (s.ev o) fun v=>some (s.put dst v):=id rfl
@[simp] theorem auj:iR P G s dst (.pick o o1 o2)=bnd (s.ev o) fun c=>bnd (Fw c) fun b=>bnd (s.ev (if b then o1 else o2)) fun v=>some (s.put dst v):=id rfl
@[simp] theorem auk:iR P G s dst (.alloc n)=bnd (jN P n) fun cs=>s.uY dst cs:=id rfl
@[simp] theorem aul:iR P G s dst (.box n o)=bnd (s.ev o) fun v=>grd (v.cells.length=P.cellsOf n∧v.cells.all V.one=true) (s.uY dst v.cells):=id rfl
@[simp] theorem aum:iR P G s dst (.load n o)=bnd (s.ev o) fun p=>bnd (s.load P n p) fun v=>some (s.put dst v):=id rfl
@[simp] theorem aun:iR P G s dst (.store n o o1)=bnd (s.ev o) fun p=>bnd (s.ev o1) fun v=>bnd (s.store P n p v) fun s=>some (s.skip dst):=id rfl
@[simp] theorem auo:iR P G s dst (.nilCheck o)=bnd (s.ev o) fun v=>bnd (P5 v) fun v=>some (s.put dst v):=id rfl
@[simp] theorem aup:iR P G s dst (.fieldAddr n o m)=bnd (s.ev o) fun x=>bnd (bZ P n m) fun f=>bnd (yO x f.1) fun v=>some (s.put dst v):=id rfl
@[simp] theorem auq:iR P G s dst (.field n o m)=bnd (s.ev o) fun x=>bnd (VG x) fun cs=>bnd (bZ P n m) fun f=>bnd (o8 P f.2) fun g=>bnd (span cs f.1 (P.cellsOf f.2) g) fun v=>some (s.put dst v):=id rfl
@[simp] theorem aur:iR P G s dst (.indexAddr n o o1)=bnd (s.ev o) fun x=>bnd (s.ev o1) fun i=>bnd (idxOf i) fun i=>bnd (lZ P n) fun e=>bnd (lI P s x i e.1 e.2) fun v=>some (s.put dst v):=id rfl
@[simp] theorem aus:iR P G s dst (.index n o o1)=bnd (s.ev o) fun x=>bnd (s.ev o1) fun i=>bnd (idxOf i) fun i=>bnd (H7 P n x i) fun v=>some (s.put dst v):=id rfl
@[simp] theorem aut:iR P G s dst (.extract o n)=bnd (s.ev o) fun x=>bnd (RF n x) fun v=>some (s.put dst v):=id rfl
@[simp] theorem auu:iR P G s dst (.convert n m o)=bnd (s.ev o) fun x=>bnd (P.underlying n) fun d0=>bnd (P.underlying m) fun d=>MJ P s dst x d0 d:=id rfl
@[simp] theorem auv (ps:Array (Nat×Operand)):iR P G s dst (.build n ps)=bnd (P.underlying n) fun d=>bnd (zI d) fun fs=>grd (jr P n=true) (bnd (jN P n) fun z=>bnd (bK (o9 s) ps.toList) fun vs=>bnd (sN P fs z vs) fun cs=>some (s.put dst (.agg cs))):=id rfl
@[simp] theorem auw (ps:Array (Nat×Operand)):iR P G s dst (.buildSlice n m ps)=bnd (P.underlying n) fun d=>bnd (iW d) fun e=>bnd (bK (o9 s) ps.toList) fun vs=>grd ((iF P e&&decide (m*P.cellsOf e≤16777216)&&upto 0 m (vs.map (·.1))&&vs.all fun v=>decide (v.2.cells.length=P.cellsOf e)&&v.2.cells.all V.one)=true) (bnd (kC s (vs.map (·.2))) fun x=>x.2.newTree dst x.1):=id rfl
@[simp] theorem auy (z:BinOp):iR P G s dst (.binOp z n o o1 m)=bnd (s.ev o) fun x=>bnd (s.ev o1) fun y=>bnd (bin P n z x y) fun v=>some (s.put dst v):=id rfl
@[simp] theorem auz (z:UnOp):iR P G s dst (.unOp z n o)=bnd (s.ev o) fun x=>bnd (un z x) fun v=>some (s.put dst v):=id rfl
@[simp] theorem auA (lo hi:Option Operand):iR P G s dst (.slice n o lo hi none)=bnd (s.ev o) fun x=>bnd (kg s lo) fun l=>bnd (kg s hi) fun h=>bnd (P.underlying n) fun d=>D6 P s dst x l h d:=id rfl
@[simp] theorem auB (ol oh:Option V)(dd:TypeDesc):D6 P s dst (.own p) ol oh dd=ab8 P s dst p ol oh dd (look p s.dK):=id rfl
@[simp] theorem auC (ol oh:Option V)(dd:TypeDesc):ab8 P s dst p ol oh dd (some rows)=bnd (qY P s (.own p) ol oh dd) fun v=>some (s.put dst v):=id rfl
@[simp] theorem auD (ol oh:Option V)(dd:TypeDesc):ab8 P s dst p ol oh dd none=ak5 P s dst p ol oh dd (look p s.tree):=id rfl
@[simp] theorem auE (ol oh:Option V)(dd:TypeDesc):ak5 P s dst p ol oh dd (some rows)=ahh P s dst p rows ol oh dd:=id rfl
@[simp] theorem auF (ol oh:Option V):ahh P s dst p rows ol oh (.slice n)=grd (fq P n=true) (Xo s dst (P.cellsOf n) p rows ol oh):=id rfl
@[simp] theorem auG (ol oh:Option V):Xo s dst kk p rows ol oh=bnd (bounds rows.length ol oh) fun q=>if q.1<q.2 then grd (wid kk rows=true) ((s.kill p).newTree dst ((rows.drop q.1).take (q.2-q.1)))else some (s.put dst (.aL none [])):=id rfl
@[simp] theorem auH (ol oh:Option V)(dd:TypeDesc)  :D6 P s dst (.nil) ol oh dd=bnd (qY P s (.nil) ol oh dd) fun v=>some (s.put dst v):=id rfl
@[simp] theorem auI (ol oh:Option V)(dd:TypeDesc)(w:Option Nat):D6 P s dst (.aL w rows) ol oh dd=bnd (qY P s (.aL w rows) ol oh dd) fun v=>some (s.put dst v):=id rfl
@[simp] theorem auJ (ol oh:Option V)(dd:TypeDesc)  :D6 P s dst (.fz rows) ol oh dd=bnd (qY P s (.fz rows) ol oh dd) fun v=>some (s.put dst v):=id rfl
@[simp] theorem auK (ol oh:Option V)(dd:TypeDesc)(z:Value):D6 P s dst (.v z) ol oh dd=bnd (qY P s (.v z) ol oh dd) fun v=>some (s.put dst v):=id rfl
@[simp] theorem auL:iR P G s dst (.makeSlice n o o1)=bnd (s.ev o) fun n1=>bnd (s.ev o1) fun c=>RG P s dst n n1 c:=id rfl
@[simp] theorem auM:RG P s dst n x y=bnd (P.underlying n) fun d=>bnd (iW d) fun e=>bnd (idxOf x) fun l=>bnd (idxOf y) fun cc=>grd (iF P e=true∧0≤l∧l=cc∧l.toNat*P.bytesOf e≤140737488355328∧l≤4611686018427387904) (bnd (jN P e) fun z=>bnd (bK AV z) fun r=>s.newTree dst (List.replicate l.toNat r)):=id rfl
@[simp] theorem auN (c:Call):iR P G s dst (.call c)=bnd (bK s.ev c.args.toList) fun args=>LG P G s dst c.argTypes args c.callee:=id rfl
@[simp] theorem auO (ops:Array Oper):S.wants ops s none=some true:=id rfl
@[simp] theorem auP (ops:Array Oper)(g:Bool):S.wants ops s (some (n,g))=Ka s g ((ops[n]?).bind (·.dst)):=id rfl
@[simp] theorem auQ (g:Bool):Ka s g (some n)=LH g (look n s.env):=id rfl
@[simp] theorem auR (g:Bool):LH g none=none:=id rfl
@[simp] theorem auS (g:Bool):LH g (some (.fU []))=some false:=id rfl
@[simp] theorem auT (g h:Bool):LH g (some (.v (.bool h)))=some (h==g):=id rfl
end
section
variable (l:List Nat) (mp:List (Nat×Nat)) (n m p q kk:Nat) (x y:V) (vs ws:List V) (rows:List (List D))
@[simp] theorem auU:Ck mp (.own p)= .own (ren mp p):=id rfl
@[simp] theorem auV:Ck mp (.inn p n m q)= .inn (ren mp p) n m q:=id rfl
@[simp] theorem auW:uJ l (.inn p n m q)=if l.contains p then l else l++ [p]:=id rfl
@[simp] theorem auX:ren mp p=(look p mp).getD p:=id rfl
@[simp] theorem auY:Ck mp (.pe x kk n m)= .pe (Ck mp x) kk n m:=id rfl
@[simp] theorem auZ:Ck mp (.agg vs)= .agg (HY mp vs):=id rfl
@[simp] theorem au0:Ck mp (.fU vs)= .fU (HY mp vs):=id rfl
@[simp] theorem au1:Ck mp (.fn n vs)= .fn n (HY mp vs):=id rfl
@[simp] theorem au2 (z:Value):Ck mp (.v z)= .v z:=id rfl
@[simp] theorem au3 (z:Value):uJ l (.v z)=l:=id rfl
@[simp] theorem au4:Ck mp (.nil)= .nil:=id rfl
@[simp] theorem au5:uJ l (.nil)=l:=id rfl
@[simp] theorem au6 (em:List (Int×Int)):Ck mp (.mp em)= .mp em:=id rfl
@[simp] theorem au7 (em:List (Int×Int)):uJ l (.mp em)=l:=id rfl
@[simp] theorem au8 (o:Option Nat):Ck mp (.aL o rows)= .aL o rows:=id rfl
@[simp] theorem au9 (o:Option Nat):uJ l (.aL o rows)=l:=id rfl
@[simp] theorem ava:Ck mp (.fz rows)= .fz rows:=id rfl
@[simp] theorem avb:uJ l (.fz rows)=l:=id rfl
@[simp] theorem avc:Ck mp (.ref n m)= .ref n m:=id rfl
@[simp] theorem avd:uJ l (.ref n m)=l:=id rfl
@[simp] theorem ave:Ck mp (.dead)= .dead:=id rfl
@[simp] theorem avf:uJ l (.dead)=l:=id rfl
@[simp] theorem avg:HY mp []= []:=id rfl
@[simp] theorem avh:HY mp (x::vs)=Ck mp x::HY mp vs:=id rfl
@[simp] theorem avi:uJ l (.own p)=if l.contains p then l else l++ [p]:=id rfl
@[simp] theorem avj:uJ l (.pe x kk n m)=uJ l x:=id rfl
@[simp] theorem avk:uJ l (.agg vs)=Ba l vs:=id rfl
@[simp] theorem avl:uJ l (.fU vs)=Ba l vs:=id rfl
@[simp] theorem avm:uJ l (.fn n vs)=Ba l vs:=id rfl
@[simp] theorem avn:Ba l []=l:=id rfl
@[simp] theorem avo:Ba l (x::vs)=Ba (uJ l x) vs:=id rfl
@[simp] theorem avp:eH n []=([],[]):=id rfl
@[simp] theorem avq (e:List (Nat×V)):eH n ((m, .nil)::e)=((m, .own n)::(eH (n+1) e).1,n::(eH (n+1) e).2):=id rfl
@[simp] theorem avr:cu n []=([],[]):=id rfl
@[simp] theorem avs:cu n (.nil::vs)=(.own n::(cu (n+1) vs).1,n::(cu (n+1) vs).2):=id rfl
@[simp] theorem avt (z:Value)(e:List (Nat×V)):eH n ((m, .v z)::e)=((m, .v z)::(eH n e).1,(eH n e).2):=id rfl
@[simp] theorem avu (z:Value):cu n (.v z::vs)=(.v z::(cu n vs).1,(cu n vs).2):=id rfl
@[simp] theorem avv (em:List (Int×Int))(e:List (Nat×V)):eH n ((m, .mp em)::e)=((m, .mp em)::(eH n e).1,(eH n e).2):=id rfl
@[simp] theorem avw (em:List (Int×Int)):cu n (.mp em::vs)=(.mp em::(cu n vs).1,(cu n vs).2):=id rfl
@[simp] theorem avx (o:Option Nat)(e:List (Nat×V)):eH n ((m, .aL o rows)::e)=((m, .aL o rows)::(eH n e).1,(eH n e).2):=id rfl
@[simp] theorem avy (o:Option Nat):cu n (.aL o rows::vs)=(.aL o rows::(cu n vs).1,(cu n vs).2):=id rfl
@[simp] theorem avz  (e:List (Nat×V)):eH n ((m, .fz rows)::e)=((m, .fz rows)::(eH n e).1,(eH n e).2):=id rfl
@[simp] theorem avA:cu n (.fz rows::vs)=(.fz rows::(cu n vs).1,(cu n vs).2):=id rfl
@[simp] theorem avB  (e:List (Nat×V)):eH n ((m, .own p)::e)=((m, .own p)::(eH n e).1,(eH n e).2):=id rfl
@[simp] theorem avC:cu n (.own p::vs)=(.own p::(cu n vs).1,(cu n vs).2):=id rfl
@[simp] theorem avD (r0:Nat)(e:List (Nat×V)):eH n ((m, .inn p q kk r0)::e)=((m, .inn p q kk r0)::(eH n e).1,(eH n e).2):=id rfl
@[simp] theorem avE (r0:Nat):cu n (.inn p q kk r0::vs)=(.inn p q kk r0::(cu n vs).1,(cu n vs).2):=id rfl
@[simp] theorem avF  (e:List (Nat×V)):eH n ((m, .ref p q)::e)=((m, .ref p q)::(eH n e).1,(eH n e).2):=id rfl
@[simp] theorem avG:cu n (.ref p q::vs)=(.ref p q::(cu n vs).1,(cu n vs).2):=id rfl
@[simp] theorem avH  (e:List (Nat×V)):eH n ((m, .pe x kk p q)::e)=((m, .pe x kk p q)::(eH n e).1,(eH n e).2):=id rfl
@[simp] theorem avI:cu n (.pe x kk p q::vs)=(.pe x kk p q::(cu n vs).1,(cu n vs).2):=id rfl
@[simp] theorem avJ  (e:List (Nat×V)):eH n ((m, .agg ws)::e)=((m, .agg ws)::(eH n e).1,(eH n e).2):=id rfl
@[simp] theorem avK:cu n (.agg ws::vs)=(.agg ws::(cu n vs).1,(cu n vs).2):=id rfl
@[simp] theorem avL  (e:List (Nat×V)):eH n ((m, .fU ws)::e)=((m, .fU ws)::(eH n e).1,(eH n e).2):=id rfl
@[simp] theorem avM:cu n (.fU ws::vs)=(.fU ws::(cu n vs).1,(cu n vs).2):=id rfl
@[simp] theorem avN  (e:List (Nat×V)):eH n ((m, .fn p ws)::e)=((m, .fn p ws)::(eH n e).1,(eH n e).2):=id rfl
@[simp] theorem avO:cu n (.fn p ws::vs)=(.fn p ws::(cu n vs).1,(cu n vs).2):=id rfl
@[simp] theorem avP  (e:List (Nat×V)):eH n ((m, .dead)::e)=((m, .dead)::(eH n e).1,(eH n e).2):=id rfl
@[simp] theorem avQ:cu n (.dead::vs)=(.dead::(cu n vs).1,(cu n vs).2):=id rfl
@[simp] theorem avR:mQ n []=([],[]):=id rfl
@[simp] theorem avS (b:List (Nat×List V)):mQ n ((m,vs)::b)=((m,(cu n vs).1)::(mQ (n+(cu n vs).2.length) b).1,(cu n vs).2++(mQ (n+(cu n vs).2.length) b).2):=id rfl
@[simp] theorem avT (e:List (Nat×V)):ahj l e=bK (fun t=>bnd (look t e) fun v=>some (t,v)) l:=id rfl
@[simp] theorem avU (b:List (Nat×List V)):ahk l b=bK (fun t=>bnd (look t b) fun v=>some (t,v)) l:=id rfl
@[simp] theorem avV:iV l (.ref n m)=l.contains n:=id rfl
@[simp] theorem avW:iV l (.pe x kk n m)=iV l x:=id rfl
@[simp] theorem avX:iV l (.agg vs)=iV.go l vs:=id rfl
@[simp] theorem avY:iV l (.fU vs)=iV.go l vs:=id rfl
@[simp] theorem avZ:iV l (.fn n vs)=iV.go l vs:=id rfl
@[simp] theorem av0 (z:Value):iV l (.v z)=true:=id rfl
@[simp] theorem av1:iV l (.nil)=true:=id rfl
@[simp] theorem av2 (em:List (Int×Int)):iV l (.mp em)=true:=id rfl
@[simp] theorem av3 (o:Option Nat):iV l (.aL o rows)=true:=id rfl
@[simp] theorem av4:iV l (.fz rows)=true:=id rfl
@[simp] theorem av5:iV l (.own n)=true:=id rfl
@[simp] theorem av6:iV l (.inn n m p q)=true:=id rfl
@[simp] theorem av7:iV l (.dead)=true:=id rfl
@[simp] theorem av8:iV.go l []=true:=id rfl
@[simp] theorem av9:iV.go l (x::vs)=(iV l x&&iV.go l vs):=id rfl
@[simp] theorem awc (tr:List (Nat×List (List D))):metIn tr [] n= []:=id rfl
@[simp] theorem awd (tr:List (Nat×List (List D))):metIn tr (p::l) n=OD p n (metIn tr l) (look p tr):=id rfl
@[simp] theorem awe (k:Nat→List (Nat×Nat×List (List D))):OD p n k (some rows)=if 1000000000≤p∧p<2000000000 then(p,p,rows)::k n else(p,2000000000+n,rows)::k (n+1):=id rfl
@[simp] theorem awf (k:Nat→List (Nat×Nat×List (List D))):OD p n k none=k n:=id rfl
@[simp] theorem awg (e:List (Nat×V))(b:List (Nat×List V))(t f:List (Nat×List (List D))):S.aeH e b t f=S.K5 (metIn t (Ba (Ba [] (e.map (·.2))) (b.flatMap (·.2))) (1000*f.length)) e b f:=id rfl
@[simp] theorem awh (mm:List (Nat×Nat×List (List D)))(e:List (Nat×V))(b:List (Nat×List V))(f:List (Nat×List (List D))):S.K5 mm e b f=⟨e.map fun x=>(x.1,Ck (mm.map fun x=>(x.1,x.2.1)) x.2),b.map fun x=>(x.1,HY (mm.map fun x=>(x.1,x.2.1)) x.2),(mm.map (·.2)).reverse,f⟩:=id rfl
@[simp] theorem awi (ts bs:List Nat)(e:List (Nat×V))(b:List (Nat×List V))(t f:List (Nat×List (List D))):S.head ts bs ⟨e,b,t,f⟩=bnd (ahj ts e) fun env=>bnd (ahk bs b) fun box=>grd ((desc ts&&desc bs&&env.all (fun x=>iV bs x.2)&&box.all (fun x=>x.2.all (iV bs))&&t.all (fun x=>decide (x.1<3000000000))&&f.all (fun x=>decide (x.1<2000000000+1000*f.length))&&decide (f.length<1000))=true) (some (S.aeH (eH 3000000000 env).1 (mQ (3000000000+(eH 3000000000 env).2.length) box).1 (t++((eH 3000000000 env).2++(mQ (3000000000+(eH 3000000000 env).2.length) box).2).map fun p=>(p,[])) f)):=id rfl
@[simp] theorem awj (hs:List (Nat×List Nat×List Nat))(fs:List (Nat×List Nat))(ds:List (Nat×List Nat×List (Nat×List Nat)))(ns:List (Nat×List Nat×List Nat))(s:S):oI.head ⟨hs,fs,ds,ns⟩ n s=Ib s (look n hs):=id rfl
@[simp] theorem awk (hs:List (Nat×List Nat×List Nat))(fs:List (Nat×List Nat))(ds:List (Nat×List Nat×List (Nat×List Nat)))(ns:List (Nat×List Nat×List Nat)):oI.bars ⟨hs,fs,ds,ns⟩ n=Xq (look n ds):=id rfl
@[simp] theorem awl (z:List Nat×List (Nat×List Nat)):Xq (some z)=z:=id rfl
@[simp] theorem awm:Xq none=([],[]):=id rfl
@[simp] theorem awn (s:S)(ts bs:List Nat):Ib s (some (ts,bs))=s.head ts bs:=id rfl
@[simp] theorem awo (s:S):Ib s none=some s:=id rfl
@[simp] theorem awp (hs:List (Nat×List Nat×List Nat))(fs:List (Nat×List Nat))(ds:List (Nat×List Nat×List (Nat×List Nat)))(ns:List (Nat×List Nat×List Nat))(s:S):oI.reg ⟨hs,fs,ds,ns⟩ n s=bnd (Ib s (look n ns)) fun s=>VJ s (look n fs):=id rfl
@[simp] theorem awq (s:S):VJ s (some l)=uK s l:=id rfl
@[simp] theorem awr (s:S):VJ s none=some s:=id rfl
@[simp] theorem awt (s:S):uK s []=some s:=id rfl
@[simp] theorem awu (s:S):uK s (n::l)=bnd (s.freeze n) fun s=>uK s l:=id rfl
@[simp] theorem awv (s:S):S.freeze s n=bnd (look n s.env) fun v=>MK s v:=id rfl
@[simp] theorem aww (s:S):MK s (.own p)=zR s p (look p s.tree):=id rfl
@[simp] theorem awx (q:Nat)(s:S):MK s (.ref p q)=bnd (look p s.box) fun cs=>ko s cs:=id rfl
@[simp] theorem awy (s:S):ko s []=some s:=id rfl
@[simp] theorem awz (s:S)(vs:List V):ko s (.own p::vs)=bnd (zR s p (look p s.tree)) fun s=>ko s vs:=id rfl
@[simp] theorem awC (s:S)(vs:List V)(z:Value):ko s (.v z::vs)=ko s vs:=id rfl
@[simp] theorem awD (s:S)(vs:List V)  :ko s (.nil::vs)=ko s vs:=id rfl
@[simp] theorem awE (s:S)(vs:List V)(em:List (Int×Int)):ko s (.mp em::vs)=ko s vs:=id rfl
@[simp] theorem awF (s:S)(vs:List V)(o:Option Nat)(rows:List (List D)):ko s (.aL o rows::vs)=ko s vs:=id rfl
@[simp] theorem awG (s:S)(vs:List V)(rows:List (List D)):ko s (.fz rows::vs)=ko s vs:=id rfl
@[simp] theorem awH (s:S)(vs:List V)  :ko s (.dead::vs)=ko s vs:=id rfl
@[simp] theorem awI (s:S)(vs:List V)(q:Nat):ko s (.ref p q::vs)=ko s vs:=id rfl
@[simp] theorem awJ (e:List (Nat×V))(b:List (Nat×List V))(t f:List (Nat×List (List D))):zR ⟨e,b,t,f⟩ p (some rows)=some ⟨e,b,drop1 p t,(p,rows)::f⟩:=id rfl
@[simp] theorem awK (s:S):zR s p none=some s:=id rfl
end
section
variable (s:S) (n m p q kk:Nat) (x y:V) (vs ws:List V) (rows:List (List D)) (l:List (Nat×List (List D)))
@[simp] theorem awL:mD (.ref n m)= .ref (1000000000+n) m:=id rfl
@[simp] theorem awM:mD (.own n)= .own (1000000000+n):=id rfl
@[simp] theorem awN:mD (.inn n m p q)= .inn (1000000000+n) m p q:=id rfl
@[simp] theorem awO:mD (.agg vs)= .agg (oC vs):=id rfl
@[simp] theorem awP:mD (.fU vs)= .fU (oC vs):=id rfl
@[simp] theorem awQ:mD (.pe x kk n m)= .pe (mD x) kk n m:=id rfl
@[simp] theorem awR:mD (.fn n vs)= .fn n (oC vs):=id rfl
@[simp] theorem awS (z:Value):mD (.v z)= .v z:=id rfl
@[simp] theorem awT:mD (.nil)= .nil:=id rfl
@[simp] theorem awU (em:List (Int×Int)):mD (.mp em)= .mp em:=id rfl
@[simp] theorem awV (o:Option Nat):mD (.aL o rows)= .aL o rows:=id rfl
@[simp] theorem awW:mD (.fz rows)= .fz rows:=id rfl
@[simp] theorem awX:mD (.dead)= .dead:=id rfl
@[simp] theorem awY:oC []= []:=id rfl
@[simp] theorem awZ:oC (x::vs)=mD x::oC vs:=id rfl
@[simp] theorem aw0 (z:Value):zS s n l (.v z)=some (.v z,l):=id rfl
@[simp] theorem aw1:zS s n l .nil=some (.own (n+l.length),l++ [(0,[])]):=id rfl
@[simp] theorem aw2 (o:Option Nat):zS s n l (.aL o rows)=some (.aL o rows,l):=id rfl
@[simp] theorem aw3:zS s n l (.agg vs)=bnd (OJ s n l vs) fun x=>some (.agg x.1,x.2):=id rfl
@[simp] theorem aw4:zS s n l (.fU vs)=bnd (OJ s n l vs) fun x=>some (.fU x.1,x.2):=id rfl
@[simp] theorem aw5:zS s n l (.ref p q)=grd (1000000000≤p) (some (.ref (p-1000000000) q,l)):=id rfl
@[simp] theorem aw6:zS s n l (.own p)=if 1000000000≤p∧p<1000000000+n then grd ((look p s.tree).isSome=true) (some (.own (p-1000000000),l))else bnd (s.rows (.own p)) fun rows=>grd ((look p l).isNone=true) (some (.own (n+l.length),l++ [(p,rows)])):=id rfl
@[simp] theorem aw7:zS s n l .dead=some (.dead,l):=id rfl
@[simp] theorem aw8:OJ s n l []=some ([],l):=id rfl
@[simp] theorem aw9:OJ s n l (x::vs)=bnd (zS s n l x) fun x=>bnd (OJ s n x.2 vs) fun y=>some (x.1::y.1,y.2):=id rfl
@[simp] theorem axa:Xt s n l []=some ([],l):=id rfl
@[simp] theorem axb (ps:List Nat):Xt s n l (p::ps)=bnd (look (1000000000+p) s.box) fun cs=>bnd (OJ s n l cs) fun x=>bnd (Xt s n x.2 ps) fun y=>some (x.1::y.1,y.2):=id rfl
@[simp] theorem axc (P:Program):Xu P s (.tmp n)=look n s.env:=id rfl
@[simp] theorem axd (P:Program):Xu P s (.cell n m)=bnd (look n s.env) fun p=>s.load P m p:=id rfl
@[simp] theorem axe:RN [x]=x:=id rfl
@[simp] theorem axf:RN []= .fU []:=id rfl
@[simp] theorem axg:RN (x::y::vs)= .fU (x::y::vs):=id rfl
@[simp] theorem axh:iy s n 0= []:=id rfl
@[simp] theorem axi:iy s n (m+1)=Ke n (iy s (n+1) m) (look (1000000000+n) s.tree):=id rfl
@[simp] theorem axj:Ke n l (some rows)=(n,rows)::l:=id rfl
@[simp] theorem axk:Ke n l none=l:=id rfl
@[simp] theorem axl (P:Program)(rs:List ResultVar):tu P rs n m s=bnd (bK (Xu P s) rs) fun vs=>bnd (zS s m [] (RN vs)) fun x=>bnd (Xt s m x.2 (List.range' 0 n)) fun y=>grd ((s.box.all fun x=>decide (x.1<1000000000+n))=true) (some ⟨x.1,y.1,iy s 0 m++kG m y.2⟩):=id rfl
@[simp] theorem axn (P:Program)(fn:Func):RO P fn n m (.normal, .on s)=tu P fn.results.toList n m s:=id rfl
@[simp] theorem axo (P:Program)(fn:Func):RO P fn n m (.ret, .on s)=tu P fn.results.toList n m s:=id rfl
@[simp] theorem axp (z:Q):Ih n (.exit m,z)=if m=n then some (.normal,z)else some (.exit m,z):=id rfl
@[simp] theorem axq (z:Q):Ih n (.normal,z)=some (.normal,z):=id rfl
@[simp] theorem axr (z:Q):Ih n (.ret,z)=some (.ret,z):=id rfl
@[simp] theorem axt (ops:Array Oper)(d:Bool):Code.first (.region n ops d)=n:=id rfl
@[simp] theorem axu (c d:Code):Code.first (.seq c d)=Code.first c:=id rfl
@[simp] theorem axv (c:Code):Code.first (.block n c)=Code.first c:=id rfl
@[simp] theorem axw (c:Code):Code.first (.loop c)=Code.first c:=id rfl
@[simp] theorem axx (c:Code):Code.first (.scope c)=Code.first c:=id rfl
@[simp] theorem axy (P:Program)(G:List (FuncId×Bool×aN))(gh:oI)(bs:List (List V))(ts:List (List (List D))):aI P G gh n vs bs ts=bnd P.funcs[n]? fun fn=>bnd fn.body fun c=>grd (vs.length≤1000∧bs.length≤1000∧ts.length≤1000) <| bnd (Kc P G gh c (.on ⟨(bW 0 (vs.map mD)).reverse,(bW 1000000000 (bs.map oC)).reverse,(bW 1000000000 ts).reverse,[]⟩)) (RO P fn bs.length ts.length):=id rfl
@[simp] theorem axz (o:Option (List (List D))):lY (some rows) o=some rows:=id rfl
@[simp] theorem axA (o:Option (List (List D))):lY none o=o:=id rfl
end
theorem qx (s:S)(d:Nat)(v:V):grd ((jv s []&&kF s [])=true) (some (s.app (some d) ⟨v,[],[]⟩))=some (s.put (some d) v):=by rw [eB _ (show(jv s []&&kF s [])=true from rfl)];rfl
section
variable (P:Program) (G:List (FuncId×Bool×aN)) (s:S) (n m p q kk d:Nat) (x y:V) (vs ws:List V) (rows:List (List D)) (ats:Array TypeId) (o o1 o2:Operand)
@[simp] theorem axB:jW P G s (some d) (.move o)=iR P G s (some d) (.move o):=by simp only [jW,qj,jl,iR,bq,iY,oJ,qx]
@[simp] theorem axC:jW P G s (some d) (.assign o)=iR P G s (some d) (.assign o):=by simp only [jW,qj,jl,iR,bq,iY,oJ,qx]
@[simp] theorem axD:jW P G s (some d) (.pick o o1 o2)=iR P G s (some d) (.pick o o1 o2):=by simp only [jW,qj,jl,iR,bq,iY,oJ,qx]
@[simp] theorem axE:jW P G s (some d) (.load n o)=iR P G s (some d) (.load n o):=by simp only [jW,qj,jl,iR,bq,iY,oJ,qx]
@[simp] theorem axF:jW P G s (some d) (.nilCheck o)=iR P G s (some d) (.nilCheck o):=by simp only [jW,qj,jl,iR,bq,iY,oJ,qx]
@[simp] theorem axG:jW P G s (some d) (.fieldAddr n o m)=iR P G s (some d) (.fieldAddr n o m):=by simp only [jW,qj,jl,iR,bq,iY,oJ,qx]
@[simp] theorem axH:jW P G s (some d) (.field n o m)=iR P G s (some d) (.field n o m):=by simp only [jW,qj,jl,iR,bq,iY,oJ,qx]
@[simp] theorem axI:jW P G s (some d) (.indexAddr n o o1)=iR P G s (some d) (.indexAddr n o o1):=by simp only [jW,qj,jl,iR,bq,iY,oJ,qx]
@[simp] theorem axJ:jW P G s (some d) (.index n o o1)=iR P G s (some d) (.index n o o1):=by simp only [jW,qj,jl,iR,bq,iY,oJ,qx]
@[simp] theorem axK:jW P G s (some d) (.extract o n)=iR P G s (some d) (.extract o n):=by simp only [jW,qj,jl,iR,bq,iY,oJ,qx]
@[simp] theorem axL (ps:Array (Nat×Operand)):jW P G s (some d) (.build n ps)=iR P G s (some d) (.build n ps):=by simp only [jW,qj,jl,iR,bq,iY,oJ,qx]
@[simp] theorem axM (z:BinOp):jW P G s (some d) (.binOp z n o o1 m)=iR P G s (some d) (.binOp z n o o1 m):=by simp only [jW,qj,jl,iR,bq,iY,oJ,qx]
@[simp] theorem axN (z:UnOp):jW P G s (some d) (.unOp z n o)=iR P G s (some d) (.unOp z n o):=by simp only [jW,qj,jl,iR,bq,iY,oJ,qx]
@[simp] theorem axO (z:Fn)(first ps:Array Operand):jW P G s (some d) (.makeFunc z first ps)=iR P G s (some d) (.makeFunc z first ps):=by simp only [jW,qj,jl,iR,bq,iY,oJ,qx]
@[simp] theorem axP (lo hi:Option Operand):jW P G s (some d) (.slice n o lo hi none)=bnd (s.ev o) fun x=>bnd (kg s lo) fun l=>bnd (kg s hi) fun h=>bnd (P.underlying n) fun dd=>bnd (qY P s x l h dd) fun v=>some (s.put (some d) v):=by simp only [jW,qj,jl,bq,iY,oJ,qx]
@[simp] theorem axQ:jW P G s (some d) (.convert n m o)=bnd (s.ev o) fun x=>bnd (P.underlying n) fun d0=>bnd (P.underlying m) fun dd=>bnd (xB P s x d0 dd) fun v=>some (s.put (some d) v):=by simp only [jW,qj,jl,bq,iY,oJ,qx]
@[simp] theorem axR:jW P G s (some d) (.alloc n)=iR P G s (some d) (.alloc n):=by simp only [jW,qj,iR,bq,iY,S.uY,jv,kF,Bool.and_true,Bool.true_and];rfl
@[simp] theorem axS:jW P G s (some d) (.box n o)=iR P G s (some d) (.box n o):=by simp only [jW,qj,iR,bq,iY,oJ,S.uY,jv,kF,Bool.and_true,Bool.true_and];rfl
@[simp] theorem axT (c:Call):jW P G s (some d) (.call c)=bnd (bnd (bK s.ev c.args.toList) fun args=>yQ P G s d c.argTypes args c.callee) fun e=>grd ((jv s e.tree&&kF s e.box)=true) (some (s.app (some d) e)):=id rfl
@[simp] theorem axU (ps:Array (Nat×Operand)):jW P G s (some d) (.buildSlice n m ps)=bnd (bnd (P.underlying n) fun ds=>bnd (iW ds) fun e=>bnd (bK (o9 s) ps.toList) fun vs=>grd ((iF P e&&decide (m*P.cellsOf e≤16777216)&&upto 0 m (vs.map (·.1))&&vs.all fun v=>decide (v.2.cells.length=P.cellsOf e)&&v.2.cells.all V.one)=true) (bnd (bK (fun v:Nat×V=>bK AV v.2.cells) vs) fun rows=>some ⟨.own d,[(d,rows)],[]⟩)) fun e:Eff=>grd ((jv s e.tree&&kF s e.box)=true) (some (s.app (some d) e)):=id rfl
@[simp] theorem axV (z:Builtin):yQ P G s d ats vs (.builtin z)=Zi P s d z ats vs:=id rfl
@[simp] theorem axW:yQ P G s d ats vs (.value o)=bnd (s.ev o) fun f=>bnd (Xn f) fun f=>bnd (look f.1 G) fun M=>grd (M.1=false) (FC M.2 s d (vs++f.2)):=id rfl
@[simp] theorem axX:Zi P s d .append ats [x,y]=bnd ats[0]? fun t=>bnd ats[1]? fun t1=>grd (Eu P t1=true) (bnd (P.underlying t) fun ds=>bnd (iW ds) fun e=>bnd (nE s y) fun new=>Ic P s d e new x):=id rfl
@[simp] theorem axY:Zi P s d .len ats vs=bnd (C9 P s .len ats vs) fun v=>some ⟨v,[],[]⟩:=id rfl
@[simp] theorem axZ:Zi P s d .max ats vs=bnd (C9 P s .max ats vs) fun v=>some ⟨v,[],[]⟩:=id rfl
@[simp] theorem ax0:Zi P s d .min ats vs=bnd (C9 P s .min ats vs) fun v=>some ⟨v,[],[]⟩:=id rfl
@[simp] theorem ax1 (u:ByteArray):C9 P s .len ats [.v (.string u)]=bnd ats[0]? fun t=>grd (ab7 P t=true) (some (.v (.int .i64 u.size))):=id rfl
@[simp] theorem ax2:C9 P s .len ats [.nil]=bnd ats[0]? fun t=>grd (AF P t=true) (bnd (s.rows (.nil)) fun rows=>some (.v (.int .i64 rows.length))):=id rfl
@[simp] theorem ax3:nE s (.nil)=bnd (s.rows (.nil)) fun rows=>grd (dU rows=true) (some rows):=id rfl
@[simp] theorem ax4 (w:Option Nat):C9 P s .len ats [.aL w rows]=bnd ats[0]? fun t=>grd (AF P t=true) (bnd (s.rows (.aL w rows)) fun rows=>some (.v (.int .i64 rows.length))):=id rfl
@[simp] theorem ax5 (w:Option Nat):nE s (.aL w rows)=bnd (s.rows (.aL w rows)) fun rows=>grd (dU rows=true) (some rows):=id rfl
@[simp] theorem ax6:C9 P s .len ats [.fz rows]=bnd ats[0]? fun t=>grd (AF P t=true) (bnd (s.rows (.fz rows)) fun rows=>some (.v (.int .i64 rows.length))):=id rfl
@[simp] theorem ax7:nE s (.fz rows)=bnd (s.rows (.fz rows)) fun rows=>grd (dU rows=true) (some rows):=id rfl
@[simp] theorem ax8:C9 P s .len ats [.own p]=bnd ats[0]? fun t=>grd (AF P t=true) (bnd (s.rows (.own p)) fun rows=>some (.v (.int .i64 rows.length))):=id rfl
@[simp] theorem ax9:nE s (.own p)=bnd (s.rows (.own p)) fun rows=>grd (dU rows=true) (some rows):=id rfl
@[simp] theorem aya:C9 P s .len ats [.inn p n m q]=bnd ats[0]? fun t=>grd (AF P t=true) (bnd (s.rows (.inn p n m q)) fun rows=>some (.v (.int .i64 rows.length))):=id rfl
@[simp] theorem ayb:nE s (.inn p n m q)=bnd (s.rows (.inn p n m q)) fun rows=>grd (dU rows=true) (some rows):=id rfl
@[simp] theorem ayc (u:ByteArray):nE s (.v (.string u))=some (u.toList.map fun c=> [.a (.int .u8 (c.toNat:Int))]):=id rfl
@[simp] theorem ayd (a c:Int):C9 P s .max ats [.v (.int .i64 a), .v (.int .i64 c)]=some (.v (.int .i64 (max a c))):=id rfl
@[simp] theorem aye (a c:Int):C9 P s .min ats [.v (.int .i64 a), .v (.int .i64 c)]=some (.v (.int .i64 (min a c))):=id rfl
@[simp] theorem ayf:Ic P s d n rows .nil=grd (lC P n rows.length=true∧wid (P.cellsOf n) rows=true) (some ⟨.own d,[(d,rows)],[]⟩):=id rfl
@[simp] theorem ayg:Ic P s d n rows (.own p)=bnd (look p s.tree) fun rs=>grd (rs.isEmpty=true∧lC P n rows.length=true∧wid (P.cellsOf n) rows=true) (some ⟨.own d,[(d,rows)],[]⟩):=id rfl
@[simp] theorem ayh (M:aN):FC M s d vs=bnd (wF s ⟨[],[],[]⟩ vs) fun x=>grd ((x.2.box.isEmpty&&x.2.tree.isEmpty)=true) (bnd (M x.1 [] []) fun r=>grd (r.box.isEmpty=true) (bnd (nK x.2 d r.val) fun v=>some ⟨v,vo d r.tree,[]⟩)):=id rfl
@[simp] theorem ayi:vo n []= []:=id rfl
@[simp] theorem ayj (r:List (Nat×List (List D))):vo n ((q,rows)::r)=(1000*(n+1)+q,rows)::vo n r:=id rfl
@[simp] theorem ayk:jv s []=true:=id rfl
@[simp] theorem ayl (r:List (Nat×List (List D)))(e:List (Nat×V))(b:List (Nat×List V))(t f:List (Nat×List (List D))):jv ⟨e,b,t,f⟩ ((q,rows)::r)=(fresh ⟨e,b,t,f⟩ q&&decide (q<1000000000)&&jv ⟨e,b,(q,rows)::t,f⟩ r):=id rfl
@[simp] theorem aym:kF s []=true:=id rfl
@[simp] theorem ayn (r:List (Nat×List V))(e:List (Nat×V))(b:List (Nat×List V))(t f:List (Nat×List (List D))):kF ⟨e,b,t,f⟩ ((q,vs)::r)=((look q b).isNone&&kF ⟨e,(q,vs)::b,t,f⟩ r):=id rfl
@[simp] theorem ayo (tt:List (Nat×List (List D)))(bb:List (Nat×List V))(e:List (Nat×V))(b:List (Nat×List V))(t f:List (Nat×List (List D))):S.app ⟨e,b,t,f⟩ (some d) ⟨x,tt,bb⟩=⟨put d x e,bb++b,tt.reverse++t,f⟩:=id rfl
@[simp] theorem ayp (w:Option Nat):sJ P G s w (.store n o o1)=bnd (s.ev o) fun p=>bnd (s.ev o1) fun v=>grd (fq P n=true∧v.cells.length=P.cellsOf n∧w.isNone=true) (Ev s v p):=id rfl
@[simp] theorem ayq (w:Option Nat)(c:Call):sJ P G s w (.call c)=bnd (bK s.ev c.args.toList) fun args=>yS P G s w c.argTypes args c.callee:=id rfl
@[simp] theorem ayr (w:Option Nat):yS P G s w ats vs (.value o)=bnd (s.ev o) fun f=>bnd (Xn f) fun f=>bnd (look f.1 G) fun M=>grd (M.1=false) (P7 M.2 s (w.getD 0) (vs++f.2)):=id rfl
@[simp] theorem ays (w:Option Nat)(z:Builtin):yS P G s w ats vs (.builtin z)=RI P s w z ats vs:=id rfl
@[simp] theorem ayt (w:Option Nat):RI P s w .append ats [x,y]=bnd ats[0]? fun t=>bnd ats[1]? fun t1=>grd (Eu P t1=true) (bnd (P.underlying t) fun ds=>bnd (iW ds) fun e=>bnd (nE s y) fun new=>yR P s w e new x):=id rfl
@[simp] theorem ayu (w:Option Nat):yR P s w n rows .nil=grd (lC P n rows.length=true∧wid (P.cellsOf n) rows=true) (bnd w fun t=>grd (fresh s t=true) (some ⟨.own t,s.box,(t,rows)::s.tree,[],[]⟩)):=id rfl
@[simp] theorem ayv (w:Option Nat):yR P s w n rows (.own p)=bnd (look p s.tree) fun rs=>grd (lC P n (rs.length+rows.length)=true∧wid (P.cellsOf n) rs=true∧wid (P.cellsOf n) rows=true) (bnd w fun t=>grd (fresh s t=true) (some ⟨.own t,oH p s.box,(t,rs++rows)::drop1 p s.tree,[p],[]⟩)):=id rfl
@[simp] theorem ayw (z:Builtin)(ar:Array Operand)(at_:Array TypeId):isApp (.call ⟨.builtin z,ar,at_⟩)=true:=id rfl
@[simp] theorem ayx (ar:Array Operand)(at_:Array TypeId):isApp (.call ⟨.value o,ar,at_⟩)=false:=id rfl
@[simp] theorem ayy:isApp (.store n o o1)=false:=id rfl
@[simp] theorem ayz (ps:Array (Nat×Operand)):isApp (.buildSlice n m ps)=false:=id rfl
@[simp] theorem ayA:Ew [] x=true:=id rfl
@[simp] theorem ayB (ks:List Nat):Ew (p::ks) x=(!aP p x&&Ew ks x):=id rfl
@[simp] theorem ayC (ks:List Nat):lX ks s (.tmp n)=match look n s.env with|some v=>Ew ks v|none=>true:=id rfl
@[simp] theorem ayD (ks:List Nat)(z:Value):lX ks s (.const z)=true:=id rfl
@[simp] theorem ayE (ks:List Nat)(z:FuncId):lX ks s (.func z)=true:=id rfl
@[simp] theorem ayF (ks:List Nat):fA ks s (.alloc n)=true:=by simp [fA,Op.operands,Call.operands]
@[simp] theorem ayG (ks:List Nat):fA ks s (.move o)=lX ks s o:=by simp [fA,Op.operands,Call.operands]
@[simp] theorem ayH (ks:List Nat):fA ks s (.assign o)=lX ks s o:=by simp [fA,Op.operands,Call.operands]
@[simp] theorem ayI (ks:List Nat):fA ks s (.box n o)=lX ks s o:=by simp [fA,Op.operands,Call.operands]
@[simp] theorem ayJ (ks:List Nat):fA ks s (.load n o)=lX ks s o:=by simp [fA,Op.operands,Call.operands]
@[simp] theorem ayK (ks:List Nat):fA ks s (.nilCheck o)=lX ks s o:=by simp [fA,Op.operands,Call.operands]
@[simp] theorem ayL (ks:List Nat):fA ks s (.fieldAddr n o m)=lX ks s o:=by simp [fA,Op.operands,Call.operands]
@[simp] theorem ayM (ks:List Nat):fA ks s (.field n o m)=lX ks s o:=by simp [fA,Op.operands,Call.operands]
@[simp] theorem ayN (ks:List Nat):fA ks s (.extract o n)=lX ks s o:=by simp [fA,Op.operands,Call.operands]
@[simp] theorem ayO (ks:List Nat)(z:UnOp):fA ks s (.unOp z n o)=lX ks s o:=by simp [fA,Op.operands,Call.operands]
@[simp] theorem ayP (ks:List Nat)(o2:Operand):fA ks s (.pick o o1 o2)=(lX ks s o&&(lX ks s o1&&lX ks s o2)):=by simp [fA,Op.operands,Call.operands]
@[simp] theorem ayQ (ks:List Nat)(z:BinOp):fA ks s (.binOp z n o o1 m)=(lX ks s o&&lX ks s o1):=by simp [fA,Op.operands,Call.operands]
@[simp] theorem ayR (ks:List Nat):fA ks s (.indexAddr n o o1)=(lX ks s o&&lX ks s o1):=by simp [fA,Op.operands,Call.operands]
@[simp] theorem ayS (ks:List Nat):fA ks s (.index n o o1)=(lX ks s o&&lX ks s o1):=by simp [fA,Op.operands,Call.operands]
@[simp] theorem ayT (ks:List Nat):fA ks s (.slice n o none none none)=lX ks s o:=by simp [fA,Op.operands,Call.operands]
@[simp] theorem ayU (ks:List Nat):fA ks s (.slice n o (some o1) none none)=(lX ks s o&&lX ks s o1):=by simp [fA,Op.operands,Call.operands]
@[simp] theorem ayV (ks:List Nat):fA ks s (.slice n o none (some o1) none)=(lX ks s o&&lX ks s o1):=by simp [fA,Op.operands,Call.operands]
@[simp] theorem ayW (ks:List Nat)(o2:Operand):fA ks s (.slice n o (some o1) (some o2) none)=(lX ks s o&&(lX ks s o1&&lX ks s o2)):=by simp [fA,Op.operands,Call.operands]
@[simp] theorem ayX (ks:List Nat)(ps:Array (Nat×Operand)):fA ks s (.buildSlice n m ps)=(ps.toList.all fun x=>lX ks s x.2):=by simp [fA,Op.operands,List.all_map,Function.comp_def]
@[simp] theorem ayY (ks:List Nat)(ps:Array (Nat×Operand)):fA ks s (.build n ps)=(ps.toList.all fun x=>lX ks s x.2):=by simp [fA,Op.operands,List.all_map,Function.comp_def]
@[simp] theorem ayZ (ks:List Nat)(z:Builtin)(ar:Array Operand)(at_:Array TypeId):fA ks s (.call ⟨.builtin z,ar,at_⟩)=(ar.toList.all fun x=>lX ks s x):=by simp [fA,Op.operands,Call.operands]
@[simp] theorem ay0 (ks:List Nat)(ar:Array Operand)(at_:Array TypeId):fA ks s (.call ⟨.value o,ar,at_⟩)=(lX ks s o&&ar.toList.all fun x=>lX ks s x):=by simp [fA,Op.operands,Call.operands]
@[simp] theorem ay1 (ks:List Nat)(os:Array Oper):D8 os s ks []=some ():=id rfl
@[simp] theorem ay2 (ks:List Nat)(os:Array Oper)(l:List Nat):D8 os s ks (n::l)=bnd os[n]? fun o=>bnd o.dst fun d=>bnd (look d s.env) fun v=>grd ((Ew ks v&&fA ks s o.op)=true) (D8 os s ks l):=id rfl
@[simp] theorem ay3:Ev s x (.ref n m)=bnd (look n s.box) fun cs=>grd (m+x.cells.length≤cs.length∧x.cells.all V.one=true) (some ⟨.fU [],upd n (setAt cs m x.cells) s.box,s.tree,[],[]⟩):=id rfl
@[simp] theorem ay4 (M:aN):P7 M s d vs=bnd (wF s ⟨[],[],[]⟩ vs) fun x=>bnd (mP s x.2 x.2.box) fun y=>grd ((y.2.tree.isEmpty&&OA y.2 y.1.length)=true) (bnd (M x.1 y.1 []) fun r=>bnd (iX y.2 d y.2.box r.box s) fun s=>bnd (jQ y.2 d r.tree s) fun s=>bnd (nK y.2 d r.val) fun v=>some ⟨v,s.box,s.tree,[],[]⟩):=id rfl
@[simp] theorem ay5 (l li:List Nat)(tt:List (Nat×List (List D)))(bb:List (Nat×List V))(e:List (Nat×V))(b:List (Nat×List V))(t f:List (Nat×List (List D))):S.iG ⟨e,b,t,f⟩ none ⟨x,bb,tt,l,li⟩=⟨Ho li (qB l e),bb,tt,f⟩:=id rfl
@[simp] theorem ay6 (l li:List Nat)(tt:List (Nat×List (List D)))(bb:List (Nat×List V))(e:List (Nat×V))(b:List (Nat×List V))(t f:List (Nat×List (List D))):S.iG ⟨e,b,t,f⟩ (some d) ⟨x,bb,tt,l,li⟩=⟨put d x (Ho li (qB l e)),bb,tt,f⟩:=id rfl
@[simp] theorem ay7 (s0:S)(os:Array Oper):oK P os s0 s []=some ():=id rfl
@[simp] theorem ay8 (s0:S)(os:Array Oper)(l:List Nat):oK P os s0 s (n::l)=bnd os[n]? fun o=>bnd o.dst fun d=>bnd (look d s.env) fun v=>bnd (jl P s o.op) fun u=>Cm u v (bnd (look d s0.env) fun v0=>Cm v0 v (oK P os s0 s l)):=id rfl
@[simp] theorem ay9 (e:List (Nat×V)):qB [] e=e:=id rfl
@[simp] theorem aza (e:List (Nat×V)):Ho [] e=e:=id rfl
@[simp] theorem azb (l:List Nat)(e:List (Nat×V)):Ho (n::l) e=Ho l (QV n e):=id rfl
@[simp] theorem azc (l:List Nat)(e:List (Nat×V)):qB (n::l) e=qB l (AX n e):=id rfl
@[simp] theorem azd:MO []= []:=id rfl
@[simp] theorem aze (l:List V):MO (x::l)=owns x.cells++MO l:=id rfl
@[simp] theorem azf:owns []= []:=id rfl
@[simp] theorem azg (l:List V):owns (.own p::l)=p::owns l:=id rfl
@[simp] theorem azh (l:List V)  :owns (.nil::l)=owns l:=id rfl
@[simp] theorem azi (l:List V)(w:Option Nat):owns (.aL w rows::l)=owns l:=id rfl
@[simp] theorem azj (l:List V)  :owns (.fz rows::l)=owns l:=id rfl
@[simp] theorem azk (l:List V)(z:Value):owns (.v z::l)=owns l:=id rfl
@[simp] theorem azl (l:List V)  :owns (.ref n m::l)=owns l:=id rfl
@[simp] theorem azm (l:List V)  :owns (.inn p n m q::l)=owns l:=id rfl
@[simp] theorem azn (l:List V)  :owns (.agg vs::l)=owns l:=id rfl
@[simp] theorem azo (l:List V)  :owns (.fU vs::l)=owns l:=id rfl
@[simp] theorem azp (w:Option Nat):Rm w vs (rows,s)=bnd w fun t=>grd (fresh s t=true) (some ⟨.own t,s.box,(t,rows)::s.tree,MO vs,[]⟩):=id rfl
@[simp] theorem azq (w:Option Nat)(ps:Array (Nat×Operand)):sJ P G s w (.buildSlice n m ps)=bnd (P.underlying n) fun dd=>bnd (iW dd) fun e=>bnd (bK (o9 s) ps.toList) fun vs=>grd ((iF P e&&decide (m*P.cellsOf e≤16777216)&&upto 0 m (vs.map (·.1))&&vs.all fun v=>decide (v.2.cells.length=P.cellsOf e)&&v.2.cells.all V.one)=true) (bnd (kC s (vs.map (·.2))) fun x=>Rm w (vs.map (·.2)) x):=id rfl
@[simp] theorem azr (first:Array Operand):fnV vs first (.func n)=grd (first.isEmpty=true) (some (.fn n vs)):=id rfl
@[simp] theorem azs (dst:Option Nat)(z:Fn)(first ps:Array Operand):iR P G s dst (.makeFunc z first ps)=bnd (bK s.ev ps.toList) fun vs=>bnd (fnV vs first z) fun v=>some (s.put dst v):=id rfl
@[simp] theorem azt (z:Fn)(first ps:Array Operand):jl P s (.makeFunc z first ps)=bnd (bK s.ev ps.toList) fun vs=>fnV vs first z:=id rfl
@[simp] theorem azu:jl P s (.move o)=s.ev o:=id rfl
@[simp] theorem azv:jl P s (.assign o)=s.ev o:=id rfl
@[simp] theorem azw:jl P s (.load n o)=bnd (s.ev o) fun p=>s.load P n p:=id rfl
@[simp] theorem azx:jl P s (.nilCheck o)=bnd (s.ev o) fun v=>P5 v:=id rfl
@[simp] theorem azy:jl P s (.fieldAddr n o m)=bnd (s.ev o) fun x=>bnd (bZ P n m) fun f=>yO x f.1:=id rfl
@[simp] theorem azz:jl P s (.extract o n)=bnd (s.ev o) fun x=>RF n x:=id rfl
@[simp] theorem azA (z:BinOp):jl P s (.binOp z n o o1 m)=bnd (s.ev o) fun x=>bnd (s.ev o1) fun y=>bin P n z x y:=id rfl
@[simp] theorem azB (z:UnOp):jl P s (.unOp z n o)=bnd (s.ev o) fun x=>un z x:=id rfl
@[simp] theorem azC:jl P s (.field n o m)=bnd (s.ev o) fun x=>bnd (VG x) fun cs=>bnd (bZ P n m) fun f=>bnd (o8 P f.2) fun g=>span cs f.1 (P.cellsOf f.2) g:=id rfl
@[simp] theorem azD:jl P s (.indexAddr n o o1)=bnd (s.ev o) fun x=>bnd (s.ev o1) fun i=>bnd (idxOf i) fun i=>bnd (lZ P n) fun e=>lI P s x i e.1 e.2:=id rfl
@[simp] theorem azE:jl P s (.index n o o1)=bnd (s.ev o) fun x=>bnd (s.ev o1) fun i=>bnd (idxOf i) fun i=>H7 P n x i:=id rfl
@[simp] theorem azF (dst:Option Nat):iR P G s dst (.lookup n o o1 true)=bnd (s.ev o) fun m=>bnd (s.ev o1) fun k=>bnd (afk m) fun es=>bnd (VH k) fun a=>bnd (QW P n) fun z=>some (s.put dst (OC z (rX a es))):=id rfl
@[simp] theorem azG (em:List (Int×Int)):afk (.mp em)=some em:=id rfl
@[simp] theorem azH (a:Int):VH (.v (.int .i64 a))=some a:=id rfl
@[simp] theorem azI (a:Int):rX a []=none:=id rfl
@[simp] theorem azJ (a b z:Int)(em:List (Int×Int)):rX a ((b,z)::em)=if a=b then some z else rX a em:=id rfl
@[simp] theorem azK (z a:Int):OC z (some a)= .fU [.v (.int .i64 a), .v (.bool true)]:=id rfl
@[simp] theorem azL (z:Int):OC z none= .fU [.v (.int .i64 z), .v (.bool false)]:=id rfl
@[simp] theorem azM:D7 []=true:=id rfl
@[simp] theorem azN (a z:Int)(em:List (Int×Int)):D7 ((a,z)::em)=((rX a em).isNone&&D7 em):=id rfl
@[simp] theorem azO (tt:TypeId)(pp:String)(af:Array Edge)(r:List Oper):RH (⟨some d, .makeMap n none,tt,pp,af,none⟩::r)=some (n,d,(pq n d r []).1,(pq n d r []).2):=id rfl
@[simp] theorem azP (em:List (Int×Int)):pq n d [] em=(em,[]):=id rfl
@[simp] theorem azQ (a z:Int)(em:List (Int×Int))(tt:TypeId)(pp:String)(af:Array Edge)(r:List Oper):pq n d (⟨none, .insert m (.tmp p) (.const (.int .i64 a)) (.const (.int .i64 z)),tt,pp,af,none⟩::r) em=if m=n∧p=d then pq n d r (em++ [(a,z)])else(em,⟨none, .insert m (.tmp p) (.const (.int .i64 a)) (.const (.int .i64 z)),tt,pp,af,none⟩::r):=by simp only [pq,P6];split<;>rfl
@[simp] theorem azR (op:Op)(gu:Option (Nat×Bool))(em:List (Int×Int))(tt:TypeId)(pp:String)(af:Array Edge)(r:List Oper):pq n d (⟨some p,op,tt,pp,af,gu⟩::r) em=(em,⟨some p,op,tt,pp,af,gu⟩::r):=by simp only [pq,P6];rfl
@[simp] theorem azS (e:List (Nat×V))(b:List (Nat×List V))(t f:List (Nat×List (List D)))(em:List (Int×Int)):S.Rl ⟨e,b,t,f⟩ d em=⟨put d (.mp em) e,b,t,(d,[])::f⟩:=id rfl
@[simp] theorem azT (z:BinOp):bin P n z (.agg vs) (.agg ws)=bnd (eqT P n) fun m=>grd (vs.length=m) (bnd (D5 vs ws) fun g=>ahg g z):=id rfl
@[simp] theorem azU (g:Bool):ahg g .eql=some (.v (.bool g)):=id rfl
@[simp] theorem azV (g:Bool):ahg g .neq=some (.v (.bool !g)):=id rfl
@[simp] theorem azW:D5 [] []=some true:=id rfl
@[simp] theorem azX (a b:Int):D5 (.v (.int .i64 a)::vs) (.v (.int .i64 b)::ws)=bnd (D5 vs ws) fun g=>some (a==b&&g):=id rfl
@[simp] theorem azY (c:Call):jl P s (.call c)=bnd (bK s.ev c.args.toList) fun vs=>MN vs c.callee:=id rfl
@[simp] theorem azZ (z:Builtin):MN vs (.builtin z)=ML z vs:=id rfl
@[simp] theorem az0 (a b:Int):ML .max [.v (.int .i64 a), .v (.int .i64 b)]=some (.v (.int .i64 (max a b))):=id rfl
@[simp] theorem az1 (a b:Int):ML .min [.v (.int .i64 a), .v (.int .i64 b)]=some (.v (.int .i64 (min a b))):=id rfl
@[simp] theorem az2 (w:Option Nat):yR P s w n rows (.inn p m q kk)=bnd (s.rows (.inn p m q kk)) fun rs0=>grd (lC P n (rs0.length+rows.length)=true∧wid (P.cellsOf n) rs0=true∧wid (P.cellsOf n) rows=true) (bnd (look p s.tree) fun rs=>bnd rs[m]? fun r=>grd (¬(1000000000≤p∧p<2000000000)) (bnd w fun t=>grd (fresh s t=true) (some ⟨.own t,H8 p s.box,(t,rs0++rows)::upd p (rs.set m (r.set q .gone)) s.tree,[],[p]⟩))):=id rfl
@[simp] theorem az3 (os:Array Oper)(w:Option Nat)(l ks:List Nat)(b:List (Nat×List V))(tt:List (Nat×List (List D))):OE P os s w l ⟨x,b,tt,ks,[]⟩=Cm b s.box (bnd (D8 os s ks l) fun _=>some (s.iG w ⟨x,b,tt,ks,[]⟩)):=id rfl
@[simp] theorem az4 (os:Array Oper)(w:Option Nat)(l ks r:List Nat)(b:List (Nat×List V))(tt:List (Nat×List (List D))):OE P os s w l ⟨x,b,tt,ks,n::r⟩=grd (LK os l=true) (bnd (oK P os s (s.iG w ⟨x,b,tt,ks,n::r⟩) l) fun _=>some (s.iG w ⟨x,b,tt,ks,n::r⟩)):=id rfl
@[simp] theorem az5 (os:Array Oper):LK os []=true:=id rfl
@[simp] theorem az6 (os:Array Oper)(l:List Nat):LK os (n::l)=(ahl os[n]?&&LK os l):=id rfl
@[simp] theorem az7 (w:Option Nat)(op:Op)(tt:TypeId)(pp:String)(af:Array Edge)(gu:Option (Nat×Bool)):ahl (some ⟨w,op,tt,pp,af,gu⟩)=isVal op:=id rfl
@[simp] theorem az8:isVal (.move o)=true:=id rfl
@[simp] theorem az9:isVal (.load n o)=true:=id rfl
@[simp] theorem aAa:isVal (.fieldAddr n o m)=true:=id rfl
@[simp] theorem aAb:isVal (.indexAddr n o o1)=true:=id rfl
@[simp] theorem aAc:isVal (.extract o n)=true:=id rfl
@[simp] theorem aAd:isVal (.field n o m)=true:=id rfl
@[simp] theorem aAe:isVal (.index n o o1)=true:=id rfl
@[simp] theorem aAf (z:BinOp):isVal (.binOp z n o o1 m)=true:=id rfl
@[simp] theorem aAg (z:UnOp):isVal (.unOp z n o)=true:=id rfl
@[simp] theorem aAh:Ev s x (.pe (.own q) kk p m)=BI s q kk p m x.atom:=id rfl
@[simp] theorem aAi:BI s q kk p m none=none:=id rfl
@[simp] theorem aAj (d1:D):BI s q kk p m (some d1)=bnd (look q s.tree) fun rs=>bnd rs[p]? fun r=>bnd r[m]? fun d0=>grd (r.length=kk∧tq d0=true∧yI d1=true) (some ⟨.fU [],s.box,upd q (rs.set p (r.set m d1)) s.tree,[],[]⟩):=id rfl
end
@[simp] theorem ts3:fq prog 3=true:=aV (by kernel_rfl)
@[simp] theorem to3:iF prog 3=true:=aV (by kernel_rfl)
@[simp] theorem tc3:prog.cellsOf 3=1:=aV (by kernel_rfl)
@[simp] theorem tb3:prog.bytesOf 3=8:=aV (by kernel_rfl)
@[simp] theorem ta3:o8 prog 3=some false:=aV (by kernel_rfl)
@[simp] theorem tz3:jN prog 3=some [.v (.int .i64 0)]:=aV (by kernel_rfl)
@[simp] theorem ts4:fq prog 4=true:=aV (by kernel_rfl)
@[simp] theorem to4:iF prog 4=true:=aV (by kernel_rfl)
@[simp] theorem tc4:prog.cellsOf 4=1:=aV (by kernel_rfl)
@[simp] theorem tb4:prog.bytesOf 4=1:=aV (by kernel_rfl)
@[simp] theorem ta4:o8 prog 4=some false:=aV (by kernel_rfl)
@[simp] theorem tz4:jN prog 4=some [.v (.bool false)]:=aV (by kernel_rfl)
@[simp] theorem ts5:fq prog 5=true:=aV (by kernel_rfl)
@[simp] theorem to5:iF prog 5=true:=aV (by kernel_rfl)
@[simp] theorem tc5:prog.cellsOf 5=1:=aV (by kernel_rfl)
@[simp] theorem tb5:prog.bytesOf 5=1:=aV (by kernel_rfl)
@[simp] theorem ta5:o8 prog 5=some false:=aV (by kernel_rfl)
@[simp] theorem tz5:jN prog 5=some [.v (.int .u8 0)]:=aV (by kernel_rfl)
@[simp] theorem ts9:fq prog 9=true:=aV (by kernel_rfl)
@[simp] theorem to9:iF prog 9=true:=aV (by kernel_rfl)
@[simp] theorem tc9:prog.cellsOf 9=1:=aV (by kernel_rfl)
@[simp] theorem tb9:prog.bytesOf 9=16:=aV (by kernel_rfl)
@[simp] theorem ta9:o8 prog 9=some false:=aV (by kernel_rfl)
@[simp] theorem tz9:jN prog 9=some [.v (.string ⟨#[]⟩)]:=aV (by kernel_rfl)
@[simp] theorem tw9:Eu prog 9=true:=aV (by kernel_rfl)
@[simp] theorem tx9:ab7 prog 9=true:=aV (by kernel_rfl)
@[simp] theorem aAk:fq prog 22=true:=aV (by kernel_rfl)
@[simp] theorem aAl:iF prog 22=true:=aV (by kernel_rfl)
@[simp] theorem aAm:prog.cellsOf 22=1:=aV (by kernel_rfl)
@[simp] theorem aAn:prog.bytesOf 22=24:=aV (by kernel_rfl)
@[simp] theorem aAo:o8 prog 22=some false:=aV (by kernel_rfl)
@[simp] theorem aAp:jN prog 22=some [.nil]:=aV (by kernel_rfl)
@[simp] theorem aAq:lZ prog 22=some (5,none):=aV (by kernel_rfl)
@[simp] theorem aAr:Eu prog 22=true:=aV (by kernel_rfl)
@[simp] theorem aAs:AF prog 22=true:=aV (by kernel_rfl)
@[simp] theorem aAt:fq prog 23=true:=aV (by kernel_rfl)
@[simp] theorem aAu:iF prog 23=true:=aV (by kernel_rfl)
@[simp] theorem aAv:prog.cellsOf 23=1:=aV (by kernel_rfl)
@[simp] theorem aAw:prog.bytesOf 23=24:=aV (by kernel_rfl)
@[simp] theorem aAx:o8 prog 23=some false:=aV (by kernel_rfl)
@[simp] theorem aAy:jN prog 23=some [.nil]:=aV (by kernel_rfl)
@[simp] theorem aAz:lZ prog 23=some (3,none):=aV (by kernel_rfl)
@[simp] theorem aAA:Eu prog 23=true:=aV (by kernel_rfl)
@[simp] theorem aAB:AF prog 23=true:=aV (by kernel_rfl)
@[simp] theorem aAC:fq prog 25=true:=aV (by kernel_rfl)
@[simp] theorem aAD:iF prog 25=true:=aV (by kernel_rfl)
@[simp] theorem aAE:prog.cellsOf 25=2:=aV (by kernel_rfl)
@[simp] theorem aAF:prog.bytesOf 25=32:=aV (by kernel_rfl)
@[simp] theorem aAG:o8 prog 25=some true:=aV (by kernel_rfl)
@[simp] theorem aAH:jN prog 25=some [.nil, .v (.int .i64 0)]:=aV (by kernel_rfl)
@[simp] theorem aAI:jr prog 25=true:=aV (by kernel_rfl)
@[simp] theorem anh:bZ prog 25 0=some (0,23):=aV (by kernel_rfl)
@[simp] theorem ani:bZ prog 25 1=some (1,3):=aV (by kernel_rfl)
@[simp] theorem aAJ:fq prog 26=true:=aV (by kernel_rfl)
@[simp] theorem aAK:iF prog 26=true:=aV (by kernel_rfl)
@[simp] theorem aAL:prog.cellsOf 26=1:=aV (by kernel_rfl)
@[simp] theorem aAM:prog.bytesOf 26=24:=aV (by kernel_rfl)
@[simp] theorem aAN:o8 prog 26=some false:=aV (by kernel_rfl)
@[simp] theorem aAO:jN prog 26=some [.nil]:=aV (by kernel_rfl)
@[simp] theorem aAP:lZ prog 26=some (142,none):=aV (by kernel_rfl)
@[simp] theorem aAQ:Eu prog 26=true:=aV (by kernel_rfl)
@[simp] theorem aAR:AF prog 26=true:=aV (by kernel_rfl)
@[simp] theorem aAS:fq prog 28=true:=aV (by kernel_rfl)
@[simp] theorem aAT:iF prog 28=true:=aV (by kernel_rfl)
@[simp] theorem aAU:prog.cellsOf 28=1:=aV (by kernel_rfl)
@[simp] theorem aAV:prog.bytesOf 28=24:=aV (by kernel_rfl)
@[simp] theorem aAW:o8 prog 28=some true:=aV (by kernel_rfl)
@[simp] theorem aAX:jN prog 28=some [.nil]:=aV (by kernel_rfl)
@[simp] theorem aAY:jr prog 28=true:=aV (by kernel_rfl)
@[simp] theorem anj:bZ prog 28 0=some (0,26):=aV (by kernel_rfl)
@[simp] theorem aAZ:fq prog 29=true:=aV (by kernel_rfl)
@[simp] theorem aA0:iF prog 29=true:=aV (by kernel_rfl)
@[simp] theorem aA1:prog.cellsOf 29=1:=aV (by kernel_rfl)
@[simp] theorem aA2:prog.bytesOf 29=24:=aV (by kernel_rfl)
@[simp] theorem aA3:o8 prog 29=some false:=aV (by kernel_rfl)
@[simp] theorem aA4:jN prog 29=some [.nil]:=aV (by kernel_rfl)
@[simp] theorem aA5:lZ prog 29=some (25,none):=aV (by kernel_rfl)
@[simp] theorem aA6:Eu prog 29=true:=aV (by kernel_rfl)
@[simp] theorem aA7:AF prog 29=true:=aV (by kernel_rfl)
@[simp] theorem aA8:fq prog 31=true:=aV (by kernel_rfl)
@[simp] theorem aA9:iF prog 31=true:=aV (by kernel_rfl)
@[simp] theorem aBa:prog.cellsOf 31=1:=aV (by kernel_rfl)
@[simp] theorem aBb:prog.bytesOf 31=24:=aV (by kernel_rfl)
@[simp] theorem aBd:o8 prog 31=some true:=aV (by kernel_rfl)
@[simp] theorem aBe:jN prog 31=some [.nil]:=aV (by kernel_rfl)
@[simp] theorem aBf:jr prog 31=true:=aV (by kernel_rfl)
@[simp] theorem ank:bZ prog 31 0=some (0,29):=aV (by kernel_rfl)
@[simp] theorem aBg:fq prog 33=true:=aV (by kernel_rfl)
@[simp] theorem aBh:iF prog 33=true:=aV (by kernel_rfl)
@[simp] theorem aBi:prog.cellsOf 33=20:=aV (by kernel_rfl)
@[simp] theorem aBj:prog.bytesOf 33=256:=aV (by kernel_rfl)
@[simp] theorem aBk:o8 prog 33=some true:=aV (by kernel_rfl)
@[simp] theorem aBl:jN prog 33=some [.v (.bool false), .v (.int .i64 0), .nil, .v (.int .i64 0), .v (.int .i64 0), .v (.int .i64 0), .v (.int .i64 0), .v (.int .i64 0), .v (.int .i64 0), .v (.int .i64 0), .v (.int .i64 0), .nil, .nil, .v (.int .i64 0), .nil, .v (.int .i64 0), .nil, .v (.int .i64 0), .nil, .v (.int .i64 0)]:=aV (by kernel_rfl)
@[simp] theorem aBm:jr prog 33=true:=aV (by kernel_rfl)
@[simp] theorem anl:bZ prog 33 0=some (0,4):=aV (by kernel_rfl)
@[simp] theorem anm:bZ prog 33 1=some (1,3):=aV (by kernel_rfl)
@[simp] theorem ano:bZ prog 33 2=some (2,25):=aV (by kernel_rfl)
@[simp] theorem anp:bZ prog 33 3=some (4,3):=aV (by kernel_rfl)
@[simp] theorem anq:bZ prog 33 4=some (5,3):=aV (by kernel_rfl)
@[simp] theorem anr:bZ prog 33 5=some (6,3):=aV (by kernel_rfl)
@[simp] theorem ant:bZ prog 33 6=some (7,3):=aV (by kernel_rfl)
@[simp] theorem anu:bZ prog 33 7=some (8,3):=aV (by kernel_rfl)
@[simp] theorem anv:bZ prog 33 8=some (9,3):=aV (by kernel_rfl)
@[simp] theorem anw:bZ prog 33 9=some (10,3):=aV (by kernel_rfl)
@[simp] theorem amU:bZ prog 33 10=some (11,28):=aV (by kernel_rfl)
@[simp] theorem amV:bZ prog 33 11=some (12,31):=aV (by kernel_rfl)
@[simp] theorem amW:bZ prog 33 12=some (13,3):=aV (by kernel_rfl)
@[simp] theorem amX:bZ prog 33 13=some (14,25):=aV (by kernel_rfl)
@[simp] theorem amY:bZ prog 33 14=some (16,23):=aV (by kernel_rfl)
@[simp] theorem amZ:bZ prog 33 15=some (17,3):=aV (by kernel_rfl)
@[simp] theorem am0:bZ prog 33 16=some (18,25):=aV (by kernel_rfl)
@[simp] theorem aBn:fq prog 34=true:=aV (by kernel_rfl)
@[simp] theorem aBo:iF prog 34=true:=aV (by kernel_rfl)
@[simp] theorem aBp:prog.cellsOf 34=1:=aV (by kernel_rfl)
@[simp] theorem aBq:prog.bytesOf 34=24:=aV (by kernel_rfl)
@[simp] theorem aBr:o8 prog 34=some false:=aV (by kernel_rfl)
@[simp] theorem aBs:jN prog 34=some [.nil]:=aV (by kernel_rfl)
@[simp] theorem aBt:lZ prog 34=some (9,none):=aV (by kernel_rfl)
@[simp] theorem aBu:Eu prog 34=true:=aV (by kernel_rfl)
@[simp] theorem aBv:AF prog 34=true:=aV (by kernel_rfl)
@[simp] theorem aBw:fq prog 36=true:=aV (by kernel_rfl)
@[simp] theorem aBx:iF prog 36=true:=aV (by kernel_rfl)
@[simp] theorem aBy:prog.cellsOf 36=2:=aV (by kernel_rfl)
@[simp] theorem aBz:prog.bytesOf 36=32:=aV (by kernel_rfl)
@[simp] theorem aBA:o8 prog 36=some true:=aV (by kernel_rfl)
@[simp] theorem aBB:jN prog 36=some [.v (.int .i64 0), .nil]:=aV (by kernel_rfl)
@[simp] theorem aBC:jr prog 36=true:=aV (by kernel_rfl)
@[simp] theorem anx:bZ prog 36 0=some (0,3):=aV (by kernel_rfl)
@[simp] theorem anz:bZ prog 36 1=some (1,34):=aV (by kernel_rfl)
@[simp] theorem aBD:fq prog 38=true:=aV (by kernel_rfl)
@[simp] theorem aBE:iF prog 38=true:=aV (by kernel_rfl)
@[simp] theorem aBF:prog.cellsOf 38=2:=aV (by kernel_rfl)
@[simp] theorem aBG:prog.bytesOf 38=16:=aV (by kernel_rfl)
@[simp] theorem aBH:o8 prog 38=some true:=aV (by kernel_rfl)
@[simp] theorem aBI:jN prog 38=some [.v (.int .i64 0), .v (.int .i64 0)]:=aV (by kernel_rfl)
@[simp] theorem aBJ:eqT prog 38=some 2:=aV (by kernel_rfl)
@[simp] theorem aBK:jr prog 38=true:=aV (by kernel_rfl)
@[simp] theorem anA:bZ prog 38 0=some (0,3):=aV (by kernel_rfl)
@[simp] theorem anB:bZ prog 38 1=some (1,3):=aV (by kernel_rfl)
@[simp] theorem aBL:fq prog 45=true:=aV (by kernel_rfl)
@[simp] theorem aBM:iF prog 45=true:=aV (by kernel_rfl)
@[simp] theorem aBN:prog.cellsOf 45=2:=aV (by kernel_rfl)
@[simp] theorem aBO:prog.bytesOf 45=32:=aV (by kernel_rfl)
@[simp] theorem aBP:o8 prog 45=some true:=aV (by kernel_rfl)
@[simp] theorem aBQ:jN prog 45=some [.nil, .v (.int .i64 0)]:=aV (by kernel_rfl)
@[simp] theorem aBR:jr prog 45=true:=aV (by kernel_rfl)
@[simp] theorem anC:bZ prog 45 0=some (0,23):=aV (by kernel_rfl)
@[simp] theorem anD:bZ prog 45 1=some (1,3):=aV (by kernel_rfl)
@[simp] theorem aBS:fq prog 46=true:=aV (by kernel_rfl)
@[simp] theorem aBT:iF prog 46=true:=aV (by kernel_rfl)
@[simp] theorem aBU:prog.cellsOf 46=1:=aV (by kernel_rfl)
@[simp] theorem aBV:prog.bytesOf 46=24:=aV (by kernel_rfl)
@[simp] theorem aBW:o8 prog 46=some false:=aV (by kernel_rfl)
@[simp] theorem aBX:jN prog 46=some [.nil]:=aV (by kernel_rfl)
@[simp] theorem aBY:lZ prog 46=some (183,none):=aV (by kernel_rfl)
@[simp] theorem aBZ:Eu prog 46=true:=aV (by kernel_rfl)
@[simp] theorem aB0:AF prog 46=true:=aV (by kernel_rfl)
@[simp] theorem aB1:fq prog 48=true:=aV (by kernel_rfl)
@[simp] theorem aB2:iF prog 48=true:=aV (by kernel_rfl)
@[simp] theorem aB3:prog.cellsOf 48=1:=aV (by kernel_rfl)
@[simp] theorem aB4:prog.bytesOf 48=24:=aV (by kernel_rfl)
@[simp] theorem aB5:o8 prog 48=some true:=aV (by kernel_rfl)
@[simp] theorem aB6:jN prog 48=some [.nil]:=aV (by kernel_rfl)
@[simp] theorem aB7:jr prog 48=true:=aV (by kernel_rfl)
@[simp] theorem anE:bZ prog 48 0=some (0,46):=aV (by kernel_rfl)
@[simp] theorem aB8:fq prog 49=true:=aV (by kernel_rfl)
@[simp] theorem aB9:iF prog 49=true:=aV (by kernel_rfl)
@[simp] theorem aCa:prog.cellsOf 49=1:=aV (by kernel_rfl)
@[simp] theorem aCb:prog.bytesOf 49=24:=aV (by kernel_rfl)
@[simp] theorem aCc:o8 prog 49=some false:=aV (by kernel_rfl)
@[simp] theorem aCd:jN prog 49=some [.nil]:=aV (by kernel_rfl)
@[simp] theorem aCe:lZ prog 49=some (45,none):=aV (by kernel_rfl)
@[simp] theorem aCf:Eu prog 49=true:=aV (by kernel_rfl)
@[simp] theorem aCg:AF prog 49=true:=aV (by kernel_rfl)
@[simp] theorem aCh:fq prog 51=true:=aV (by kernel_rfl)
@[simp] theorem aCi:iF prog 51=true:=aV (by kernel_rfl)
@[simp] theorem aCj:prog.cellsOf 51=1:=aV (by kernel_rfl)
@[simp] theorem aCk:prog.bytesOf 51=24:=aV (by kernel_rfl)
@[simp] theorem aCl:o8 prog 51=some true:=aV (by kernel_rfl)
@[simp] theorem aCm:jN prog 51=some [.nil]:=aV (by kernel_rfl)
@[simp] theorem aCn:jr prog 51=true:=aV (by kernel_rfl)
@[simp] theorem anF:bZ prog 51 0=some (0,49):=aV (by kernel_rfl)
@[simp] theorem aCo:fq prog 53=true:=aV (by kernel_rfl)
@[simp] theorem aCp:iF prog 53=true:=aV (by kernel_rfl)
@[simp] theorem aCq:prog.cellsOf 53=20:=aV (by kernel_rfl)
@[simp] theorem aCr:prog.bytesOf 53=256:=aV (by kernel_rfl)
@[simp] theorem aCs:o8 prog 53=some true:=aV (by kernel_rfl)
@[simp] theorem aCt:jN prog 53=some [.v (.bool false), .v (.int .i64 0), .nil, .v (.int .i64 0), .v (.int .i64 0), .v (.int .i64 0), .v (.int .i64 0), .v (.int .i64 0), .v (.int .i64 0), .v (.int .i64 0), .v (.int .i64 0), .nil, .nil, .v (.int .i64 0), .nil, .v (.int .i64 0), .nil, .v (.int .i64 0), .nil, .v (.int .i64 0)]:=aV (by kernel_rfl)
@[simp] theorem aCu:jr prog 53=true:=aV (by kernel_rfl)
@[simp] theorem anG:bZ prog 53 0=some (0,4):=aV (by kernel_rfl)
@[simp] theorem anH:bZ prog 53 1=some (1,3):=aV (by kernel_rfl)
@[simp] theorem anI:bZ prog 53 2=some (2,45):=aV (by kernel_rfl)
@[simp] theorem anJ:bZ prog 53 3=some (4,3):=aV (by kernel_rfl)
@[simp] theorem anK:bZ prog 53 4=some (5,3):=aV (by kernel_rfl)
@[simp] theorem anL:bZ prog 53 5=some (6,3):=aV (by kernel_rfl)
@[simp] theorem anM:bZ prog 53 6=some (7,3):=aV (by kernel_rfl)
@[simp] theorem anN:bZ prog 53 7=some (8,3):=aV (by kernel_rfl)
@[simp] theorem anO:bZ prog 53 8=some (9,3):=aV (by kernel_rfl)
@[simp] theorem anP:bZ prog 53 9=some (10,3):=aV (by kernel_rfl)
@[simp] theorem am1:bZ prog 53 10=some (11,48):=aV (by kernel_rfl)
@[simp] theorem am2:bZ prog 53 11=some (12,51):=aV (by kernel_rfl)
@[simp] theorem am3:bZ prog 53 12=some (13,3):=aV (by kernel_rfl)
@[simp] theorem am4:bZ prog 53 13=some (14,45):=aV (by kernel_rfl)
@[simp] theorem am5:bZ prog 53 14=some (16,23):=aV (by kernel_rfl)
@[simp] theorem am6:bZ prog 53 15=some (17,3):=aV (by kernel_rfl)
@[simp] theorem am7:bZ prog 53 16=some (18,45):=aV (by kernel_rfl)
@[simp] theorem aCv:fq prog 54=true:=aV (by kernel_rfl)
@[simp] theorem aCw:iF prog 54=true:=aV (by kernel_rfl)
@[simp] theorem aCx:prog.cellsOf 54=2:=aV (by kernel_rfl)
@[simp] theorem aCy:prog.bytesOf 54=32:=aV (by kernel_rfl)
@[simp] theorem aCz:o8 prog 54=some true:=aV (by kernel_rfl)
@[simp] theorem aCA:jN prog 54=some [.v (.int .i64 0), .nil]:=aV (by kernel_rfl)
@[simp] theorem aCB:jr prog 54=true:=aV (by kernel_rfl)
@[simp] theorem anQ:bZ prog 54 0=some (0,3):=aV (by kernel_rfl)
@[simp] theorem anR:bZ prog 54 1=some (1,34):=aV (by kernel_rfl)
@[simp] theorem aCC:fq prog 55=true:=aV (by kernel_rfl)
@[simp] theorem aCD:iF prog 55=true:=aV (by kernel_rfl)
@[simp] theorem aCE:prog.cellsOf 55=2:=aV (by kernel_rfl)
@[simp] theorem aCF:prog.bytesOf 55=16:=aV (by kernel_rfl)
@[simp] theorem aCG:o8 prog 55=some true:=aV (by kernel_rfl)
@[simp] theorem aCH:jN prog 55=some [.v (.int .i64 0), .v (.int .i64 0)]:=aV (by kernel_rfl)
@[simp] theorem aCI:eqT prog 55=some 2:=aV (by kernel_rfl)
@[simp] theorem aCJ:jr prog 55=true:=aV (by kernel_rfl)
@[simp] theorem anS:bZ prog 55 0=some (0,3):=aV (by kernel_rfl)
@[simp] theorem anT:bZ prog 55 1=some (1,3):=aV (by kernel_rfl)
@[simp] theorem aCK:fq prog 66=true:=aV (by kernel_rfl)
@[simp] theorem aCL:iF prog 66=true:=aV (by kernel_rfl)
@[simp] theorem aCM:prog.cellsOf 66=1:=aV (by kernel_rfl)
@[simp] theorem aCN:prog.bytesOf 66=24:=aV (by kernel_rfl)
@[simp] theorem aCO:o8 prog 66=some false:=aV (by kernel_rfl)
@[simp] theorem aCP:jN prog 66=some [.nil]:=aV (by kernel_rfl)
@[simp] theorem aCQ:lZ prog 66=some (55,none):=aV (by kernel_rfl)
@[simp] theorem aCR:Eu prog 66=true:=aV (by kernel_rfl)
@[simp] theorem aCS:AF prog 66=true:=aV (by kernel_rfl)
@[simp] theorem aCT:fq prog 70=true:=aV (by kernel_rfl)
@[simp] theorem aCU:iF prog 70=true:=aV (by kernel_rfl)
@[simp] theorem aCV:prog.cellsOf 70=1:=aV (by kernel_rfl)
@[simp] theorem aCW:prog.bytesOf 70=24:=aV (by kernel_rfl)
@[simp] theorem aCX:o8 prog 70=some false:=aV (by kernel_rfl)
@[simp] theorem aCY:jN prog 70=some [.nil]:=aV (by kernel_rfl)
@[simp] theorem aCZ:lZ prog 70=some (38,none):=aV (by kernel_rfl)
@[simp] theorem aC0:Eu prog 70=true:=aV (by kernel_rfl)
@[simp] theorem aC1:AF prog 70=true:=aV (by kernel_rfl)
@[simp] theorem aoF:fq prog 108=true:=aV (by kernel_rfl)
@[simp] theorem aoG:iF prog 108=true:=aV (by kernel_rfl)
@[simp] theorem aoH:prog.cellsOf 108=3:=aV (by kernel_rfl)
@[simp] theorem aoI:prog.bytesOf 108=40:=aV (by kernel_rfl)
@[simp] theorem aoJ:o8 prog 108=some true:=aV (by kernel_rfl)
@[simp] theorem aoK:jN prog 108=some [.nil, .v (.int .i64 0), .v (.int .i64 0)]:=aV (by kernel_rfl)
@[simp] theorem aoL:jr prog 108=true:=aV (by kernel_rfl)
@[simp] theorem am8:bZ prog 108 0=some (0,22):=aV (by kernel_rfl)
@[simp] theorem am9:bZ prog 108 1=some (1,3):=aV (by kernel_rfl)
@[simp] theorem ana:bZ prog 108 2=some (2,3):=aV (by kernel_rfl)
@[simp] theorem aoM:fq prog 142=true:=aV (by kernel_rfl)
@[simp] theorem aoN:iF prog 142=true:=aV (by kernel_rfl)
@[simp] theorem aoO:prog.cellsOf 142=1:=aV (by kernel_rfl)
@[simp] theorem aoP:prog.bytesOf 142=24:=aV (by kernel_rfl)
@[simp] theorem aoQ:o8 prog 142=some true:=aV (by kernel_rfl)
@[simp] theorem aoR:jN prog 142=some [.nil]:=aV (by kernel_rfl)
@[simp] theorem aoS:jr prog 142=true:=aV (by kernel_rfl)
@[simp] theorem anb:bZ prog 142 0=some (0,23):=aV (by kernel_rfl)
@[simp] theorem aoT:fq prog 162=true:=aV (by kernel_rfl)
@[simp] theorem aoU:iF prog 162=true:=aV (by kernel_rfl)
@[simp] theorem aoV:prog.cellsOf 162=1:=aV (by kernel_rfl)
@[simp] theorem aoW:prog.bytesOf 162=8:=aV (by kernel_rfl)
@[simp] theorem aoX:o8 prog 162=some false:=aV (by kernel_rfl)
@[simp] theorem aoY:QW prog 162=some 0:=aV (by kernel_rfl)
@[simp] theorem aoZ:fq prog 183=true:=aV (by kernel_rfl)
@[simp] theorem ao0:iF prog 183=true:=aV (by kernel_rfl)
@[simp] theorem ao1:prog.cellsOf 183=1:=aV (by kernel_rfl)
@[simp] theorem ao2:prog.bytesOf 183=24:=aV (by kernel_rfl)
@[simp] theorem ao3:o8 prog 183=some true:=aV (by kernel_rfl)
@[simp] theorem ao4:jN prog 183=some [.nil]:=aV (by kernel_rfl)
@[simp] theorem ao5:jr prog 183=true:=aV (by kernel_rfl)
@[simp] theorem anc:bZ prog 183 0=some (0,23):=aV (by kernel_rfl)
@[simp] theorem ao6:fq prog 217=true:=aV (by kernel_rfl)
@[simp] theorem ao7:iF prog 217=true:=aV (by kernel_rfl)
@[simp] theorem ao8:prog.cellsOf 217=1:=aV (by kernel_rfl)
@[simp] theorem ao9:prog.bytesOf 217=4:=aV (by kernel_rfl)
@[simp] theorem apa:o8 prog 217=some false:=aV (by kernel_rfl)
@[simp] theorem apb:jN prog 217=some [.v (.int .u32 0)]:=aV (by kernel_rfl)
abbrev vI (x:Int):V:= .v (.int .i64 x)
noncomputable def MS (f:Q→Option (Ex×Q)):Option (Ex×Q)→Option (Ex×Q)
 | some (.normal,s)=>yJ f s
 | some (.exit i,s)=>some (.exit i,s)
 | some (.ret,s)=>some (.ret,s)
 | none=>none
section
variable (f:Q→Option (Ex×Q)) (s:Q)
@[simp ↓] theorem Bc:MS f (some (.normal,s))=yJ f s:=id rfl
@[simp ↓] theorem ak8 (i:Nat):MS f (some (.exit i,s))=some (.exit i,s):=id rfl
@[simp ↓] theorem al5:MS f (some (.ret,s))=some (.ret,s):=id rfl
@[simp ↓] theorem ak9:MS f none=none:=id rfl
end
@[congr] theorem akv {r r':Option (Ex×Q)}(f:Q→Option (Ex×Q))(h:r=r'):MS f r=MS f r':=by rw [h]
theorem bO (f:Q→Option (Ex×Q))(s:Q):yJ f s=MS f (f s):=by
 cases hl:yJ f s with
 | some r=>
  obtain⟨n,hn⟩:=LP hl
  cases n with
  | zero=>cases hn
  | succ n=>
   unfold rounds at hn
   split at hn
   ·rename_i s' e;rw [e,Bc];exact(MR hn).symm
   ·rw [hn]
    obtain⟨e,q⟩:=r
    cases e
    ·exact absurd hn (by rename_i h;exact h _)
    ·rfl
    ·rfl
 | none=>
  cases e:f s with
  | none=>rfl
  | some r=>
   obtain⟨ex,q⟩:=r
   cases ex with
   | normal=>
    rw [Bc]
    cases h2:yJ f q with
    | none=>rfl
    | some r2=>
     obtain⟨n,hn⟩:=LP h2
     have:rounds f (n+1) s=some r2:=by unfold rounds;rw [e];exact hn
     rw [MR this]at hl;cases hl
   | exit i=>
    have:rounds f 1 s=some (.exit i,q):=by unfold rounds;rw [e]
    rw [MR this]at hl;cases hl
   | ret=>
    have:rounds f 1 s=some (.ret,q):=by unfold rounds;rw [e]
    rw [MR this]at hl;cases hl
theorem aD {f:Q→Option (Ex×Q)}{s:Q}(st:Nat→Q)(n:Nat)(h0:s=st 0)(hs:∀j,j<n→f (st j)=some (.normal,st (j+1))):yJ f s=MS f (f (st n)):=by
 rw [h0,←bO]
 have:∀k,k≤n→yJ f (st 0)=yJ f (st k):=by
  intro k;induction k with
  | zero=>intro _;rfl
  | succ k ih=>
   intro h
   rw [ih (by omega),bO,hs k (by omega),Bc]
 exact this n (Nat.le_refl _)
theorem bN (n:Int)(h: -9223372036854775808≤n∧n≤9223372036854775807):IntKind.i64.wrap n=n:=IntWalk.i64_in n h
def R64 (n:Int):Prop:= -9223372036854775808≤n∧n≤9223372036854775807
theorem R64.wrap {n:Int}(h:R64 n):IntKind.i64.wrap n=n:=IntWalk.i64_in n h
def iw (x a b:Int):Bool:=decide (a≤x)&&decide (x≤b)
theorem bC {x a b:Int}:iw x a b=true↔a≤x∧x≤b:=by simp [iw]
theorem RQ {x a b:Int}(h:iw x a b=true):a≤x∧x≤b:=bC.1 h
theorem qC {x a b:Int}(h:¬(iw x a b=true)):iw x a b=false:=by simpa using h
@[simp] theorem anU:IntKind.i64.wrap 0=0:=bN 0 (by omega)
@[simp] theorem anV:IntKind.i64.wrap 1=1:=bN 1 (by omega)
@[simp] theorem anW:IntKind.i64.wrap 2=2:=bN 2 (by omega)
@[simp] theorem anX:IntKind.i64.wrap 3=3:=bN 3 (by omega)
@[simp] theorem anY:IntKind.i64.wrap 4=4:=bN 4 (by omega)
@[simp] theorem anZ:IntKind.i64.wrap 5=5:=bN 5 (by omega)
@[simp] theorem an0:IntKind.i64.wrap 6=6:=bN 6 (by omega)
@[simp] theorem an1:IntKind.i64.wrap 7=7:=bN 7 (by omega)
@[simp] theorem an2:IntKind.i64.wrap 8=8:=bN 8 (by omega)
@[simp] theorem an3:IntKind.i64.wrap 9=9:=bN 9 (by omega)
end Go.Proofs.YtlpdjhiggpblcaaGreat
