/- Part 11 of a proof in several texts (an abstract evaluator, what the functions compute). -/
import Derived.Test.YtlpdjhiggpblcaaGreatPkEdKeys10
open Go.Proofs.Tryz
namespace Go.Proofs.YtlpdjhiggpblcaaGreat
set_option linter.unusedSectionVars false
set_option linter.unusedSimpArgs false
set_option linter.unusedVariables false
open Go.RowKit
set_option maxHeartbeats 8000000
set_option maxRecDepth 10000
def upI (r:Int):Int:=if iw r 97 122=true then r-32 else r
def NR (r:Int):Int:=if iw r 65 90=true then r+32 else r
theorem uj (r:Int):Jj [vI r] [] []=some ⟨vI (upI r),[],[]⟩:=by
 unfold Jj upI
 by_cases h:iw r 97 122=true
 ·have:=bC.1 h
  have w:=bN (r-32) (by omega)
  simp [func224,f224,fK,h,w]
 ·simp [func224,f224,fK,h]
theorem um (r:Int):Jk [vI r] [] []=some ⟨vI (NR r),[],[]⟩:=by
 unfold Jk NR
 by_cases h:iw r 65 90=true
 ·have:=bC.1 h
  have w:=bN (r+32) (by omega)
  simp [func225,f225,eU,h,w]
 ·simp [func225,f225,eU,h]
def isLet (r:Int):Bool:=iw r 97 122||iw r 65 90
def jM (t:List Int)(f:Nat)(how:Int):Nat→List Int×Bool
 | 0=>(t,true)
 | j+1=>
  if isLet ((jM t f how j).1.getD (f+j) 0)=true then((jM t f how j).1.set (f+j) (if how=1∨(how=2∧(jM t f how j).2=true)then upI ((jM t f how j).1.getD (f+j) 0)else NR ((jM t f how j).1.getD (f+j) 0)),false)else jM t f how j
theorem uo (t:List Int)(f:Nat)(how:Int):∀j,(jM t f how j).1.length=t.length
 | 0=>rfl
 | j+1=>by
  have ih:=uo t f how j
  unfold jM
  split
  ·simpa using ih
  ·exact ih
theorem KJ {r:Int}(h:isLet r=true):iE (upI r)=true∧iE (NR r)=true:=by
 unfold isLet at h
 simp only [Bool.or_eq_true,bC]at h
 have key:∀x:Int,65≤x→x≤122→iE x=true:=fun x h1 h2=>by
  unfold iE dh mI iw
  simp only [Bool.or_eq_true,Bool.and_eq_true,decide_eq_true_eq,Bool.not_eq_true',Bool.and_eq_false_iff,decide_eq_false_iff_not]
  exact .inl (.inl ⟨⟨⟨⟨by omega,by omega⟩,by omega⟩,by omega⟩,by omega⟩)
 refine⟨?_,?_⟩
 ·unfold upI
  split
  ·rename_i h1;rw [bC]at h1;exact key _ (by omega) (by omega)
  ·exact key _ (by omega) (by omega)
 ·unfold NR
  split
  ·rename_i h1;rw [bC]at h1;exact key _ (by omega) (by omega)
  ·exact key _ (by omega) (by omega)
theorem JA {l:List Int}{p:Int→Bool}(h:l.all p=true)(i:Nat){x:Int}(hx:p x=true):(l.set i x).all p=true:=by
 refine List.all_eq_true.2 fun y hy=>?_
 rcases List.mem_or_eq_of_mem_set hy with hy|rfl
 ·exact List.all_eq_true.1 h y hy
 ·exact hx
theorem BF {t:List Int}(h:t.all iE=true)(f:Nat)(how:Int):∀j,(jM t f how j).1.all iE=true
 | 0=>h
 | j+1=>by
  have ih:=BF h f how j
  unfold jM
  split
  ·rename_i hl
   refine JA ih _ ?_
   split
   ·exact(KJ hl).1
   ·exact(KJ hl).2
  ·exact ih
theorem agv (t:List Int)(a:Int)(h:bV t a=true)(f nk:Nat)(h1:f≤nk)(h2:nk≤t.length)(i:Option Nat):zm [.agg [.aL (some 0) (ints t),vI a],vI (f:Int),vI (nk:Int)] [] []=some ⟨V.v (.bool true),[],[]⟩:=by
 have hl:=bU h
 have e1:=bQ t a (by omega)
 rw [h]at e1
 have q1:(f:Int)≤nk:=by omega
 have q2:(nk:Int)≤t.length:=by omega
 simp [zm,func222,f222,e1,q1,q2]
theorem aaU (t:List Int)(a:Int)(h:bV t a=true)(f nk:Nat)(h1:f≤nk)(h2:nk≤t.length)(how:Int)(hw:0≤how∧how≤2):Ad [.agg [.aL (some 0) (ints t),vI a],vI (f:Int),vI (nk:Int),vI how] [] []=some ⟨.fU [.agg [.own 0,vI (nk:Int)],V.v (.bool true)],[],[(0,ints (jM t f how (nk-f)).1)]⟩:=by
 have hl:=bU h
 have e1:=agv t a h f nk h1 h2 none
 have e2:=vL t (some 0) a nk (by omega)
 have m1:max 0 (min (nk:Int) t.length)=nk:=by omega
 rw [m1]at e2
 have q1:iw how 0 2=true:=bC.2 hw
 generalize hE:Ad _ _ _=R
 simp [Ad,func161,f161,e1,e2,dH,q1]at hE
 rw [aD (fun j=> .on ⟨[(12,V.v (.int .i64 (((f+j:Nat):Int)))),(11,V.v (.bool ((jM t f how j).2))),(10, .ref 10 0),(8, .ref 8 0),(3,V.v (.int .i64 how)),(2,V.v (.int .i64 ((nk:Int))))],[(10,[.own 2000000000,vI (nk:Int)]),(8,[.own 2000000001,vI 0])],[(2000000001,[]),(2000000000,ints (jM t f how j).1)],[]⟩) (nk-f) ?_ ?_]at hE
 ·have q2:(f:Int)+((nk-f:Nat):Int)=nk:=by omega
  have q3:f+(nk-f)=nk:=by omega
  simp [q2,q3]at hE
  exact hE.symm
 ·simp [jM]
 ·intro j hj
  have hjl:f+j<(jM t f how j).1.length:=by rw [uo];omega
  have hq:f+j<nk:=by omega
  have hq2:(f:Int)+j<nk:=by omega
  have hjt:f+j<t.length:=by omega
  have hq3:(f:Int)+j<t.length:=by omega
  have hlen:=uo t f how j
  have hw1:=bN ((f:Int)+(j+1)) (by omega)
  have hs:(f:Int)+j+1=(f:Int)+(j+1):=by omega
  rw [jM]
  have hgd:(jM t f how j).1.getD (f+j) 0=(jM t f how j).1[f+j]:=by rw [List.getD_eq_getElem?_getD,List.getElem?_eq_getElem hjl];rfl
  rw [hgd]
  generalize hX:jM t f how j=X at*
  obtain⟨u,fst⟩:=X
  simp only at hjl hlen hgd⊢
  have hgu:=aQ hjl
  generalize hr:u[f+j]=r at*
  have hset:∀x:Int,(ints u).set (f+j) [.a (.int .i64 x)]=ints (u.set (f+j) x):=fun x=>zC u (f+j) x
  have Va:0≤(f:Int)+j:=by omega
  have H6:((f:Int)+j).toNat=f+j:=by omega
  unfold isLet
  by_cases c1:iw r 97 122=true
  ·by_cases c3:how=1∨(how=2∧fst=true)
   ·rcases c3 with c3|⟨c3,c4⟩
    ·simp [hq,hq2,hq3,hjt,hlen,hgu,hr,Va,H6,fK,eU,uj,um,c1,c3,hw1,hs,hset]
    ·simp [hq,hq2,hq3,hjt,hlen,hgu,hr,Va,H6,fK,eU,uj,um,c1,c3,c4,hw1,hs,hset]
   ·have c4:¬how=1:=fun e=>c3 (.inl e)
    by_cases c5:how=2
    ·have c6:fst=false:=by cases fst;rfl;exact absurd (.inr ⟨c5,rfl⟩) c3
     simp [hq,hq2,hq3,hjt,hlen,hgu,hr,Va,H6,fK,eU,uj,um,c1,c5,c6,hw1,hs,hset]
    ·simp [hq,hq2,hq3,hjt,hlen,hgu,hr,Va,H6,fK,eU,uj,um,c1,c4,c5,hw1,hs,hset]
  ·by_cases c2:iw r 65 90=true
   ·by_cases c3:how=1∨(how=2∧fst=true)
    ·rcases c3 with c3|⟨c3,c4⟩
     ·simp [hq,hq2,hq3,hjt,hlen,hgu,hr,Va,H6,fK,eU,uj,um,c1,c2,c3,hw1,hs,hset]
     ·simp [hq,hq2,hq3,hjt,hlen,hgu,hr,Va,H6,fK,eU,uj,um,c1,c2,c3,c4,hw1,hs,hset]
    ·have c4:¬how=1:=fun e=>c3 (.inl e)
     by_cases c5:how=2
     ·have c6:fst=false:=by cases fst;rfl;exact absurd (.inr ⟨c5,rfl⟩) c3
      simp [hq,hq2,hq3,hjt,hlen,hgu,hr,Va,H6,fK,eU,uj,um,c1,c2,c5,c6,hw1,hs,hset]
     ·simp [hq,hq2,hq3,hjt,hlen,hgu,hr,Va,H6,fK,eU,uj,um,c1,c2,c4,c5,hw1,hs,hset]
   ·simp [hq,hq2,hq3,hjt,hlen,hgu,hr,Va,H6,fK,eU,c1,c2,hw1,hs]
def swapAt (t:List Int)(k:Nat):List Int:=(t.set (k-1) (t.getD k 0)).set k (t.getD (k-1) 0)
theorem aaV (t:List Int)(a:Int)(h:bV t a=true)(h2:2≤t.length)(k:Nat)(hk:(k:Int)=min a (t.length-1))(hk0:1≤k):oQ [.agg [.aL (some 0) (ints t),vI a]] [] []=some ⟨.fU [.agg [.own 0,vI ((k:Int)+1)],V.v (.bool true)],[],[(0,ints (swapAt t k))]⟩:=by
 have hl:=bU h
 have e1:=bQ t a (by omega)
 rw [h]at e1
 have e2:=vL t (some 0) a ((k:Int)+1) (by omega)
 have m1:max 0 (min ((k:Int)+1) t.length)=(k:Int)+1:=by omega
 rw [m1]at e2
 have hkl:k<t.length:=by omega
 have hk1:k-1<t.length:=by omega
 have w1:=bN ((t.length:Int)-1) (by omega)
 have w2:=bN ((k:Int)+1) (by omega)
 have w3:=bN ((k:Int)-1) (by omega)
 have a0:¬a=0:=by omega
 have l2:¬(t.length:Int)<2:=by omega
 have i1:(k:Int)<t.length:=by omega
 have i2:(k:Int)-1<t.length:=by omega
 have i3:0≤(k:Int)-1:=by omega
 have i4:((k:Int)-1).toNat=k-1:=by omega
 have i5:1≤(k:Int):=by omega
 have hset:∀(u:List Int) (j:Nat) (x:Int),(ints u).set j [.a (.int .i64 x)]=ints (u.set j x):=fun u j x=>zC u j x
 have g1:t.getD k 0=t[k]:=by rw [List.getD_eq_getElem?_getD,List.getElem?_eq_getElem hkl];rfl
 have g2:t.getD (k-1) 0=t[k-1]:=by rw [List.getD_eq_getElem?_getD,List.getElem?_eq_getElem hk1];rfl
 have amO:k<(t.set (k-1) t[k]).length:=by simpa using hkl
 have hgs:=aQ amO
 unfold swapAt
 rw [g1,g2]
 generalize hE:oQ _ _ _=R
 simp [oQ,func168,f168,e1,e2,a0,l2,w1,w2,w3,←hk,i1,i2,i3,i4,i5,hkl,hk1,aQ hkl,aQ hk1,hset]at hE
 exact hE.symm
theorem TG (t:List Int)(a:Int)(h:bV t a=true)(h2:t.length<2∨a=0):oQ [.agg [.aL (some 0) (ints t),vI a]] [] []=some ⟨.fU [.agg [.own 0,vI 0],V.v (.bool false)],[],[(0,[])]⟩:=by
 have hl:=bU h
 have e1:=bQ t a (by omega)
 rw [h]at e1
 unfold oQ
 by_cases c:t.length<2
 ·have l2:(t.length:Int)<2:=by omega
  simp [func168,f168,e1,l2]
 ·have l2:¬(t.length:Int)<2:=by omega
  have a0:a=0:=h2.resolve_left c
  subst a0
  simp [func168,f168,e1,l2]
theorem Ml (t:List Int)(k:Nat):(swapAt t k).length=t.length:=by unfold swapAt;simp
theorem GL {t:List Int}(h:t.all iE=true){k:Nat}(hk:k<t.length):(swapAt t k).all iE=true:=by
 unfold swapAt
 have g:∀j,j<t.length→iE (t.getD j 0)=true:=fun j hj=>by
  rw [List.getD_eq_getElem?_getD,List.getElem?_eq_getElem hj]
  exact List.all_eq_true.1 h _ (List.getElem_mem hj)
 exact JA (JA h _ (g k hk)) _ (g (k-1) (by omega))
def gP (p:Nat→Bool):Nat→Nat
 | 0=>0
 | n+1=>if gP p n=n∧p n=true then n+1 else gP p n
theorem cB (p:Nat→Bool):∀n,gP p n≤n∧(∀j,j<gP p n→p j=true)∧(gP p n=n∨p (gP p n)=false)
 | 0=>⟨Nat.le_refl _,fun j h=>absurd h (Nat.not_lt_zero _), .inl rfl⟩
 | n+1=>by
  obtain⟨h1,h2,h3⟩:=cB p n
  unfold gP
  by_cases h:gP p n=n∧p n=true
  ·rw [if_pos h]
   refine⟨Nat.le_refl _,fun j hj=>?_, .inl rfl⟩
   by_cases e:j<gP p n
   ·exact h2 j e
   ·have:j=n:=by omega
    rw [this];exact h.2
  ·rw [if_neg h]
   refine⟨by omega,h2, .inr ?_⟩
   rcases h3 with h3|h3
   ·rw [h3]
    cases e:p n
    ·rfl
    ·exact absurd ⟨h3,e⟩ h
   ·exact h3
def kS (r:Int):Int:=if r=9∨r=10∨r=32 then 0 else if iw r 97 122=true∨iw r 65 90=true∨iw r 48 57=true∨r=95∨(159<r∧dh r=true)then 1 else 2
def akd (big:Bool)(r:Int):Int:=if big=true∧kS r=2 then 1 else kS r
def dz (t:List Int)(big:Bool)(j:Nat):Int:=akd big (t.getD j 0)
def ig (t:List Int)(a:Nat):Nat:=
 let k:=gP (fun j=>decide (¬kS (t.getD (a+j) 0)=1)) (t.length-a)
 a+k+gP (fun j=>decide (kS (t.getD (a+k+j) 0)=1)) (t.length-(a+k))
def fE (t:List Int)(a:Nat):Nat:=
 let k:=gP (fun j=>decide (¬kS (t.getD (a-j-1) 0)=1)) a
 a-k-gP (fun j=>decide (kS (t.getD (a-k-j-1) 0)=1)) (a-k)
def yt (t:List Int)(big:Bool)(a:Nat):Nat:=a+gP (fun j=>decide (dz t big (a+j)=dz t big a)) (t.length-a)
def GN (t:List Int)(big:Bool)(a:Nat):Nat:=
 let b:=if a<t.length∧¬dz t big a=0 then yt t big a else a
 b+gP (fun j=>decide (dz t big (b+j)=0)) (t.length-b)
def lD (t:List Int)(big:Bool)(a:Nat):Nat:=
 let n:=a-gP (fun j=>decide (dz t big (a-j-1)=0)) a
 n-gP (fun j=>decide (dz t big (n-j-1)=dz t big (n-1))) n
def yu (t:List Int)(big:Bool)(a:Nat):Nat:=
 if t.length=0 then 0 else
 let c:=a+1+gP (fun j=>decide (dz t big (a+1+j)=0)) (t.length-(a+1))
 if t.length≤c then t.length-1 else yt t big c-1
def dG (f:Nat→Nat):Nat→Nat→Nat
 | 0,a=>a
 | n+1,a=>dG f n (f a)
theorem pX (f:Nat→Nat):∀n a,dG f (n+1) a=f (dG f n a)
 | 0,a=>rfl
 | n+1,a=>by show dG f (n+1) (f a)=_;rw [pX f n (f a)];rfl
def jC (t:List Int)(r how:Int)(a:Nat):Option Nat:=
 if how=0 then
  let k:=gP (fun j=>decide (¬t.getD (a+1+j) 0=r)) (t.length-(a+1))
  if a+1+k<t.length then some (a+1+k)else none
 else if how=1 then
  let k:=gP (fun j=>decide (¬t.getD (a-1-j) 0=r)) a
  if k<a then some (a-1-k)else none
 else if how=2 then
  let k:=gP (fun j=>decide (¬t.getD (a+2+j) 0=r)) (t.length-(a+2))
  if a+2+k<t.length then some (a+1+k)else none
 else if how=3 then
  let k:=gP (fun j=>decide (¬t.getD (a-2-j) 0=r)) (a-1)
  if k<a-1 then some (a-1-k)else none
 else none
def uq (t:List Int)(r how:Int):Nat→Nat→Option Nat
 | 0,a=>some a
 | n+1,a=>match jC t r how a with
  | none=>none
  | some p=>uq t r how n p
def jd (r:Int):Int:=if r=102 then 0 else if r=70 then 1 else if r=116 then 2 else if r=84 then 3 else -1
def AP (t:List Int):Nat:=gP (fun j=>decide (kS (t.getD j 0)=0)) t.length
def gQ (t:List Int)(a:Nat)(r:Int)(n:Nat):Option (Nat×Bool):=
 if r=104 then some (a-n,false)
 else if r=108∨r=32 then some (min (a+n) t.length,false)
 else if r=119∨r=87 then some (dG (GN t (decide (r=87))) n a,false)
 else if r=98∨r=66 then some (dG (lD t (decide (r=66))) n a,false)
 else if r=101∨r=69 then some (dG (yu t (decide (r=69))) n a,decide (0<t.length))
 else if r=48 then some (0,false)
 else if r=94 then some (AP t,false)
 else if r=36 then some (t.length-1,decide (0<t.length))
 else if r=124 then some (min (n-1) t.length,false)
 else none
def aS (e:dw):Nat:=e.au.At.toNat
def gU (e:dw):Nat:=(max e.bA 1).toNat
def gY (e:dw):Nat:=(min (max e.bA 1*max e.bH 1) 999).toNat
def TH (a:Int)(n:Nat):Int:=max 0 (min a n)
def oz (t:List Int)(f u:Nat):List Int:=t.take f++t.drop u
def sU (e:dw)(last:Int):dw:= {e with bA:=0,Op:=0,bH:=0,eY:=0,iA:=last}
def dJ (e:dw):dw×Int:=(sU e 0,1)
def sW (e:dw)(t:List Int)(a last:Int):dw:= {sU e last with au:=⟨t,jq e.bR t a⟩,eO:=⟨sS e t last⟩}
def wD (e:dw)(t:List Int)(a:Int):dw×Int:=(sW e t a 0,0)
def zG (e:dw)(a:Int):dw×Int:=wD e e.au.av (TH a e.au.av.length)
def GQ (e:dw)(f u:Nat):dw×Int:=if f<u then wD e (oz e.au.av f u) (cutAt e.au.At f u)else dJ e
def mJ (e:dw)(f u:Nat)(how:Int):dw×Int:=
 if f<u then({sW e (oz e.au.av f u) (cutAt e.au.At f u) 2 with aM:=⟨ou e.aM.aA ((e.au.av.drop f).take (u-f)) (BD e how)⟩},0)else dJ e
def AQ (t:List Int)(a:Nat)(u:List Int):List Int:=t.take a++u++t.drop a
def Da (e:dw)(u:List Int)(last:Int):dw×Int:=
 if e.au.av.length+u.length≤400 then(sW e (AQ e.au.av (aS e) u) (e.au.At+u.length) last,0)else dJ e
def pY (f:Int)(l:List ByteArray)(n:Int):Option ByteArray:=if f≤n∧n≤f+l.length-1 then l[(n-f).toNat]? else none
noncomputable def nD (b:List UInt8):List Int:=(NK b.length b (Nat.le_refl _)).choose
noncomputable def rO (b:List UInt8):List UInt8:=(NK b.length b (Nat.le_refl _)).choose_spec.choose
theorem uw (b:List UInt8):Reads b (nD b) (rO b):=(NK b.length b (Nat.le_refl _)).choose_spec.choose_spec
noncomputable def sV (s:ByteArray):List Int:=if rO s.data.toList= []then nD s.data.toList else []
noncomputable def mK (s:ByteArray):Option (List Int):=if rO s.data.toList= []∧eT (nD s.data.toList)=true then some (nD s.data.toList)else none
def Li (e:dw)(f:Int)(l:List ByteArray):Int:=if e.jT=0 then gM f l+1 else e.jT
noncomputable def uz (e:dw)(f:Int)(l:List ByteArray)(AB:Int):Option dw:=
 if AB=1∧¬e.jT=0∧e.jT=gM f l then some {sU e 0 with eO:=⟨[]⟩,au:=⟨e.gG.av,jq e.bR e.gG.av e.gG.At⟩,jT:=0,gG:=⟨[],0⟩}
 else match (pY f l (Li e f l+AB)).bind mK with
  | none=>none
  | some t=>some {sU e 0 with eO:=⟨[]⟩,au:=⟨t,if e.bR=2 then 0 else t.length⟩,jT:=Li e f l+AB,gG:=if e.jT=0 then e.au else e.gG}
noncomputable def jO (e:dw)(f:Int)(l:List ByteArray)(AB:Int):dw×Int:=match uz e f l AB with
 | none=>dJ e
 | some x=>(x,0)
def nQ (e:dw):dw×Int:=match e.eO.bP.getLast? with
 | none=>dJ e
 | some x=>({sU e 0 with au:=⟨x.av,jq e.bR x.av x.At⟩,eO:=⟨e.eO.bP.dropLast⟩},0)
def CU (e:dw):dw×Int:=({sU e 0 with bR:=3,bT:=e.au,bI:= [],kV:=0},0)
def bE (l:List dL):List Int:=(l.head?.map (·.av)).getD []
def JB (e:dw):dw×Int:=if bE e.aM.aA= []then dJ e else Da e (bE e.aM.aA) 3
def lq (l:List dL):List dL:=l.drop 1++l.take 1
def QH (e:dw):Bool:=decide (e.iA=3)&&(decide (¬bE e.aM.aA= [])&&(decide ((bE e.aM.aA).length≤aS e)&&decide ((e.au.av.drop (aS e-(bE e.aM.aA).length)).take (bE e.aM.aA).length=bE e.aM.aA)))
def nu (e:dw):dw×Int:=
 if QH e=true∧(oz e.au.av (aS e-(bE e.aM.aA).length) (aS e)).length+(bE (lq e.aM.aA)).length≤400 then
  (sW {e with aM:=⟨lq e.aM.aA⟩} (AQ (oz e.au.av (aS e-(bE e.aM.aA).length) (aS e)) (aS e-(bE e.aM.aA).length) (bE (lq e.aM.aA))) ((aS e-(bE e.aM.aA).length:Nat)+(bE (lq e.aM.aA)).length) 3,0)
 else dJ e
def Lj (e:dw)(how:Int):dw×Int:=wD e (jM e.au.av (aS e) how (ig e.au.av (aS e)-aS e)).1 (ig e.au.av (aS e))
def JC (e:dw)(r:Int):dw×Int:=({e with bA:=min (10*e.bA+r-48) 999},0)
def Hy (e:dw)(r:Int):dw×Int:=
 if iw r 48 57=true then JC e r
 else if r=98 then zG e (dG (fE e.au.av) (gU e) (aS e))
 else if r=102 then zG e (dG (ig e.au.av) (gU e) (aS e))
 else if r=100 then mJ e (aS e) (dG (ig e.au.av) (gU e) (aS e)) 1
 else if r=121 then nu e
 else if r=117 then Lj e 1
 else if r=108 then Lj e 0
 else if r=99 then Lj e 2
 else dJ e
def TI (e:dw):dw×Int:=if e.au.av.length<2∨e.au.At=0 then dJ e else wD e (swapAt e.au.av (min (aS e) (e.au.av.length-1))) ((min (aS e) (e.au.av.length-1):Nat)+1)
noncomputable def Ll (e:dw)(f:Int)(l:List ByteArray)(r:Int):dw×Int:=
 if r=97 then zG e 0
 else if r=101 then zG e e.au.av.length
 else if r=98 then zG e (e.au.At-gU e)
 else if r=102 then zG e (e.au.At+gU e)
 else if r=112 then jO e f l (-1)
 else if r=110 then jO e f l 1
 else if r=107 then mJ e (aS e) e.au.av.length 1
 else if r=121 then JB e
 else if r=116 then TI e
 else if r=95 then nQ e
 else if r=114 then CU e
 else dJ e
def Q7 (e:dw):dw×Int:=GQ e (aS e) (min (aS e+gU e) e.au.av.length)
def iq (e:dw)(r:Int):Option (dw×Int):=
 if r=99 then some (e,3)
 else if r=108 then some (e,5)
 else if r=100 then some (if e.au.av.length=0 then(e,4)else Q7 e)
 else if r=117 then some (mJ e 0 (aS e) 2)
 else if r=119 then some (mJ e (lD e.au.av true (aS e)) (aS e) 2)
 else none
noncomputable def p8 (e:dw)(f:Int)(l:List ByteArray)(k r:Int):Option (dw×Int):=
 if k=1 then some (Da e (List.replicate (gU e) r) 1)
 else if k=6 then some (Da e (List.replicate (gU e) 9) 1)
 else if k=4 then some (e,2)
 else if k=2 then iq e r
 else if k=5 then some (GQ e (aS e-gU e) (aS e))
 else if k=14 then some (Q7 e)
 else if k=11 then some (zG e (e.au.At-gU e))
 else if k=10 then some (zG e (e.au.At+gU e))
 else if k=12 then some (zG e 0)
 else if k=13 then some (zG e e.au.av.length)
 else if k=8 then some (jO e f l (-1))
 else if k=9 then some (jO e f l 1)
 else none
noncomputable def Em (e:dw)(f:Int)(l:List ByteArray)(k r:Int):dw×Int:=match p8 e f l k r with
 | some p=>p
 | none=>
  if k=3 then Hy e r
  else if k=15 then mJ e (dG (fE e.au.av) (gU e) (aS e)) (aS e) 2
  else if k=2 then Ll e f l r
  else dJ e
theorem lF {α:Type}{c:Prop} [Decidable c]{a b:Option α}{p:α}(h:(if c then a else b)=some p):(c∧a=some p)∨(¬c∧b=some p):=by
 by_cases hc:c
 ·rw [if_pos hc]at h;exact .inl ⟨hc,h⟩
 ·rw [if_neg hc]at h;exact .inr ⟨hc,h⟩
def oZ (e:dw)(a:Nat):dw:= {sW e e.au.av a 0 with bR:=1,au:=⟨e.au.av,a⟩}
def iU (e:dw)(op:Int)(f u:Nat):dw×Int:=
 if f=u then(if op=99 then(oZ e f,0)else dJ e)
 else if op=121 then wD {e with aM:=⟨ou e.aM.aA ((e.au.av.drop f).take (u-f)) 0⟩} e.au.av f
 else if op=99 then({sW {e with aM:=⟨ou e.aM.aA ((e.au.av.drop f).take (u-f)) 0⟩} (oz e.au.av f u) f 0 with bR:=1,au:=⟨oz e.au.av f u,f⟩},0)
 else wD {e with aM:=⟨ou e.aM.aA ((e.au.av.drop f).take (u-f)) 0⟩} (oz e.au.av f u) f
def yw (n a u:Nat)(incl:Bool):Nat:=if incl=true∧max a u<n then max a u+1 else max a u
def uD (e:dw)(u:Nat)(incl:Bool):dw×Int:=if e.Op=0 then zG e u else iU e e.Op (min (aS e) u) (yw e.au.av.length (aS e) u incl)
def rP (e:dw)(r how:Int)(n:Nat):dw×Int:=match uq e.au.av r how n (aS e)with
 | none=>dJ e
 | some p=>uD e p (decide (how=0∨how=2))
def p9 (t:List Int)(f:Nat)(r:Int):Nat→List Int
 | 0=>t
 | j+1=>(p9 t f r j).set (f+j) r
def aaW (r:Int):Int:=if iw r 97 122=true then r-32 else if iw r 65 90=true then r+32 else r
def rQ (t:List Int)(f:Nat):Nat→List Int
 | 0=>t
 | j+1=>(rQ t f j).set (f+j) (aaW ((rQ t f j).getD (f+j) 0))
def yx (e:dw)(k r:Int)(n:Nat):dw×Int:=
 if ¬k=1 then dJ e
 else if e.eY=114 then(if e.au.av.length<aS e+n then dJ e else wD e (p9 e.au.av (aS e) r n) (aS e+n-1:Nat))
 else if uq e.au.av r (jd e.eY) n (aS e)=none then dJ e
 else rP {e with dN:=r,bG:=jd e.eY} r (jd e.eY) n
def l9 (e:dw)(r:Int)(n:Nat):dw×Int:=match gQ e.au.av (aS e) r n with
 | none=>uD e 0 false
 | some p=>uD e p.1 p.2
noncomputable def yA (e:dw)(f:Int)(l:List ByteArray)(k r:Int)(n:Nat):dw×Int:=
 if k=4 then(e,2)
 else if k=7 then(if e.bA=0∧e.Op=0∧e.bH=0∧e.eY=0 then dJ e else(sU e e.iA,0))
 else if k=8 then jO e f l (-1)
 else if k=9 then jO e f l 1
 else if k=11∨k=5 then l9 e 104 n
 else if k=10 then l9 e 108 n
 else if k=12 then l9 e 48 n
 else if k=13 then l9 e 36 n
 else if k=14 then iU e 100 (aS e) (min (aS e+n) e.au.av.length)
 else if k=2 then
  if r=99 then(e,3)
  else if r=108 then(e,5)
  else if r=100∧e.au.av.length=0 then(e,4)
  else if r=114 then CU e
  else dJ e
 else dJ e
def mg (n:Nat)(t:List Int):List Int:=(List.replicate n t).flatten
def AU (e:dw)(a n:Nat):dw×Int:=
 if bE e.aM.aA= []∨400<e.au.av.length+(bE e.aM.aA).length*n then dJ e
 else wD e (AQ e.au.av a (mg n (bE e.aM.aA))) ((a+(bE e.aM.aA).length*n:Nat)-1)
def uQ (e:dw)(n:Nat):dw×Int:=
 if e.au.av.length=0 then dJ e
 else wD e (rQ e.au.av (aS e) (min (aS e+n) e.au.av.length-aS e)) (min (aS e+n) e.au.av.length:Nat)
def uR (how:Int):Int:=if how=0 then 1 else if how=1 then 0 else if how=2 then 3 else 2
def GR (e:dw)(r:Int)(n:Nat):Option (dw×Int):=
 if iw r 49 57=true∨(r=48∧¬e.bA=0)then some (JC e r)
 else if 0≤jd r then some ({e with eY:=r},0)
 else if r=59 then some (if e.dN=0 then dJ e else rP e e.dN e.bG n)
 else if r=44 then some (if e.dN=0 then dJ e else rP e e.dN (uR e.bG) n)
 else if e.Op=0∧opC r=true then some ({e with Op:=r,bH:=e.bA,bA:=0},0)
 else none
def JD (e:dw)(r:Int):dw×Int:=
 if r=105 then(oZ e (aS e),0)
 else if r=73 then(oZ e (AP e.au.av),0)
 else if r=97 then(oZ e (min (aS e+1) e.au.av.length),0)
 else if r=65 then(oZ e e.au.av.length,0)
 else dJ e
noncomputable def Ar (e:dw)(f:Int)(l:List ByteArray)(r:Int)(n:Nat):dw×Int:=
 if r=120 then iU e 100 (aS e) (min (aS e+n) e.au.av.length)
 else if r=88 then iU e 100 (aS e-n) (aS e)
 else if r=68 then iU e 100 (aS e) e.au.av.length
 else if r=67 then iU e 99 (aS e) e.au.av.length
 else if r=115 then iU e 99 (aS e) (min (aS e+n) e.au.av.length)
 else if r=83 then iU e 99 0 e.au.av.length
 else if r=114 then({e with eY:=114},0)
 else if r=112 then AU e (min (aS e+1) e.au.av.length) n
 else if r=80 then AU e (aS e) n
 else if r=126 then uQ e n
 else if r=117 then nQ e
 else if r=107∨r=45 then jO e f l (-1)
 else if r=106∨r=43 then jO e f l 1
 else if r=47 then CU e
 else JD e r
noncomputable def uE (e:dw)(f:Int)(l:List ByteArray)(r:Int)(n:Nat):dw×Int:=match GR e r n with
 | some p=>p
 | none=>
  if ¬e.Op=0∧r=e.Op then iU e r 0 e.au.av.length
  else match gQ e.au.av (aS e) r n with
   | some p=>uD e p.1 p.2
   | none=>if ¬e.Op=0 then dJ e else Ar e f l r n
def ake (e:dw):dw×Int:=({e with bR:=2,bA:=0,iA:=0,au:=⟨e.au.av,max (e.au.At-1) 0⟩},0)
noncomputable def viE (e:dw)(f:Int)(l:List ByteArray)(k r:Int):dw×Int:=
 if e.bR=1 then
  match p8 e f l k r with
  | some p=>p
  | none=>if k=7 then ake e else dJ e
 else if ¬e.eY=0 then yx e k r (gY e)
 else if ¬k=1 then yA e f l k r (gY e)
 else uE e f l r (gY e)
def yB (e:dw):dw:= {e with bR:=if e.Vi=true then 2 else 0,bI:= [],kV:=0,bT:=⟨[],0⟩,au:=⟨e.au.av,jq (if e.Vi=true then 2 else 0) e.au.av e.au.At⟩}
def je (f:Int)(sub:List UInt8)(fr:Int):List ByteArray→Nat→Int
 | l,0=>0
 | l,n+1=>if f+n≤fr∧(l[n]?.map fun s=>Lib.contains s.data.toList sub)=some true then f+n else je f sub fr l n
noncomputable def nI (e:dw)(f:Int)(l:List ByteArray)(n:Int)(q:List Int):Option dw:=
 if q.length≤40 then
  match pY f l n with
  | none=>none
  | some s=>match mK s with
   | none=>none
   | some t=>
    if 0≤Lib.index s.data.toList (bM q)then
     some {e with gG:=if e.jT=0 then e.bT else e.gG,au:=⟨t,(sV (s.extract 0 (Lib.index s.data.toList (bM q)).toNat)).length⟩,bI:=q,kV:=n,jT:=n,eO:=⟨[]⟩}
    else none
 else none
noncomputable def JE (e:dw)(f:Int)(l:List ByteArray)(q:List Int)(fr:Int):dw×Int:=
 match nI e f l (je f (bM q) (if e.kV=0 then gM f l else fr) l l.length) q with
 | none=>(e,1)
 | some x=>(x,0)
noncomputable def zP (e:dw)(f:Int)(l:List ByteArray)(k r:Int):dw×Int:=
 if k=1 then JE e f l (e.bI++ [r]) e.kV
 else if k=2∧r=114 then(if e.bI= []then(e,1)else JE e f l e.bI (e.kV-1))
 else if k=5 then(if e.bI= []then(e,1)else({e with bI:=e.bI.dropLast},0))
 else if k=4 then(yB e,2)
 else if k=2∧(r=103∨r=99)then(yB {e with au:=e.bT,jT:=0,gG:=⟨[],0⟩},1)
 else(yB e,0)
noncomputable def rR (e:dw)(f:Int)(l:List ByteArray)(k r:Int):dw×Int:=
 if e.bR=0 then Em e f l k r else if e.bR=3 then zP e f l k r else viE e f l k r
def ji (k r:Int):Bool:=
 if k=1 then dh r
 else if k=2 then decide (r=95)||(iw r 97 122&&(decide (¬r=104)&&(decide (¬r=105)&&(decide (¬r=106)&&decide (¬r=109)))))
 else if k=3 then iw r 33 126
 else iw k 4 16&&decide (r=0)
theorem GU (r:Int):pI [vI r] [] []=some ⟨vI (kS r),[],[]⟩:=by
 unfold pI kS
 by_cases h1:r=9
 ·simp [func163,f163,h1]
 by_cases h2:r=10
 ·simp [func163,f163,h2]
 by_cases h3:r=32
 ·simp [func163,f163,h3]
 cases h4:iw r 97 122
 case true=>simp [func163,f163,h1,h2,h3,fK,h4]
 cases h5:iw r 65 90
 case true=>simp [func163,f163,h1,h2,h3,fK,h4,eU,h5]
 cases h6:iw r 48 57
 case true=>simp [func163,f163,h1,h2,h3,fK,h4,eU,h5,lV,h6]
 by_cases h7:r=95
 ·subst h7;simp [func163,f163,fK,h4,eU,h5,lV,h6]
 by_cases h8:159<r
 ·cases h9:dh r<;>simp [func163,f163,h1,h2,h3,fK,h4,eU,h5,lV,h6,h7,h8,aR,h9]
 ·simp [func163,f163,h1,h2,h3,fK,h4,eU,h5,lV,h6,h7,h8]
theorem getD_at {t:List Int}{j:Nat}(h:j<t.length):t.getD j 0=t[j]:=by rw [List.getD_eq_getElem?_getD,List.getElem?_eq_getElem h];rfl
theorem GV (t:List Int)(i:Option Nat)(a:Nat)(big:Bool)(h:a<t.length):vW [.aL i (ints t),vI (a:Int),V.v (.bool big)] [] []=some ⟨vI (dz t big a),[],[]⟩:=by
 have e:=GU t[a]
 unfold vW dz akd
 rw [getD_at h]
 generalize kS t[a]=c at*
 cases big
 ·simp [func273,f273,h,aQ h,e]
 ·by_cases h2:c=2
  ·simp [func273,f273,h,aQ h,e,h2]
  ·simp [func273,f273,h,aQ h,e,h2]
theorem NS {t:List Int}{big:Bool}{a:Nat}(h:a≤t.length):a≤yt t big a∧yt t big a≤t.length:=by
 obtain⟨h1,h2,h3⟩:=cB (fun j=>decide (dz t big (a+j)=dz t big a)) (t.length-a)
 unfold yt
 omega
theorem aiK {t:List Int}{big:Bool}{a:Nat}(h:a<t.length):a<yt t big a:=by
 obtain⟨h1,h2,h3⟩:=cB (fun j=>decide (dz t big (a+j)=dz t big a)) (t.length-a)
 unfold yt
 rcases h3 with h3|h3
 ·omega
 ·generalize gP (fun j=>decide (dz t big (a+j)=dz t big a)) (t.length-a)=k at*
  cases k with
  | zero=>simp at h3
  | succ k=>omega
theorem WZ (t:List Int)(i:Option Nat)(a:Nat)(big:Bool)(h:a<t.length)(ht:t.length≤2000):EP [.aL i (ints t),vI (a:Int),V.v (.bool big)] [] []=some ⟨vI (((yt t big a:Nat):Int)),[],[]⟩:=by
 have hc:=fun j (hj:j<t.length)=>GV t (some 0) j big hj
 obtain⟨h1,h2,h3⟩:=cB (fun j=>decide (dz t big (a+j)=dz t big a)) (t.length-a)
 unfold yt
 generalize gP (fun j=>decide (dz t big (a+j)=dz t big a)) (t.length-a)=k at*
 have e0:=hc a h
 simp [EP,func277,f277,e0]
 rw [aD (fun j=> .on ⟨[(7,V.v (.int .i64 (dz t big a))),(2,V.v (.bool big)),(1,V.v (.int .i64 (((a+j:Nat):Int)))),(0, .aL i (ints t))],[],[],[]⟩) k ?_ ?_]
 ·rcases h3 with h3|h3
  ·have q:a+k=t.length:=by omega
   have q2:(a:Int)+k=t.length:=by omega
   simp [q,q2]
  ·by_cases hq:a+k<t.length
   ·have e1:=hc (a+k) hq
    have h3':¬dz t big (a+k)=dz t big a:=of_decide_eq_false h3
    have hq2:(a:Int)+k<t.length:=by omega
    simp only [Int.natCast_add]at e1
    simp [hq,hq2,e1,h3']
   ·have q:a+k=t.length:=by omega
    have q2:(a:Int)+k=t.length:=by omega
    simp [q,q2]
 ·simp
 ·intro j hj
  have hq:a+j<t.length:=by omega
  have hq2:(a:Int)+j<t.length:=by omega
  have e1:=hc (a+j) hq
  have h2':dz t big (a+j)=dz t big a:=of_decide_eq_true (h2 j hj)
  have hw:=bN ((a:Int)+(j+1)) (by omega)
  have hs:(a:Int)+j+1=(a:Int)+(j+1):=by omega
  simp only [Int.natCast_add]at e1
  simp [hq,hq2,e1,h2',hw,hs]
theorem aaX (t:List Int)(i:Option Nat)(a:Nat)(big:Bool)(h:a≤t.length)(ht:t.length≤2000):wS [.aL i (ints t),vI (a:Int),V.v (.bool big)] [] []=some ⟨vI (((GN t big a:Nat):Int)),[],[]⟩:=by
 have hc:=fun j (hj:j<t.length)=>GV t (some 0) j big hj
 have m1:max 0 (min (a:Int) t.length)=a:=by omega
 unfold GN
 by_cases h0:a<t.length
 ·have e0:=hc a h0
  by_cases hz:dz t big a=0
  ·rw [if_neg (fun e=>e.2 hz)]
   simp only
   obtain⟨k1,k2,k3⟩:=cB (fun j=>decide (dz t big (a+j)=0)) (t.length-a)
   generalize gP (fun j=>decide (dz t big (a+j)=0)) (t.length-a)=k at*
   simp [wS,func238,f238,fF,m1,h0,e0,hz]
   rw [aD (fun j=> .on ⟨[(2,V.v (.bool big)),(1,V.v (.int .i64 (((a+j:Nat):Int)))),(0, .aL i (ints t))],[],[],[]⟩) k ?_ ?_]
   ·by_cases q:a+k=t.length
    ·have q2:(a:Int)+k=t.length:=by omega
     simp [q,q2]
    ·have hq:a+k<t.length:=by omega
     have hq2:(a:Int)+k<t.length:=by omega
     have e1:=hc (a+k) hq
     have h3':¬dz t big (a+k)=0:=of_decide_eq_false (k3.resolve_left (by omega))
     simp only [Int.natCast_add]at e1
     simp [hq,hq2,e1,h3']
   ·simp
   ·intro j hj
    have hq:a+j<t.length:=by omega
    have hq2:(a:Int)+j<t.length:=by omega
    have e1:=hc (a+j) hq
    have h2':dz t big (a+j)=0:=of_decide_eq_true (k2 j hj)
    have hw:=bN ((a:Int)+(j+1)) (by omega)
    have hs:(a:Int)+j+1=(a:Int)+(j+1):=by omega
    simp only [Int.natCast_add]at e1
    simp [hq,hq2,e1,h2',hw,hs]
  ·rw [if_pos ⟨h0,hz⟩]
   have e2:=WZ t (some 0) a big h0 ht
   obtain⟨r1,r2⟩:=NS (t:=t) (big:=big) h
   generalize yt t big a=a1 at*
   obtain⟨k1,k2,k3⟩:=cB (fun j=>decide (dz t big (a1+j)=0)) (t.length-a1)
   simp only
   generalize gP (fun j=>decide (dz t big (a1+j)=0)) (t.length-a1)=k at*
   simp [wS,func238,f238,fF,m1,h0,e0,hz,e2]
   rw [aD (fun j=> .on ⟨[(2,V.v (.bool big)),(1,V.v (.int .i64 (((a1+j:Nat):Int)))),(0, .aL i (ints t))],[],[],[]⟩) k ?_ ?_]
   ·by_cases q:a1+k=t.length
    ·have q2:(a1:Int)+k=t.length:=by omega
     simp [q,q2]
    ·have hq:a1+k<t.length:=by omega
     have hq2:(a1:Int)+k<t.length:=by omega
     have e1:=hc (a1+k) hq
     have h3':¬dz t big (a1+k)=0:=of_decide_eq_false (k3.resolve_left (by omega))
     simp only [Int.natCast_add]at e1
     simp [hq,hq2,e1,h3']
   ·simp
   ·intro j hj
    have hq:a1+j<t.length:=by omega
    have hq2:(a1:Int)+j<t.length:=by omega
    have e1:=hc (a1+j) hq
    have h2':dz t big (a1+j)=0:=of_decide_eq_true (k2 j hj)
    have hw:=bN ((a1:Int)+(j+1)) (by omega)
    have hs:(a1:Int)+j+1=(a1:Int)+(j+1):=by omega
    simp only [Int.natCast_add]at e1
    simp [hq,hq2,e1,h2',hw,hs]
 ·have ha:a=t.length:=by omega
  rw [if_neg (fun e=>h0 e.1)]
  simp only
  rw [ha,Nat.sub_self,show gP (fun j=>decide (dz t big (t.length+j)=0)) 0=0 from rfl]
  simp [wS,func238,f238,fF]
  rw [bO]
  simp
theorem NT {t:List Int}{a:Nat}(ha:a≤t.length)(ht:t.length≤2000)(n:Nat)(h1:n≤a)(h2:0<n):n-1<t.length∧(0:Int)<n∧IntKind.i64.wrap ((n:Int)-1)=n-1∧((n-1:Nat):Int)=(n:Int)-1∧¬(n:Int)=0∧(n:Int)-1<t.length∧0≤(n:Int)-1∧((n:Int)-1).toNat=n-1∧1≤(n:Int):=
 ⟨by omega,by omega,bN _ (by omega),by omega,by omega,by omega,by omega,by omega,by omega⟩
theorem Lm (t:List Int)(i:Option Nat)(a:Nat)(big:Bool)(h:a≤t.length)(ht:t.length≤2000):nO [.aL i (ints t),vI (a:Int),V.v (.bool big)] [] []=some ⟨vI (((lD t big a:Nat):Int)),[],[]⟩:=by
 have hc:=fun j (hj:j<t.length)=>GV t (some 0) j big hj
 have m1:max 0 (min (a:Int) t.length)=a:=by omega
 have idx:=NT h ht
 unfold lD
 obtain⟨k1,k2,k3⟩:=cB (fun j=>decide (dz t big (a-j-1)=0)) a
 generalize gP (fun j=>decide (dz t big (a-j-1)=0)) a=k at*
 have hk2:∀j,j<k→dz t big (a-j-1)=0:=fun j hj=>of_decide_eq_true (k2 j hj)
 simp only
 by_cases hka:k=a
 ·rw [hka,Nat.sub_self,show gP (fun j=>decide (dz t big (0-j-1)=dz t big (0-1))) 0=0 from rfl]
  simp [nO,func217,f217,fF,m1]
  rw [aD (fun j=> .on ⟨[(2,V.v (.bool big)),(1,V.v (.int .i64 (((a-j:Nat):Int)))),(0, .aL i (ints t))],[],[],[]⟩) k ?_ ?_]
  ·subst hka;simp
  ·simp
  ·intro j hj
   have hp2:0<a-j:=by omega
   have r1:=hk2 j hj
   have hle2:a-j≤a:=by omega
   have hs:a-(j+1)=a-j-1:=by omega
   rw [hs]
   generalize a-j=p at*
   obtain⟨i1,i2,i3,i4,i5, -⟩:=idx p hle2 hp2
   have e2:=hc (p-1) i1
   rw [i4]at e2
   simp [i2,i3,i4,e2,r1,hp2]
 ·have k4:¬dz t big (a-k-1)=0:=of_decide_eq_false (k3.resolve_left hka)
  have hn0:0<a-k:=by omega
  have alC:a-k≤a:=by omega
  simp [nO,func217,f217,fF,m1]
  rw [aD (fun j=> .on ⟨[(2,V.v (.bool big)),(1,V.v (.int .i64 (((a-j:Nat):Int)))),(0, .aL i (ints t))],[],[],[]⟩) k ?_ ?_]
  ·generalize a-k=n at*
   obtain⟨n1,n2,n3⟩:=cB (fun j=>decide (dz t big (n-j-1)=dz t big (n-1))) n
   generalize gP (fun j=>decide (dz t big (n-j-1)=dz t big (n-1))) n=m at*
   have hm2:∀j,j<m→dz t big (n-j-1)=dz t big (n-1):=fun j hj=>of_decide_eq_true (n2 j hj)
   have hm3:m=n∨¬dz t big (n-m-1)=dz t big (n-1):=n3.imp _root_.id of_decide_eq_false
   obtain⟨i1,i2,i3,i4,i5, -⟩:=idx n alC hn0
   have e1:=hc (n-1) i1
   rw [i4]at e1
   have hnz:¬n=0:=by omega
   simp [i2,i3,i4,i5,e1,k4,hn0,hnz]
   rw [aD (fun j=> .on ⟨[(7,V.v (.int .i64 (dz t big (n-1)))),(2,V.v (.bool big)),(1,V.v (.int .i64 (((n-j:Nat):Int)))),(0, .aL i (ints t))],[],[],[]⟩) m ?_ ?_]
   ·by_cases r:m=n
    ·subst r;simp
    ·have hp2:0<n-m:=by omega
     have r1:=hm3.resolve_left r
     have hle2:n-m≤a:=by omega
     generalize n-m=p at*
     obtain⟨i1,i2,i3,i4,i5, -⟩:=idx p hle2 hp2
     have e2:=hc (p-1) i1
     rw [i4]at e2
     simp [i2,i3,i4,e2,r1,hp2]
   ·simp
   ·intro j hj
    have hp2:0<n-j:=by omega
    have r1:=hm2 j hj
    have hle2:n-j≤a:=by omega
    have hs:n-(j+1)=n-j-1:=by omega
    rw [hs]
    generalize n-j=p at*
    obtain⟨i1,i2,i3,i4,i5, -⟩:=idx p hle2 hp2
    have e2:=hc (p-1) i1
    rw [i4]at e2
    simp [i2,i3,i4,e2,r1,hp2]
  ·simp
  ·intro j hj
   have hp2:0<a-j:=by omega
   have r1:=hk2 j hj
   have hle2:a-j≤a:=by omega
   have hs:a-(j+1)=a-j-1:=by omega
   rw [hs]
   generalize a-j=p at*
   obtain⟨i1,i2,i3,i4,i5, -⟩:=idx p hle2 hp2
   have e2:=hc (p-1) i1
   rw [i4]at e2
   simp [i2,i3,i4,e2,r1,hp2]
theorem Yo (t:List Int)(i:Option Nat)(a:Nat)(big:Bool)(h:a≤t.length)(ht:t.length≤2000):xS [.aL i (ints t),vI (a:Int),V.v (.bool big)] [] []=some ⟨vI (((yu t big a:Nat):Int)),[],[]⟩:=by
 have hc:=fun j (hj:j<t.length)=>GV t (some 0) j big hj
 have m1:max 0 (min (a:Int) t.length)=a:=by omega
 have w1:=bN ((a:Int)+1) (by omega)
 unfold yu
 by_cases h0:t.length=0
 ·rw [if_pos h0]
  have:t= []:=List.length_eq_zero_iff.1 h0
  subst this
  simp [xS,func241,f241,fF,aZ]
 rw [if_neg h0]
 have h0i:¬(t.length:Int)=0:=by omega
 have h0t:¬t= []:=fun e=>h0 (by rw [e];rfl)
 obtain⟨k1,k2,k3⟩:=cB (fun j=>decide (dz t big (a+1+j)=0)) (t.length-(a+1))
 generalize gP (fun j=>decide (dz t big (a+1+j)=0)) (t.length-(a+1))=k at*
 simp only
 simp [xS,func241,f241,fF,m1,h0i,h0t,w1]
 rw [aD (fun j=> .on ⟨[(7,V.v (.int .i64 ((t.length:Int)))),(2,V.v (.bool big)),(1,V.v (.int .i64 (((a+1+j:Nat):Int)))),(0, .aL i (ints t))],[],[],[]⟩) k ?_ ?_]
 ·by_cases q:t.length≤a+1+k
  ·have q2:¬(a:Int)+1+k<t.length:=by omega
   have q2n:¬a+1+k<t.length:=by omega
   have q3:(t.length:Int)≤(a:Int)+1+k:=by omega
   have w2:=bN ((t.length:Int)-1) (by omega)
   have q4:((t.length-1:Nat):Int)=(t.length:Int)-1:=by omega
   rw [if_pos q]
   simp [q2,q2n,q,q3,w2,q4]
  ·rw [if_neg q]
   have hq:a+1+k<t.length:=by omega
   have hq2:(a:Int)+1+k<t.length:=by omega
   have hq3:¬(t.length:Int)≤(a:Int)+1+k:=by omega
   have e1:=hc (a+1+k) hq
   have e2:=WZ t (some 0) (a+1+k) big hq ht
   have h3':¬dz t big (a+1+k)=0:=of_decide_eq_false (k3.resolve_left (by omega))
   obtain⟨r1,r2⟩:=NS (t:=t) (big:=big) (Nat.le_of_lt hq)
   have r3:=aiK (t:=t) (big:=big) hq
   have w2:=bN ((yt t big (a+1+k):Int)-1) (by omega)
   have q4:((yt t big (a+1+k)-1:Nat):Int)=(yt t big (a+1+k):Int)-1:=by omega
   rw [q4]
   generalize yt t big (a+1+k)=u at*
   simp only [Int.natCast_add,Int.natCast_one]at e1 e2
   simp [hq,hq2,hq3,e1,e2,h3',w2]
 ·simp
 ·intro j hj
  have hq:a+1+j<t.length:=by omega
  have hq2:(a:Int)+1+j<t.length:=by omega
  have e1:=hc (a+1+j) hq
  have h2':dz t big (a+1+j)=0:=of_decide_eq_true (k2 j hj)
  have hw:=bN ((a:Int)+1+(j+1)) (by omega)
  have hs:(a:Int)+1+j+1=(a:Int)+1+(j+1):=by omega
  simp only [Int.natCast_add,Int.natCast_one]at e1
  simp [hq,hq2,e1,h2',hw,hs]
theorem W9 (t:List Int)(i:Option Nat)(a:Nat)(h:a≤t.length)(ht:t.length≤2000):BP [.aL i (ints t),vI (a:Int)] [] []=some ⟨vI (((ig t a:Nat):Int)),[],[]⟩:=by
 have hc:∀j (h:j<t.length),pI [vI (t[j])] [] []=some ⟨vI (kS (t.getD j 0)),[],[]⟩:=fun j hj=>by rw [getD_at hj];exact GU _
 unfold ig
 generalize hcf:(fun j=>kS (t.getD j 0))=cf
 have TJ:∀j,kS (t.getD j 0)=cf j:=fun j=>by rw [←hcf]
 simp only [TJ]at hc⊢
 have m1:max 0 (min (a:Int) t.length)=a:=by omega
 obtain⟨k1,k2,k3⟩:=cB (fun j=>decide (¬cf (a+j)=1)) (t.length-a)
 generalize gP (fun j=>decide (¬cf (a+j)=1)) (t.length-a)=k at*
 obtain⟨n1,n2,n3⟩:=cB (fun j=>decide (cf (a+k+j)=1)) (t.length-(a+k))
 generalize gP (fun j=>decide (cf (a+k+j)=1)) (t.length-(a+k))=m at*
 have H6:∀m n:Nat,0≤(m:Int)+n∧((m:Int)+n).toNat=m+n:=fun m n=>⟨by omega,by omega⟩
 have tn3:∀m n p:Nat,0≤(m:Int)+n+p∧((m:Int)+n+p).toNat=m+n+p:=fun m n p=>⟨by omega,by omega⟩
 simp [BP,func158,f158,fF,m1]
 rw [aD (fun j=> .on ⟨[(1,V.v (.int .i64 (((a+j:Nat):Int)))),(0, .aL i (ints t))],[],[],[]⟩) k ?_ ?_]
 ·have st1:∀j,j<m→a+k+j<t.length∧cf (a+k+j)=1:=fun j hj=>⟨by omega,of_decide_eq_true (n2 j hj)⟩
  have hend:a+k=t.length∨(a+k<t.length∧cf (a+k)=1):=by
   rcases k3 with k3|k3
   ·exact .inl (by omega)
   ·by_cases q:a+k=t.length
    ·exact .inl q
    ·exact .inr ⟨by omega,by simpa using of_decide_eq_false k3⟩
  have hfin:a+k+m=t.length∨(a+k+m<t.length∧¬cf (a+k+m)=1):=by
   rcases n3 with n3|n3
   ·exact .inl (by omega)
   ·by_cases q:a+k+m=t.length
    ·exact .inl q
    ·exact .inr ⟨by omega,of_decide_eq_false n3⟩
  rcases hend with q|⟨q,q1⟩
  ·have q2:(a:Int)+k=t.length:=by omega
   have hm:m=0:=by omega
   subst hm
   simp [q,q2]
   rw [bO]
   simp
  ·have q2:(a:Int)+k<t.length:=by omega
   have e1:=hc (a+k) q
   rw [q1]at e1
   simp [q,q2,aQ q,e1,H6]
   rw [aD (fun j=> .on ⟨[(1,V.v (.int .i64 (((a+k+j:Nat):Int)))),(0, .aL i (ints t))],[],[],[]⟩) m ?_ ?_]
   ·rcases hfin with r|⟨r,r1⟩
    ·have r2:(a:Int)+k+m=t.length:=by omega
     simp [r,r2]
    ·have r2:(a:Int)+k+m<t.length:=by omega
     have e2:=hc (a+k+m) r
     simp [r,r2,aQ r,e2,r1,tn3]
   ·simp
   ·intro j hj
    obtain⟨s1,s2⟩:=st1 j hj
    have s3:(a:Int)+k+j<t.length:=by omega
    have e2:=hc (a+k+j) s1
    have hw:=bN ((a:Int)+k+(j+1)) (by omega)
    have hs:(a:Int)+k+j+1=(a:Int)+k+(j+1):=by omega
    simp [s1,s3,aQ s1,e2,s2,hw,hs,H6,tn3]
 ·simp
 ·intro j hj
  have s1:a+j<t.length:=by omega
  have s3:(a:Int)+j<t.length:=by omega
  have e2:=hc (a+j) s1
  have s2:¬cf (a+j)=1:=of_decide_eq_true (k2 j hj)
  have hw:=bN ((a:Int)+(j+1)) (by omega)
  have hs:(a:Int)+j+1=(a:Int)+(j+1):=by omega
  simp [s1,s3,aQ s1,e2,s2,hw,hs,H6,tn3]
theorem QI (t:List Int)(i:Option Nat)(a:Nat)(h:a≤t.length)(ht:t.length≤2000):Ab [.aL i (ints t),vI (a:Int)] [] []=some ⟨vI (((fE t a:Nat):Int)),[],[]⟩:=by
 have hc:∀j (h:j<t.length),pI [vI (t[j])] [] []=some ⟨vI (kS (t.getD j 0)),[],[]⟩:=fun j hj=>by rw [getD_at hj];exact GU _
 unfold fE
 generalize hcf:(fun j=>kS (t.getD j 0))=cf
 have TJ:∀j,kS (t.getD j 0)=cf j:=fun j=>by rw [←hcf]
 simp only [TJ]at hc⊢
 have m1:max 0 (min (a:Int) t.length)=a:=by omega
 have idx:=NT h ht
 obtain⟨k1,k2,k3⟩:=cB (fun j=>decide (¬cf (a-j-1)=1)) a
 generalize gP (fun j=>decide (¬cf (a-j-1)=1)) a=k at*
 obtain⟨n1,n2,n3⟩:=cB (fun j=>decide (cf (a-k-j-1)=1)) (a-k)
 generalize gP (fun j=>decide (cf (a-k-j-1)=1)) (a-k)=m at*
 simp [Ab,func93,f93,fF,m1]
 rw [aD (fun j=> .on ⟨[(1,V.v (.int .i64 (((a-j:Nat):Int)))),(0, .aL i (ints t))],[],[],[]⟩) k ?_ ?_]
 ·rcases k3 with k3|k3
  ·subst k3
   have hm:m=0:=by omega
   subst hm
   simp
   rw [bO]
   simp
  ·by_cases q0:k=a
   ·subst q0
    have hm:m=0:=by omega
    subst hm
    simp
    rw [bO]
    simp
   have q1:cf (a-k-1)=1:=by simpa using of_decide_eq_false k3
   have hpos:0<a-k:=by omega
   have hm2:∀j,j<m→cf (a-k-j-1)=1:=fun j hj=>of_decide_eq_true (n2 j hj)
   have hm3:m=a-k∨¬cf (a-k-m-1)=1:=n3.imp _root_.id of_decide_eq_false
   have hle:a-k≤a:=by omega
   generalize a-k=n at*
   obtain⟨i1,i2,i3,i4,i5,i6,i7,i8,i9⟩:=idx n hle hpos
   have e1:=hc (n-1) i1
   rw [q1]at e1
   simp [i1,i2,i3,i6,i7,i8,i9,hpos,aQ i1,e1]
   rw [aD (fun j=> .on ⟨[(1,V.v (.int .i64 (((n-j:Nat):Int)))),(0, .aL i (ints t))],[],[],[]⟩) m ?_ ?_]
   ·by_cases r:m=n
    ·subst r;simp
    ·have hp2:0<n-m:=by omega
     have r1:=hm3.resolve_left r
     have hle2:n-m≤a:=by omega
     generalize n-m=p at*
     obtain⟨i1,i2,i3,i4,i5,i6,i7,i8,i9⟩:=idx p hle2 hp2
     have e2:=hc (p-1) i1
     simp [i1,i2,i3,i6,i7,i8,i9,hp2,aQ i1,e2,r1]
   ·simp
   ·intro j hj
    have hp2:0<n-j:=by omega
    have r1:=hm2 j hj
    have hle2:n-j≤a:=by omega
    have hs:n-(j+1)=n-j-1:=by omega
    rw [hs]
    generalize n-j=p at*
    obtain⟨i1,i2,i3,i4,i5,i6,i7,i8,i9⟩:=idx p hle2 hp2
    have e2:=hc (p-1) i1
    simp [i1,i2,i3,i4,i6,i7,i8,i9,hp2,aQ i1,e2,r1]
 ·simp
 ·intro j hj
  have hp2:0<a-j:=by omega
  have r1:¬cf (a-j-1)=1:=of_decide_eq_true (k2 j hj)
  have hle2:a-j≤a:=by omega
  have hs:a-(j+1)=a-j-1:=by omega
  rw [hs]
  generalize a-j=p at*
  obtain⟨i1,i2,i3,i4,i5,i6,i7,i8,i9⟩:=idx p hle2 hp2
  have e2:=hc (p-1) i1
  simp [i1,i2,i3,i4,i6,i7,i8,i9,hp2,aQ i1,e2,r1]
theorem xu {t:List Int}{a:Nat}(h:a≤t.length):a≤ig t a∧ig t a≤t.length:=by
 unfold ig
 simp only
 obtain⟨k1,k2,k3⟩:=cB (fun j=>decide (¬kS (t.getD (a+j) 0)=1)) (t.length-a)
 generalize gP (fun j=>decide (¬kS (t.getD (a+j) 0)=1)) (t.length-a)=k at*
 have:=cB (fun j=>decide (kS (t.getD (a+k+j) 0)=1)) (t.length-(a+k))
 omega
theorem Au {t:List Int}{a:Nat}:fE t a≤a:=by unfold fE;simp only;omega
theorem Rw {t:List Int}{big:Bool}{a:Nat}(h:a≤t.length):a≤GN t big a∧GN t big a≤t.length:=by
 unfold GN
 simp only
 have hb:a≤(if a<t.length∧¬dz t big a=0 then yt t big a else a)∧(if a<t.length∧¬dz t big a=0 then yt t big a else a)≤t.length:=by
  split
  ·exact NS h
  ·omega
 generalize (if a<t.length∧¬dz t big a=0 then yt t big a else a)=b at*
 have:=cB (fun j=>decide (dz t big (b+j)=0)) (t.length-b)
 omega
theorem Cg {t:List Int}{big:Bool}{a:Nat}:lD t big a≤a:=by unfold lD;simp only;omega
theorem NU {t:List Int}{big:Bool}{a:Nat}:yu t big a≤t.length∧(0<t.length→yu t big a<t.length):=by
 unfold yu
 by_cases h0:t.length=0
 ·rw [if_pos h0];omega
 rw [if_neg h0]
 simp only
 generalize gP (fun j=>decide (dz t big (a+1+j)=0)) (t.length-(a+1))=k
 split
 ·omega
 ·have:=NS (t:=t) (big:=big) (a:=a+1+k) (by omega)
  omega
theorem sw {f:Nat→Nat}{m:Nat}(h:∀a,a≤m→f a≤m):∀n a,a≤m→dG f n a≤m
 | 0,a,ha=>ha
 | n+1,a,ha=>sw h n (f a) (h a ha)
theorem NV {f:Nat→Nat}{m:Nat}(h:∀a,a≤m→a≤f a∧f a≤m):∀n a,a≤m→a≤dG f n a∧dG f n a≤m
 | 0,a,ha=>⟨Nat.le_refl _,ha⟩
 | n+1,a,ha=>by
  have:=NV h n (f a) (h a ha).2
  have:=h a ha
  show a≤dG f n (f a)∧dG f n (f a)≤m
  omega
theorem GX {f:Nat→Nat}(h:∀a,f a≤a):∀n a,dG f n a≤a
 | 0,a=>Nat.le_refl _
 | n+1,a=>by
  have:=GX h n (f a)
  have:=h a
  show dG f n (f a)≤a
  omega
def uS (o:Option Nat):Int:=match o with
 | none=> -1
 | some p=>p
theorem Yp (t:List Int)(i:Option Nat)(a:Nat)(r:Int)(h:a≤t.length)(ht:t.length≤2000):mG [.aL i (ints t),vI (a:Int),vI r,vI 0] [] []=some ⟨vI (uS (jC t r 0 a)),[],[]⟩:=by
 have m1:max 0 (min (a:Int) t.length)=a:=by omega
 unfold jC
 rw [if_pos rfl]
 obtain⟨k1,k2,k3⟩:=cB (fun j=>decide (¬t.getD (a+1+j) 0=r)) (t.length-(a+1))
 generalize gP (fun j=>decide (¬t.getD (a+1+j) 0=r)) (t.length-(a+1))=k at*
 have w1:=bN ((a:Int)+1) (by omega)
 simp only
 simp [mG,func235,f235,fF,m1,w1]
 rw [aD (fun j=> .on ⟨[(10,V.v (.int .i64 (((a+1+j:Nat):Int)))),(9,V.v (.int .i64 ((t.length:Int)))),(2,V.v (.int .i64 r)),(0, .aL i (ints t))],[],[],[]⟩) k ?_ ?_]
 ·by_cases q:a+1+k<t.length
  ·have q2:(a:Int)+1+k<t.length:=by omega
   have q3:0≤(a:Int)+1+k:=by omega
   have q4:((a:Int)+1+k).toNat=a+1+k:=by omega
   have h3:t[a+1+k]=r:=by
    have:=of_decide_eq_false (k3.resolve_left (by omega))
    rw [Classical.not_not,getD_at q]at this
    exact this
   rw [if_pos q]
   simp [q,q2,q3,q4,aQ q,h3,uS]
  ·have q2:¬(a:Int)+1+k<t.length:=by omega
   rw [if_neg q]
   simp [q2,uS]
 ·simp
 ·intro j hj
  have q:a+1+j<t.length:=by omega
  have q2:(a:Int)+1+j<t.length:=by omega
  have q3:0≤(a:Int)+1+j:=by omega
  have q4:((a:Int)+1+j).toNat=a+1+j:=by omega
  have h3:¬t[a+1+j]=r:=by
   have:=of_decide_eq_true (k2 j hj)
   rwa [getD_at q]at this
  have hw:=bN ((a:Int)+1+(j+1)) (by omega)
  have hs:(a:Int)+1+j+1=(a:Int)+1+(j+1):=by omega
  simp [q,q2,q3,q4,aQ q,h3,hw,hs]
theorem Yq (t:List Int)(i:Option Nat)(a:Nat)(r:Int)(h:a≤t.length)(ht:t.length≤2000):mG [.aL i (ints t),vI (a:Int),vI r,vI 1] [] []=some ⟨vI (uS (jC t r 1 a)),[],[]⟩:=by
 have m1:max 0 (min (a:Int) t.length)=a:=by omega
 unfold jC
 rw [if_neg (by decide),if_pos rfl]
 obtain⟨k1,k2,k3⟩:=cB (fun j=>decide (¬t.getD (a-1-j) 0=r)) a
 generalize gP (fun j=>decide (¬t.getD (a-1-j) 0=r)) a=k at*
 have w1:=bN ((a:Int)-1) (by omega)
 simp only
 simp [mG,func235,f235,fF,m1,w1]
 rw [aD (fun j=> .on ⟨[(11,V.v (.int .i64 ((a:Int)-1-j))),(2,V.v (.int .i64 r)),(0, .aL i (ints t))],[],[],[]⟩) k ?_ ?_]
 ·by_cases q:k<a
  ·have q1:a-1-k<t.length:=by omega
   have q2:(a:Int)-1-k<t.length:=by omega
   have q3:0≤(a:Int)-1-k:=by omega
   have q4:((a:Int)-1-k).toNat=a-1-k:=by omega
   have q5:((a-1-k:Nat):Int)=(a:Int)-1-k:=by omega
   have h3:t[a-1-k]=r:=by
    have:=of_decide_eq_false (k3.resolve_left (by omega))
    rw [Classical.not_not,getD_at q1]at this
    exact this
   rw [if_pos q]
   simp only [uS,q5]
   generalize (a:Int)-1-k=x at*
   simp [q1,q2,q3,q4,aQ q1,h3]
  ·have q2:¬0≤(a:Int)-1-k:=by omega
   rw [if_neg q]
   simp only [uS]
   generalize (a:Int)-1-k=x at*
   simp [q2]
 ·simp
 ·intro j hj
  have q1:a-1-j<t.length:=by omega
  have q2:(a:Int)-1-j<t.length:=by omega
  have q3:0≤(a:Int)-1-j:=by omega
  have q4:((a:Int)-1-j).toNat=a-1-j:=by omega
  have h3:¬t[a-1-j]=r:=by
   have:=of_decide_eq_true (k2 j hj)
   rwa [getD_at q1]at this
  have hw:=bN ((a:Int)-1-j-1) (by omega)
  have hs:(a:Int)-1-((j+1:Nat):Int)=(a:Int)-1-j-1:=by omega
  simp only [hs]
  generalize (a:Int)-1-j=x at*
  simp [q1,q2,q3,q4,aQ q1,h3,hw]
theorem Yr (t:List Int)(i:Option Nat)(a:Nat)(r:Int)(h:a≤t.length)(ht:t.length≤2000):mG [.aL i (ints t),vI (a:Int),vI r,vI 2] [] []=some ⟨vI (uS (jC t r 2 a)),[],[]⟩:=by
 have m1:max 0 (min (a:Int) t.length)=a:=by omega
 unfold jC
 rw [if_neg (by decide),if_neg (by decide),if_pos rfl]
 obtain⟨k1,k2,k3⟩:=cB (fun j=>decide (¬t.getD (a+2+j) 0=r)) (t.length-(a+2))
 generalize gP (fun j=>decide (¬t.getD (a+2+j) 0=r)) (t.length-(a+2))=k at*
 have w1:=bN ((a:Int)+1) (by omega)
 simp only
 simp [mG,func235,f235,fF,m1,w1]
 rw [aD (fun j=> .on ⟨[(12,V.v (.int .i64 (((a+1+j:Nat):Int)))),(9,V.v (.int .i64 ((t.length:Int)))),(2,V.v (.int .i64 r)),(0, .aL i (ints t))],[],[],[]⟩) k ?_ ?_]
 ·have w2:=bN ((a:Int)+1+k+1) (by omega)
  by_cases q:a+2+k<t.length
  ·have q0:a+1+k+1<t.length:=by omega
   have q2:(a:Int)+1+k+1<t.length:=by omega
   have q3:0≤(a:Int)+1+k+1:=by omega
   have q4:((a:Int)+1+k+1).toNat=a+1+k+1:=by omega
   have h3:t[a+1+k+1]=r:=by
    have:=of_decide_eq_false (k3.resolve_left (by omega))
    rw [Classical.not_not,show a+2+k=a+1+k+1 by omega,getD_at q0]at this
    exact this
   rw [if_pos q]
   simp [q0,q2,q3,q4,aQ q0,h3,uS,w2]
  ·have q2:¬(a:Int)+1+k+1<t.length:=by omega
   rw [if_neg q]
   simp [q2,uS,w2]
 ·simp
 ·intro j hj
  have q0:a+1+j+1<t.length:=by omega
  have q2:(a:Int)+1+j+1<t.length:=by omega
  have q3:0≤(a:Int)+1+j+1:=by omega
  have q4:((a:Int)+1+j+1).toNat=a+1+j+1:=by omega
  have h3:¬t[a+1+j+1]=r:=by
   have:=of_decide_eq_true (k2 j hj)
   rwa [show a+2+j=a+1+j+1 by omega,getD_at q0]at this
  have hw:=bN ((a:Int)+1+j+1) (by omega)
  have hs:(a:Int)+1+(j+1)=(a:Int)+1+j+1:=by omega
  simp [q0,q2,q3,q4,aQ q0,h3,hw,hs]
theorem Yt (t:List Int)(i:Option Nat)(a:Nat)(r:Int)(h:a≤t.length)(ht:t.length≤2000):mG [.aL i (ints t),vI (a:Int),vI r,vI 3] [] []=some ⟨vI (uS (jC t r 3 a)),[],[]⟩:=by
 have m1:max 0 (min (a:Int) t.length)=a:=by omega
 unfold jC
 rw [if_neg (by decide),if_neg (by decide),if_neg (by decide),if_pos rfl]
 obtain⟨k1,k2,k3⟩:=cB (fun j=>decide (¬t.getD (a-2-j) 0=r)) (a-1)
 generalize gP (fun j=>decide (¬t.getD (a-2-j) 0=r)) (a-1)=k at*
 have w1:=bN ((a:Int)-1) (by omega)
 simp only
 simp [mG,func235,f235,fF,m1,w1]
 rw [aD (fun j=> .on ⟨[(13,V.v (.int .i64 ((a:Int)-1-j))),(2,V.v (.int .i64 r)),(0, .aL i (ints t))],[],[],[]⟩) k ?_ ?_]
 ·have w2:=bN ((a:Int)-1-k-1) (by omega)
  by_cases q:k<a-1
  ·have q1:a-2-k<t.length:=by omega
   have q2:(a:Int)-1-k-1<t.length:=by omega
   have q3:0≤(a:Int)-1-k-1:=by omega
   have q6:1≤(a:Int)-1-k:=by omega
   have q4:((a:Int)-1-k-1).toNat=a-2-k:=by omega
   have q5:((a-1-k:Nat):Int)=(a:Int)-1-k:=by omega
   have h3:t[a-2-k]=r:=by
    have:=of_decide_eq_false (k3.resolve_left (by omega))
    rw [Classical.not_not,getD_at q1]at this
    exact this
   rw [if_pos q]
   simp only [uS,q5]
   generalize (a:Int)-1-k=x at*
   simp [q1,q2,q3,q4,q6,aQ q1,h3,w2]
  ·have q2:¬1≤(a:Int)-1-k:=by omega
   rw [if_neg q]
   simp only [uS]
   generalize (a:Int)-1-k=x at*
   simp [q2]
 ·simp
 ·intro j hj
  have q1:a-2-j<t.length:=by omega
  have q2:(a:Int)-1-j-1<t.length:=by omega
  have q3:0≤(a:Int)-1-j-1:=by omega
  have q6:1≤(a:Int)-1-j:=by omega
  have q4:((a:Int)-1-j-1).toNat=a-2-j:=by omega
  have h3:¬t[a-2-j]=r:=by
   have:=of_decide_eq_true (k2 j hj)
   rwa [getD_at q1]at this
  have hw:=bN ((a:Int)-1-j-1) (by omega)
  have hs:(a:Int)-1-((j+1:Nat):Int)=(a:Int)-1-j-1:=by omega
  simp only [hs]
  generalize (a:Int)-1-j=x at*
  simp [q1,q2,q3,q4,q6,aQ q1,h3,hw]
theorem JF (t:List Int)(i:Option Nat)(a:Nat)(r how:Int)(h:a≤t.length)(ht:t.length≤2000)(hw:0≤how∧how≤3):mG [.aL i (ints t),vI (a:Int),vI r,vI how] [] []=some ⟨vI (uS (jC t r how a)),[],[]⟩:=by
 rcases(by omega:how=0∨how=1∨how=2∨how=3)with rfl|rfl|rfl|rfl
 ·exact Yp t i a r h ht
 ·exact Yq t i a r h ht
 ·exact Yr t i a r h ht
 ·exact Yt t i a r h ht
def vE (t:List Int)(a:Int)(r:List dL)(ul:List fH)(cnt op:Int):dw:= {yH with Vi:=true,bR:=2,au:=⟨t,a⟩,bA:=cnt,Op:=op,aM:=⟨r⟩,eO:=⟨ul⟩}
structure VI (t:List Int) (a:Int) (r:List dL) (ul:List fH):Prop where
 text:eT t=true
 at0:0≤a
 at_:(a<t.length)∨(t= []∧a=0)
 ring:iJ r=true
 undo:jS ul=true∧ul.length≤12
theorem VI.line {t:List Int}{a:Int}{r:List dL}{ul:List fH}(h:VI t a r ul):bV t a=true:=by
 have h0:=h.at0
 have:a≤t.length:=by rcases h.at_ with h|⟨h,h2⟩<;>omega
 unfold bV
 rw [h.text,bC.2 (by omega)];rfl
theorem VI.end_ {t:List Int}{a:Int}{r:List dL}{ul:List fH}(h:VI t a r ul):atEnd t a=false:=by
 rcases h.at_ with h|⟨h,h2⟩
 ·have:¬a=t.length:=by omega
  simp [atEnd,this]
 ·subst h;subst h2;rfl
theorem VI.ok {t:List Int}{a:Int}{r:List dL}{ul:List fH}(h:VI t a r ul)(cnt op:Int)(hc:0≤cnt∧cnt≤999)(ho:op=0∨op=100):(vE t a r ul cnt op).ok=true:=by
 have q1:=h.line
 have q2:iw cnt 0 999=true:=bC.2 hc
 have q3:fQ true 2 t a op 0 0=true:=by
  have:=h.end_
  rcases ho with rfl|rfl<;>simp [fQ,this]<;>decide
 have q4:=h.ring
 have q5:=h.undo.1
 simp only [dw.ok,gB,vE,yH,q1,q2,q3,q4,q5]
 rfl
theorem VI.set {t:List Int}{a:Int}{r:List dL}{ul:List fH}(h:VI t a r ul)(cnt op:Int)(hc:0≤cnt∧cnt≤999)(ho:op=0∨op=100):aok (vE t a r ul cnt op):=
 ⟨Oy.of (h.ok cnt op hc ho),rfl,h.line,h.undo.1,by have:=h.undo.2;show ul.length≤19;omega⟩
section
variable {f:Int} {l:List ByteArray} (hh:iB f l) {t:List Int} {a:Int} {r:List dL} {ul:List fH} (h:VI t a r ul)
include hh h
end
theorem adu (t u:List Int)(A:Nat)(hA:A≤t.length)(ht:eT t=true)(hu:u.all iE=true)(hl:t.length+u.length≤400):om [.agg [.aL (some 0) (ints t),vI (A:Int)], .aL (some 1) (ints u)] [] []=some ⟨.fU [.agg [.own 0,vI (((A:Int)+u.length))],V.v (.bool true)],[],[(0,ints (t.take A++u++t.drop A))]⟩:=by
 have htt:t.all iE=true:=by simp only [eT,Bool.and_eq_true]at ht;exact ht.2
 have e1:=bQ t A (by omega)
 rw [show bV t A=true from by unfold bV;rw [ht,bC.2 (by omega)];rfl]at e1
 have e2:=lg (t.take A) (some 0) (by simp;omega)
 have hX:eT (t.take A++u++t.drop A)=true:=by
  simp only [eT,Bool.and_eq_true,decide_eq_true_eq]
  refine⟨by simp;omega,List.all_eq_true.2 fun x hx=>?_⟩
  rcases List.mem_append.1 hx with hx|hx
  ·rcases List.mem_append.1 hx with hx|hx
   ·exact List.all_eq_true.1 htt x (List.mem_of_mem_take hx)
   ·exact List.all_eq_true.1 hu x hx
  ·exact List.all_eq_true.1 htt x (List.mem_of_mem_drop hx)
 have hXl:(t.take A++u++t.drop A).length=t.length+u.length:=by simp;omega
 have e3:=bQ (t.take A++u++t.drop A) ((A:Int)+u.length) (by omega)
 rw [show bV (t.take A++u++t.drop A) ((A:Int)+u.length)=true from by unfold bV;rw [hX,bC.2 (by omega)];rfl]at e3
 have q0:min A t.length=A:=by omega
 have q1:¬(400:Int)<u.length:=by omega
 have q2:(A+u.length)*8≤140737488355328:=by omega
 have q3:A+u.length≤4611686018427387904:=by omega
 have q4:(A+u.length+(t.length-A))*8≤140737488355328:=by omega
 have q5:A+u.length+(t.length-A)≤4611686018427387904:=by omega
 have q6:(A:Int)≤t.length:=by omega
 have q7:(t.drop A).take (t.length-A)=t.drop A:=List.take_of_length_le (by simp)
 have q8:(A+(u.length+(t.length-A)))*8≤140737488355328:=by omega
 have q9:A+(u.length+(t.length-A))≤4611686018427387904:=by omega
 have w:=bN ((A:Int)+u.length) (by omega)
 generalize hE:om _ _ _=R
 simp [om, -ak,←ak, -List.append_assoc,func216,f216,e1,e2,e3,q0,q1,q2,q3,q4,q5,q6,q7,q8,q9,w,hA]at hE
 exact hE.symm
theorem Pp (e:dw)(a:Int):BR [gL e,vI a] [] []=some ⟨.agg [V.v (.bool e.Vi),vI 1, .aL (some 0) (ints e.au.av),vI a,vI e.bA,vI e.Op,vI e.bH,vI e.eY,vI e.dN,vI e.bG,vI e.iA, .aL (some 1) (aC e.aM.aA), .aL (some 2) (aG e.eO.bP),vI e.jT, .aL (some 3) (ints e.gG.av),vI e.gG.At, .aL (some 4) (ints e.bI),vI e.kV, .aL (some 5) (ints e.bT.av),vI e.bT.At],[],[]⟩:=by
 simp [BR,func236,f236]
structure fO (e:dw):Prop where
 line:bV e.au.av e.au.At=true
 own:bV e.gG.av e.gG.At=true
 back:bV e.bT.av e.bT.At=true
 cnt:0≤e.bA∧e.bA≤999
 zD:0≤e.bH∧e.bH≤999
 mode:(e.bR=0∧e.Vi=false)∨((e.bR=1∨e.bR=2)∧e.Vi=true)∨e.bR=3
 end_:¬(e.bR=2∧atEnd e.au.av e.au.At=true)
 cmd:e.bR=2∨(e.Op=0∧e.eY=0∧e.bH=0)
 opz:¬e.Op=0∨e.bH=0
 op:e.Op=0∨opC e.Op=true
 wait:e.eY=0∨yh e.eY=true
 find:dO e.dN e.bG=true
 last:0≤e.iA∧e.iA≤3
 ring:iJ e.aM.aA=true
 undo:jS e.eO.bP=true
 A8:0≤e.jT∧e.jT≤1000000060
 hit:0≤e.kV∧e.kV≤1000000060
 Pq:¬e.jT=0∨qK e.gG.av e.gG.At=true
 ql:e.bI.length≤40
 qp:e.bI.all dh=true
 Pt:e.bR=3∨(e.bI= []∧e.kV=0∧qK e.bT.av e.bT.At=true)
theorem fD {e:dw}:e.ok=true↔fO e:=by
 simp only [dw.ok,gB,fQ,gy,Bool.and_eq_true,Bool.or_eq_true,decide_eq_true_eq,Bool.not_eq_true',beq_iff_eq,bne_iff_ne,bC,List.length_eq_zero_iff,Bool.and_eq_false_iff,beq_eq_false_iff_ne,ne_eq]
 constructor
 ·rintro ⟨a1,a2,a3,a4,a5,⟨b1,b2,b3,b4,b5,b6⟩,a7,a8,a9,a10,a11,a12,a13,a14,a15,a16⟩
  refine⟨a1,a2,a3,a4,a5,?_,?_,?_,b4,b5,b6,a7,a8,a9,a10,a11,a12,a13,a14,a15,?_⟩
  ·rcases b1 with(h|h)|h
   ·exact .inl h
   ·exact .inr (.inl h)
   ·exact .inr (.inr h)
  ·rintro ⟨h1,h2⟩
   rcases b2 with h|h
   ·exact h h1
   ·rw [h]at h2;cases h2
  ·rcases b3 with h|⟨⟨h1,h2⟩,h3⟩
   ·exact .inl h
   ·exact .inr ⟨h1,h2,h3⟩
  ·rcases a16 with h|⟨⟨h1,h2⟩,h3⟩
   ·exact .inl h
   ·exact .inr ⟨h1,h2,h3⟩
 ·rintro ⟨a1,a2,a3,a4,a5,b1,b2,b3,b4,b5,b6,a7,a8,a9,a10,a11,a12,a13,a14,a15,a16⟩
  refine⟨a1,a2,a3,a4,a5,⟨?_,?_,?_,b4,b5,b6⟩,a7,a8,a9,a10,a11,a12,a13,a14,a15,?_⟩
  ·rcases b1 with h|h|h
   ·exact .inl (.inl h)
   ·exact .inl (.inr h)
   ·exact .inr h
  ·by_cases h:e.bR=2
   ·right
    cases he:atEnd e.au.av e.au.At
    ·rfl
    ·exact absurd ⟨h,he⟩ b2
   ·exact .inl h
  ·rcases b3 with h|⟨h1,h2,h3⟩
   ·exact .inl h
   ·exact .inr ⟨⟨h1,h2⟩,h3⟩
  ·rcases a16 with h|⟨h1,h2,h3⟩
   ·exact .inl h
   ·exact .inr ⟨⟨h1,h2⟩,h3⟩
theorem gI {t:List Int}{a:Int}(h1:t.length≤400)(h2:t.all iE=true)(h3:0≤a)(h4:a≤t.length):bV t a=true:=by
 simp only [bV,eT,Bool.and_eq_true,decide_eq_true_eq]
 exact⟨⟨h1,h2⟩,bC.2 ⟨h3,h4⟩⟩
theorem GY {mode:Int}{t:List Int}{a:Int}(h:bV t a=true):bV t (jq mode t a)=true∧¬(mode=2∧atEnd t (jq mode t a)=true):=by
 obtain⟨h1,h2,h3,h4⟩:=bU h
 unfold jq TB
 by_cases hm:mode=2
 ·rw [if_pos hm]
  cases he:atEnd t a
  ·rw [if_neg (by simp)]
   exact⟨h,fun e=>by rw [he]at e;cases e.2⟩
  ·rw [if_pos rfl]
   simp only [atEnd,Bool.and_eq_true,decide_eq_true_eq,beq_iff_eq]at he
   refine⟨gI h1 h2 (by omega) (by omega),fun e=>?_⟩
   have e:=e.2
   simp only [atEnd,Bool.and_eq_true,decide_eq_true_eq,beq_iff_eq]at e
   omega
 ·rw [if_neg hm]
  exact⟨h,fun e=>hm e.1⟩
theorem fO.aS {e:dw}(h:fO e):e.au.At=(aS e:Int)∧aS e≤e.au.av.length∧e.au.av.length≤400∧e.au.av.all iE=true:=by
 obtain⟨h1,h2,h3,h4⟩:=bU h.line
 unfold Proofs.YtlpdjhiggpblcaaGreat.aS
 exact⟨by omega,by omega,h1,h2⟩
theorem KX:(0:Int)≤0∧(0:Int)≤999:=by omega
theorem z3:(0:Int)≤0∧(0:Int)≤3:=by omega
theorem z60:(0:Int)≤0∧(0:Int)≤1000000060:=by omega
theorem gJ {c:Prop} [Decidable c]{a b:dw×Int}(ha:c→fO a.1)(hb:¬c→fO b.1):fO (if c then a else b).1:=by
 by_cases hc:c
 ·rw [if_pos hc];exact ha hc
 ·rw [if_neg hc];exact hb hc
theorem fO.idle {e:dw}(h:fO e)(last:Int)(hl:0≤last∧last≤3):fO (sU e last):=
 ⟨h.line,h.own,h.back,KX,KX,h.mode,h.end_, .inr ⟨rfl,rfl,rfl⟩, .inr rfl, .inl rfl, .inl rfl,h.find,hl,h.ring,h.undo,h.A8,h.hit,h.Pq,h.ql,h.qp,h.Pt⟩
theorem fO.Av {e:dw}(h:fO e):fO (dJ e).1:=h.idle 0 (by omega)
theorem fO.set {e:dw}(h:fO e){t:List Int}{a:Int}(last:Int)(ht:bV t a=true)(hl:0≤last∧last≤3):fO (sW e t a last):=by
 obtain⟨c1,c2⟩:=GY (mode:=e.bR) ht
 exact⟨c1,h.own,h.back,KX,KX,h.mode,c2, .inr ⟨rfl,rfl,rfl⟩, .inr rfl, .inl rfl, .inl rfl,h.find,hl,h.ring,adq (fD.2 h) t last,h.A8,h.hit,h.Pq,h.ql,h.qp,h.Pt⟩
theorem fO.put {e:dw}(h:fO e){t:List Int}{a:Int}(ht:bV t a=true):fO (wD e t a).1:=h.set 0 ht (by omega)
theorem fO.NW {e:dw}(h:fO e){l:List dL}(hl:iJ l=true):fO {e with aM:=⟨l⟩}:=
 ⟨h.line,h.own,h.back,h.cnt,h.zD,h.mode,h.end_,h.cmd,h.opz,h.op,h.wait,h.find,h.last,hl,h.undo,h.A8,h.hit,h.Pq,h.ql,h.qp,h.Pt⟩
theorem fO.go {e:dw}(h:fO e)(a:Int):fO (zG e a).1:=by
 obtain⟨h1,h2,h3,h4⟩:=h.aS
 exact h.put (gI h3 h4 (by unfold TH;omega) (by unfold TH;omega))
theorem uF {t:List Int}{a:Int}(h:bV t a=true){f u:Nat}(h1:f≤u)(h2:u≤t.length):bV (oz t f u) (cutAt a f u)=true∧(oz t f u).length=f+(t.length-u)∧bV (oz t f u) f=true:=by
 obtain⟨l1,l2,l3,l4⟩:=bU h
 have hl:(oz t f u).length=f+(t.length-u):=by unfold oz;simp;omega
 have hty:(oz t f u).all iE=true:=by
  refine List.all_eq_true.2 fun x hx=>?_
  rcases List.mem_append.1 hx with hx|hx
  ·exact List.all_eq_true.1 l2 x (List.mem_of_mem_take hx)
  ·exact List.all_eq_true.1 l2 x (List.mem_of_mem_drop hx)
 refine⟨gI (by omega) hty ?_ ?_,hl,gI (by omega) hty (by omega) (by omega)⟩
 ·unfold cutAt
  split
  ·omega
  ·split<;>omega
 ·unfold cutAt
  split
  ·omega
  ·split<;>omega
theorem JG {t:List Int}{a:Int}(h:bV t a=true){f u:Nat}:eT ((t.drop f).take (u-f))=true:=by
 obtain⟨l1,l2,l3,l4⟩:=bU h
 simp only [eT,Bool.and_eq_true,decide_eq_true_eq]
 exact⟨by simp;omega,List.all_eq_true.2 fun x hx=>List.all_eq_true.1 l2 x (List.mem_of_mem_drop (List.mem_of_mem_take hx))⟩
theorem fO.cut {e:dw}(h:fO e){f u:Nat}(h2:u≤e.au.av.length):fO (GQ e f u).1:=by
 unfold GQ
 (first|refine gJ (fun _=>?_) (fun _=>?_)|split)
 ·rename_i h1;exact h.put (uF h.line (by omega) h2).1
 ·exact h.Av
theorem fO.kill {e:dw}(h:fO e){f u:Nat}(how:Int)(h2:u≤e.au.av.length):fO (mJ e f u how).1:=by
 unfold mJ
 (first|refine gJ (fun _=>?_) (fun _=>?_)|split)
 ·rename_i h1
  exact(h.set 2 (uF h.line (by omega) h2).1 (by omega)).NW (GK h.ring (JG h.line) _)
 ·exact h.Av
theorem zQ {t u:List Int}{a:Nat}(h1:t.length+u.length≤400)(h2:t.all iE=true)(h3:u.all iE=true)(h4:a≤t.length):(AQ t a u).length=t.length+u.length∧∀b:Int,0≤b→b≤t.length+u.length→bV (AQ t a u) b=true:=by
 have hl:(AQ t a u).length=t.length+u.length:=by unfold AQ;simp;omega
 refine⟨hl,fun b b1 b2=>gI (by omega) (List.all_eq_true.2 fun x hx=>?_) b1 (by omega)⟩
 rcases List.mem_append.1 hx with hx|hx
 ·rcases List.mem_append.1 hx with hx|hx
  ·exact List.all_eq_true.1 h2 x (List.mem_of_mem_take hx)
  ·exact List.all_eq_true.1 h3 x hx
 ·exact List.all_eq_true.1 h2 x (List.mem_of_mem_drop hx)
theorem fO.ins {e:dw}(h:fO e){u:List Int}(hu:u.all iE=true)(last:Int)(hl:0≤last∧last≤3):fO (Da e u last).1:=by
 obtain⟨h1,h2,h3,h4⟩:=h.aS
 unfold Da
 (first|refine gJ (fun _=>?_) (fun _=>?_)|split)
 ·rename_i hc
  exact h.set last ((zQ hc h4 hu h2).2 _ (by omega) (by omega)) hl
 ·exact h.Av
theorem yC {l:List dL}(h:iJ l=true):(bE l).all iE=true∧(bE l).length≤400:=by
 unfold bE
 cases l with
 | nil=>exact⟨rfl,by simp⟩
 | cons p l=>
  have:=(xq h).2 p (by simp)
  exact⟨this.2.2,this.2.1⟩
theorem TK {l:List dL}(h:iJ l=true):iJ (lq l)=true:=by
 cases l with
 | nil=>rfl
 | cons p l=>
  unfold lq
  simp only [iJ,List.all_cons,Bool.and_eq_true,decide_eq_true_eq,List.length_cons]at h
  simp only [iJ,List.drop_succ_cons,List.drop_zero,List.take_succ_cons,List.take_zero,List.all_append,List.all_cons,List.all_nil,Bool.and_true,Bool.and_eq_true,decide_eq_true_eq,List.length_append,List.length_cons,List.length_nil]
  exact⟨⟨h.1.2,h.1.1⟩,by omega⟩
theorem fO.aol {e:dw}(h:fO e):fO (JB e).1:=by
 unfold JB
 (first|refine gJ (fun _=>?_) (fun _=>?_)|split)
 ·exact h.Av
 ·exact h.ins (yC h.ring).1 3 (by omega)
theorem fO.aiL {e:dw}(h:fO e):fO (nu e).1:=by
 obtain⟨h1,h2,h3,h4⟩:=h.aS
 unfold nu
 (first|refine gJ (fun _=>?_) (fun _=>?_)|split)
 ·rename_i hc
  obtain⟨hc1,hc2⟩:=hc
  simp only [QH,Bool.and_eq_true,decide_eq_true_eq]at hc1
  obtain⟨q1,q2,q3⟩:=uF h.line (show Proofs.YtlpdjhiggpblcaaGreat.aS e-(bE e.aM.aA).length≤Proofs.YtlpdjhiggpblcaaGreat.aS e by omega) h2
  obtain⟨-,c2, -, -⟩:=bU q1
  have hr:=TK h.ring
  refine(h.NW hr).set 3 ((zQ hc2 c2 (yC hr).1 (by omega)).2 _ (by omega) (by omega)) (by omega)
 ·exact h.Av
theorem fO.case {e:dw}(h:fO e)(how:Int):fO (Lj e how).1:=by
 obtain⟨h1,h2,h3,h4⟩:=h.aS
 have:=xu h2
 have hl:=uo e.au.av (Proofs.YtlpdjhiggpblcaaGreat.aS e) how (ig e.au.av (Proofs.YtlpdjhiggpblcaaGreat.aS e)-Proofs.YtlpdjhiggpblcaaGreat.aS e)
 exact h.put (gI (by omega) (BF h4 _ _ _) (by omega) (by omega))
theorem fO.digit {e:dw}(h:fO e){r:Int}(hr:iw r 48 57=true):fO (JC e r).1:=by
 have:=bC.1 hr
 have hc:=h.cnt
 exact⟨h.line,h.own,h.back,by show 0≤min (10*e.bA+r-48) 999∧min (10*e.bA+r-48) 999≤999;omega,h.zD,h.mode,h.end_,h.cmd,h.opz,h.op,h.wait,h.find,h.last,h.ring,h.undo,h.A8,h.hit,h.Pq,h.ql,h.qp,h.Pt⟩
theorem fO.meta_ {e:dw}(h:fO e)(r:Int):fO (Hy e r).1:=by
 obtain⟨h1,h2,h3,h4⟩:=h.aS
 unfold Hy
 (first|refine gJ (fun _=>?_) (fun _=>?_)|split)
 ·exact h.digit (by assumption)
 (first|refine gJ (fun _=>?_) (fun _=>?_)|split)
 ·exact h.go _
 (first|refine gJ (fun _=>?_) (fun _=>?_)|split)
 ·exact h.go _
 (first|refine gJ (fun _=>?_) (fun _=>?_)|split)
 ·exact h.kill _ (sw (fun a ha=>(xu ha).2) _ _ h2)
 (first|refine gJ (fun _=>?_) (fun _=>?_)|split)
 ·exact h.aiL
 (first|refine gJ (fun _=>?_) (fun _=>?_)|split)
 ·exact h.case _
 (first|refine gJ (fun _=>?_) (fun _=>?_)|split)
 ·exact h.case _
 (first|refine gJ (fun _=>?_) (fun _=>?_)|split)
 ·exact h.case _
 ·exact h.Av
theorem fO.swap {e:dw}(h:fO e):fO (TI e).1:=by
 obtain⟨h1,h2,h3,h4⟩:=h.aS
 unfold TI
 (first|refine gJ (fun _=>?_) (fun _=>?_)|split)
 ·exact h.Av
 ·rename_i hc
  have hl:=Ml e.au.av (min (Proofs.YtlpdjhiggpblcaaGreat.aS e) (e.au.av.length-1))
  exact h.put (gI (by omega) (GL h4 (by omega)) (by omega) (by omega))
theorem fO.akX {e:dw}(h:fO e):fO (nQ e).1:=by
 unfold nQ
 cases hu:e.eO.bP.getLast? with
 | none=>exact h.Av
 | some x=>
  obtain⟨u1,u2⟩:=pW h.undo
  have hx:=u2 x (List.mem_of_getLast? hu)
  obtain⟨c1,c2⟩:=GY (mode:=e.bR) hx
  refine⟨c1,h.own,h.back,KX,KX,h.mode,c2, .inr ⟨rfl,rfl,rfl⟩, .inr rfl, .inl rfl, .inl rfl,h.find,z3,h.ring,?_,h.A8,h.hit,h.Pq,h.ql,h.qp,h.Pt⟩
  exact Yn (by simp;omega) fun p hp=>u2 p (List.dropLast_subset _ hp)
theorem fO.aiM {e:dw}(h:fO e):fO (CU e).1:=
 ⟨h.line,h.own,h.line,KX,KX, .inr (.inr rfl),fun q=>absurd q.1 (by show ¬(3:Int)=2;decide), .inr ⟨rfl,rfl,rfl⟩, .inr rfl, .inl rfl, .inl rfl,h.find,z3,h.ring,h.undo,h.A8,z60,h.Pq,by simp [CU,sU],rfl, .inl rfl⟩
theorem KL {s:ByteArray}{t:List Int}(h:mK s=some t):eT t=true∧Reads s.data.toList t []:=by
 unfold mK at h
 split at h
 ·rename_i hc
  injection h with h
  subst h
  have:=uw s.data.toList
  rw [hc.1]at this
  exact⟨hc.2,this⟩
 ·cases h
theorem fO.step {e:dw}(h:fO e){f:Int}{l:List ByteArray}(hh:iB f l)(AB:Int):fO (jO e f l AB).1:=by
 unfold jO
 cases hs:uz e f l AB with
 | none=>exact h.Av
 | some x=>
  simp only
  have h1:=hh.first
  have h2:=hh.len
  unfold uz at hs
  (first|(rcases lF hs with⟨_,hs⟩|⟨_,hs⟩)|split at hs)
  ·rename_i hc
   injection hs with hs
   subst hs
   obtain⟨c1,c2⟩:=GY (mode:=e.bR) h.own
   exact⟨c1,rfl,h.back,KX,KX,h.mode,c2, .inr ⟨rfl,rfl,rfl⟩, .inr rfl, .inl rfl, .inl rfl,h.find,z3,h.ring,rfl,⟨by show(0:Int)≤0;omega,by show(0:Int)≤1000000060;omega⟩,h.hit, .inr rfl,h.ql,h.qp,h.Pt⟩
  ·split at hs
   ·cases hs
   ·rename_i t ht
    injection hs with hs
    subst hs
    cases hg:pY f l (Proofs.YtlpdjhiggpblcaaGreat.Li e f l+AB)with
    | none=>rw [hg]at ht;cases ht
    | some s=>
     rw [hg]at ht
     obtain⟨tok, -⟩:=KL ht
     unfold pY at hg
     split at hg
     ·rename_i hc
      have tl:=tok
      simp only [eT,Bool.and_eq_true,decide_eq_true_eq]at tl
      refine⟨?_,?_,h.back,KX,KX,h.mode,?_, .inr ⟨rfl,rfl,rfl⟩, .inr rfl, .inl rfl, .inl rfl,h.find,z3,h.ring,rfl,?_,h.hit, .inl ?_,h.ql,h.qp,h.Pt⟩
      ·refine gI tl.1 tl.2 ?_ ?_
       ·show 0≤(if e.bR=2 then(0:Int)else t.length);split<;>omega
       ·show(if e.bR=2 then(0:Int)else t.length)≤t.length;split<;>omega
      ·show bV (if e.jT=0 then e.au else e.gG).av (if e.jT=0 then e.au else e.gG).At=true
       (first|refine gJ (fun _=>?_) (fun _=>?_)|split)
       ·exact h.line
       ·exact h.own
      ·rintro ⟨q1,q2⟩
       have q1:e.bR=2:=q1
       have q2:atEnd t (if e.bR=2 then(0:Int)else t.length)=true:=q2
       rw [if_pos q1]at q2
       simp only [atEnd,Bool.and_eq_true,decide_eq_true_eq,beq_iff_eq]at q2
       omega
      ·show 0≤Proofs.YtlpdjhiggpblcaaGreat.Li e f l+AB∧Proofs.YtlpdjhiggpblcaaGreat.Li e f l+AB≤1000000060
       omega
      ·show ¬Proofs.YtlpdjhiggpblcaaGreat.Li e f l+AB=0
       omega
     ·cases hg
theorem fO.aom {e:dw}(h:fO e){f:Int}{l:List ByteArray}(hh:iB f l)(r:Int):fO (Ll e f l r).1:=by
 obtain⟨h1,h2,h3,h4⟩:=h.aS
 unfold Ll
 (first|refine gJ (fun _=>?_) (fun _=>?_)|split)
 ·exact h.go _
 (first|refine gJ (fun _=>?_) (fun _=>?_)|split)
 ·exact h.go _
 (first|refine gJ (fun _=>?_) (fun _=>?_)|split)
 ·exact h.go _
 (first|refine gJ (fun _=>?_) (fun _=>?_)|split)
 ·exact h.go _
 (first|refine gJ (fun _=>?_) (fun _=>?_)|split)
 ·exact h.step hh _
 (first|refine gJ (fun _=>?_) (fun _=>?_)|split)
 ·exact h.step hh _
 (first|refine gJ (fun _=>?_) (fun _=>?_)|split)
 ·exact h.kill _ (Nat.le_refl _)
 (first|refine gJ (fun _=>?_) (fun _=>?_)|split)
 ·exact h.aol
 (first|refine gJ (fun _=>?_) (fun _=>?_)|split)
 ·exact h.swap
 (first|refine gJ (fun _=>?_) (fun _=>?_)|split)
 ·exact h.akX
 (first|refine gJ (fun _=>?_) (fun _=>?_)|split)
 ·exact h.aiM
 ·exact h.Av
theorem fO.agw {e:dw}(h:fO e){r:Int}{p:dw×Int}(hp:iq e r=some p):fO p.1:=by
 obtain⟨h1,h2,h3,h4⟩:=h.aS
 have hd:fO (Q7 e).1:=h.cut (by omega)
 unfold iq at hp
 (first|(rcases lF hp with⟨_,hp⟩|⟨_,hp⟩)|split at hp)
 ·injection hp with hp;subst hp;exact h
 (first|(rcases lF hp with⟨_,hp⟩|⟨_,hp⟩)|split at hp)
 ·injection hp with hp;subst hp;exact h
 (first|(rcases lF hp with⟨_,hp⟩|⟨_,hp⟩)|split at hp)
 ·injection hp with hp;subst hp
  (first|refine gJ (fun _=>?_) (fun _=>?_)|split)
  ·exact h
  ·exact hd
 (first|(rcases lF hp with⟨_,hp⟩|⟨_,hp⟩)|split at hp)
 ·injection hp with hp;subst hp;exact h.kill _ h2
 (first|(rcases lF hp with⟨_,hp⟩|⟨_,hp⟩)|split at hp)
 ·injection hp with hp;subst hp;exact h.kill _ h2
 ·cases hp
theorem JH {p:Int→Bool}{r:Int}(h:p r=true)(n:Nat):(List.replicate n r).all p=true:=List.all_eq_true.2 fun x hx=>by rw [List.eq_of_mem_replicate hx];exact h
theorem fO.plain {e:dw}(h:fO e){f:Int}{l:List ByteArray}(hh:iB f l){k r:Int}(hk:ji k r=true){p:dw×Int}(hp:p8 e f l k r=some p):fO p.1:=by
 obtain⟨h1,h2,h3,h4⟩:=h.aS
 have hd:fO (Q7 e).1:=h.cut (by omega)
 unfold p8 at hp
 (first|(rcases lF hp with⟨_,hp⟩|⟨_,hp⟩)|split at hp)
 ·injection hp with hp;subst hp
  rename_i hk1
  subst hk1
  exact h.ins (JH (oG hk) _) 1 (by omega)
 (first|(rcases lF hp with⟨_,hp⟩|⟨_,hp⟩)|split at hp)
 ·injection hp with hp;subst hp;exact h.ins (JH (by decide) _) 1 (by omega)
 (first|(rcases lF hp with⟨_,hp⟩|⟨_,hp⟩)|split at hp)
 ·injection hp with hp;subst hp;exact h
 (first|(rcases lF hp with⟨_,hp⟩|⟨_,hp⟩)|split at hp)
 ·exact h.agw hp
 (first|(rcases lF hp with⟨_,hp⟩|⟨_,hp⟩)|split at hp)
 ·injection hp with hp;subst hp;exact h.cut h2
 (first|(rcases lF hp with⟨_,hp⟩|⟨_,hp⟩)|split at hp)
 ·injection hp with hp;subst hp;exact hd
 (first|(rcases lF hp with⟨_,hp⟩|⟨_,hp⟩)|split at hp)
 ·injection hp with hp;subst hp;exact h.go _
 (first|(rcases lF hp with⟨_,hp⟩|⟨_,hp⟩)|split at hp)
 ·injection hp with hp;subst hp;exact h.go _
 (first|(rcases lF hp with⟨_,hp⟩|⟨_,hp⟩)|split at hp)
 ·injection hp with hp;subst hp;exact h.go _
 (first|(rcases lF hp with⟨_,hp⟩|⟨_,hp⟩)|split at hp)
 ·injection hp with hp;subst hp;exact h.go _
 (first|(rcases lF hp with⟨_,hp⟩|⟨_,hp⟩)|split at hp)
 ·injection hp with hp;subst hp;exact h.step hh _
 (first|(rcases lF hp with⟨_,hp⟩|⟨_,hp⟩)|split at hp)
 ·injection hp with hp;subst hp;exact h.step hh _
 ·cases hp
theorem fO.emacs {e:dw}(h:fO e){f:Int}{l:List ByteArray}(hh:iB f l){k r:Int}(hk:ji k r=true):fO (Em e f l k r).1:=by
 obtain⟨h1,h2,h3,h4⟩:=h.aS
 unfold Em
 cases hp:p8 e f l k r with
 | some p=>exact h.plain hh hk hp
 | none=>
  simp only
  (first|refine gJ (fun _=>?_) (fun _=>?_)|split)
  ·exact h.meta_ r
  (first|refine gJ (fun _=>?_) (fun _=>?_)|split)
  ·exact h.kill _ h2
  (first|refine gJ (fun _=>?_) (fun _=>?_)|split)
  ·exact h.aom hh r
  ·exact h.Av
theorem dn (n most:Int)(h:0≤most):fJ [vI n,vI most] [] []=some ⟨vI (max 0 (min n most)),[],[]⟩:=by
 unfold fJ
 by_cases c1:n<0
 ·rw [show max 0 (min n most)=0 by omega]
  simp [func118,f118,c1]
 ·by_cases c2:most<n
  ·rw [show max 0 (min n most)=most by omega]
   simp [func118,f118,c1,c2]
  ·rw [show max 0 (min n most)=n by omega]
   simp [func118,f118,c1,c2]
theorem uG (a b c:List Int)(i j k:Option Nat)(h:a.length+b.length+c.length≤4000):nC [.aL i (ints a), .aL j (ints b), .aL k (ints c)] [] []=some ⟨.own 0,[],[(0,ints (a++b++c))]⟩:=by
 have g1:a.length*8≤140737488355328:=by omega
 have g2:a.length≤4611686018427387904:=by omega
 have g3:(a.length+b.length)*8≤140737488355328:=by omega
 have g4:a.length+b.length≤4611686018427387904:=by omega
 have g5:(a.length+b.length+c.length)*8≤140737488355328:=by omega
 have g6:a.length+b.length+c.length≤4611686018427387904:=by omega
 have g7:(a.length+(b.length+c.length))*8≤140737488355328:=by omega
 have g8:a.length+(b.length+c.length)≤4611686018427387904:=by omega
 simp [nC, -ak,←ak, -List.append_assoc,func113,f113,g1,g2,g3,g4,g5,g6,g7,g8]
theorem NY (t:List Int)(a:Int)(ok:Bool)(h:t.length≤1000000):ES [.agg [.aL (some 0) (ints t),vI a],V.v (.bool ok)] [] []=some (if ok=true∧bV t a=true then⟨.fU [.agg [.aL (some 0) (ints t),vI a],V.v (.bool true)],[],[]⟩else⟨.fU [.agg [.own 0,vI 0],V.v (.bool false)],[],[(0,[])]⟩):=by
 have e1:=dF t a (by omega)
 unfold ES
 cases ok
 ·rw [if_neg (by simp)]
  simp [func279,f279]
 ·cases hl:bV t a
  ·rw [hl]at e1
   rw [if_neg (by simp)]
   simp [func279,f279,e1]
  ·rw [hl]at e1
   rw [if_pos ⟨rfl,rfl⟩]
   simp [func279,f279,e1]
theorem Pv (t:List Int)(a at_:Int)(h:bV t a=true):zy [.agg [.aL (some 0) (ints t),vI a],vI at_] [] []=some ⟨.fU [.agg [.own 0,vI (max 0 (min at_ t.length))],V.v (.bool true)],[],[(0,ints t)]⟩:=by
 obtain⟨h1,h2,h3,h4⟩:=bU h
 have e1:=wu t a h
 have e2:=uG t [] [] (some 0) (some 1) (some 2) (by simp;omega)
 have e3:=dn at_ t.length (by omega)
 have e4:=NY t (max 0 (min at_ t.length)) true (by omega)
 rw [if_pos ⟨rfl,gI h1 h2 (by omega) (by omega)⟩]at e4
 simp only [List.append_nil,aZ]at e2
 generalize hE:zy _ _ _=R
 simp [zy, -ak,func247,f247,e1,e2,e3,e4]at hE
 exact hE.symm
theorem CV (t u:List Int)(a:Int)(h:bV t a=true)(hu:u.all iE=true)(hu2:u.length≤2000):rF [.agg [.aL (some 0) (ints t),vI a], .aL (some 1) (ints u)] [] []=
  some (if t.length+u.length≤400 then⟨.fU [.agg [.own 0,vI (a+u.length)],V.v (.bool true)],[],[(0,ints (AQ t a.toNat u))]⟩else⟨.fU [.agg [.own 0,vI 0],V.v (.bool false)],[],[(0,[])]⟩):=by
 obtain⟨h1,h2,h3,h4⟩:=bU h
 obtain⟨A,hA⟩:=Int.eq_ofNat_of_zero_le h3
 subst hA
 have hA:A≤t.length:=by omega
 rw [Int.toNat_natCast]
 have e1:=wu t A h
 have e2:=uG (t.take A) u (t.drop A) (some 0) (some 1) (some 2) (by simp;omega)
 have hXl:(t.take A++u++t.drop A).length=t.length+u.length:=by simp;omega
 have e3:=NY (t.take A++u++t.drop A) ((A:Int)+u.length) true (by omega)
 have q6:min A t.length=A:=by omega
 have q7:(A:Int)≤t.length:=by omega
 have q8:(t.drop A).take (t.length-A)=t.drop A:=List.take_of_length_le (by simp)
 have w:=bN ((A:Int)+u.length) (by omega)
 unfold AQ
 by_cases hc:t.length+u.length≤400
 ·rw [if_pos hc]
  rw [if_pos ⟨rfl,(zQ hc h2 hu hA).2 _ (by omega) (by omega)⟩]at e3
  generalize t.take A++u++t.drop A=X at*
  generalize hE:rF _ _ _=R
  simp [rF, -ak,func250,f250,e1,e2,e3,q6,q7,q8,hA,w]at hE
  exact hE.symm
 ·rw [if_neg hc]
  have hb:bV (t.take A++u++t.drop A) ((A:Int)+u.length)=false:=by unfold bV eT;rw [decide_eq_false (by omega)];rfl
  rw [hb,if_neg (by simp)]at e3
  generalize t.take A++u++t.drop A=X at*
  generalize hE:rF _ _ _=R
  simp [rF, -ak,func250,f250,e1,e2,e3,q6,q7,q8,hA,w]at hE
  exact hE.symm
theorem TL (t:List Int)(a:Int)(h:bV t a=true)(f u:Int):CG [.agg [.aL (some 0) (ints t),vI a],vI f,vI u] [] []=some ⟨V.v (.bool (decide (0≤f∧f≤u∧u≤t.length))),[],[]⟩:=by
 have e1:=wu t a h
 unfold CG
 by_cases c1:0≤f
 ·by_cases c2:f≤u
  ·by_cases c3:u≤t.length<;>simp [func252,f252,e1,c1,c2,c3]
  ·simp [func252,f252,e1,c1,c2]
 ·simp [func252,f252,e1,c1]
theorem CW (t:List Int)(a:Int)(h:bV t a=true)(f nk:Nat)(h1:f≤nk)(h2:nk≤t.length):rH [.agg [.aL (some 0) (ints t),vI a],vI (f:Int),vI (nk:Int)] [] []=some ⟨.fU [.agg [.own 0,vI (cutAt a f nk)], .own 1,V.v (.bool true)],[],[(0,ints (t.take f++t.drop nk)),(1,ints ((t.drop f).take (nk-f)))]⟩:=by
 obtain⟨h3,h4,h5,h6⟩:=bU h
 have e1:=TL t a h f nk
 rw [decide_eq_true ⟨by omega,by omega,by omega⟩]at e1
 have e2:=uG (t.take f) [] (t.drop nk) (some 0) (some 1) (some 2) (by simp;omega)
 have e3:=uG [] ((t.drop f).take (nk-f)) [] (some 0) (some 1) (some 2) (by simp;omega)
 simp only [List.append_nil,List.nil_append,aZ]at e2 e3
 have q1:(f:Int)≤nk:=by omega
 have q2:(nk:Int)≤t.length:=by omega
 have q3:(f:Int)≤t.length:=by omega
 have q4:f≤t.length:=by omega
 have q9:(t.drop nk).take (t.length-nk)=t.drop nk:=List.take_of_length_le (by simp)
 have w1:=bN ((nk:Int)-f) (by omega)
 have w2:=bN (a-((nk:Int)-f)) (by omega)
 unfold cutAt
 generalize t.take f++t.drop nk=X at*
 generalize hE:rH _ _ _=R
 unfold rH at hE
 by_cases c1:(nk:Int)≤a
 ·rw [if_pos c1]
  simp [-ak,func192,f192,e1,e2,e3,q1,q2,q3,q4,q9,w1,w2,c1,h1,h2]at hE
  exact hE.symm
 ·rw [if_neg c1]
  by_cases c2:(f:Int)<a
  ·rw [if_pos c2]
   simp [-ak,func192,f192,e1,e2,e3,q1,q2,q3,q4,q9,c1,c2,h1,h2]at hE
   exact hE.symm
  ·rw [if_neg c2]
   simp [-ak,func192,f192,e1,e2,e3,q1,q2,q3,q4,q9,c1,c2,h1,h2]at hE
   exact hE.symm
theorem KM {r lo hi:Int}(h:iw r lo hi=false):¬lo≤r∨(lo≤r∧¬r≤hi):=by
 by_cases c:lo≤r
 ·refine .inr ⟨c,fun q=>?_⟩
  rw [bC.2 ⟨c,q⟩]at h
  cases h
 ·exact .inl c
theorem GZ (r:Int):kM [vI r] [] []=some ⟨vI (kS r),[],[]⟩:=by
 generalize hE:kM _ _ _=R
 unfold kM at hE
 unfold kS
 by_cases h1:r=9
 ·subst h1;simp [func254,f254]at hE;exact hE.symm
 by_cases h2:r=10
 ·subst h2;simp [func254,f254]at hE;exact hE.symm
 by_cases h3:r=32
 ·subst h3;simp [func254,f254]at hE;exact hE.symm
 rw [if_neg (by omega)]
 cases h4:iw r 97 122
 case true=>
  obtain⟨c1,c2⟩:=bC.1 h4
  rw [if_pos (.inl rfl)]
  simp [func254,f254,h1,h2,h3,c1,c2]at hE
  exact hE.symm
 cases h5:iw r 65 90
 case true=>
  obtain⟨c1,c2⟩:=bC.1 h5
  rw [if_pos (.inr (.inl rfl))]
  have c3:¬97≤r:=by omega
  simp [func254,f254,h1,h2,h3,c1,c2,c3]at hE
  exact hE.symm
 cases h6:iw r 48 57
 case true=>
  obtain⟨c1,c2⟩:=bC.1 h6
  rw [if_pos (.inr (.inr (.inl rfl)))]
  have c3:¬97≤r:=by omega
  have c4:¬65≤r:=by omega
  simp [func254,f254,h1,h2,h3,c1,c2,c3,c4]at hE
  exact hE.symm
 have e9:=aW r
 have fin:∀c:Bool,(159<r→dh r=c)→(kM [vI r] [] []=some ⟨vI (if r=95∨(159<r∧c=true)then 1 else 2),[],[]⟩):=by
  intro c hc
  unfold kM
  have hq:159<r→oN [vI r] [] []=some ⟨V.v (.bool c),[],[]⟩:=fun q=>by rw [e9,hc q]
  rcases KM h4 with d1|⟨d1,d2⟩<;>rcases KM h5 with f1|⟨f1,f2⟩<;>rcases KM h6 with g1|⟨g1,g2⟩<;>(try omega)
  all_goals
   by_cases h7:r=95
   ·subst h7
    simp [func254,f254, *]
   ·by_cases h8:159<r
    ·have hq:=hq h8
     cases c<;>simp [func254,f254, *]
    ·simp [func254,f254, *]
 have:=fin (dh r) (fun _=>rfl)
 unfold kM at this
 rw [this]at hE
 rw [←hE]
 simp
theorem agx (t:List Int)(i:Option Nat)(a:Nat)(h:a≤t.length)(ht:t.length≤2000):Kt [.aL i (ints t),vI (a:Int)] [] []=some ⟨vI (((ig t a:Nat):Int)),[],[]⟩:=by
 have hc:∀j (h:j<t.length),kM [vI (t[j])] [] []=some ⟨vI (kS (t.getD j 0)),[],[]⟩:=fun j hj=>by rw [getD_at hj];exact GZ _
 unfold ig
 generalize hcf:(fun j=>kS (t.getD j 0))=cf
 have TJ:∀j,kS (t.getD j 0)=cf j:=fun j=>by rw [←hcf]
 simp only [TJ]at hc⊢
 have TM:=dn (a:Int) t.length (by omega)
 rw [show max 0 (min (a:Int) t.length)=a by omega]at TM
 obtain⟨k1,k2,k3⟩:=cB (fun j=>decide (¬cf (a+j)=1)) (t.length-a)
 generalize gP (fun j=>decide (¬cf (a+j)=1)) (t.length-a)=k at*
 obtain⟨n1,n2,n3⟩:=cB (fun j=>decide (cf (a+k+j)=1)) (t.length-(a+k))
 generalize gP (fun j=>decide (cf (a+k+j)=1)) (t.length-(a+k))=m at*
 have H6:∀m n:Nat,0≤(m:Int)+n∧((m:Int)+n).toNat=m+n:=fun m n=>⟨by omega,by omega⟩
 have tn3:∀m n p:Nat,0≤(m:Int)+n+p∧((m:Int)+n+p).toNat=m+n+p:=fun m n p=>⟨by omega,by omega⟩
 simp [Kt,func194,f194,TM]
 rw [aD (fun j=> .on ⟨[(1,V.v (.int .i64 (((a+j:Nat):Int)))),(0, .aL i (ints t))],[],[],[]⟩) k ?_ ?_]
 ·have st1:∀j,j<m→a+k+j<t.length∧cf (a+k+j)=1:=fun j hj=>⟨by omega,of_decide_eq_true (n2 j hj)⟩
  have hend:a+k=t.length∨(a+k<t.length∧cf (a+k)=1):=by
   rcases k3 with k3|k3
   ·exact .inl (by omega)
   ·by_cases q:a+k=t.length
    ·exact .inl q
    ·exact .inr ⟨by omega,by simpa using of_decide_eq_false k3⟩
  have hfin:a+k+m=t.length∨(a+k+m<t.length∧¬cf (a+k+m)=1):=by
   rcases n3 with n3|n3
   ·exact .inl (by omega)
   ·by_cases q:a+k+m=t.length
    ·exact .inl q
    ·exact .inr ⟨by omega,of_decide_eq_false n3⟩
  rcases hend with q|⟨q,q1⟩
  ·have q2:(a:Int)+k=t.length:=by omega
   have hm:m=0:=by omega
   subst hm
   simp [q,q2]
   rw [bO]
   simp
  ·have q2:(a:Int)+k<t.length:=by omega
   have e1:=hc (a+k) q
   rw [q1]at e1
   simp [q,q2,aQ q,e1,H6]
   rw [aD (fun j=> .on ⟨[(1,V.v (.int .i64 (((a+k+j:Nat):Int)))),(0, .aL i (ints t))],[],[],[]⟩) m ?_ ?_]
   ·rcases hfin with r|⟨r,r1⟩
    ·have r2:(a:Int)+k+m=t.length:=by omega
     simp [r,r2]
    ·have r2:(a:Int)+k+m<t.length:=by omega
     have e2:=hc (a+k+m) r
     simp [r,r2,aQ r,e2,r1,tn3]
   ·simp
   ·intro j hj
    obtain⟨s1,s2⟩:=st1 j hj
    have s3:(a:Int)+k+j<t.length:=by omega
    have e2:=hc (a+k+j) s1
    have hw:=bN ((a:Int)+k+(j+1)) (by omega)
    have hs:(a:Int)+k+j+1=(a:Int)+k+(j+1):=by omega
    simp [s1,s3,aQ s1,e2,s2,hw,hs,H6,tn3]
 ·simp
 ·intro j hj
  have s1:a+j<t.length:=by omega
  have s3:(a:Int)+j<t.length:=by omega
  have e2:=hc (a+j) s1
  have s2:¬cf (a+j)=1:=of_decide_eq_true (k2 j hj)
  have hw:=bN ((a:Int)+(j+1)) (by omega)
  have hs:(a:Int)+j+1=(a:Int)+(j+1):=by omega
  simp [s1,s3,aQ s1,e2,s2,hw,hs,H6,tn3]
theorem aaY (t:List Int)(i:Option Nat)(a:Nat)(h:a≤t.length)(ht:t.length≤2000):Dv [.aL i (ints t),vI (a:Int)] [] []=some ⟨vI (((fE t a:Nat):Int)),[],[]⟩:=by
 have hc:∀j (h:j<t.length),kM [vI (t[j])] [] []=some ⟨vI (kS (t.getD j 0)),[],[]⟩:=fun j hj=>by rw [getD_at hj];exact GZ _
 unfold fE
 generalize hcf:(fun j=>kS (t.getD j 0))=cf
 have TJ:∀j,kS (t.getD j 0)=cf j:=fun j=>by rw [←hcf]
 simp only [TJ]at hc⊢
 have TM:=dn (a:Int) t.length (by omega)
 rw [show max 0 (min (a:Int) t.length)=a by omega]at TM
 have idx:=NT h ht
 obtain⟨k1,k2,k3⟩:=cB (fun j=>decide (¬cf (a-j-1)=1)) a
 generalize gP (fun j=>decide (¬cf (a-j-1)=1)) a=k at*
 obtain⟨n1,n2,n3⟩:=cB (fun j=>decide (cf (a-k-j-1)=1)) (a-k)
 generalize gP (fun j=>decide (cf (a-k-j-1)=1)) (a-k)=m at*
 simp [Dv,func195,f195,TM]
 rw [aD (fun j=> .on ⟨[(1,V.v (.int .i64 (((a-j:Nat):Int)))),(0, .aL i (ints t))],[],[],[]⟩) k ?_ ?_]
 ·rcases k3 with k3|k3
  ·subst k3
   have hm:m=0:=by omega
   subst hm
   simp
   rw [bO]
   simp
  ·by_cases q0:k=a
   ·subst q0
    have hm:m=0:=by omega
    subst hm
    simp
    rw [bO]
    simp
   have q1:cf (a-k-1)=1:=by simpa using of_decide_eq_false k3
   have hpos:0<a-k:=by omega
   have hm2:∀j,j<m→cf (a-k-j-1)=1:=fun j hj=>of_decide_eq_true (n2 j hj)
   have hm3:m=a-k∨¬cf (a-k-m-1)=1:=n3.imp _root_.id of_decide_eq_false
   have hle:a-k≤a:=by omega
   generalize a-k=n at*
   obtain⟨i1,i2,i3,i4,i5,i6,i7,i8,i9⟩:=idx n hle hpos
   have e1:=hc (n-1) i1
   rw [q1]at e1
   simp [i1,i2,i3,i6,i7,i8,i9,hpos,aQ i1,e1]
   rw [aD (fun j=> .on ⟨[(1,V.v (.int .i64 (((n-j:Nat):Int)))),(0, .aL i (ints t))],[],[],[]⟩) m ?_ ?_]
   ·by_cases r:m=n
    ·subst r;simp
    ·have hp2:0<n-m:=by omega
     have r1:=hm3.resolve_left r
     have hle2:n-m≤a:=by omega
     generalize n-m=p at*
     obtain⟨i1,i2,i3,i4,i5,i6,i7,i8,i9⟩:=idx p hle2 hp2
     have e2:=hc (p-1) i1
     simp [i1,i2,i3,i6,i7,i8,i9,hp2,aQ i1,e2,r1]
   ·simp
   ·intro j hj
    have hp2:0<n-j:=by omega
    have r1:=hm2 j hj
    have hle2:n-j≤a:=by omega
    have hs:n-(j+1)=n-j-1:=by omega
    rw [hs]
    generalize n-j=p at*
    obtain⟨i1,i2,i3,i4,i5,i6,i7,i8,i9⟩:=idx p hle2 hp2
    have e2:=hc (p-1) i1
    simp [i1,i2,i3,i4,i6,i7,i8,i9,hp2,aQ i1,e2,r1]
 ·simp
 ·intro j hj
  have hp2:0<a-j:=by omega
  have r1:¬cf (a-j-1)=1:=of_decide_eq_true (k2 j hj)
  have hle2:a-j≤a:=by omega
  have hs:a-(j+1)=a-j-1:=by omega
  rw [hs]
  generalize a-j=p at*
  obtain⟨i1,i2,i3,i4,i5,i6,i7,i8,i9⟩:=idx p hle2 hp2
  have e2:=hc (p-1) i1
  simp [i1,i2,i3,i4,i6,i7,i8,i9,hp2,aQ i1,e2,r1]
theorem aaZ (r:Int)(big:Bool):tX [vI r,V.v (.bool big)] [] []=some ⟨vI (akd big r),[],[]⟩:=by
 have e:=GZ r
 unfold tX akd
 generalize kS r=c at*
 cases big
 ·simp [func278,f278,e]
 ·by_cases h2:c=2
  ·simp [func278,f278,e,h2]
  ·simp [func278,f278,e,h2]
theorem En (t:List Int)(j:Nat)(big:Bool)(hj:j<t.length):tX [vI (t[j]),V.v (.bool big)] [] []=some ⟨vI (dz t big j),[],[]⟩:=by
 unfold dz
 rw [getD_at hj]
 exact aaZ _ _
theorem Lp (t:List Int)(i:Option Nat)(a:Nat)(big:Bool)(h:a≤t.length)(ht:t.length≤2000):pO [.aL i (ints t),vI (a:Int),V.v (.bool big)] [] []=some ⟨vI (((lD t big a:Nat):Int)),[],[]⟩:=by
 have hc:=fun j (hj:j<t.length)=>En t j big hj
 have TM:=dn (a:Int) t.length (by omega)
 rw [show max 0 (min (a:Int) t.length)=a by omega]at TM
 have idx:=NT h ht
 unfold lD
 obtain⟨k1,k2,k3⟩:=cB (fun j=>decide (dz t big (a-j-1)=0)) a
 generalize gP (fun j=>decide (dz t big (a-j-1)=0)) a=k at*
 have hk2:∀j,j<k→dz t big (a-j-1)=0:=fun j hj=>of_decide_eq_true (k2 j hj)
 simp only
 by_cases hka:k=a
 ·rw [hka,Nat.sub_self,show gP (fun j=>decide (dz t big (0-j-1)=dz t big (0-1))) 0=0 from rfl]
  simp [pO,func246,f246,TM]
  rw [aD (fun j=> .on ⟨[(2,V.v (.bool big)),(1,V.v (.int .i64 (((a-j:Nat):Int)))),(0, .aL i (ints t))],[],[],[]⟩) k ?_ ?_]
  ·subst hka;simp
  ·simp
  ·intro j hj
   have hp2:0<a-j:=by omega
   have r1:=hk2 j hj
   have hle2:a-j≤a:=by omega
   have hs:a-(j+1)=a-j-1:=by omega
   rw [hs]
   generalize a-j=p at*
   obtain⟨i1,i2,i3,i4,i5,i6,i7,i8,i9⟩:=idx p hle2 hp2
   have e2:=hc (p-1) i1
   simp [i1,i2,i3,i4,i6,i7,i8,i9,aQ i1,e2,r1,hp2]
 ·have k4:¬dz t big (a-k-1)=0:=of_decide_eq_false (k3.resolve_left hka)
  have hn0:0<a-k:=by omega
  have alC:a-k≤a:=by omega
  simp [pO,func246,f246,TM]
  rw [aD (fun j=> .on ⟨[(2,V.v (.bool big)),(1,V.v (.int .i64 (((a-j:Nat):Int)))),(0, .aL i (ints t))],[],[],[]⟩) k ?_ ?_]
  ·generalize a-k=n at*
   obtain⟨n1,n2,n3⟩:=cB (fun j=>decide (dz t big (n-j-1)=dz t big (n-1))) n
   generalize gP (fun j=>decide (dz t big (n-j-1)=dz t big (n-1))) n=m at*
   have hm2:∀j,j<m→dz t big (n-j-1)=dz t big (n-1):=fun j hj=>of_decide_eq_true (n2 j hj)
   have hm3:m=n∨¬dz t big (n-m-1)=dz t big (n-1):=n3.imp _root_.id of_decide_eq_false
   obtain⟨i1,i2,i3,i4,i5,i6,i7,i8,i9⟩:=idx n alC hn0
   have e1:=hc (n-1) i1
   have hnz:¬n=0:=by omega
   simp [i1,i2,i3,i4,i5,i6,i7,i8,i9,aQ i1,e1,k4,hn0,hnz]
   rw [aD (fun j=> .on ⟨[(7,V.v (.int .i64 (dz t big (n-1)))),(2,V.v (.bool big)),(1,V.v (.int .i64 (((n-j:Nat):Int)))),(0, .aL i (ints t))],[],[],[]⟩) m ?_ ?_]
   ·by_cases r:m=n
    ·subst r;simp
    ·have hp2:0<n-m:=by omega
     have r1:=hm3.resolve_left r
     have hle2:n-m≤a:=by omega
     generalize n-m=p at*
     obtain⟨i1,i2,i3,i4,i5,i6,i7,i8,i9⟩:=idx p hle2 hp2
     have e2:=hc (p-1) i1
     simp [i1,i2,i3,i4,i6,i7,i8,i9,aQ i1,e2,r1,hp2]
   ·simp
   ·intro j hj
    have hp2:0<n-j:=by omega
    have r1:=hm2 j hj
    have hle2:n-j≤a:=by omega
    have hs:n-(j+1)=n-j-1:=by omega
    rw [hs]
    generalize n-j=p at*
    obtain⟨i1,i2,i3,i4,i5,i6,i7,i8,i9⟩:=idx p hle2 hp2
    have e2:=hc (p-1) i1
    simp [i1,i2,i3,i4,i6,i7,i8,i9,aQ i1,e2,r1,hp2]
  ·simp
  ·intro j hj
   have hp2:0<a-j:=by omega
   have r1:=hk2 j hj
   have hle2:a-j≤a:=by omega
   have hs:a-(j+1)=a-j-1:=by omega
   rw [hs]
   generalize a-j=p at*
   obtain⟨i1,i2,i3,i4,i5,i6,i7,i8,i9⟩:=idx p hle2 hp2
   have e2:=hc (p-1) i1
   simp [i1,i2,i3,i4,i6,i7,i8,i9,aQ i1,e2,r1,hp2]
theorem aa0 (t:List Int)(i:Option Nat)(a:Nat)(big:Bool)(h:a≤t.length)(ht:t.length≤2000):wX [.aL i (ints t),vI (a:Int),V.v (.bool big)] [] []=some ⟨vI (((GN t big a:Nat):Int)),[],[]⟩:=by
 have hc:=fun j (hj:j<t.length)=>En t j big hj
 have TM:=dn (a:Int) t.length (by omega)
 rw [show max 0 (min (a:Int) t.length)=a by omega]at TM
 have H6:∀m n:Nat,0≤(m:Int)+n∧((m:Int)+n).toNat=m+n:=fun m n=>⟨by omega,by omega⟩
 unfold GN
 by_cases h0:a<t.length
 ·have h0i:(a:Int)<t.length:=by omega
  have h0n:¬(a:Int)=t.length:=by omega
  have h0m:¬a=t.length:=by omega
  have e0:=hc a h0
  by_cases hz:dz t big a=0
  ·rw [if_neg (fun e=>e.2 hz)]
   simp only
   obtain⟨k1,k2,k3⟩:=cB (fun j=>decide (dz t big (a+j)=0)) (t.length-a)
   generalize gP (fun j=>decide (dz t big (a+j)=0)) (t.length-a)=k at*
   rw [hz]at e0
   simp [wX,func292,f292,TM,h0n,h0m,h0i,h0,aQ h0,e0]
   rw [bO]
   simp [h0i,h0]
   rw [aD (fun j=> .on ⟨[(2,V.v (.bool big)),(1,V.v (.int .i64 (((a+j:Nat):Int)))),(0, .aL i (ints t))],[],[],[]⟩) k ?_ ?_]
   ·by_cases q:a+k=t.length
    ·have q2:(a:Int)+k=t.length:=by omega
     simp [q,q2]
    ·have hq:a+k<t.length:=by omega
     have hq2:(a:Int)+k<t.length:=by omega
     have e1:=hc (a+k) hq
     have h3':¬dz t big (a+k)=0:=of_decide_eq_false (k3.resolve_left (by omega))
     simp [hq,hq2,H6,aQ hq,e1,h3']
   ·simp
   ·intro j hj
    have hq:a+j<t.length:=by omega
    have hq2:(a:Int)+j<t.length:=by omega
    have e1:=hc (a+j) hq
    have h2':dz t big (a+j)=0:=of_decide_eq_true (k2 j hj)
    have hw:=bN ((a:Int)+(j+1)) (by omega)
    have hs:(a:Int)+j+1=(a:Int)+(j+1):=by omega
    simp [hq,hq2,H6,aQ hq,e1,h2',hw,hs]
  ·rw [if_pos ⟨h0,hz⟩]
   unfold yt
   obtain⟨m1,m2,m3⟩:=cB (fun j=>decide (dz t big (a+j)=dz t big a)) (t.length-a)
   generalize gP (fun j=>decide (dz t big (a+j)=dz t big a)) (t.length-a)=m at*
   generalize hb:a+m=b at*
   obtain⟨k1,k2,k3⟩:=cB (fun j=>decide (dz t big (b+j)=0)) (t.length-b)
   simp only
   generalize gP (fun j=>decide (dz t big (b+j)=0)) (t.length-b)=k at*
   simp [wX,func292,f292,TM,h0n,h0m,h0i,h0,aQ h0,e0]
   rw [aD (fun j=> .on ⟨[(7,V.v (.int .i64 (dz t big a))),(2,V.v (.bool big)),(1,V.v (.int .i64 (((a+j:Nat):Int)))),(0, .aL i (ints t))],[],[],[]⟩) m ?_ ?_]
   ·have hst:(a:Int)+m=b:=by omega
    have hbl:b≤t.length:=by omega
    have next:b=t.length∨(b<t.length∧¬dz t big b=dz t big a):=by
     rcases m3 with m3|m3
     ·exact .inl (by omega)
     ·by_cases q:b=t.length
      ·exact .inl q
      ·exact .inr ⟨by omega,of_decide_eq_false m3⟩
    clear m1 m2 m3 hb
    generalize dz t big a=ca at*
    rcases next with rfl|⟨q,q1⟩
    ·have hk0:k=0:=by omega
     subst hk0
     simp [hst]
     rw [bO]
     simp
    ·have q2:(b:Int)<t.length:=by omega
     have e1:=hc b q
     simp [hst,q,q2,hz,aQ q,e1,q1]
     rw [aD (fun j=> .on ⟨[(2,V.v (.bool big)),(1,V.v (.int .i64 (((b+j:Nat):Int)))),(0, .aL i (ints t))],[],[],[]⟩) k ?_ ?_]
     ·by_cases q:b+k=t.length
      ·have q2:(b:Int)+k=t.length:=by omega
       simp [q,q2]
      ·have hq:b+k<t.length:=by omega
       have hq2:(b:Int)+k<t.length:=by omega
       have e1:=hc (b+k) hq
       have h3':¬dz t big (b+k)=0:=of_decide_eq_false (k3.resolve_left (by omega))
       simp [hq,hq2,H6,aQ hq,e1,h3']
     ·simp
     ·intro j hj
      have hq:b+j<t.length:=by omega
      have hq2:(b:Int)+j<t.length:=by omega
      have e1:=hc (b+j) hq
      have h2':dz t big (b+j)=0:=of_decide_eq_true (k2 j hj)
      have hw:=bN ((b:Int)+(j+1)) (by omega)
      have hs:(b:Int)+j+1=(b:Int)+(j+1):=by omega
      simp [hq,hq2,H6,aQ hq,e1,h2',hw,hs]
   ·simp
   ·intro j hj
    have hq:a+j<t.length:=by omega
    have hq2:(a:Int)+j<t.length:=by omega
    have e1:=hc (a+j) hq
    have h2':dz t big (a+j)=dz t big a:=of_decide_eq_true (m2 j hj)
    have hw:=bN ((a:Int)+(j+1)) (by omega)
    have hs:(a:Int)+j+1=(a:Int)+(j+1):=by omega
    rw [h2']at e1
    simp [hq,hq2,hz,H6,aQ hq,e1,hw,hs]
 ·have ha:a=t.length:=by omega
  rw [if_neg (fun e=>h0 e.1)]
  simp only
  rw [ha,Nat.sub_self,show gP (fun j=>decide (dz t big (t.length+j)=0)) 0=0 from rfl]
  rw [ha]at TM
  simp [wX,func292,f292,TM]
theorem Yu (t:List Int)(i:Option Nat)(a:Nat)(big:Bool)(h:a≤t.length)(ht:t.length≤2000):yc [.aL i (ints t),vI (a:Int),V.v (.bool big)] [] []=some ⟨vI (((yu t big a:Nat):Int)),[],[]⟩:=by
 have hc:=fun j (hj:j<t.length)=>En t j big hj
 have TM:=dn (a:Int) t.length (by omega)
 rw [show max 0 (min (a:Int) t.length)=a by omega]at TM
 have w1:=bN ((a:Int)+1) (by omega)
 have w2:=bN ((t.length:Int)-1) (by omega)
 have e3:=dn ((t.length:Int)-1) t.length (by omega)
 have tn3:∀m n:Nat,0≤(m:Int)+1+n∧((m:Int)+1+n).toNat=m+1+n:=fun m n=>⟨by omega,by omega⟩
 have H6:∀m n:Nat,0≤(m:Int)+n∧((m:Int)+n).toNat=m+n:=fun m n=>⟨by omega,by omega⟩
 unfold yu
 by_cases h0:t.length=0
 ·rw [if_pos h0]
  have:t= []:=List.length_eq_zero_iff.1 h0
  subst this
  have ha0:a=0:=by simpa using h
  subst ha0
  have e3:=dn (-1) 0 (by omega)
  rw [show max 0 (min (-1) (0:Int))=0 by omega]at e3
  have w2:=bN (-1) (by omega)
  simp at TM
  simp [yc,func293,f293,aZ,TM,w2]
  rw [bO]
  simp [e3,w2]
 rw [if_neg h0]
 obtain⟨k1,k2,k3⟩:=cB (fun j=>decide (dz t big (a+1+j)=0)) (t.length-(a+1))
 generalize gP (fun j=>decide (dz t big (a+1+j)=0)) (t.length-(a+1))=k at*
 rw [show max 0 (min ((t.length:Int)-1) t.length)=((t.length-1:Nat):Int) by omega]at e3
 simp only
 simp [yc,func293,f293,TM,w1]
 rw [aD (fun j=> .on ⟨[(2,V.v (.bool big)),(1,V.v (.int .i64 (((a+1+j:Nat):Int)))),(0, .aL i (ints t))],[],[],[]⟩) k ?_ ?_]
 ·by_cases q:t.length≤a+1+k
  ·have q2:¬(a:Int)+1+k<t.length:=by omega
   have q2n:¬a+1+k<t.length:=by omega
   have q3:(t.length:Int)≤(a:Int)+1+k:=by omega
   rw [if_pos q]
   simp [q2,q2n,q,q3,w2,e3]
  ·rw [if_neg q]
   have hq:a+1+k<t.length:=by omega
   have hq2:(a:Int)+1+k<t.length:=by omega
   have hq3:¬(t.length:Int)≤(a:Int)+1+k:=by omega
   have e1:=hc (a+1+k) hq
   have h3':¬dz t big (a+1+k)=0:=of_decide_eq_false (k3.resolve_left (by omega))
   unfold yt
   generalize hb:a+1+k=b at*
   have hbi:(a:Int)+1+k=b:=by omega
   obtain⟨m1,m2,m3⟩:=cB (fun j=>decide (dz t big (b+j)=dz t big b)) (t.length-b)
   generalize gP (fun j=>decide (dz t big (b+j)=dz t big b)) (t.length-b)=m at*
   have hm1:1≤m:=by
    rcases m3 with m3|m3
    ·omega
    ·cases m with
     | zero=>simp at m3
     | succ m=>omega
   obtain⟨m,rfl⟩:∃p,m=p+1:=⟨m-1,by omega⟩
   rw [show ((b+(m+1)-1:Nat):Int)=(b:Int)+m by omega]
   rw [hbi]at hq2 hq3
   simp [hbi,hq,hq2,hq3,q,aQ hq,e1,h3']
   rw [aD (fun j=> .on ⟨[(7,V.v (.int .i64 (dz t big b))),(2,V.v (.bool big)),(1,V.v (.int .i64 (((b+j:Nat):Int)))),(0, .aL i (ints t))],[],[],[]⟩) m ?_ ?_]
   ·have w4:=bN ((b:Int)+m+1) (by omega)
    rcases m3 with m3|m3
    ·have r2:(b:Int)+m+1=t.length:=by omega
     have r3:¬b+m+1<t.length:=by omega
     have w5:=bN (t.length:Int) (by omega)
     simp [w5,r2,r3]
    ·by_cases r:b+m+1<t.length
     ·have r2:(b:Int)+m+1<t.length:=by omega
      have r5:0≤(b:Int)+m+1:=by omega
      have r6:((b:Int)+m+1).toNat=b+m+1:=by omega
      have r4:¬dz t big (b+m+1)=dz t big b:=of_decide_eq_false m3
      have e2:=hc (b+m+1) r
      simp [w4,r,r2,r5,r6,aQ r,e2,r4]
     ·have r2:¬(b:Int)+m+1<t.length:=by omega
      simp [w4,r,r2]
   ·simp
   ·intro j hj
    have w4:=bN ((b:Int)+j+1) (by omega)
    have r:b+j+1<t.length:=by omega
    have r2:(b:Int)+j+1<t.length:=by omega
    have r5:0≤(b:Int)+j+1:=by omega
    have r6:((b:Int)+j+1).toNat=b+j+1:=by omega
    have r4:dz t big (b+j+1)=dz t big b:=of_decide_eq_true (m2 (j+1) (by omega))
    have e2:=hc (b+j+1) r
    have hs:(b:Int)+(j+1)=(b:Int)+j+1:=by omega
    simp [w4,r,r2,r5,r6,aQ r,e2,r4,hs]
 ·simp
 ·intro j hj
  have hq:a+1+j<t.length:=by omega
  have hq2:(a:Int)+1+j<t.length:=by omega
  have e1:=hc (a+1+j) hq
  have h2':dz t big (a+1+j)=0:=of_decide_eq_true (k2 j hj)
  have hw:=bN ((a:Int)+1+(j+1)) (by omega)
  have hs:(a:Int)+1+j+1=(a:Int)+1+(j+1):=by omega
  simp [hq,hq2,tn3,aQ hq,e1,h2',hw,hs]
theorem agy {t:List Int}{k:Nat}(h0:1≤k)(h:k<t.length):∃p x y q,t=p++x::y::q∧p.length=k-1:=by
 refine⟨t.take (k-1),t[k-1],t[k],t.drop (k+1),?_,by simp;omega⟩
 have e1:t.drop (k-1)=t[k-1]::t.drop (k-1+1):=List.drop_eq_getElem_cons (by omega)
 have e2:t.drop k=t[k]::t.drop (k+1):=List.drop_eq_getElem_cons h
 rw [show k-1+1=k by omega,e2]at e1
 rw [←e1,List.take_append_drop]
theorem adv {t:List Int}{k:Nat}(h0:1≤k)(h:k<t.length):t.take (k-1)++(t.drop k).take 1++(t.drop (k-1)).take 1++t.drop (k+1)=swapAt t k:=by
 obtain⟨p,x,y,q,rfl,hp⟩:=agy h0 h
 have hk:k=p.length+1:=by omega
 subst hk
 unfold swapAt
 have d1:p.drop (p.length+1)= []:=List.drop_eq_nil_of_le (by omega)
 have d2:p.drop (p.length+1+1)= []:=List.drop_eq_nil_of_le (by omega)
 have d3:p.length+1-p.length=1:=by omega
 have d4:p.length+1+1-p.length=2:=by omega
 simp [List.take_append,List.drop_append,List.getD_eq_getElem?_getD,List.getElem?_append,List.set_append,d1,d2,d3,d4]
theorem aa1 (t:List Int)(a:Int)(h:bV t a=true)(h2:2≤t.length)(k:Nat)(hk:(k:Int)=min a (t.length-1))(hk0:1≤k):tY [.agg [.aL (some 0) (ints t),vI a]] [] []=some ⟨.fU [.agg [.own 0,vI ((k:Int)+1)],V.v (.bool true)],[],[(0,ints (swapAt t k))]⟩:=by
 obtain⟨h3,h4,h5,h6⟩:=bU h
 have e1:=wu t a h
 have hkl:k<t.length:=by omega
 have e2:=uG (t.take (k-1)) ((t.drop k).take 1) ((t.drop (k-1)).take 1) (some 0) (some 1) (some 2) (by simp;omega)
 have e3:=uG (t.take (k-1)++(t.drop k).take 1++(t.drop (k-1)).take 1) (t.drop (k+1)) [] (some 0) (some 1) (some 2) (by simp;omega)
 rw [List.append_nil,adv hk0 hkl,aZ]at e3
 generalize t.take (k-1)++(t.drop k).take 1++(t.drop (k-1)).take 1=X at*
 generalize swapAt t k=Z at*
 have a0:¬a=0:=by omega
 have l2:¬(t.length:Int)<2:=by omega
 have w0:=bN ((t.length:Int)-1) (by omega)
 have w1:=bN ((k:Int)-1) (by omega)
 have w2:=bN ((k:Int)+1) (by omega)
 have q1:((k:Int)-1).toNat=k-1:=by omega
 have q2:((k:Int)+1).toNat=k+1:=by omega
 have q3:1≤(k:Int):=by omega
 have q4:(k:Int)-1≤t.length:=by omega
 have q5:(k:Int)≤(k:Int)+1:=by omega
 have q6:(k:Int)+1≤t.length:=by omega
 have q7:(k:Int)-1≤k:=by omega
 have q8:(k:Int)≤t.length:=by omega
 have q9:k+1-k=1:=by omega
 have qa:k-(k-1)=1:=by omega
 have qb:(t.drop (k+1)).take (t.length-(k+1))=t.drop (k+1):=List.take_of_length_le (by simp)
 have qc:0≤(k:Int)+1:=by omega
 generalize hE:tY _ _ _=R
 unfold tY at hE
 by_cases hc:a=t.length
 ·have hk2:(t.length:Int)-1=k:=by omega
  rw [hc]at hE e1
  have w3:=bN (k:Int) (by omega)
  have ht0:¬t= []:=fun q=>by rw [q]at h2;simp at h2
  simp [-ak,func198,f198,ht0,w3,e1,e2,e3,l2,w0,hk2,w1,w2,q1,q2,q3,q4,q5,q6,q7,q8,q9,qa,qb,qc]at hE
  exact hE.symm
 ·have hk2:a=k:=by omega
  subst hk2
  have hc2:¬(k:Int)=t.length:=hc
  have k0:¬k=0:=by omega
  have hc3:¬k=t.length:=by omega
  simp [-ak,func198,f198,e1,e2,e3,l2,k0,hc2,hc3,w1,w2,q1,q2,q3,q4,q5,q6,q7,q8,q9,qa,qb,qc]at hE
  exact hE.symm
end Go.Proofs.YtlpdjhiggpblcaaGreat
