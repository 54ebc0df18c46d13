/- Part 11 of a proof in several texts (an abstract evaluator, what the functions compute). -/
import Derived.Test.YtlpdjhiggpblcaaGreatPkEdKey10
open Go.Proofs.Tryz
namespace Go.Proofs.YtlpdjhiggpblcaaGreat
set_option linter.unusedSectionVars false
set_option linter.unusedSimpArgs false
set_option linter.unusedVariables false
open Go.RowKit
set_option maxHeartbeats 8000000
set_option maxRecDepth 10000
def upI (r:Int):Int:=if iq r 97 122=true then r-32 else r
def Na (r:Int):Int:=if iq r 65 90=true then r+32 else r
theorem tJ (r:Int):IK [vI r] [] []=some ⟨vI (upI r),[],[]⟩:=by
 unfold IK upI
 by_cases h:iq r 97 122=true
 ·have:=bB.1 h
  have w:=bM (r-32) (by omega)
  simp [func224,f224,fK,h,w]
 ·simp [func224,f224,fK,h]
theorem tK (r:Int):IL [vI r] [] []=some ⟨vI (Na r),[],[]⟩:=by
 unfold IL Na
 by_cases h:iq r 65 90=true
 ·have:=bB.1 h
  have w:=bM (r+32) (by omega)
  simp [func225,f225,eT,h,w]
 ·simp [func225,f225,eT,h]
def isLet (r:Int):Bool:=iq r 97 122||iq r 65 90
def jN (t:List Int)(f:Nat)(how:Int):Nat→List Int×Bool
 | 0=>(t,true)
 | j+1=>
  if isLet ((jN t f how j).1.getD (f+j) 0)=true then((jN t f how j).1.set (f+j) (if how=1∨(how=2∧(jN t f how j).2=true)then upI ((jN t f how j).1.getD (f+j) 0)else Na ((jN t f how j).1.getD (f+j) 0)),false)else jN t f how j
theorem tL (t:List Int)(f:Nat)(how:Int):∀j,(jN t f how j).1.length=t.length
 | 0=>rfl
 | j+1=>by
  have ih:=tL t f how j
  unfold jN
  split
  ·simpa using ih
  ·exact ih
theorem J5 {r:Int}(h:isLet r=true):iB (upI r)=true∧iB (Na r)=true:=by
 unfold isLet at h
 simp only [Bool.or_eq_true,bB]at h
 have key:∀x:Int,65≤x→x≤122→iB x=true:=fun x h1 h2=>by
  unfold iB dn mg iq
  simp only [Bool.or_eq_true,Bool.and_eq_true,decide_eq_true_eq,Bool.not_eq_true',Bool.and_eq_false_iff,decide_eq_false_iff_not]
  exact .inl (.inl ⟨⟨⟨⟨by omega,by omega⟩,by omega⟩,by omega⟩,by omega⟩)
 refine⟨?_,?_⟩
 ·unfold upI
  split
  ·rename_i h1;rw [bB]at h1;exact key _ (by omega) (by omega)
  ·exact key _ (by omega) (by omega)
 ·unfold Na
  split
  ·rename_i h1;rw [bB]at h1;exact key _ (by omega) (by omega)
  ·exact key _ (by omega) (by omega)
theorem Ja {l:List Int}{p:Int→Bool}(h:l.all p=true)(i:Nat){x:Int}(hx:p x=true):(l.set i x).all p=true:=by
 refine List.all_eq_true.2 fun y hy=>?_
 rcases List.mem_or_eq_of_mem_set hy with hy|rfl
 ·exact List.all_eq_true.1 h y hy
 ·exact hx
theorem Bd {t:List Int}(h:t.all iB=true)(f:Nat)(how:Int):∀j,(jN t f how j).1.all iB=true
 | 0=>h
 | j+1=>by
  have ih:=Bd h f how j
  unfold jN
  split
  ·rename_i hl
   refine Ja ih _ ?_
   split
   ·exact(J5 hl).1
   ·exact(J5 hl).2
  ·exact ih
theorem afP (t:List Int)(a:Int)(h:bU t a=true)(f mQ:Nat)(h1:f≤mQ)(h2:mQ≤t.length)(i:Option Nat):yQ [.agg [.aM (some 0) (ints t),vI a],vI (f:Int),vI (mQ:Int)] [] []=some ⟨V.v (.bool true),[],[]⟩:=by
 have hl:=bS h
 have e1:=bP t a (by omega)
 rw [h]at e1
 have q1:(f:Int)≤mQ:=by omega
 have q2:(mQ:Int)≤t.length:=by omega
 simp [yQ,func222,f222,e1,q1,q2]
theorem aam (t:List Int)(a:Int)(h:bU t a=true)(f mQ:Nat)(h1:f≤mQ)(h2:mQ≤t.length)(how:Int)(hw:0≤how∧how≤2):zN [.agg [.aM (some 0) (ints t),vI a],vI (f:Int),vI (mQ:Int),vI how] [] []=some ⟨.fT [.agg [.own 0,vI (mQ:Int)],V.v (.bool true)],[],[(0,ints (jN t f how (mQ-f)).1)]⟩:=by
 have hl:=bS h
 have e1:=afP t a h f mQ h1 h2 none
 have e2:=vo t (some 0) a mQ (by omega)
 have m1:max 0 (min (mQ:Int) t.length)=mQ:=by omega
 rw [m1]at e2
 have q1:iq how 0 2=true:=bB.2 hw
 generalize hE:zN _ _ _=R
 simp [zN,func161,f161,e1,e2,dG,q1]at hE
 rw [aF (fun j=> .on ⟨[(12,V.v (.int .i64 (((f+j:Nat):Int)))),(11,V.v (.bool ((jN t f how j).2))),(10, .ref 10 0),(8, .ref 8 0),(3,V.v (.int .i64 how)),(2,V.v (.int .i64 ((mQ:Int))))],[(10,[.own 2000000000,vI (mQ:Int)]),(8,[.own 2000000001,vI 0])],[(2000000001,[]),(2000000000,ints (jN t f how j).1)],[]⟩) (mQ-f) ?_ ?_]at hE
 ·have q2:(f:Int)+((mQ-f:Nat):Int)=mQ:=by omega
  have q3:f+(mQ-f)=mQ:=by omega
  simp [q2,q3]at hE
  exact hE.symm
 ·simp [jN]
 ·intro j hj
  have hjl:f+j<(jN t f how j).1.length:=by rw [tL];omega
  have hq:f+j<mQ:=by omega
  have hq2:(f:Int)+j<mQ:=by omega
  have hjt:f+j<t.length:=by omega
  have hq3:(f:Int)+j<t.length:=by omega
  have hlen:=tL t f how j
  have hw1:=bM ((f:Int)+(j+1)) (by omega)
  have hs:(f:Int)+j+1=(f:Int)+(j+1):=by omega
  rw [jN]
  have hgd:(jN t f how j).1.getD (f+j) 0=(jN t f how j).1[f+j]:=by rw [List.getD_eq_getElem?_getD,List.getElem?_eq_getElem hjl];rfl
  rw [hgd]
  generalize hX:jN t f how j=X at*
  obtain⟨u,fst⟩:=X
  simp only at hjl hlen hgd⊢
  have hgu:=aQ hjl
  generalize hr:u[f+j]=r at*
  have hset:∀x:Int,(ints u).set (f+j) [.a (.int .i64 x)]=ints (u.set (f+j) x):=fun x=>yZ u (f+j) x
  have Uv:0≤(f:Int)+j:=by omega
  have GX:((f:Int)+j).toNat=f+j:=by omega
  unfold isLet
  by_cases c1:iq r 97 122=true
  ·by_cases c3:how=1∨(how=2∧fst=true)
   ·rcases c3 with c3|⟨c3,c4⟩
    ·simp [hq,hq2,hq3,hjt,hlen,hgu,hr,Uv,GX,fK,eT,tJ,tK,c1,c3,hw1,hs,hset]
    ·simp [hq,hq2,hq3,hjt,hlen,hgu,hr,Uv,GX,fK,eT,tJ,tK,c1,c3,c4,hw1,hs,hset]
   ·have c4:¬how=1:=fun e=>c3 (.inl e)
    by_cases c5:how=2
    ·have c6:fst=false:=by cases fst;rfl;exact absurd (.inr ⟨c5,rfl⟩) c3
     simp [hq,hq2,hq3,hjt,hlen,hgu,hr,Uv,GX,fK,eT,tJ,tK,c1,c5,c6,hw1,hs,hset]
    ·simp [hq,hq2,hq3,hjt,hlen,hgu,hr,Uv,GX,fK,eT,tJ,tK,c1,c4,c5,hw1,hs,hset]
  ·by_cases c2:iq r 65 90=true
   ·by_cases c3:how=1∨(how=2∧fst=true)
    ·rcases c3 with c3|⟨c3,c4⟩
     ·simp [hq,hq2,hq3,hjt,hlen,hgu,hr,Uv,GX,fK,eT,tJ,tK,c1,c2,c3,hw1,hs,hset]
     ·simp [hq,hq2,hq3,hjt,hlen,hgu,hr,Uv,GX,fK,eT,tJ,tK,c1,c2,c3,c4,hw1,hs,hset]
    ·have c4:¬how=1:=fun e=>c3 (.inl e)
     by_cases c5:how=2
     ·have c6:fst=false:=by cases fst;rfl;exact absurd (.inr ⟨c5,rfl⟩) c3
      simp [hq,hq2,hq3,hjt,hlen,hgu,hr,Uv,GX,fK,eT,tJ,tK,c1,c2,c5,c6,hw1,hs,hset]
     ·simp [hq,hq2,hq3,hjt,hlen,hgu,hr,Uv,GX,fK,eT,tJ,tK,c1,c2,c4,c5,hw1,hs,hset]
   ·simp [hq,hq2,hq3,hjt,hlen,hgu,hr,Uv,GX,fK,eT,c1,c2,hw1,hs]
def swapAt (t:List Int)(k:Nat):List Int:=(t.set (k-1) (t.getD k 0)).set k (t.getD (k-1) 0)
theorem aan (t:List Int)(a:Int)(h:bU t a=true)(h2:2≤t.length)(k:Nat)(hk:(k:Int)=min a (t.length-1))(hk0:1≤k):oJ [.agg [.aM (some 0) (ints t),vI a]] [] []=some ⟨.fT [.agg [.own 0,vI ((k:Int)+1)],V.v (.bool true)],[],[(0,ints (swapAt t k))]⟩:=by
 have hl:=bS h
 have e1:=bP t a (by omega)
 rw [h]at e1
 have e2:=vo t (some 0) a ((k:Int)+1) (by omega)
 have m1:max 0 (min ((k:Int)+1) t.length)=(k:Int)+1:=by omega
 rw [m1]at e2
 have hkl:k<t.length:=by omega
 have hk1:k-1<t.length:=by omega
 have w1:=bM ((t.length:Int)-1) (by omega)
 have w2:=bM ((k:Int)+1) (by omega)
 have w3:=bM ((k:Int)-1) (by omega)
 have a0:¬a=0:=by omega
 have l2:¬(t.length:Int)<2:=by omega
 have i1:(k:Int)<t.length:=by omega
 have i2:(k:Int)-1<t.length:=by omega
 have i3:0≤(k:Int)-1:=by omega
 have i4:((k:Int)-1).toNat=k-1:=by omega
 have i5:1≤(k:Int):=by omega
 have hset:∀(u:List Int) (j:Nat) (x:Int),(ints u).set j [.a (.int .i64 x)]=ints (u.set j x):=fun u j x=>yZ u j x
 have g1:t.getD k 0=t[k]:=by rw [List.getD_eq_getElem?_getD,List.getElem?_eq_getElem hkl];rfl
 have g2:t.getD (k-1) 0=t[k-1]:=by rw [List.getD_eq_getElem?_getD,List.getElem?_eq_getElem hk1];rfl
 have alL:k<(t.set (k-1) t[k]).length:=by simpa using hkl
 have hgs:=aQ alL
 unfold swapAt
 rw [g1,g2]
 generalize hE:oJ _ _ _=R
 simp [oJ,func168,f168,e1,e2,a0,l2,w1,w2,w3,←hk,i1,i2,i3,i4,i5,hkl,hk1,aQ hkl,aQ hk1,hset]at hE
 exact hE.symm
theorem SN (t:List Int)(a:Int)(h:bU t a=true)(h2:t.length<2∨a=0):oJ [.agg [.aM (some 0) (ints t),vI a]] [] []=some ⟨.fT [.agg [.own 0,vI 0],V.v (.bool false)],[],[(0,[])]⟩:=by
 have hl:=bS h
 have e1:=bP t a (by omega)
 rw [h]at e1
 unfold oJ
 by_cases c:t.length<2
 ·have l2:(t.length:Int)<2:=by omega
  simp [func168,f168,e1,l2]
 ·have l2:¬(t.length:Int)<2:=by omega
  have a0:a=0:=h2.resolve_left c
  subst a0
  simp [func168,f168,e1,l2]
theorem Lu (t:List Int)(k:Nat):(swapAt t k).length=t.length:=by unfold swapAt;simp
theorem Gj {t:List Int}(h:t.all iB=true){k:Nat}(hk:k<t.length):(swapAt t k).all iB=true:=by
 unfold swapAt
 have g:∀j,j<t.length→iB (t.getD j 0)=true:=fun j hj=>by
  rw [List.getD_eq_getElem?_getD,List.getElem?_eq_getElem hj]
  exact List.all_eq_true.1 h _ (List.getElem_mem hj)
 exact Ja (Ja h _ (g k hk)) _ (g (k-1) (by omega))
def gM (p:Nat→Bool):Nat→Nat
 | 0=>0
 | n+1=>if gM p n=n∧p n=true then n+1 else gM p n
theorem cK (p:Nat→Bool):∀n,gM p n≤n∧(∀j,j<gM p n→p j=true)∧(gM p n=n∨p (gM p n)=false)
 | 0=>⟨Nat.le_refl _,fun j h=>absurd h (Nat.not_lt_zero _), .inl rfl⟩
 | n+1=>by
  obtain⟨h1,h2,h3⟩:=cK p n
  unfold gM
  by_cases h:gM p n=n∧p n=true
  ·rw [if_pos h]
   refine⟨Nat.le_refl _,fun j hj=>?_, .inl rfl⟩
   by_cases e:j<gM p n
   ·exact h2 j e
   ·have:j=n:=by omega
    rw [this];exact h.2
  ·rw [if_neg h]
   refine⟨by omega,h2, .inr ?_⟩
   rcases h3 with h3|h3
   ·rw [h3]
    cases e:p n
    ·rfl
    ·exact absurd ⟨h3,e⟩ h
   ·exact h3
def kM (r:Int):Int:=if r=9∨r=10∨r=32 then 0 else if iq r 97 122=true∨iq r 65 90=true∨iq r 48 57=true∨r=95∨(159<r∧dn r=true)then 1 else 2
def ajm (big:Bool)(r:Int):Int:=if big=true∧kM r=2 then 1 else kM r
def dx (t:List Int)(big:Bool)(j:Nat):Int:=ajm big (t.getD j 0)
def gZ (t:List Int)(a:Nat):Nat:=
 let k:=gM (fun j=>decide (¬kM (t.getD (a+j) 0)=1)) (t.length-a)
 a+k+gM (fun j=>decide (kM (t.getD (a+k+j) 0)=1)) (t.length-(a+k))
def fE (t:List Int)(a:Nat):Nat:=
 let k:=gM (fun j=>decide (¬kM (t.getD (a-j-1) 0)=1)) a
 a-k-gM (fun j=>decide (kM (t.getD (a-k-j-1) 0)=1)) (a-k)
def xP (t:List Int)(big:Bool)(a:Nat):Nat:=a+gM (fun j=>decide (dx t big (a+j)=dx t big a)) (t.length-a)
def Gl (t:List Int)(big:Bool)(a:Nat):Nat:=
 let b:=if a<t.length∧¬dx t big a=0 then xP t big a else a
 b+gM (fun j=>decide (dx t big (b+j)=0)) (t.length-b)
def kV (t:List Int)(big:Bool)(a:Nat):Nat:=
 let n:=a-gM (fun j=>decide (dx t big (a-j-1)=0)) a
 n-gM (fun j=>decide (dx t big (n-j-1)=dx t big (n-1))) n
def xQ (t:List Int)(big:Bool)(a:Nat):Nat:=
 if t.length=0 then 0 else
 let c:=a+1+gM (fun j=>decide (dx t big (a+1+j)=0)) (t.length-(a+1))
 if t.length≤c then t.length-1 else xP t big c-1
def dD (f:Nat→Nat):Nat→Nat→Nat
 | 0,a=>a
 | n+1,a=>dD f n (f a)
theorem pJ (f:Nat→Nat):∀n a,dD f (n+1) a=f (dD f n a)
 | 0,a=>rfl
 | n+1,a=>by show dD f (n+1) (f a)=_;rw [pJ f n (f a)];rfl
def jA (t:List Int)(r how:Int)(a:Nat):Option Nat:=
 if how=0 then
  let k:=gM (fun j=>decide (¬t.getD (a+1+j) 0=r)) (t.length-(a+1))
  if a+1+k<t.length then some (a+1+k)else none
 else if how=1 then
  let k:=gM (fun j=>decide (¬t.getD (a-1-j) 0=r)) a
  if k<a then some (a-1-k)else none
 else if how=2 then
  let k:=gM (fun j=>decide (¬t.getD (a+2+j) 0=r)) (t.length-(a+2))
  if a+2+k<t.length then some (a+1+k)else none
 else if how=3 then
  let k:=gM (fun j=>decide (¬t.getD (a-2-j) 0=r)) (a-1)
  if k<a-1 then some (a-1-k)else none
 else none
def tN (t:List Int)(r how:Int):Nat→Nat→Option Nat
 | 0,a=>some a
 | n+1,a=>match jA t r how a with
  | none=>none
  | some p=>tN t r how n p
def iZ (r:Int):Int:=if r=102 then 0 else if r=70 then 1 else if r=116 then 2 else if r=84 then 3 else -1
def Ak (t:List Int):Nat:=gM (fun j=>decide (kM (t.getD j 0)=0)) t.length
def gN (t:List Int)(a:Nat)(r:Int)(n:Nat):Option (Nat×Bool):=
 if r=104 then some (a-n,false)
 else if r=108∨r=32 then some (min (a+n) t.length,false)
 else if r=119∨r=87 then some (dD (Gl t (decide (r=87))) n a,false)
 else if r=98∨r=66 then some (dD (kV t (decide (r=66))) n a,false)
 else if r=101∨r=69 then some (dD (xQ t (decide (r=69))) n a,decide (0<t.length))
 else if r=48 then some (0,false)
 else if r=94 then some (Ak t,false)
 else if r=36 then some (t.length-1,decide (0<t.length))
 else if r=124 then some (min (n-1) t.length,false)
 else none
def aS (e:dF):Nat:=e.ak.At.toNat
def gQ (e:dF):Nat:=(max e.bD 1).toNat
def gW (e:dF):Nat:=(min (max e.bD 1*max e.bN 1) 999).toNat
def SQ (a:Int)(n:Nat):Int:=max 0 (min a n)
def nW (t:List Int)(f u:Nat):List Int:=t.take f++t.drop u
def sj (e:dF)(last:Int):dF:= {e with bD:=0,Op:=0,bN:=0,fC:=0,iO:=last}
def dI (e:dF):dF×Int:=(sj e 0,1)
def sF (e:dF)(t:List Int)(a last:Int):dF:= {sj e last with ak:=⟨t,jl e.bQ t a⟩,fD:=⟨rZ e t last⟩}
def vY (e:dF)(t:List Int)(a:Int):dF×Int:=(sF e t a 0,0)
def zf (e:dF)(a:Int):dF×Int:=vY e e.ak.av (SQ a e.ak.av.length)
def Gm (e:dF)(f u:Nat):dF×Int:=if f<u then vY e (nW e.ak.av f u) (cutAt e.ak.At f u)else dI e
def mq (e:dF)(f u:Nat)(how:Int):dF×Int:=
 if f<u then({sF e (nW e.ak.av f u) (cutAt e.ak.At f u) 2 with aL:=⟨nV e.aL.aA ((e.ak.av.drop f).take (u-f)) (Bc e how)⟩},0)else dI e
def Al (t:List Int)(a:Nat)(u:List Int):List Int:=t.take a++u++t.drop a
def Cy (e:dF)(u:List Int)(last:Int):dF×Int:=
 if e.ak.av.length+u.length≤400 then(sF e (Al e.ak.av (aS e) u) (e.ak.At+u.length) last,0)else dI e
def pK (f:Int)(l:List ByteArray)(n:Int):Option ByteArray:=if f≤n∧n≤f+l.length-1 then l[(n-f).toNat]? else none
noncomputable def mY (b:List UInt8):List Int:=(M7 b.length b (Nat.le_refl _)).choose
noncomputable def qY (b:List UInt8):List UInt8:=(M7 b.length b (Nat.le_refl _)).choose_spec.choose
theorem tO (b:List UInt8):Reads b (mY b) (qY b):=(M7 b.length b (Nat.le_refl _)).choose_spec.choose_spec
noncomputable def su (s:ByteArray):List Int:=if qY s.data.toList= []then mY s.data.toList else []
noncomputable def mD (s:ByteArray):Option (List Int):=if qY s.data.toList= []∧eO (mY s.data.toList)=true then some (mY s.data.toList)else none
def KI (e:dF)(f:Int)(l:List ByteArray):Int:=if e.kr=0 then gI f l+1 else e.kr
noncomputable def tQ (e:dF)(f:Int)(l:List ByteArray)(Af:Int):Option dF:=
 if Af=1∧¬e.kr=0∧e.kr=gI f l then some {sj e 0 with fD:=⟨[]⟩,ak:=⟨e.gX.av,jl e.bQ e.gX.av e.gX.At⟩,kr:=0,gX:=⟨[],0⟩}
 else match (pK f l (KI e f l+Af)).bind mD with
  | none=>none
  | some t=>some {sj e 0 with fD:=⟨[]⟩,ak:=⟨t,if e.bQ=2 then 0 else t.length⟩,kr:=KI e f l+Af,gX:=if e.kr=0 then e.ak else e.gX}
noncomputable def jP (e:dF)(f:Int)(l:List ByteArray)(Af:Int):dF×Int:=match tQ e f l Af with
 | none=>dI e
 | some x=>(x,0)
def nK (e:dF):dF×Int:=match e.fD.bT.getLast? with
 | none=>dI e
 | some x=>({sj e 0 with ak:=⟨x.av,jl e.bQ x.av x.At⟩,fD:=⟨e.fD.bT.dropLast⟩},0)
def Cn (e:dF):dF×Int:=({sj e 0 with bQ:=3,bX:=e.ak,bO:= [],lV:=0},0)
def bE (l:List dL):List Int:=(l.head?.map (·.av)).getD []
def Jb (e:dF):dF×Int:=if bE e.aL.aA= []then dI e else Cy e (bE e.aL.aA) 3
def kS (l:List dL):List dL:=l.drop 1++l.take 1
def P9 (e:dF):Bool:=decide (e.iO=3)&&(decide (¬bE e.aL.aA= [])&&(decide ((bE e.aL.aA).length≤aS e)&&decide ((e.ak.av.drop (aS e-(bE e.aL.aA).length)).take (bE e.aL.aA).length=bE e.aL.aA)))
def mU (e:dF):dF×Int:=
 if P9 e=true∧(nW e.ak.av (aS e-(bE e.aL.aA).length) (aS e)).length+(bE (kS e.aL.aA)).length≤400 then
  (sF {e with aL:=⟨kS e.aL.aA⟩} (Al (nW e.ak.av (aS e-(bE e.aL.aA).length) (aS e)) (aS e-(bE e.aL.aA).length) (bE (kS e.aL.aA))) ((aS e-(bE e.aL.aA).length:Nat)+(bE (kS e.aL.aA)).length) 3,0)
 else dI e
def KJ (e:dF)(how:Int):dF×Int:=vY e (jN e.ak.av (aS e) how (gZ e.ak.av (aS e)-aS e)).1 (gZ e.ak.av (aS e))
def Jc (e:dF)(r:Int):dF×Int:=({e with bD:=min (10*e.bD+r-48) 999},0)
def GN (e:dF)(r:Int):dF×Int:=
 if iq r 48 57=true then Jc e r
 else if r=98 then zf e (dD (fE e.ak.av) (gQ e) (aS e))
 else if r=102 then zf e (dD (gZ e.ak.av) (gQ e) (aS e))
 else if r=100 then mq e (aS e) (dD (gZ e.ak.av) (gQ e) (aS e)) 1
 else if r=121 then mU e
 else if r=117 then KJ e 1
 else if r=108 then KJ e 0
 else if r=99 then KJ e 2
 else dI e
def SS (e:dF):dF×Int:=if e.ak.av.length<2∨e.ak.At=0 then dI e else vY e (swapAt e.ak.av (min (aS e) (e.ak.av.length-1))) ((min (aS e) (e.ak.av.length-1):Nat)+1)
noncomputable def KL (e:dF)(f:Int)(l:List ByteArray)(r:Int):dF×Int:=
 if r=97 then zf e 0
 else if r=101 then zf e e.ak.av.length
 else if r=98 then zf e (e.ak.At-gQ e)
 else if r=102 then zf e (e.ak.At+gQ e)
 else if r=112 then jP e f l (-1)
 else if r=110 then jP e f l 1
 else if r=107 then mq e (aS e) e.ak.av.length 1
 else if r=121 then Jb e
 else if r=116 then SS e
 else if r=95 then nK e
 else if r=114 then Cn e
 else dI e
def Qr (e:dF):dF×Int:=Gm e (aS e) (min (aS e+gQ e) e.ak.av.length)
def ig (e:dF)(r:Int):Option (dF×Int):=
 if r=99 then some (e,3)
 else if r=108 then some (e,5)
 else if r=100 then some (if e.ak.av.length=0 then(e,4)else Qr e)
 else if r=117 then some (mq e 0 (aS e) 2)
 else if r=119 then some (mq e (kV e.ak.av true (aS e)) (aS e) 2)
 else none
noncomputable def pO (e:dF)(f:Int)(l:List ByteArray)(k r:Int):Option (dF×Int):=
 if k=1 then some (Cy e (List.replicate (gQ e) r) 1)
 else if k=6 then some (Cy e (List.replicate (gQ e) 9) 1)
 else if k=4 then some (e,2)
 else if k=2 then ig e r
 else if k=5 then some (Gm e (aS e-gQ e) (aS e))
 else if k=14 then some (Qr e)
 else if k=11 then some (zf e (e.ak.At-gQ e))
 else if k=10 then some (zf e (e.ak.At+gQ e))
 else if k=12 then some (zf e 0)
 else if k=13 then some (zf e e.ak.av.length)
 else if k=8 then some (jP e f l (-1))
 else if k=9 then some (jP e f l 1)
 else none
noncomputable def DY (e:dF)(f:Int)(l:List ByteArray)(k r:Int):dF×Int:=match pO e f l k r with
 | some p=>p
 | none=>
  if k=3 then GN e r
  else if k=15 then mq e (dD (fE e.ak.av) (gQ e) (aS e)) (aS e) 2
  else if k=2 then KL e f l r
  else dI e
theorem kW {α:Type}{c:Prop} [Decidable c]{a b:Option α}{p:α}(h:(if c then a else b)=some p):(c∧a=some p)∨(¬c∧b=some p):=by
 by_cases hc:c
 ·rw [if_pos hc]at h;exact .inl ⟨hc,h⟩
 ·rw [if_neg hc]at h;exact .inr ⟨hc,h⟩
def oL (e:dF)(a:Nat):dF:= {sF e e.ak.av a 0 with bQ:=1,ak:=⟨e.ak.av,a⟩}
def iR (e:dF)(op:Int)(f u:Nat):dF×Int:=
 if f=u then(if op=99 then(oL e f,0)else dI e)
 else if op=121 then vY {e with aL:=⟨nV e.aL.aA ((e.ak.av.drop f).take (u-f)) 0⟩} e.ak.av f
 else if op=99 then({sF {e with aL:=⟨nV e.aL.aA ((e.ak.av.drop f).take (u-f)) 0⟩} (nW e.ak.av f u) f 0 with bQ:=1,ak:=⟨nW e.ak.av f u,f⟩},0)
 else vY {e with aL:=⟨nV e.aL.aA ((e.ak.av.drop f).take (u-f)) 0⟩} (nW e.ak.av f u) f
def xR (n a u:Nat)(incl:Bool):Nat:=if incl=true∧max a u<n then max a u+1 else max a u
def tT (e:dF)(u:Nat)(incl:Bool):dF×Int:=if e.Op=0 then zf e u else iR e e.Op (min (aS e) u) (xR e.ak.av.length (aS e) u incl)
def qZ (e:dF)(r how:Int)(n:Nat):dF×Int:=match tN e.ak.av r how n (aS e)with
 | none=>dI e
 | some p=>tT e p (decide (how=0∨how=2))
def pQ (t:List Int)(f:Nat)(r:Int):Nat→List Int
 | 0=>t
 | j+1=>(pQ t f r j).set (f+j) r
def aao (r:Int):Int:=if iq r 97 122=true then r-32 else if iq r 65 90=true then r+32 else r
def ru (t:List Int)(f:Nat):Nat→List Int
 | 0=>t
 | j+1=>(ru t f j).set (f+j) (aao ((ru t f j).getD (f+j) 0))
def xS (e:dF)(k r:Int)(n:Nat):dF×Int:=
 if ¬k=1 then dI e
 else if e.fC=114 then(if e.ak.av.length<aS e+n then dI e else vY e (pQ e.ak.av (aS e) r n) (aS e+n-1:Nat))
 else if tN e.ak.av r (iZ e.fC) n (aS e)=none then dI e
 else qZ {e with dY:=r,bL:=iZ e.fC} r (iZ e.fC) n
def lY (e:dF)(r:Int)(n:Nat):dF×Int:=match gN e.ak.av (aS e) r n with
 | none=>tT e 0 false
 | some p=>tT e p.1 p.2
noncomputable def xU (e:dF)(f:Int)(l:List ByteArray)(k r:Int)(n:Nat):dF×Int:=
 if k=4 then(e,2)
 else if k=7 then(if e.bD=0∧e.Op=0∧e.bN=0∧e.fC=0 then dI e else(sj e e.iO,0))
 else if k=8 then jP e f l (-1)
 else if k=9 then jP e f l 1
 else if k=11∨k=5 then lY e 104 n
 else if k=10 then lY e 108 n
 else if k=12 then lY e 48 n
 else if k=13 then lY e 36 n
 else if k=14 then iR e 100 (aS e) (min (aS e+n) e.ak.av.length)
 else if k=2 then
  if r=99 then(e,3)
  else if r=108 then(e,5)
  else if r=100∧e.ak.av.length=0 then(e,4)
  else if r=114 then Cn e
  else dI e
 else dI e
def lZ (n:Nat)(t:List Int):List Int:=(List.replicate n t).flatten
def Am (e:dF)(a n:Nat):dF×Int:=
 if bE e.aL.aA= []∨400<e.ak.av.length+(bE e.aL.aA).length*n then dI e
 else vY e (Al e.ak.av a (lZ n (bE e.aL.aA))) ((a+(bE e.aL.aA).length*n:Nat)-1)
def uF (e:dF)(n:Nat):dF×Int:=
 if e.ak.av.length=0 then dI e
 else vY e (ru e.ak.av (aS e) (min (aS e+n) e.ak.av.length-aS e)) (min (aS e+n) e.ak.av.length:Nat)
def uG (how:Int):Int:=if how=0 then 1 else if how=1 then 0 else if how=2 then 3 else 2
def Gn (e:dF)(r:Int)(n:Nat):Option (dF×Int):=
 if iq r 49 57=true∨(r=48∧¬e.bD=0)then some (Jc e r)
 else if 0≤iZ r then some ({e with fC:=r},0)
 else if r=59 then some (if e.dY=0 then dI e else qZ e e.dY e.bL n)
 else if r=44 then some (if e.dY=0 then dI e else qZ e e.dY (uG e.bL) n)
 else if e.Op=0∧opC r=true then some ({e with Op:=r,bN:=e.bD,bD:=0},0)
 else none
def Jd (e:dF)(r:Int):dF×Int:=
 if r=105 then(oL e (aS e),0)
 else if r=73 then(oL e (Ak e.ak.av),0)
 else if r=97 then(oL e (min (aS e+1) e.ak.av.length),0)
 else if r=65 then(oL e e.ak.av.length,0)
 else dI e
noncomputable def zY (e:dF)(f:Int)(l:List ByteArray)(r:Int)(n:Nat):dF×Int:=
 if r=120 then iR e 100 (aS e) (min (aS e+n) e.ak.av.length)
 else if r=88 then iR e 100 (aS e-n) (aS e)
 else if r=68 then iR e 100 (aS e) e.ak.av.length
 else if r=67 then iR e 99 (aS e) e.ak.av.length
 else if r=115 then iR e 99 (aS e) (min (aS e+n) e.ak.av.length)
 else if r=83 then iR e 99 0 e.ak.av.length
 else if r=114 then({e with fC:=114},0)
 else if r=112 then Am e (min (aS e+1) e.ak.av.length) n
 else if r=80 then Am e (aS e) n
 else if r=126 then uF e n
 else if r=117 then nK e
 else if r=107∨r=45 then jP e f l (-1)
 else if r=106∨r=43 then jP e f l 1
 else if r=47 then Cn e
 else Jd e r
noncomputable def tV (e:dF)(f:Int)(l:List ByteArray)(r:Int)(n:Nat):dF×Int:=match Gn e r n with
 | some p=>p
 | none=>
  if ¬e.Op=0∧r=e.Op then iR e r 0 e.ak.av.length
  else match gN e.ak.av (aS e) r n with
   | some p=>tT e p.1 p.2
   | none=>if ¬e.Op=0 then dI e else zY e f l r n
def ajn (e:dF):dF×Int:=({e with bQ:=2,bD:=0,iO:=0,ak:=⟨e.ak.av,max (e.ak.At-1) 0⟩},0)
noncomputable def viE (e:dF)(f:Int)(l:List ByteArray)(k r:Int):dF×Int:=
 if e.bQ=1 then
  match pO e f l k r with
  | some p=>p
  | none=>if k=7 then ajn e else dI e
 else if ¬e.fC=0 then xS e k r (gW e)
 else if ¬k=1 then xU e f l k r (gW e)
 else tV e f l r (gW e)
def xV (e:dF):dF:= {e with bQ:=if e.Vi=true then 2 else 0,bO:= [],lV:=0,bX:=⟨[],0⟩,ak:=⟨e.ak.av,jl (if e.Vi=true then 2 else 0) e.ak.av e.ak.At⟩}
def jc (f:Int)(sub:List UInt8)(fr:Int):List ByteArray→Nat→Int
 | l,0=>0
 | l,n+1=>if f+n≤fr∧(l[n]?.map fun s=>Lib.contains s.data.toList sub)=some true then f+n else jc f sub fr l n
noncomputable def nA (e:dF)(f:Int)(l:List ByteArray)(n:Int)(q:List Int):Option dF:=
 if q.length≤40 then
  match pK f l n with
  | none=>none
  | some s=>match mD s with
   | none=>none
   | some t=>
    if 0≤Lib.index s.data.toList (bJ q)then
     some {e with gX:=if e.kr=0 then e.bX else e.gX,ak:=⟨t,(su (s.extract 0 (Lib.index s.data.toList (bJ q)).toNat)).length⟩,bO:=q,lV:=n,kr:=n,fD:=⟨[]⟩}
    else none
 else none
noncomputable def Je (e:dF)(f:Int)(l:List ByteArray)(q:List Int)(fr:Int):dF×Int:=
 match nA e f l (jc f (bJ q) (if e.lV=0 then gI f l else fr) l l.length) q with
 | none=>(e,1)
 | some x=>(x,0)
noncomputable def zu (e:dF)(f:Int)(l:List ByteArray)(k r:Int):dF×Int:=
 if k=1 then Je e f l (e.bO++ [r]) e.lV
 else if k=2∧r=114 then(if e.bO= []then(e,1)else Je e f l e.bO (e.lV-1))
 else if k=5 then(if e.bO= []then(e,1)else({e with bO:=e.bO.dropLast},0))
 else if k=4 then(xV e,2)
 else if k=2∧(r=103∨r=99)then(xV {e with ak:=e.bX,kr:=0,gX:=⟨[],0⟩},1)
 else(xV e,0)
noncomputable def vZ (e:dF)(f:Int)(l:List ByteArray)(k r:Int):dF×Int:=
 if e.bQ=0 then DY e f l k r else if e.bQ=3 then zu e f l k r else viE e f l k r
def jk (k r:Int):Bool:=
 if k=1 then dn r
 else if k=2 then decide (r=95)||(iq r 97 122&&(decide (¬r=104)&&(decide (¬r=105)&&(decide (¬r=106)&&decide (¬r=109)))))
 else if k=3 then iq r 33 126
 else iq k 4 16&&decide (r=0)
theorem Gp (r:Int):o7 [vI r] [] []=some ⟨vI (kM r),[],[]⟩:=by
 unfold o7 kM
 by_cases h1:r=9
 ·simp [func163,f163,h1]
 by_cases h2:r=10
 ·simp [func163,f163,h2]
 by_cases h3:r=32
 ·simp [func163,f163,h3]
 cases h4:iq r 97 122
 case true=>simp [func163,f163,h1,h2,h3,fK,h4]
 cases h5:iq r 65 90
 case true=>simp [func163,f163,h1,h2,h3,fK,h4,eT,h5]
 cases h6:iq r 48 57
 case true=>simp [func163,f163,h1,h2,h3,fK,h4,eT,h5,lN,h6]
 by_cases h7:r=95
 ·subst h7;simp [func163,f163,fK,h4,eT,h5,lN,h6]
 by_cases h8:159<r
 ·cases h9:dn r<;>simp [func163,f163,h1,h2,h3,fK,h4,eT,h5,lN,h6,h7,h8,aR,h9]
 ·simp [func163,f163,h1,h2,h3,fK,h4,eT,h5,lN,h6,h7,h8]
theorem getD_at {t:List Int}{j:Nat}(h:j<t.length):t.getD j 0=t[j]:=by rw [List.getD_eq_getElem?_getD,List.getElem?_eq_getElem h];rfl
theorem Gq (t:List Int)(i:Option Nat)(a:Nat)(big:Bool)(h:a<t.length):vM [.aM i (ints t),vI (a:Int),V.v (.bool big)] [] []=some ⟨vI (dx t big a),[],[]⟩:=by
 have e:=Gp t[a]
 unfold vM dx ajm
 rw [getD_at h]
 generalize kM t[a]=c at*
 cases big
 ·simp [func273,f273,h,aQ h,e]
 ·by_cases h2:c=2
  ·simp [func273,f273,h,aQ h,e,h2]
  ·simp [func273,f273,h,aQ h,e,h2]
theorem Nb {t:List Int}{big:Bool}{a:Nat}(h:a≤t.length):a≤xP t big a∧xP t big a≤t.length:=by
 obtain⟨h1,h2,h3⟩:=cK (fun j=>decide (dx t big (a+j)=dx t big a)) (t.length-a)
 unfold xP
 omega
theorem ahY {t:List Int}{big:Bool}{a:Nat}(h:a<t.length):a<xP t big a:=by
 obtain⟨h1,h2,h3⟩:=cK (fun j=>decide (dx t big (a+j)=dx t big a)) (t.length-a)
 unfold xP
 rcases h3 with h3|h3
 ·omega
 ·generalize gM (fun j=>decide (dx t big (a+j)=dx t big a)) (t.length-a)=k at*
  cases k with
  | zero=>simp at h3
  | succ k=>omega
theorem Wn (t:List Int)(i:Option Nat)(a:Nat)(big:Bool)(h:a<t.length)(ht:t.length≤2000):Eu [.aM i (ints t),vI (a:Int),V.v (.bool big)] [] []=some ⟨vI (((xP t big a:Nat):Int)),[],[]⟩:=by
 have hc:=fun j (hj:j<t.length)=>Gq t (some 0) j big hj
 obtain⟨h1,h2,h3⟩:=cK (fun j=>decide (dx t big (a+j)=dx t big a)) (t.length-a)
 unfold xP
 generalize gM (fun j=>decide (dx t big (a+j)=dx t big a)) (t.length-a)=k at*
 have e0:=hc a h
 simp [Eu,func277,f277,e0]
 rw [aF (fun j=> .on ⟨[(7,V.v (.int .i64 (dx t big a))),(2,V.v (.bool big)),(1,V.v (.int .i64 (((a+j:Nat):Int)))),(0, .aM i (ints t))],[],[],[]⟩) k ?_ ?_]
 ·rcases h3 with h3|h3
  ·have q:a+k=t.length:=by omega
   have q2:(a:Int)+k=t.length:=by omega
   simp [q,q2]
  ·by_cases hq:a+k<t.length
   ·have e1:=hc (a+k) hq
    have h3':¬dx t big (a+k)=dx t big a:=of_decide_eq_false h3
    have hq2:(a:Int)+k<t.length:=by omega
    simp only [Int.natCast_add]at e1
    simp [hq,hq2,e1,h3']
   ·have q:a+k=t.length:=by omega
    have q2:(a:Int)+k=t.length:=by omega
    simp [q,q2]
 ·simp
 ·intro j hj
  have hq:a+j<t.length:=by omega
  have hq2:(a:Int)+j<t.length:=by omega
  have e1:=hc (a+j) hq
  have h2':dx t big (a+j)=dx t big a:=of_decide_eq_true (h2 j hj)
  have hw:=bM ((a:Int)+(j+1)) (by omega)
  have hs:(a:Int)+j+1=(a:Int)+(j+1):=by omega
  simp only [Int.natCast_add]at e1
  simp [hq,hq2,e1,h2',hw,hs]
theorem aap (t:List Int)(i:Option Nat)(a:Nat)(big:Bool)(h:a≤t.length)(ht:t.length≤2000):wI [.aM i (ints t),vI (a:Int),V.v (.bool big)] [] []=some ⟨vI (((Gl t big a:Nat):Int)),[],[]⟩:=by
 have hc:=fun j (hj:j<t.length)=>Gq t (some 0) j big hj
 have m1:max 0 (min (a:Int) t.length)=a:=by omega
 unfold Gl
 by_cases h0:a<t.length
 ·have e0:=hc a h0
  by_cases hz:dx t big a=0
  ·rw [if_neg (fun e=>e.2 hz)]
   simp only
   obtain⟨k1,k2,k3⟩:=cK (fun j=>decide (dx t big (a+j)=0)) (t.length-a)
   generalize gM (fun j=>decide (dx t big (a+j)=0)) (t.length-a)=k at*
   simp [wI,func238,f238,fF,m1,h0,e0,hz]
   rw [aF (fun j=> .on ⟨[(2,V.v (.bool big)),(1,V.v (.int .i64 (((a+j:Nat):Int)))),(0, .aM i (ints t))],[],[],[]⟩) k ?_ ?_]
   ·by_cases q:a+k=t.length
    ·have q2:(a:Int)+k=t.length:=by omega
     simp [q,q2]
    ·have hq:a+k<t.length:=by omega
     have hq2:(a:Int)+k<t.length:=by omega
     have e1:=hc (a+k) hq
     have h3':¬dx t big (a+k)=0:=of_decide_eq_false (k3.resolve_left (by omega))
     simp only [Int.natCast_add]at e1
     simp [hq,hq2,e1,h3']
   ·simp
   ·intro j hj
    have hq:a+j<t.length:=by omega
    have hq2:(a:Int)+j<t.length:=by omega
    have e1:=hc (a+j) hq
    have h2':dx t big (a+j)=0:=of_decide_eq_true (k2 j hj)
    have hw:=bM ((a:Int)+(j+1)) (by omega)
    have hs:(a:Int)+j+1=(a:Int)+(j+1):=by omega
    simp only [Int.natCast_add]at e1
    simp [hq,hq2,e1,h2',hw,hs]
  ·rw [if_pos ⟨h0,hz⟩]
   have e2:=Wn t (some 0) a big h0 ht
   obtain⟨r1,r2⟩:=Nb (t:=t) (big:=big) h
   generalize xP t big a=a1 at*
   obtain⟨k1,k2,k3⟩:=cK (fun j=>decide (dx t big (a1+j)=0)) (t.length-a1)
   simp only
   generalize gM (fun j=>decide (dx t big (a1+j)=0)) (t.length-a1)=k at*
   simp [wI,func238,f238,fF,m1,h0,e0,hz,e2]
   rw [aF (fun j=> .on ⟨[(2,V.v (.bool big)),(1,V.v (.int .i64 (((a1+j:Nat):Int)))),(0, .aM i (ints t))],[],[],[]⟩) k ?_ ?_]
   ·by_cases q:a1+k=t.length
    ·have q2:(a1:Int)+k=t.length:=by omega
     simp [q,q2]
    ·have hq:a1+k<t.length:=by omega
     have hq2:(a1:Int)+k<t.length:=by omega
     have e1:=hc (a1+k) hq
     have h3':¬dx t big (a1+k)=0:=of_decide_eq_false (k3.resolve_left (by omega))
     simp only [Int.natCast_add]at e1
     simp [hq,hq2,e1,h3']
   ·simp
   ·intro j hj
    have hq:a1+j<t.length:=by omega
    have hq2:(a1:Int)+j<t.length:=by omega
    have e1:=hc (a1+j) hq
    have h2':dx t big (a1+j)=0:=of_decide_eq_true (k2 j hj)
    have hw:=bM ((a1:Int)+(j+1)) (by omega)
    have hs:(a1:Int)+j+1=(a1:Int)+(j+1):=by omega
    simp only [Int.natCast_add]at e1
    simp [hq,hq2,e1,h2',hw,hs]
 ·have ha:a=t.length:=by omega
  rw [if_neg (fun e=>h0 e.1)]
  simp only
  rw [ha,Nat.sub_self,show gM (fun j=>decide (dx t big (t.length+j)=0)) 0=0 from rfl]
  simp [wI,func238,f238,fF]
  rw [bK]
  simp
theorem Nc {t:List Int}{a:Nat}(ha:a≤t.length)(ht:t.length≤2000)(n:Nat)(h1:n≤a)(h2:0<n):n-1<t.length∧(0:Int)<n∧IntKind.i64.wrap ((n:Int)-1)=n-1∧((n-1:Nat):Int)=(n:Int)-1∧¬(n:Int)=0∧(n:Int)-1<t.length∧0≤(n:Int)-1∧((n:Int)-1).toNat=n-1∧1≤(n:Int):=
 ⟨by omega,by omega,bM _ (by omega),by omega,by omega,by omega,by omega,by omega,by omega⟩
theorem KM (t:List Int)(i:Option Nat)(a:Nat)(big:Bool)(h:a≤t.length)(ht:t.length≤2000):nH [.aM i (ints t),vI (a:Int),V.v (.bool big)] [] []=some ⟨vI (((kV t big a:Nat):Int)),[],[]⟩:=by
 have hc:=fun j (hj:j<t.length)=>Gq t (some 0) j big hj
 have m1:max 0 (min (a:Int) t.length)=a:=by omega
 have idx:=Nc h ht
 unfold kV
 obtain⟨k1,k2,k3⟩:=cK (fun j=>decide (dx t big (a-j-1)=0)) a
 generalize gM (fun j=>decide (dx t big (a-j-1)=0)) a=k at*
 have hk2:∀j,j<k→dx t big (a-j-1)=0:=fun j hj=>of_decide_eq_true (k2 j hj)
 simp only
 by_cases hka:k=a
 ·rw [hka,Nat.sub_self,show gM (fun j=>decide (dx t big (0-j-1)=dx t big (0-1))) 0=0 from rfl]
  simp [nH,func217,f217,fF,m1]
  rw [aF (fun j=> .on ⟨[(2,V.v (.bool big)),(1,V.v (.int .i64 (((a-j:Nat):Int)))),(0, .aM i (ints t))],[],[],[]⟩) k ?_ ?_]
  ·subst hka;simp
  ·simp
  ·intro j hj
   have hp2:0<a-j:=by omega
   have r1:=hk2 j hj
   have hle2:a-j≤a:=by omega
   have hs:a-(j+1)=a-j-1:=by omega
   rw [hs]
   generalize a-j=p at*
   obtain⟨i1,i2,i3,i4,i5, -⟩:=idx p hle2 hp2
   have e2:=hc (p-1) i1
   rw [i4]at e2
   simp [i2,i3,i4,e2,r1,hp2]
 ·have k4:¬dx t big (a-k-1)=0:=of_decide_eq_false (k3.resolve_left hka)
  have hn0:0<a-k:=by omega
  have akD:a-k≤a:=by omega
  simp [nH,func217,f217,fF,m1]
  rw [aF (fun j=> .on ⟨[(2,V.v (.bool big)),(1,V.v (.int .i64 (((a-j:Nat):Int)))),(0, .aM i (ints t))],[],[],[]⟩) k ?_ ?_]
  ·generalize a-k=n at*
   obtain⟨n1,n2,n3⟩:=cK (fun j=>decide (dx t big (n-j-1)=dx t big (n-1))) n
   generalize gM (fun j=>decide (dx t big (n-j-1)=dx t big (n-1))) n=m at*
   have hm2:∀j,j<m→dx t big (n-j-1)=dx t big (n-1):=fun j hj=>of_decide_eq_true (n2 j hj)
   have hm3:m=n∨¬dx t big (n-m-1)=dx t big (n-1):=n3.imp _root_.id of_decide_eq_false
   obtain⟨i1,i2,i3,i4,i5, -⟩:=idx n akD hn0
   have e1:=hc (n-1) i1
   rw [i4]at e1
   have hnz:¬n=0:=by omega
   simp [i2,i3,i4,i5,e1,k4,hn0,hnz]
   rw [aF (fun j=> .on ⟨[(7,V.v (.int .i64 (dx t big (n-1)))),(2,V.v (.bool big)),(1,V.v (.int .i64 (((n-j:Nat):Int)))),(0, .aM i (ints t))],[],[],[]⟩) m ?_ ?_]
   ·by_cases r:m=n
    ·subst r;simp
    ·have hp2:0<n-m:=by omega
     have r1:=hm3.resolve_left r
     have hle2:n-m≤a:=by omega
     generalize n-m=p at*
     obtain⟨i1,i2,i3,i4,i5, -⟩:=idx p hle2 hp2
     have e2:=hc (p-1) i1
     rw [i4]at e2
     simp [i2,i3,i4,e2,r1,hp2]
   ·simp
   ·intro j hj
    have hp2:0<n-j:=by omega
    have r1:=hm2 j hj
    have hle2:n-j≤a:=by omega
    have hs:n-(j+1)=n-j-1:=by omega
    rw [hs]
    generalize n-j=p at*
    obtain⟨i1,i2,i3,i4,i5, -⟩:=idx p hle2 hp2
    have e2:=hc (p-1) i1
    rw [i4]at e2
    simp [i2,i3,i4,e2,r1,hp2]
  ·simp
  ·intro j hj
   have hp2:0<a-j:=by omega
   have r1:=hk2 j hj
   have hle2:a-j≤a:=by omega
   have hs:a-(j+1)=a-j-1:=by omega
   rw [hs]
   generalize a-j=p at*
   obtain⟨i1,i2,i3,i4,i5, -⟩:=idx p hle2 hp2
   have e2:=hc (p-1) i1
   rw [i4]at e2
   simp [i2,i3,i4,e2,r1,hp2]
theorem XO (t:List Int)(i:Option Nat)(a:Nat)(big:Bool)(h:a≤t.length)(ht:t.length≤2000):xE [.aM i (ints t),vI (a:Int),V.v (.bool big)] [] []=some ⟨vI (((xQ t big a:Nat):Int)),[],[]⟩:=by
 have hc:=fun j (hj:j<t.length)=>Gq t (some 0) j big hj
 have m1:max 0 (min (a:Int) t.length)=a:=by omega
 have w1:=bM ((a:Int)+1) (by omega)
 unfold xQ
 by_cases h0:t.length=0
 ·rw [if_pos h0]
  have:t= []:=List.length_eq_zero_iff.1 h0
  subst this
  simp [xE,func241,f241,fF,aZ]
 rw [if_neg h0]
 have h0i:¬(t.length:Int)=0:=by omega
 have h0t:¬t= []:=fun e=>h0 (by rw [e];rfl)
 obtain⟨k1,k2,k3⟩:=cK (fun j=>decide (dx t big (a+1+j)=0)) (t.length-(a+1))
 generalize gM (fun j=>decide (dx t big (a+1+j)=0)) (t.length-(a+1))=k at*
 simp only
 simp [xE,func241,f241,fF,m1,h0i,h0t,w1]
 rw [aF (fun j=> .on ⟨[(7,V.v (.int .i64 ((t.length:Int)))),(2,V.v (.bool big)),(1,V.v (.int .i64 (((a+1+j:Nat):Int)))),(0, .aM i (ints t))],[],[],[]⟩) k ?_ ?_]
 ·by_cases q:t.length≤a+1+k
  ·have q2:¬(a:Int)+1+k<t.length:=by omega
   have q2n:¬a+1+k<t.length:=by omega
   have q3:(t.length:Int)≤(a:Int)+1+k:=by omega
   have w2:=bM ((t.length:Int)-1) (by omega)
   have q4:((t.length-1:Nat):Int)=(t.length:Int)-1:=by omega
   rw [if_pos q]
   simp [q2,q2n,q,q3,w2,q4]
  ·rw [if_neg q]
   have hq:a+1+k<t.length:=by omega
   have hq2:(a:Int)+1+k<t.length:=by omega
   have hq3:¬(t.length:Int)≤(a:Int)+1+k:=by omega
   have e1:=hc (a+1+k) hq
   have e2:=Wn t (some 0) (a+1+k) big hq ht
   have h3':¬dx t big (a+1+k)=0:=of_decide_eq_false (k3.resolve_left (by omega))
   obtain⟨r1,r2⟩:=Nb (t:=t) (big:=big) (Nat.le_of_lt hq)
   have r3:=ahY (t:=t) (big:=big) hq
   have w2:=bM ((xP t big (a+1+k):Int)-1) (by omega)
   have q4:((xP t big (a+1+k)-1:Nat):Int)=(xP t big (a+1+k):Int)-1:=by omega
   rw [q4]
   generalize xP t big (a+1+k)=u at*
   simp only [Int.natCast_add,Int.natCast_one]at e1 e2
   simp [hq,hq2,hq3,e1,e2,h3',w2]
 ·simp
 ·intro j hj
  have hq:a+1+j<t.length:=by omega
  have hq2:(a:Int)+1+j<t.length:=by omega
  have e1:=hc (a+1+j) hq
  have h2':dx t big (a+1+j)=0:=of_decide_eq_true (k2 j hj)
  have hw:=bM ((a:Int)+1+(j+1)) (by omega)
  have hs:(a:Int)+1+j+1=(a:Int)+1+(j+1):=by omega
  simp only [Int.natCast_add,Int.natCast_one]at e1
  simp [hq,hq2,e1,h2',hw,hs]
theorem Wo (t:List Int)(i:Option Nat)(a:Nat)(h:a≤t.length)(ht:t.length≤2000):Bp [.aM i (ints t),vI (a:Int)] [] []=some ⟨vI (((gZ t a:Nat):Int)),[],[]⟩:=by
 have hc:∀j (h:j<t.length),o7 [vI (t[j])] [] []=some ⟨vI (kM (t.getD j 0)),[],[]⟩:=fun j hj=>by rw [getD_at hj];exact Gp _
 unfold gZ
 generalize hcf:(fun j=>kM (t.getD j 0))=cf
 have SV:∀j,kM (t.getD j 0)=cf j:=fun j=>by rw [←hcf]
 simp only [SV]at hc⊢
 have m1:max 0 (min (a:Int) t.length)=a:=by omega
 obtain⟨k1,k2,k3⟩:=cK (fun j=>decide (¬cf (a+j)=1)) (t.length-a)
 generalize gM (fun j=>decide (¬cf (a+j)=1)) (t.length-a)=k at*
 obtain⟨n1,n2,n3⟩:=cK (fun j=>decide (cf (a+k+j)=1)) (t.length-(a+k))
 generalize gM (fun j=>decide (cf (a+k+j)=1)) (t.length-(a+k))=m at*
 have GX:∀m n:Nat,0≤(m:Int)+n∧((m:Int)+n).toNat=m+n:=fun m n=>⟨by omega,by omega⟩
 have tn3:∀m n p:Nat,0≤(m:Int)+n+p∧((m:Int)+n+p).toNat=m+n+p:=fun m n p=>⟨by omega,by omega⟩
 simp [Bp,func158,f158,fF,m1]
 rw [aF (fun j=> .on ⟨[(1,V.v (.int .i64 (((a+j:Nat):Int)))),(0, .aM i (ints t))],[],[],[]⟩) k ?_ ?_]
 ·have st1:∀j,j<m→a+k+j<t.length∧cf (a+k+j)=1:=fun j hj=>⟨by omega,of_decide_eq_true (n2 j hj)⟩
  have hend:a+k=t.length∨(a+k<t.length∧cf (a+k)=1):=by
   rcases k3 with k3|k3
   ·exact .inl (by omega)
   ·by_cases q:a+k=t.length
    ·exact .inl q
    ·exact .inr ⟨by omega,by simpa using of_decide_eq_false k3⟩
  have hfin:a+k+m=t.length∨(a+k+m<t.length∧¬cf (a+k+m)=1):=by
   rcases n3 with n3|n3
   ·exact .inl (by omega)
   ·by_cases q:a+k+m=t.length
    ·exact .inl q
    ·exact .inr ⟨by omega,of_decide_eq_false n3⟩
  rcases hend with q|⟨q,q1⟩
  ·have q2:(a:Int)+k=t.length:=by omega
   have hm:m=0:=by omega
   subst hm
   simp [q,q2]
   rw [bK]
   simp
  ·have q2:(a:Int)+k<t.length:=by omega
   have e1:=hc (a+k) q
   rw [q1]at e1
   simp [q,q2,aQ q,e1,GX]
   rw [aF (fun j=> .on ⟨[(1,V.v (.int .i64 (((a+k+j:Nat):Int)))),(0, .aM i (ints t))],[],[],[]⟩) m ?_ ?_]
   ·rcases hfin with r|⟨r,r1⟩
    ·have r2:(a:Int)+k+m=t.length:=by omega
     simp [r,r2]
    ·have r2:(a:Int)+k+m<t.length:=by omega
     have e2:=hc (a+k+m) r
     simp [r,r2,aQ r,e2,r1,tn3]
   ·simp
   ·intro j hj
    obtain⟨s1,s2⟩:=st1 j hj
    have s3:(a:Int)+k+j<t.length:=by omega
    have e2:=hc (a+k+j) s1
    have hw:=bM ((a:Int)+k+(j+1)) (by omega)
    have hs:(a:Int)+k+j+1=(a:Int)+k+(j+1):=by omega
    simp [s1,s3,aQ s1,e2,s2,hw,hs,GX,tn3]
 ·simp
 ·intro j hj
  have s1:a+j<t.length:=by omega
  have s3:(a:Int)+j<t.length:=by omega
  have e2:=hc (a+j) s1
  have s2:¬cf (a+j)=1:=of_decide_eq_true (k2 j hj)
  have hw:=bM ((a:Int)+(j+1)) (by omega)
  have hs:(a:Int)+j+1=(a:Int)+(j+1):=by omega
  simp [s1,s3,aQ s1,e2,s2,hw,hs,GX,tn3]
theorem Qa (t:List Int)(i:Option Nat)(a:Nat)(h:a≤t.length)(ht:t.length≤2000):zL [.aM i (ints t),vI (a:Int)] [] []=some ⟨vI (((fE t a:Nat):Int)),[],[]⟩:=by
 have hc:∀j (h:j<t.length),o7 [vI (t[j])] [] []=some ⟨vI (kM (t.getD j 0)),[],[]⟩:=fun j hj=>by rw [getD_at hj];exact Gp _
 unfold fE
 generalize hcf:(fun j=>kM (t.getD j 0))=cf
 have SV:∀j,kM (t.getD j 0)=cf j:=fun j=>by rw [←hcf]
 simp only [SV]at hc⊢
 have m1:max 0 (min (a:Int) t.length)=a:=by omega
 have idx:=Nc h ht
 obtain⟨k1,k2,k3⟩:=cK (fun j=>decide (¬cf (a-j-1)=1)) a
 generalize gM (fun j=>decide (¬cf (a-j-1)=1)) a=k at*
 obtain⟨n1,n2,n3⟩:=cK (fun j=>decide (cf (a-k-j-1)=1)) (a-k)
 generalize gM (fun j=>decide (cf (a-k-j-1)=1)) (a-k)=m at*
 simp [zL,func93,f93,fF,m1]
 rw [aF (fun j=> .on ⟨[(1,V.v (.int .i64 (((a-j:Nat):Int)))),(0, .aM i (ints t))],[],[],[]⟩) k ?_ ?_]
 ·rcases k3 with k3|k3
  ·subst k3
   have hm:m=0:=by omega
   subst hm
   simp
   rw [bK]
   simp
  ·by_cases q0:k=a
   ·subst q0
    have hm:m=0:=by omega
    subst hm
    simp
    rw [bK]
    simp
   have q1:cf (a-k-1)=1:=by simpa using of_decide_eq_false k3
   have hpos:0<a-k:=by omega
   have hm2:∀j,j<m→cf (a-k-j-1)=1:=fun j hj=>of_decide_eq_true (n2 j hj)
   have hm3:m=a-k∨¬cf (a-k-m-1)=1:=n3.imp _root_.id of_decide_eq_false
   have hle:a-k≤a:=by omega
   generalize a-k=n at*
   obtain⟨i1,i2,i3,i4,i5,i6,i7,i8,i9⟩:=idx n hle hpos
   have e1:=hc (n-1) i1
   rw [q1]at e1
   simp [i1,i2,i3,i6,i7,i8,i9,hpos,aQ i1,e1]
   rw [aF (fun j=> .on ⟨[(1,V.v (.int .i64 (((n-j:Nat):Int)))),(0, .aM i (ints t))],[],[],[]⟩) m ?_ ?_]
   ·by_cases r:m=n
    ·subst r;simp
    ·have hp2:0<n-m:=by omega
     have r1:=hm3.resolve_left r
     have hle2:n-m≤a:=by omega
     generalize n-m=p at*
     obtain⟨i1,i2,i3,i4,i5,i6,i7,i8,i9⟩:=idx p hle2 hp2
     have e2:=hc (p-1) i1
     simp [i1,i2,i3,i6,i7,i8,i9,hp2,aQ i1,e2,r1]
   ·simp
   ·intro j hj
    have hp2:0<n-j:=by omega
    have r1:=hm2 j hj
    have hle2:n-j≤a:=by omega
    have hs:n-(j+1)=n-j-1:=by omega
    rw [hs]
    generalize n-j=p at*
    obtain⟨i1,i2,i3,i4,i5,i6,i7,i8,i9⟩:=idx p hle2 hp2
    have e2:=hc (p-1) i1
    simp [i1,i2,i3,i4,i6,i7,i8,i9,hp2,aQ i1,e2,r1]
 ·simp
 ·intro j hj
  have hp2:0<a-j:=by omega
  have r1:¬cf (a-j-1)=1:=of_decide_eq_true (k2 j hj)
  have hle2:a-j≤a:=by omega
  have hs:a-(j+1)=a-j-1:=by omega
  rw [hs]
  generalize a-j=p at*
  obtain⟨i1,i2,i3,i4,i5,i6,i7,i8,i9⟩:=idx p hle2 hp2
  have e2:=hc (p-1) i1
  simp [i1,i2,i3,i4,i6,i7,i8,i9,hp2,aQ i1,e2,r1]
theorem wT {t:List Int}{a:Nat}(h:a≤t.length):a≤gZ t a∧gZ t a≤t.length:=by
 unfold gZ
 simp only
 obtain⟨k1,k2,k3⟩:=cK (fun j=>decide (¬kM (t.getD (a+j) 0)=1)) (t.length-a)
 generalize gM (fun j=>decide (¬kM (t.getD (a+j) 0)=1)) (t.length-a)=k at*
 have:=cK (fun j=>decide (kM (t.getD (a+k+j) 0)=1)) (t.length-(a+k))
 omega
theorem zZ {t:List Int}{a:Nat}:fE t a≤a:=by unfold fE;simp only;omega
theorem QS {t:List Int}{big:Bool}{a:Nat}(h:a≤t.length):a≤Gl t big a∧Gl t big a≤t.length:=by
 unfold Gl
 simp only
 have hb:a≤(if a<t.length∧¬dx t big a=0 then xP t big a else a)∧(if a<t.length∧¬dx t big a=0 then xP t big a else a)≤t.length:=by
  split
  ·exact Nb h
  ·omega
 generalize (if a<t.length∧¬dx t big a=0 then xP t big a else a)=b at*
 have:=cK (fun j=>decide (dx t big (b+j)=0)) (t.length-b)
 omega
theorem BH {t:List Int}{big:Bool}{a:Nat}:kV t big a≤a:=by unfold kV;simp only;omega
theorem Nf {t:List Int}{big:Bool}{a:Nat}:xQ t big a≤t.length∧(0<t.length→xQ t big a<t.length):=by
 unfold xQ
 by_cases h0:t.length=0
 ·rw [if_pos h0];omega
 rw [if_neg h0]
 simp only
 generalize gM (fun j=>decide (dx t big (a+1+j)=0)) (t.length-(a+1))=k
 split
 ·omega
 ·have:=Nb (t:=t) (big:=big) (a:=a+1+k) (by omega)
  omega
theorem rO {f:Nat→Nat}{m:Nat}(h:∀a,a≤m→f a≤m):∀n a,a≤m→dD f n a≤m
 | 0,a,ha=>ha
 | n+1,a,ha=>rO h n (f a) (h a ha)
theorem Ng {f:Nat→Nat}{m:Nat}(h:∀a,a≤m→a≤f a∧f a≤m):∀n a,a≤m→a≤dD f n a∧dD f n a≤m
 | 0,a,ha=>⟨Nat.le_refl _,ha⟩
 | n+1,a,ha=>by
  have:=Ng h n (f a) (h a ha).2
  have:=h a ha
  show a≤dD f n (f a)∧dD f n (f a)≤m
  omega
theorem Gr {f:Nat→Nat}(h:∀a,f a≤a):∀n a,dD f n a≤a
 | 0,a=>Nat.le_refl _
 | n+1,a=>by
  have:=Gr h n (f a)
  have:=h a
  show dD f n (f a)≤a
  omega
def uH (o:Option Nat):Int:=match o with
 | none=> -1
 | some p=>p
theorem XP (t:List Int)(i:Option Nat)(a:Nat)(r:Int)(h:a≤t.length)(ht:t.length≤2000):l8 [.aM i (ints t),vI (a:Int),vI r,vI 0] [] []=some ⟨vI (uH (jA t r 0 a)),[],[]⟩:=by
 have m1:max 0 (min (a:Int) t.length)=a:=by omega
 unfold jA
 rw [if_pos rfl]
 obtain⟨k1,k2,k3⟩:=cK (fun j=>decide (¬t.getD (a+1+j) 0=r)) (t.length-(a+1))
 generalize gM (fun j=>decide (¬t.getD (a+1+j) 0=r)) (t.length-(a+1))=k at*
 have w1:=bM ((a:Int)+1) (by omega)
 simp only
 simp [l8,func235,f235,fF,m1,w1]
 rw [aF (fun j=> .on ⟨[(10,V.v (.int .i64 (((a+1+j:Nat):Int)))),(9,V.v (.int .i64 ((t.length:Int)))),(2,V.v (.int .i64 r)),(0, .aM i (ints t))],[],[],[]⟩) k ?_ ?_]
 ·by_cases q:a+1+k<t.length
  ·have q2:(a:Int)+1+k<t.length:=by omega
   have q3:0≤(a:Int)+1+k:=by omega
   have q4:((a:Int)+1+k).toNat=a+1+k:=by omega
   have h3:t[a+1+k]=r:=by
    have:=of_decide_eq_false (k3.resolve_left (by omega))
    rw [Classical.not_not,getD_at q]at this
    exact this
   rw [if_pos q]
   simp [q,q2,q3,q4,aQ q,h3,uH]
  ·have q2:¬(a:Int)+1+k<t.length:=by omega
   rw [if_neg q]
   simp [q2,uH]
 ·simp
 ·intro j hj
  have q:a+1+j<t.length:=by omega
  have q2:(a:Int)+1+j<t.length:=by omega
  have q3:0≤(a:Int)+1+j:=by omega
  have q4:((a:Int)+1+j).toNat=a+1+j:=by omega
  have h3:¬t[a+1+j]=r:=by
   have:=of_decide_eq_true (k2 j hj)
   rwa [getD_at q]at this
  have hw:=bM ((a:Int)+1+(j+1)) (by omega)
  have hs:(a:Int)+1+j+1=(a:Int)+1+(j+1):=by omega
  simp [q,q2,q3,q4,aQ q,h3,hw,hs]
theorem XQ (t:List Int)(i:Option Nat)(a:Nat)(r:Int)(h:a≤t.length)(ht:t.length≤2000):l8 [.aM i (ints t),vI (a:Int),vI r,vI 1] [] []=some ⟨vI (uH (jA t r 1 a)),[],[]⟩:=by
 have m1:max 0 (min (a:Int) t.length)=a:=by omega
 unfold jA
 rw [if_neg (by decide),if_pos rfl]
 obtain⟨k1,k2,k3⟩:=cK (fun j=>decide (¬t.getD (a-1-j) 0=r)) a
 generalize gM (fun j=>decide (¬t.getD (a-1-j) 0=r)) a=k at*
 have w1:=bM ((a:Int)-1) (by omega)
 simp only
 simp [l8,func235,f235,fF,m1,w1]
 rw [aF (fun j=> .on ⟨[(11,V.v (.int .i64 ((a:Int)-1-j))),(2,V.v (.int .i64 r)),(0, .aM i (ints t))],[],[],[]⟩) k ?_ ?_]
 ·by_cases q:k<a
  ·have q1:a-1-k<t.length:=by omega
   have q2:(a:Int)-1-k<t.length:=by omega
   have q3:0≤(a:Int)-1-k:=by omega
   have q4:((a:Int)-1-k).toNat=a-1-k:=by omega
   have q5:((a-1-k:Nat):Int)=(a:Int)-1-k:=by omega
   have h3:t[a-1-k]=r:=by
    have:=of_decide_eq_false (k3.resolve_left (by omega))
    rw [Classical.not_not,getD_at q1]at this
    exact this
   rw [if_pos q]
   simp only [uH,q5]
   generalize (a:Int)-1-k=x at*
   simp [q1,q2,q3,q4,aQ q1,h3]
  ·have q2:¬0≤(a:Int)-1-k:=by omega
   rw [if_neg q]
   simp only [uH]
   generalize (a:Int)-1-k=x at*
   simp [q2]
 ·simp
 ·intro j hj
  have q1:a-1-j<t.length:=by omega
  have q2:(a:Int)-1-j<t.length:=by omega
  have q3:0≤(a:Int)-1-j:=by omega
  have q4:((a:Int)-1-j).toNat=a-1-j:=by omega
  have h3:¬t[a-1-j]=r:=by
   have:=of_decide_eq_true (k2 j hj)
   rwa [getD_at q1]at this
  have hw:=bM ((a:Int)-1-j-1) (by omega)
  have hs:(a:Int)-1-((j+1:Nat):Int)=(a:Int)-1-j-1:=by omega
  simp only [hs]
  generalize (a:Int)-1-j=x at*
  simp [q1,q2,q3,q4,aQ q1,h3,hw]
theorem XR (t:List Int)(i:Option Nat)(a:Nat)(r:Int)(h:a≤t.length)(ht:t.length≤2000):l8 [.aM i (ints t),vI (a:Int),vI r,vI 2] [] []=some ⟨vI (uH (jA t r 2 a)),[],[]⟩:=by
 have m1:max 0 (min (a:Int) t.length)=a:=by omega
 unfold jA
 rw [if_neg (by decide),if_neg (by decide),if_pos rfl]
 obtain⟨k1,k2,k3⟩:=cK (fun j=>decide (¬t.getD (a+2+j) 0=r)) (t.length-(a+2))
 generalize gM (fun j=>decide (¬t.getD (a+2+j) 0=r)) (t.length-(a+2))=k at*
 have w1:=bM ((a:Int)+1) (by omega)
 simp only
 simp [l8,func235,f235,fF,m1,w1]
 rw [aF (fun j=> .on ⟨[(12,V.v (.int .i64 (((a+1+j:Nat):Int)))),(9,V.v (.int .i64 ((t.length:Int)))),(2,V.v (.int .i64 r)),(0, .aM i (ints t))],[],[],[]⟩) k ?_ ?_]
 ·have w2:=bM ((a:Int)+1+k+1) (by omega)
  by_cases q:a+2+k<t.length
  ·have q0:a+1+k+1<t.length:=by omega
   have q2:(a:Int)+1+k+1<t.length:=by omega
   have q3:0≤(a:Int)+1+k+1:=by omega
   have q4:((a:Int)+1+k+1).toNat=a+1+k+1:=by omega
   have h3:t[a+1+k+1]=r:=by
    have:=of_decide_eq_false (k3.resolve_left (by omega))
    rw [Classical.not_not,show a+2+k=a+1+k+1 by omega,getD_at q0]at this
    exact this
   rw [if_pos q]
   simp [q0,q2,q3,q4,aQ q0,h3,uH,w2]
  ·have q2:¬(a:Int)+1+k+1<t.length:=by omega
   rw [if_neg q]
   simp [q2,uH,w2]
 ·simp
 ·intro j hj
  have q0:a+1+j+1<t.length:=by omega
  have q2:(a:Int)+1+j+1<t.length:=by omega
  have q3:0≤(a:Int)+1+j+1:=by omega
  have q4:((a:Int)+1+j+1).toNat=a+1+j+1:=by omega
  have h3:¬t[a+1+j+1]=r:=by
   have:=of_decide_eq_true (k2 j hj)
   rwa [show a+2+j=a+1+j+1 by omega,getD_at q0]at this
  have hw:=bM ((a:Int)+1+j+1) (by omega)
  have hs:(a:Int)+1+(j+1)=(a:Int)+1+j+1:=by omega
  simp [q0,q2,q3,q4,aQ q0,h3,hw,hs]
theorem XT (t:List Int)(i:Option Nat)(a:Nat)(r:Int)(h:a≤t.length)(ht:t.length≤2000):l8 [.aM i (ints t),vI (a:Int),vI r,vI 3] [] []=some ⟨vI (uH (jA t r 3 a)),[],[]⟩:=by
 have m1:max 0 (min (a:Int) t.length)=a:=by omega
 unfold jA
 rw [if_neg (by decide),if_neg (by decide),if_neg (by decide),if_pos rfl]
 obtain⟨k1,k2,k3⟩:=cK (fun j=>decide (¬t.getD (a-2-j) 0=r)) (a-1)
 generalize gM (fun j=>decide (¬t.getD (a-2-j) 0=r)) (a-1)=k at*
 have w1:=bM ((a:Int)-1) (by omega)
 simp only
 simp [l8,func235,f235,fF,m1,w1]
 rw [aF (fun j=> .on ⟨[(13,V.v (.int .i64 ((a:Int)-1-j))),(2,V.v (.int .i64 r)),(0, .aM i (ints t))],[],[],[]⟩) k ?_ ?_]
 ·have w2:=bM ((a:Int)-1-k-1) (by omega)
  by_cases q:k<a-1
  ·have q1:a-2-k<t.length:=by omega
   have q2:(a:Int)-1-k-1<t.length:=by omega
   have q3:0≤(a:Int)-1-k-1:=by omega
   have q6:1≤(a:Int)-1-k:=by omega
   have q4:((a:Int)-1-k-1).toNat=a-2-k:=by omega
   have q5:((a-1-k:Nat):Int)=(a:Int)-1-k:=by omega
   have h3:t[a-2-k]=r:=by
    have:=of_decide_eq_false (k3.resolve_left (by omega))
    rw [Classical.not_not,getD_at q1]at this
    exact this
   rw [if_pos q]
   simp only [uH,q5]
   generalize (a:Int)-1-k=x at*
   simp [q1,q2,q3,q4,q6,aQ q1,h3,w2]
  ·have q2:¬1≤(a:Int)-1-k:=by omega
   rw [if_neg q]
   simp only [uH]
   generalize (a:Int)-1-k=x at*
   simp [q2]
 ·simp
 ·intro j hj
  have q1:a-2-j<t.length:=by omega
  have q2:(a:Int)-1-j-1<t.length:=by omega
  have q3:0≤(a:Int)-1-j-1:=by omega
  have q6:1≤(a:Int)-1-j:=by omega
  have q4:((a:Int)-1-j-1).toNat=a-2-j:=by omega
  have h3:¬t[a-2-j]=r:=by
   have:=of_decide_eq_true (k2 j hj)
   rwa [getD_at q1]at this
  have hw:=bM ((a:Int)-1-j-1) (by omega)
  have hs:(a:Int)-1-((j+1:Nat):Int)=(a:Int)-1-j-1:=by omega
  simp only [hs]
  generalize (a:Int)-1-j=x at*
  simp [q1,q2,q3,q4,q6,aQ q1,h3,hw]
theorem Jf (t:List Int)(i:Option Nat)(a:Nat)(r how:Int)(h:a≤t.length)(ht:t.length≤2000)(hw:0≤how∧how≤3):l8 [.aM i (ints t),vI (a:Int),vI r,vI how] [] []=some ⟨vI (uH (jA t r how a)),[],[]⟩:=by
 rcases(by omega:how=0∨how=1∨how=2∨how=3)with rfl|rfl|rfl|rfl
 ·exact XP t i a r h ht
 ·exact XQ t i a r h ht
 ·exact XR t i a r h ht
 ·exact XT t i a r h ht
def vE (t:List Int)(a:Int)(r:List dL)(ul:List fH)(cnt op:Int):dF:= {vC with Vi:=true,bQ:=2,ak:=⟨t,a⟩,bD:=cnt,Op:=op,aL:=⟨r⟩,fD:=⟨ul⟩}
structure VI (t:List Int) (a:Int) (r:List dL) (ul:List fH):Prop where
 text:eO t=true
 at0:0≤a
 at_:(a<t.length)∨(t= []∧a=0)
 ring:iG r=true
 undo:jT ul=true∧ul.length≤12
theorem VI.line {t:List Int}{a:Int}{r:List dL}{ul:List fH}(h:VI t a r ul):bU t a=true:=by
 have h0:=h.at0
 have:a≤t.length:=by rcases h.at_ with h|⟨h,h2⟩<;>omega
 unfold bU
 rw [h.text,bB.2 (by omega)];rfl
theorem VI.end_ {t:List Int}{a:Int}{r:List dL}{ul:List fH}(h:VI t a r ul):atEnd t a=false:=by
 rcases h.at_ with h|⟨h,h2⟩
 ·have:¬a=t.length:=by omega
  simp [atEnd,this]
 ·subst h;subst h2;rfl
theorem VI.ok {t:List Int}{a:Int}{r:List dL}{ul:List fH}(h:VI t a r ul)(cnt op:Int)(hc:0≤cnt∧cnt≤999)(ho:op=0∨op=100):(vE t a r ul cnt op).ok=true:=by
 have q1:=h.line
 have q2:iq cnt 0 999=true:=bB.2 hc
 have q3:fP true 2 t a op 0 0=true:=by
  have:=h.end_
  rcases ho with rfl|rfl<;>simp [fP,this]<;>decide
 have q4:=h.ring
 have q5:=h.undo.1
 simp only [dF.ok,gy,vE,vC,q1,q2,q3,q4,q5]
 rfl
theorem VI.set {t:List Int}{a:Int}{r:List dL}{ul:List fH}(h:VI t a r ul)(cnt op:Int)(hc:0≤cnt∧cnt≤999)(ho:op=0∨op=100):anf (vE t a r ul cnt op):=
 ⟨NM.of (h.ok cnt op hc ho),rfl,h.line,h.undo.1,by have:=h.undo.2;show ul.length≤19;omega⟩
section
variable {f:Int} {l:List ByteArray} (hh:iQ f l) {t:List Int} {a:Int} {r:List dL} {ul:List fH} (h:VI t a r ul)
include hh h
end
theorem acW (t u:List Int)(A:Nat)(hA:A≤t.length)(ht:eO t=true)(hu:u.all iB=true)(hl:t.length+u.length≤400):nU [.agg [.aM (some 0) (ints t),vI (A:Int)], .aM (some 1) (ints u)] [] []=some ⟨.fT [.agg [.own 0,vI (((A:Int)+u.length))],V.v (.bool true)],[],[(0,ints (t.take A++u++t.drop A))]⟩:=by
 have htt:t.all iB=true:=by simp only [eO,Bool.and_eq_true]at ht;exact ht.2
 have e1:=bP t A (by omega)
 rw [show bU t A=true from by unfold bU;rw [ht,bB.2 (by omega)];rfl]at e1
 have e2:=kQ (t.take A) (some 0) (by simp;omega)
 have hX:eO (t.take A++u++t.drop A)=true:=by
  simp only [eO,Bool.and_eq_true,decide_eq_true_eq]
  refine⟨by simp;omega,List.all_eq_true.2 fun x hx=>?_⟩
  rcases List.mem_append.1 hx with hx|hx
  ·rcases List.mem_append.1 hx with hx|hx
   ·exact List.all_eq_true.1 htt x (List.mem_of_mem_take hx)
   ·exact List.all_eq_true.1 hu x hx
  ·exact List.all_eq_true.1 htt x (List.mem_of_mem_drop hx)
 have hXl:(t.take A++u++t.drop A).length=t.length+u.length:=by simp;omega
 have e3:=bP (t.take A++u++t.drop A) ((A:Int)+u.length) (by omega)
 rw [show bU (t.take A++u++t.drop A) ((A:Int)+u.length)=true from by unfold bU;rw [hX,bB.2 (by omega)];rfl]at e3
 have q0:min A t.length=A:=by omega
 have q1:¬(400:Int)<u.length:=by omega
 have q2:(A+u.length)*8≤140737488355328:=by omega
 have q3:A+u.length≤4611686018427387904:=by omega
 have q4:(A+u.length+(t.length-A))*8≤140737488355328:=by omega
 have q5:A+u.length+(t.length-A)≤4611686018427387904:=by omega
 have q6:(A:Int)≤t.length:=by omega
 have q7:(t.drop A).take (t.length-A)=t.drop A:=List.take_of_length_le (by simp)
 have q8:(A+(u.length+(t.length-A)))*8≤140737488355328:=by omega
 have q9:A+(u.length+(t.length-A))≤4611686018427387904:=by omega
 have w:=bM ((A:Int)+u.length) (by omega)
 generalize hE:nU _ _ _=R
 simp [nU, -au,←au, -List.append_assoc,func216,f216,e1,e2,e3,q0,q1,q2,q3,q4,q5,q6,q7,q8,q9,w,hA]at hE
 exact hE.symm
theorem OG (e:dF)(a:Int):Br [gL e,vI a] [] []=some ⟨.agg [V.v (.bool e.Vi),vI 1, .aM (some 0) (ints e.ak.av),vI a,vI e.bD,vI e.Op,vI e.bN,vI e.fC,vI e.dY,vI e.bL,vI e.iO, .aM (some 1) (aC e.aL.aA), .aM (some 2) (aG e.fD.bT),vI e.kr, .aM (some 3) (ints e.gX.av),vI e.gX.At, .aM (some 4) (ints e.bO),vI e.lV, .aM (some 5) (ints e.bX.av),vI e.bX.At],[],[]⟩:=by
 simp [Br,func236,f236]
structure fV (e:dF):Prop where
 line:bU e.ak.av e.ak.At=true
 own:bU e.gX.av e.gX.At=true
 back:bU e.bX.av e.bX.At=true
 cnt:0≤e.bD∧e.bD≤999
 za:0≤e.bN∧e.bN≤999
 mode:(e.bQ=0∧e.Vi=false)∨((e.bQ=1∨e.bQ=2)∧e.Vi=true)∨e.bQ=3
 end_:¬(e.bQ=2∧atEnd e.ak.av e.ak.At=true)
 cmd:e.bQ=2∨(e.Op=0∧e.fC=0∧e.bN=0)
 opz:¬e.Op=0∨e.bN=0
 op:e.Op=0∨opC e.Op=true
 wait:e.fC=0∨xM e.fC=true
 find:dN e.dY e.bL=true
 last:0≤e.iO∧e.iO≤3
 ring:iG e.aL.aA=true
 undo:jT e.fD.bT=true
 Av:0≤e.kr∧e.kr≤1000000060
 hit:0≤e.lV∧e.lV≤1000000060
 OH:¬e.kr=0∨qA e.gX.av e.gX.At=true
 ql:e.bO.length≤40
 qp:e.bO.all dn=true
 OI:e.bQ=3∨(e.bO= []∧e.lV=0∧qA e.bX.av e.bX.At=true)
theorem fA {e:dF}:e.ok=true↔fV e:=by
 simp only [dF.ok,gy,fP,gq,Bool.and_eq_true,Bool.or_eq_true,decide_eq_true_eq,Bool.not_eq_true',beq_iff_eq,bne_iff_ne,bB,List.length_eq_zero_iff,Bool.and_eq_false_iff,beq_eq_false_iff_ne,ne_eq]
 constructor
 ·rintro ⟨a1,a2,a3,a4,a5,⟨b1,b2,b3,b4,b5,b6⟩,a7,a8,a9,a10,a11,a12,a13,a14,a15,a16⟩
  refine⟨a1,a2,a3,a4,a5,?_,?_,?_,b4,b5,b6,a7,a8,a9,a10,a11,a12,a13,a14,a15,?_⟩
  ·rcases b1 with(h|h)|h
   ·exact .inl h
   ·exact .inr (.inl h)
   ·exact .inr (.inr h)
  ·rintro ⟨h1,h2⟩
   rcases b2 with h|h
   ·exact h h1
   ·rw [h]at h2;cases h2
  ·rcases b3 with h|⟨⟨h1,h2⟩,h3⟩
   ·exact .inl h
   ·exact .inr ⟨h1,h2,h3⟩
  ·rcases a16 with h|⟨⟨h1,h2⟩,h3⟩
   ·exact .inl h
   ·exact .inr ⟨h1,h2,h3⟩
 ·rintro ⟨a1,a2,a3,a4,a5,b1,b2,b3,b4,b5,b6,a7,a8,a9,a10,a11,a12,a13,a14,a15,a16⟩
  refine⟨a1,a2,a3,a4,a5,⟨?_,?_,?_,b4,b5,b6⟩,a7,a8,a9,a10,a11,a12,a13,a14,a15,?_⟩
  ·rcases b1 with h|h|h
   ·exact .inl (.inl h)
   ·exact .inl (.inr h)
   ·exact .inr h
  ·by_cases h:e.bQ=2
   ·right
    cases he:atEnd e.ak.av e.ak.At
    ·rfl
    ·exact absurd ⟨h,he⟩ b2
   ·exact .inl h
  ·rcases b3 with h|⟨h1,h2,h3⟩
   ·exact .inl h
   ·exact .inr ⟨⟨h1,h2⟩,h3⟩
  ·rcases a16 with h|⟨h1,h2,h3⟩
   ·exact .inl h
   ·exact .inr ⟨⟨h1,h2⟩,h3⟩
theorem gD {t:List Int}{a:Int}(h1:t.length≤400)(h2:t.all iB=true)(h3:0≤a)(h4:a≤t.length):bU t a=true:=by
 simp only [bU,eO,Bool.and_eq_true,decide_eq_true_eq]
 exact⟨⟨h1,h2⟩,bB.2 ⟨h3,h4⟩⟩
theorem Gs {mode:Int}{t:List Int}{a:Int}(h:bU t a=true):bU t (jl mode t a)=true∧¬(mode=2∧atEnd t (jl mode t a)=true):=by
 obtain⟨h1,h2,h3,h4⟩:=bS h
 unfold jl SI
 by_cases hm:mode=2
 ·rw [if_pos hm]
  cases he:atEnd t a
  ·rw [if_neg (by simp)]
   exact⟨h,fun e=>by rw [he]at e;cases e.2⟩
  ·rw [if_pos rfl]
   simp only [atEnd,Bool.and_eq_true,decide_eq_true_eq,beq_iff_eq]at he
   refine⟨gD h1 h2 (by omega) (by omega),fun e=>?_⟩
   have e:=e.2
   simp only [atEnd,Bool.and_eq_true,decide_eq_true_eq,beq_iff_eq]at e
   omega
 ·rw [if_neg hm]
  exact⟨h,fun e=>hm e.1⟩
theorem fV.aS {e:dF}(h:fV e):e.ak.At=(aS e:Int)∧aS e≤e.ak.av.length∧e.ak.av.length≤400∧e.ak.av.all iB=true:=by
 obtain⟨h1,h2,h3,h4⟩:=bS h.line
 unfold Proofs.YtlpdjhiggpblcaaGreat.aS
 exact⟨by omega,by omega,h1,h2⟩
theorem Ko:(0:Int)≤0∧(0:Int)≤999:=by omega
theorem z3:(0:Int)≤0∧(0:Int)≤3:=by omega
theorem z60:(0:Int)≤0∧(0:Int)≤1000000060:=by omega
theorem gF {c:Prop} [Decidable c]{a b:dF×Int}(ha:c→fV a.1)(hb:¬c→fV b.1):fV (if c then a else b).1:=by
 by_cases hc:c
 ·rw [if_pos hc];exact ha hc
 ·rw [if_neg hc];exact hb hc
theorem fV.idle {e:dF}(h:fV e)(last:Int)(hl:0≤last∧last≤3):fV (sj e last):=
 ⟨h.line,h.own,h.back,Ko,Ko,h.mode,h.end_, .inr ⟨rfl,rfl,rfl⟩, .inr rfl, .inl rfl, .inl rfl,h.find,hl,h.ring,h.undo,h.Av,h.hit,h.OH,h.ql,h.qp,h.OI⟩
theorem fV.Aa {e:dF}(h:fV e):fV (dI e).1:=h.idle 0 (by omega)
theorem fV.set {e:dF}(h:fV e){t:List Int}{a:Int}(last:Int)(ht:bU t a=true)(hl:0≤last∧last≤3):fV (sF e t a last):=by
 obtain⟨c1,c2⟩:=Gs (mode:=e.bQ) ht
 exact⟨c1,h.own,h.back,Ko,Ko,h.mode,c2, .inr ⟨rfl,rfl,rfl⟩, .inr rfl, .inl rfl, .inl rfl,h.find,hl,h.ring,acS (fA.2 h) t last,h.Av,h.hit,h.OH,h.ql,h.qp,h.OI⟩
theorem fV.put {e:dF}(h:fV e){t:List Int}{a:Int}(ht:bU t a=true):fV (vY e t a).1:=h.set 0 ht (by omega)
theorem fV.Nh {e:dF}(h:fV e){l:List dL}(hl:iG l=true):fV {e with aL:=⟨l⟩}:=
 ⟨h.line,h.own,h.back,h.cnt,h.za,h.mode,h.end_,h.cmd,h.opz,h.op,h.wait,h.find,h.last,hl,h.undo,h.Av,h.hit,h.OH,h.ql,h.qp,h.OI⟩
theorem fV.go {e:dF}(h:fV e)(a:Int):fV (zf e a).1:=by
 obtain⟨h1,h2,h3,h4⟩:=h.aS
 exact h.put (gD h3 h4 (by unfold SQ;omega) (by unfold SQ;omega))
theorem tX {t:List Int}{a:Int}(h:bU t a=true){f u:Nat}(h1:f≤u)(h2:u≤t.length):bU (nW t f u) (cutAt a f u)=true∧(nW t f u).length=f+(t.length-u)∧bU (nW t f u) f=true:=by
 obtain⟨l1,l2,l3,l4⟩:=bS h
 have hl:(nW t f u).length=f+(t.length-u):=by unfold nW;simp;omega
 have hty:(nW t f u).all iB=true:=by
  refine List.all_eq_true.2 fun x hx=>?_
  rcases List.mem_append.1 hx with hx|hx
  ·exact List.all_eq_true.1 l2 x (List.mem_of_mem_take hx)
  ·exact List.all_eq_true.1 l2 x (List.mem_of_mem_drop hx)
 refine⟨gD (by omega) hty ?_ ?_,hl,gD (by omega) hty (by omega) (by omega)⟩
 ·unfold cutAt
  split
  ·omega
  ·split<;>omega
 ·unfold cutAt
  split
  ·omega
  ·split<;>omega
theorem Jg {t:List Int}{a:Int}(h:bU t a=true){f u:Nat}:eO ((t.drop f).take (u-f))=true:=by
 obtain⟨l1,l2,l3,l4⟩:=bS h
 simp only [eO,Bool.and_eq_true,decide_eq_true_eq]
 exact⟨by simp;omega,List.all_eq_true.2 fun x hx=>List.all_eq_true.1 l2 x (List.mem_of_mem_drop (List.mem_of_mem_take hx))⟩
theorem fV.cut {e:dF}(h:fV e){f u:Nat}(h2:u≤e.ak.av.length):fV (Gm e f u).1:=by
 unfold Gm
 (first|refine gF (fun _=>?_) (fun _=>?_)|split)
 ·rename_i h1;exact h.put (tX h.line (by omega) h2).1
 ·exact h.Aa
theorem fV.kill {e:dF}(h:fV e){f u:Nat}(how:Int)(h2:u≤e.ak.av.length):fV (mq e f u how).1:=by
 unfold mq
 (first|refine gF (fun _=>?_) (fun _=>?_)|split)
 ·rename_i h1
  exact(h.set 2 (tX h.line (by omega) h2).1 (by omega)).Nh (Gi h.ring (Jg h.line) _)
 ·exact h.Aa
theorem zx {t u:List Int}{a:Nat}(h1:t.length+u.length≤400)(h2:t.all iB=true)(h3:u.all iB=true)(h4:a≤t.length):(Al t a u).length=t.length+u.length∧∀b:Int,0≤b→b≤t.length+u.length→bU (Al t a u) b=true:=by
 have hl:(Al t a u).length=t.length+u.length:=by unfold Al;simp;omega
 refine⟨hl,fun b b1 b2=>gD (by omega) (List.all_eq_true.2 fun x hx=>?_) b1 (by omega)⟩
 rcases List.mem_append.1 hx with hx|hx
 ·rcases List.mem_append.1 hx with hx|hx
  ·exact List.all_eq_true.1 h2 x (List.mem_of_mem_take hx)
  ·exact List.all_eq_true.1 h3 x hx
 ·exact List.all_eq_true.1 h2 x (List.mem_of_mem_drop hx)
theorem fV.ins {e:dF}(h:fV e){u:List Int}(hu:u.all iB=true)(last:Int)(hl:0≤last∧last≤3):fV (Cy e u last).1:=by
 obtain⟨h1,h2,h3,h4⟩:=h.aS
 unfold Cy
 (first|refine gF (fun _=>?_) (fun _=>?_)|split)
 ·rename_i hc
  exact h.set last ((zx hc h4 hu h2).2 _ (by omega) (by omega)) hl
 ·exact h.Aa
theorem xW {l:List dL}(h:iG l=true):(bE l).all iB=true∧(bE l).length≤400:=by
 unfold bE
 cases l with
 | nil=>exact⟨rfl,by simp⟩
 | cons p l=>
  have:=(wS h).2 p (by simp)
  exact⟨this.2.2,this.2.1⟩
theorem SX {l:List dL}(h:iG l=true):iG (kS l)=true:=by
 cases l with
 | nil=>rfl
 | cons p l=>
  unfold kS
  simp only [iG,List.all_cons,Bool.and_eq_true,decide_eq_true_eq,List.length_cons]at h
  simp only [iG,List.drop_succ_cons,List.drop_zero,List.take_succ_cons,List.take_zero,List.all_append,List.all_cons,List.all_nil,Bool.and_true,Bool.and_eq_true,decide_eq_true_eq,List.length_append,List.length_cons,List.length_nil]
  exact⟨⟨h.1.2,h.1.1⟩,by omega⟩
theorem fV.ang {e:dF}(h:fV e):fV (Jb e).1:=by
 unfold Jb
 (first|refine gF (fun _=>?_) (fun _=>?_)|split)
 ·exact h.Aa
 ·exact h.ins (xW h.ring).1 3 (by omega)
theorem fV.ahZ {e:dF}(h:fV e):fV (mU e).1:=by
 obtain⟨h1,h2,h3,h4⟩:=h.aS
 unfold mU
 (first|refine gF (fun _=>?_) (fun _=>?_)|split)
 ·rename_i hc
  obtain⟨hc1,hc2⟩:=hc
  simp only [P9,Bool.and_eq_true,decide_eq_true_eq]at hc1
  obtain⟨q1,q2,q3⟩:=tX h.line (show Proofs.YtlpdjhiggpblcaaGreat.aS e-(bE e.aL.aA).length≤Proofs.YtlpdjhiggpblcaaGreat.aS e by omega) h2
  obtain⟨-,c2, -, -⟩:=bS q1
  have hr:=SX h.ring
  refine(h.Nh hr).set 3 ((zx hc2 c2 (xW hr).1 (by omega)).2 _ (by omega) (by omega)) (by omega)
 ·exact h.Aa
theorem fV.case {e:dF}(h:fV e)(how:Int):fV (KJ e how).1:=by
 obtain⟨h1,h2,h3,h4⟩:=h.aS
 have:=wT h2
 have hl:=tL e.ak.av (Proofs.YtlpdjhiggpblcaaGreat.aS e) how (gZ e.ak.av (Proofs.YtlpdjhiggpblcaaGreat.aS e)-Proofs.YtlpdjhiggpblcaaGreat.aS e)
 exact h.put (gD (by omega) (Bd h4 _ _ _) (by omega) (by omega))
theorem fV.digit {e:dF}(h:fV e){r:Int}(hr:iq r 48 57=true):fV (Jc e r).1:=by
 have:=bB.1 hr
 have hc:=h.cnt
 exact⟨h.line,h.own,h.back,by show 0≤min (10*e.bD+r-48) 999∧min (10*e.bD+r-48) 999≤999;omega,h.za,h.mode,h.end_,h.cmd,h.opz,h.op,h.wait,h.find,h.last,h.ring,h.undo,h.Av,h.hit,h.OH,h.ql,h.qp,h.OI⟩
theorem fV.meta_ {e:dF}(h:fV e)(r:Int):fV (GN e r).1:=by
 obtain⟨h1,h2,h3,h4⟩:=h.aS
 unfold GN
 (first|refine gF (fun _=>?_) (fun _=>?_)|split)
 ·exact h.digit (by assumption)
 (first|refine gF (fun _=>?_) (fun _=>?_)|split)
 ·exact h.go _
 (first|refine gF (fun _=>?_) (fun _=>?_)|split)
 ·exact h.go _
 (first|refine gF (fun _=>?_) (fun _=>?_)|split)
 ·exact h.kill _ (rO (fun a ha=>(wT ha).2) _ _ h2)
 (first|refine gF (fun _=>?_) (fun _=>?_)|split)
 ·exact h.ahZ
 (first|refine gF (fun _=>?_) (fun _=>?_)|split)
 ·exact h.case _
 (first|refine gF (fun _=>?_) (fun _=>?_)|split)
 ·exact h.case _
 (first|refine gF (fun _=>?_) (fun _=>?_)|split)
 ·exact h.case _
 ·exact h.Aa
theorem fV.swap {e:dF}(h:fV e):fV (SS e).1:=by
 obtain⟨h1,h2,h3,h4⟩:=h.aS
 unfold SS
 (first|refine gF (fun _=>?_) (fun _=>?_)|split)
 ·exact h.Aa
 ·rename_i hc
  have hl:=Lu e.ak.av (min (Proofs.YtlpdjhiggpblcaaGreat.aS e) (e.ak.av.length-1))
  exact h.put (gD (by omega) (Gj h4 (by omega)) (by omega) (by omega))
theorem fV.aj6 {e:dF}(h:fV e):fV (nK e).1:=by
 unfold nK
 cases hu:e.fD.bT.getLast? with
 | none=>exact h.Aa
 | some x=>
  obtain⟨u1,u2⟩:=pI h.undo
  have hx:=u2 x (List.mem_of_getLast? hu)
  obtain⟨c1,c2⟩:=Gs (mode:=e.bQ) hx
  refine⟨c1,h.own,h.back,Ko,Ko,h.mode,c2, .inr ⟨rfl,rfl,rfl⟩, .inr rfl, .inl rfl, .inl rfl,h.find,z3,h.ring,?_,h.Av,h.hit,h.OH,h.ql,h.qp,h.OI⟩
  exact XM (by simp;omega) fun p hp=>u2 p (List.dropLast_subset _ hp)
theorem fV.ah0 {e:dF}(h:fV e):fV (Cn e).1:=
 ⟨h.line,h.own,h.line,Ko,Ko, .inr (.inr rfl),fun q=>absurd q.1 (by show ¬(3:Int)=2;decide), .inr ⟨rfl,rfl,rfl⟩, .inr rfl, .inl rfl, .inl rfl,h.find,z3,h.ring,h.undo,h.Av,z60,h.OH,by simp [Cn,sj],rfl, .inl rfl⟩
theorem J6 {s:ByteArray}{t:List Int}(h:mD s=some t):eO t=true∧Reads s.data.toList t []:=by
 unfold mD at h
 split at h
 ·rename_i hc
  injection h with h
  subst h
  have:=tO s.data.toList
  rw [hc.1]at this
  exact⟨hc.2,this⟩
 ·cases h
theorem fV.step {e:dF}(h:fV e){f:Int}{l:List ByteArray}(hh:iQ f l)(Af:Int):fV (jP e f l Af).1:=by
 unfold jP
 cases hs:tQ e f l Af with
 | none=>exact h.Aa
 | some x=>
  simp only
  have h1:=hh.first
  have h2:=hh.len
  unfold tQ at hs
  (first|(rcases kW hs with⟨_,hs⟩|⟨_,hs⟩)|split at hs)
  ·rename_i hc
   injection hs with hs
   subst hs
   obtain⟨c1,c2⟩:=Gs (mode:=e.bQ) h.own
   exact⟨c1,rfl,h.back,Ko,Ko,h.mode,c2, .inr ⟨rfl,rfl,rfl⟩, .inr rfl, .inl rfl, .inl rfl,h.find,z3,h.ring,rfl,⟨by show(0:Int)≤0;omega,by show(0:Int)≤1000000060;omega⟩,h.hit, .inr rfl,h.ql,h.qp,h.OI⟩
  ·split at hs
   ·cases hs
   ·rename_i t ht
    injection hs with hs
    subst hs
    cases hg:pK f l (Proofs.YtlpdjhiggpblcaaGreat.KI e f l+Af)with
    | none=>rw [hg]at ht;cases ht
    | some s=>
     rw [hg]at ht
     obtain⟨tok, -⟩:=J6 ht
     unfold pK at hg
     split at hg
     ·rename_i hc
      have tl:=tok
      simp only [eO,Bool.and_eq_true,decide_eq_true_eq]at tl
      refine⟨?_,?_,h.back,Ko,Ko,h.mode,?_, .inr ⟨rfl,rfl,rfl⟩, .inr rfl, .inl rfl, .inl rfl,h.find,z3,h.ring,rfl,?_,h.hit, .inl ?_,h.ql,h.qp,h.OI⟩
      ·refine gD tl.1 tl.2 ?_ ?_
       ·show 0≤(if e.bQ=2 then(0:Int)else t.length);split<;>omega
       ·show(if e.bQ=2 then(0:Int)else t.length)≤t.length;split<;>omega
      ·show bU (if e.kr=0 then e.ak else e.gX).av (if e.kr=0 then e.ak else e.gX).At=true
       (first|refine gF (fun _=>?_) (fun _=>?_)|split)
       ·exact h.line
       ·exact h.own
      ·rintro ⟨q1,q2⟩
       have q1:e.bQ=2:=q1
       have q2:atEnd t (if e.bQ=2 then(0:Int)else t.length)=true:=q2
       rw [if_pos q1]at q2
       simp only [atEnd,Bool.and_eq_true,decide_eq_true_eq,beq_iff_eq]at q2
       omega
      ·show 0≤Proofs.YtlpdjhiggpblcaaGreat.KI e f l+Af∧Proofs.YtlpdjhiggpblcaaGreat.KI e f l+Af≤1000000060
       omega
      ·show ¬Proofs.YtlpdjhiggpblcaaGreat.KI e f l+Af=0
       omega
     ·cases hg
theorem fV.anh {e:dF}(h:fV e){f:Int}{l:List ByteArray}(hh:iQ f l)(r:Int):fV (KL e f l r).1:=by
 obtain⟨h1,h2,h3,h4⟩:=h.aS
 unfold KL
 (first|refine gF (fun _=>?_) (fun _=>?_)|split)
 ·exact h.go _
 (first|refine gF (fun _=>?_) (fun _=>?_)|split)
 ·exact h.go _
 (first|refine gF (fun _=>?_) (fun _=>?_)|split)
 ·exact h.go _
 (first|refine gF (fun _=>?_) (fun _=>?_)|split)
 ·exact h.go _
 (first|refine gF (fun _=>?_) (fun _=>?_)|split)
 ·exact h.step hh _
 (first|refine gF (fun _=>?_) (fun _=>?_)|split)
 ·exact h.step hh _
 (first|refine gF (fun _=>?_) (fun _=>?_)|split)
 ·exact h.kill _ (Nat.le_refl _)
 (first|refine gF (fun _=>?_) (fun _=>?_)|split)
 ·exact h.ang
 (first|refine gF (fun _=>?_) (fun _=>?_)|split)
 ·exact h.swap
 (first|refine gF (fun _=>?_) (fun _=>?_)|split)
 ·exact h.aj6
 (first|refine gF (fun _=>?_) (fun _=>?_)|split)
 ·exact h.ah0
 ·exact h.Aa
theorem fV.afQ {e:dF}(h:fV e){r:Int}{p:dF×Int}(hp:ig e r=some p):fV p.1:=by
 obtain⟨h1,h2,h3,h4⟩:=h.aS
 have hd:fV (Qr e).1:=h.cut (by omega)
 unfold ig at hp
 (first|(rcases kW hp with⟨_,hp⟩|⟨_,hp⟩)|split at hp)
 ·injection hp with hp;subst hp;exact h
 (first|(rcases kW hp with⟨_,hp⟩|⟨_,hp⟩)|split at hp)
 ·injection hp with hp;subst hp;exact h
 (first|(rcases kW hp with⟨_,hp⟩|⟨_,hp⟩)|split at hp)
 ·injection hp with hp;subst hp
  (first|refine gF (fun _=>?_) (fun _=>?_)|split)
  ·exact h
  ·exact hd
 (first|(rcases kW hp with⟨_,hp⟩|⟨_,hp⟩)|split at hp)
 ·injection hp with hp;subst hp;exact h.kill _ h2
 (first|(rcases kW hp with⟨_,hp⟩|⟨_,hp⟩)|split at hp)
 ·injection hp with hp;subst hp;exact h.kill _ h2
 ·cases hp
theorem Jh {p:Int→Bool}{r:Int}(h:p r=true)(n:Nat):(List.replicate n r).all p=true:=List.all_eq_true.2 fun x hx=>by rw [List.eq_of_mem_replicate hx];exact h
theorem fV.plain {e:dF}(h:fV e){f:Int}{l:List ByteArray}(hh:iQ f l){k r:Int}(hk:jk k r=true){p:dF×Int}(hp:pO e f l k r=some p):fV p.1:=by
 obtain⟨h1,h2,h3,h4⟩:=h.aS
 have hd:fV (Qr e).1:=h.cut (by omega)
 unfold pO at hp
 (first|(rcases kW hp with⟨_,hp⟩|⟨_,hp⟩)|split at hp)
 ·injection hp with hp;subst hp
  rename_i hk1
  subst hk1
  exact h.ins (Jh (om hk) _) 1 (by omega)
 (first|(rcases kW hp with⟨_,hp⟩|⟨_,hp⟩)|split at hp)
 ·injection hp with hp;subst hp;exact h.ins (Jh (by decide) _) 1 (by omega)
 (first|(rcases kW hp with⟨_,hp⟩|⟨_,hp⟩)|split at hp)
 ·injection hp with hp;subst hp;exact h
 (first|(rcases kW hp with⟨_,hp⟩|⟨_,hp⟩)|split at hp)
 ·exact h.afQ hp
 (first|(rcases kW hp with⟨_,hp⟩|⟨_,hp⟩)|split at hp)
 ·injection hp with hp;subst hp;exact h.cut h2
 (first|(rcases kW hp with⟨_,hp⟩|⟨_,hp⟩)|split at hp)
 ·injection hp with hp;subst hp;exact hd
 (first|(rcases kW hp with⟨_,hp⟩|⟨_,hp⟩)|split at hp)
 ·injection hp with hp;subst hp;exact h.go _
 (first|(rcases kW hp with⟨_,hp⟩|⟨_,hp⟩)|split at hp)
 ·injection hp with hp;subst hp;exact h.go _
 (first|(rcases kW hp with⟨_,hp⟩|⟨_,hp⟩)|split at hp)
 ·injection hp with hp;subst hp;exact h.go _
 (first|(rcases kW hp with⟨_,hp⟩|⟨_,hp⟩)|split at hp)
 ·injection hp with hp;subst hp;exact h.go _
 (first|(rcases kW hp with⟨_,hp⟩|⟨_,hp⟩)|split at hp)
 ·injection hp with hp;subst hp;exact h.step hh _
 (first|(rcases kW hp with⟨_,hp⟩|⟨_,hp⟩)|split at hp)
 ·injection hp with hp;subst hp;exact h.step hh _
 ·cases hp
theorem fV.emacs {e:dF}(h:fV e){f:Int}{l:List ByteArray}(hh:iQ f l){k r:Int}(hk:jk k r=true):fV (DY e f l k r).1:=by
 obtain⟨h1,h2,h3,h4⟩:=h.aS
 unfold DY
 cases hp:pO e f l k r with
 | some p=>exact h.plain hh hk hp
 | none=>
  simp only
  (first|refine gF (fun _=>?_) (fun _=>?_)|split)
  ·exact h.meta_ r
  (first|refine gF (fun _=>?_) (fun _=>?_)|split)
  ·exact h.kill _ h2
  (first|refine gF (fun _=>?_) (fun _=>?_)|split)
  ·exact h.anh hh r
  ·exact h.Aa
theorem dw (n most:Int)(h:0≤most):fJ [vI n,vI most] [] []=some ⟨vI (max 0 (min n most)),[],[]⟩:=by
 unfold fJ
 by_cases c1:n<0
 ·rw [show max 0 (min n most)=0 by omega]
  simp [func118,f118,c1]
 ·by_cases c2:most<n
  ·rw [show max 0 (min n most)=most by omega]
   simp [func118,f118,c1,c2]
  ·rw [show max 0 (min n most)=n by omega]
   simp [func118,f118,c1,c2]
theorem tY (a b c:List Int)(i j k:Option Nat)(h:a.length+b.length+c.length≤4000):mX [.aM i (ints a), .aM j (ints b), .aM k (ints c)] [] []=some ⟨.own 0,[],[(0,ints (a++b++c))]⟩:=by
 have g1:a.length*8≤140737488355328:=by omega
 have g2:a.length≤4611686018427387904:=by omega
 have g3:(a.length+b.length)*8≤140737488355328:=by omega
 have g4:a.length+b.length≤4611686018427387904:=by omega
 have g5:(a.length+b.length+c.length)*8≤140737488355328:=by omega
 have g6:a.length+b.length+c.length≤4611686018427387904:=by omega
 have g7:(a.length+(b.length+c.length))*8≤140737488355328:=by omega
 have g8:a.length+(b.length+c.length)≤4611686018427387904:=by omega
 simp [mX, -au,←au, -List.append_assoc,func113,f113,g1,g2,g3,g4,g5,g6,g7,g8]
theorem Ni (t:List Int)(a:Int)(ok:Bool)(h:t.length≤1000000):Ew [.agg [.aM (some 0) (ints t),vI a],V.v (.bool ok)] [] []=some (if ok=true∧bU t a=true then⟨.fT [.agg [.aM (some 0) (ints t),vI a],V.v (.bool true)],[],[]⟩else⟨.fT [.agg [.own 0,vI 0],V.v (.bool false)],[],[(0,[])]⟩):=by
 have e1:=dB t a (by omega)
 unfold Ew
 cases ok
 ·rw [if_neg (by simp)]
  simp [func279,f279]
 ·cases hl:bU t a
  ·rw [hl]at e1
   rw [if_neg (by simp)]
   simp [func279,f279,e1]
  ·rw [hl]at e1
   rw [if_pos ⟨rfl,rfl⟩]
   simp [func279,f279,e1]
theorem OJ (t:List Int)(a at_:Int)(h:bU t a=true):yX [.agg [.aM (some 0) (ints t),vI a],vI at_] [] []=some ⟨.fT [.agg [.own 0,vI (max 0 (min at_ t.length))],V.v (.bool true)],[],[(0,ints t)]⟩:=by
 obtain⟨h1,h2,h3,h4⟩:=bS h
 have e1:=vT t a h
 have e2:=tY t [] [] (some 0) (some 1) (some 2) (by simp;omega)
 have e3:=dw at_ t.length (by omega)
 have e4:=Ni t (max 0 (min at_ t.length)) true (by omega)
 rw [if_pos ⟨rfl,gD h1 h2 (by omega) (by omega)⟩]at e4
 simp only [List.append_nil,aZ]at e2
 generalize hE:yX _ _ _=R
 simp [yX, -au,func247,f247,e1,e2,e3,e4]at hE
 exact hE.symm
theorem Co (t u:List Int)(a:Int)(h:bU t a=true)(hu:u.all iB=true)(hu2:u.length≤2000):qR [.agg [.aM (some 0) (ints t),vI a], .aM (some 1) (ints u)] [] []=
  some (if t.length+u.length≤400 then⟨.fT [.agg [.own 0,vI (a+u.length)],V.v (.bool true)],[],[(0,ints (Al t a.toNat u))]⟩else⟨.fT [.agg [.own 0,vI 0],V.v (.bool false)],[],[(0,[])]⟩):=by
 obtain⟨h1,h2,h3,h4⟩:=bS h
 obtain⟨A,hA⟩:=Int.eq_ofNat_of_zero_le h3
 subst hA
 have hA:A≤t.length:=by omega
 rw [Int.toNat_natCast]
 have e1:=vT t A h
 have e2:=tY (t.take A) u (t.drop A) (some 0) (some 1) (some 2) (by simp;omega)
 have hXl:(t.take A++u++t.drop A).length=t.length+u.length:=by simp;omega
 have e3:=Ni (t.take A++u++t.drop A) ((A:Int)+u.length) true (by omega)
 have q6:min A t.length=A:=by omega
 have q7:(A:Int)≤t.length:=by omega
 have q8:(t.drop A).take (t.length-A)=t.drop A:=List.take_of_length_le (by simp)
 have w:=bM ((A:Int)+u.length) (by omega)
 unfold Al
 by_cases hc:t.length+u.length≤400
 ·rw [if_pos hc]
  rw [if_pos ⟨rfl,(zx hc h2 hu hA).2 _ (by omega) (by omega)⟩]at e3
  generalize t.take A++u++t.drop A=X at*
  generalize hE:qR _ _ _=R
  simp [qR, -au,func250,f250,e1,e2,e3,q6,q7,q8,hA,w]at hE
  exact hE.symm
 ·rw [if_neg hc]
  have hb:bU (t.take A++u++t.drop A) ((A:Int)+u.length)=false:=by unfold bU eO;rw [decide_eq_false (by omega)];rfl
  rw [hb,if_neg (by simp)]at e3
  generalize t.take A++u++t.drop A=X at*
  generalize hE:qR _ _ _=R
  simp [qR, -au,func250,f250,e1,e2,e3,q6,q7,q8,hA,w]at hE
  exact hE.symm
theorem SY (t:List Int)(a:Int)(h:bU t a=true)(f u:Int):Ce [.agg [.aM (some 0) (ints t),vI a],vI f,vI u] [] []=some ⟨V.v (.bool (decide (0≤f∧f≤u∧u≤t.length))),[],[]⟩:=by
 have e1:=vT t a h
 unfold Ce
 by_cases c1:0≤f
 ·by_cases c2:f≤u
  ·by_cases c3:u≤t.length<;>simp [func252,f252,e1,c1,c2,c3]
  ·simp [func252,f252,e1,c1,c2]
 ·simp [func252,f252,e1,c1]
theorem Cq (t:List Int)(a:Int)(h:bU t a=true)(f mQ:Nat)(h1:f≤mQ)(h2:mQ≤t.length):qV [.agg [.aM (some 0) (ints t),vI a],vI (f:Int),vI (mQ:Int)] [] []=some ⟨.fT [.agg [.own 0,vI (cutAt a f mQ)], .own 1,V.v (.bool true)],[],[(0,ints (t.take f++t.drop mQ)),(1,ints ((t.drop f).take (mQ-f)))]⟩:=by
 obtain⟨h3,h4,h5,h6⟩:=bS h
 have e1:=SY t a h f mQ
 rw [decide_eq_true ⟨by omega,by omega,by omega⟩]at e1
 have e2:=tY (t.take f) [] (t.drop mQ) (some 0) (some 1) (some 2) (by simp;omega)
 have e3:=tY [] ((t.drop f).take (mQ-f)) [] (some 0) (some 1) (some 2) (by simp;omega)
 simp only [List.append_nil,List.nil_append,aZ]at e2 e3
 have q1:(f:Int)≤mQ:=by omega
 have q2:(mQ:Int)≤t.length:=by omega
 have q3:(f:Int)≤t.length:=by omega
 have q4:f≤t.length:=by omega
 have q9:(t.drop mQ).take (t.length-mQ)=t.drop mQ:=List.take_of_length_le (by simp)
 have w1:=bM ((mQ:Int)-f) (by omega)
 have w2:=bM (a-((mQ:Int)-f)) (by omega)
 unfold cutAt
 generalize t.take f++t.drop mQ=X at*
 generalize hE:qV _ _ _=R
 unfold qV at hE
 by_cases c1:(mQ:Int)≤a
 ·rw [if_pos c1]
  simp [-au,func192,f192,e1,e2,e3,q1,q2,q3,q4,q9,w1,w2,c1,h1,h2]at hE
  exact hE.symm
 ·rw [if_neg c1]
  by_cases c2:(f:Int)<a
  ·rw [if_pos c2]
   simp [-au,func192,f192,e1,e2,e3,q1,q2,q3,q4,q9,c1,c2,h1,h2]at hE
   exact hE.symm
  ·rw [if_neg c2]
   simp [-au,func192,f192,e1,e2,e3,q1,q2,q3,q4,q9,c1,c2,h1,h2]at hE
   exact hE.symm
theorem J7 {r lo hi:Int}(h:iq r lo hi=false):¬lo≤r∨(lo≤r∧¬r≤hi):=by
 by_cases c:lo≤r
 ·refine .inr ⟨c,fun q=>?_⟩
  rw [bB.2 ⟨c,q⟩]at h
  cases h
 ·exact .inl c
theorem Gt (r:Int):kK [vI r] [] []=some ⟨vI (kM r),[],[]⟩:=by
 generalize hE:kK _ _ _=R
 unfold kK at hE
 unfold kM
 by_cases h1:r=9
 ·subst h1;simp [func254,f254]at hE;exact hE.symm
 by_cases h2:r=10
 ·subst h2;simp [func254,f254]at hE;exact hE.symm
 by_cases h3:r=32
 ·subst h3;simp [func254,f254]at hE;exact hE.symm
 rw [if_neg (by omega)]
 cases h4:iq r 97 122
 case true=>
  obtain⟨c1,c2⟩:=bB.1 h4
  rw [if_pos (.inl rfl)]
  simp [func254,f254,h1,h2,h3,c1,c2]at hE
  exact hE.symm
 cases h5:iq r 65 90
 case true=>
  obtain⟨c1,c2⟩:=bB.1 h5
  rw [if_pos (.inr (.inl rfl))]
  have c3:¬97≤r:=by omega
  simp [func254,f254,h1,h2,h3,c1,c2,c3]at hE
  exact hE.symm
 cases h6:iq r 48 57
 case true=>
  obtain⟨c1,c2⟩:=bB.1 h6
  rw [if_pos (.inr (.inr (.inl rfl)))]
  have c3:¬97≤r:=by omega
  have c4:¬65≤r:=by omega
  simp [func254,f254,h1,h2,h3,c1,c2,c3,c4]at hE
  exact hE.symm
 have e9:=aW r
 have fin:∀c:Bool,(159<r→dn r=c)→(kK [vI r] [] []=some ⟨vI (if r=95∨(159<r∧c=true)then 1 else 2),[],[]⟩):=by
  intro c hc
  unfold kK
  have hq:159<r→oG [vI r] [] []=some ⟨V.v (.bool c),[],[]⟩:=fun q=>by rw [e9,hc q]
  rcases J7 h4 with d1|⟨d1,d2⟩<;>rcases J7 h5 with f1|⟨f1,f2⟩<;>rcases J7 h6 with g1|⟨g1,g2⟩<;>(try omega)
  all_goals
   by_cases h7:r=95
   ·subst h7
    simp [func254,f254, *]
   ·by_cases h8:159<r
    ·have hq:=hq h8
     cases c<;>simp [func254,f254, *]
    ·simp [func254,f254, *]
 have:=fin (dn r) (fun _=>rfl)
 unfold kK at this
 rw [this]at hE
 rw [←hE]
 simp
theorem afR (t:List Int)(i:Option Nat)(a:Nat)(h:a≤t.length)(ht:t.length≤2000):JR [.aM i (ints t),vI (a:Int)] [] []=some ⟨vI (((gZ t a:Nat):Int)),[],[]⟩:=by
 have hc:∀j (h:j<t.length),kK [vI (t[j])] [] []=some ⟨vI (kM (t.getD j 0)),[],[]⟩:=fun j hj=>by rw [getD_at hj];exact Gt _
 unfold gZ
 generalize hcf:(fun j=>kM (t.getD j 0))=cf
 have SV:∀j,kM (t.getD j 0)=cf j:=fun j=>by rw [←hcf]
 simp only [SV]at hc⊢
 have S9:=dw (a:Int) t.length (by omega)
 rw [show max 0 (min (a:Int) t.length)=a by omega]at S9
 obtain⟨k1,k2,k3⟩:=cK (fun j=>decide (¬cf (a+j)=1)) (t.length-a)
 generalize gM (fun j=>decide (¬cf (a+j)=1)) (t.length-a)=k at*
 obtain⟨n1,n2,n3⟩:=cK (fun j=>decide (cf (a+k+j)=1)) (t.length-(a+k))
 generalize gM (fun j=>decide (cf (a+k+j)=1)) (t.length-(a+k))=m at*
 have GX:∀m n:Nat,0≤(m:Int)+n∧((m:Int)+n).toNat=m+n:=fun m n=>⟨by omega,by omega⟩
 have tn3:∀m n p:Nat,0≤(m:Int)+n+p∧((m:Int)+n+p).toNat=m+n+p:=fun m n p=>⟨by omega,by omega⟩
 simp [JR,func194,f194,S9]
 rw [aF (fun j=> .on ⟨[(1,V.v (.int .i64 (((a+j:Nat):Int)))),(0, .aM i (ints t))],[],[],[]⟩) k ?_ ?_]
 ·have st1:∀j,j<m→a+k+j<t.length∧cf (a+k+j)=1:=fun j hj=>⟨by omega,of_decide_eq_true (n2 j hj)⟩
  have hend:a+k=t.length∨(a+k<t.length∧cf (a+k)=1):=by
   rcases k3 with k3|k3
   ·exact .inl (by omega)
   ·by_cases q:a+k=t.length
    ·exact .inl q
    ·exact .inr ⟨by omega,by simpa using of_decide_eq_false k3⟩
  have hfin:a+k+m=t.length∨(a+k+m<t.length∧¬cf (a+k+m)=1):=by
   rcases n3 with n3|n3
   ·exact .inl (by omega)
   ·by_cases q:a+k+m=t.length
    ·exact .inl q
    ·exact .inr ⟨by omega,of_decide_eq_false n3⟩
  rcases hend with q|⟨q,q1⟩
  ·have q2:(a:Int)+k=t.length:=by omega
   have hm:m=0:=by omega
   subst hm
   simp [q,q2]
   rw [bK]
   simp
  ·have q2:(a:Int)+k<t.length:=by omega
   have e1:=hc (a+k) q
   rw [q1]at e1
   simp [q,q2,aQ q,e1,GX]
   rw [aF (fun j=> .on ⟨[(1,V.v (.int .i64 (((a+k+j:Nat):Int)))),(0, .aM i (ints t))],[],[],[]⟩) m ?_ ?_]
   ·rcases hfin with r|⟨r,r1⟩
    ·have r2:(a:Int)+k+m=t.length:=by omega
     simp [r,r2]
    ·have r2:(a:Int)+k+m<t.length:=by omega
     have e2:=hc (a+k+m) r
     simp [r,r2,aQ r,e2,r1,tn3]
   ·simp
   ·intro j hj
    obtain⟨s1,s2⟩:=st1 j hj
    have s3:(a:Int)+k+j<t.length:=by omega
    have e2:=hc (a+k+j) s1
    have hw:=bM ((a:Int)+k+(j+1)) (by omega)
    have hs:(a:Int)+k+j+1=(a:Int)+k+(j+1):=by omega
    simp [s1,s3,aQ s1,e2,s2,hw,hs,GX,tn3]
 ·simp
 ·intro j hj
  have s1:a+j<t.length:=by omega
  have s3:(a:Int)+j<t.length:=by omega
  have e2:=hc (a+j) s1
  have s2:¬cf (a+j)=1:=of_decide_eq_true (k2 j hj)
  have hw:=bM ((a:Int)+(j+1)) (by omega)
  have hs:(a:Int)+j+1=(a:Int)+(j+1):=by omega
  simp [s1,s3,aQ s1,e2,s2,hw,hs,GX,tn3]
theorem aaq (t:List Int)(i:Option Nat)(a:Nat)(h:a≤t.length)(ht:t.length≤2000):C8 [.aM i (ints t),vI (a:Int)] [] []=some ⟨vI (((fE t a:Nat):Int)),[],[]⟩:=by
 have hc:∀j (h:j<t.length),kK [vI (t[j])] [] []=some ⟨vI (kM (t.getD j 0)),[],[]⟩:=fun j hj=>by rw [getD_at hj];exact Gt _
 unfold fE
 generalize hcf:(fun j=>kM (t.getD j 0))=cf
 have SV:∀j,kM (t.getD j 0)=cf j:=fun j=>by rw [←hcf]
 simp only [SV]at hc⊢
 have S9:=dw (a:Int) t.length (by omega)
 rw [show max 0 (min (a:Int) t.length)=a by omega]at S9
 have idx:=Nc h ht
 obtain⟨k1,k2,k3⟩:=cK (fun j=>decide (¬cf (a-j-1)=1)) a
 generalize gM (fun j=>decide (¬cf (a-j-1)=1)) a=k at*
 obtain⟨n1,n2,n3⟩:=cK (fun j=>decide (cf (a-k-j-1)=1)) (a-k)
 generalize gM (fun j=>decide (cf (a-k-j-1)=1)) (a-k)=m at*
 simp [C8,func195,f195,S9]
 rw [aF (fun j=> .on ⟨[(1,V.v (.int .i64 (((a-j:Nat):Int)))),(0, .aM i (ints t))],[],[],[]⟩) k ?_ ?_]
 ·rcases k3 with k3|k3
  ·subst k3
   have hm:m=0:=by omega
   subst hm
   simp
   rw [bK]
   simp
  ·by_cases q0:k=a
   ·subst q0
    have hm:m=0:=by omega
    subst hm
    simp
    rw [bK]
    simp
   have q1:cf (a-k-1)=1:=by simpa using of_decide_eq_false k3
   have hpos:0<a-k:=by omega
   have hm2:∀j,j<m→cf (a-k-j-1)=1:=fun j hj=>of_decide_eq_true (n2 j hj)
   have hm3:m=a-k∨¬cf (a-k-m-1)=1:=n3.imp _root_.id of_decide_eq_false
   have hle:a-k≤a:=by omega
   generalize a-k=n at*
   obtain⟨i1,i2,i3,i4,i5,i6,i7,i8,i9⟩:=idx n hle hpos
   have e1:=hc (n-1) i1
   rw [q1]at e1
   simp [i1,i2,i3,i6,i7,i8,i9,hpos,aQ i1,e1]
   rw [aF (fun j=> .on ⟨[(1,V.v (.int .i64 (((n-j:Nat):Int)))),(0, .aM i (ints t))],[],[],[]⟩) m ?_ ?_]
   ·by_cases r:m=n
    ·subst r;simp
    ·have hp2:0<n-m:=by omega
     have r1:=hm3.resolve_left r
     have hle2:n-m≤a:=by omega
     generalize n-m=p at*
     obtain⟨i1,i2,i3,i4,i5,i6,i7,i8,i9⟩:=idx p hle2 hp2
     have e2:=hc (p-1) i1
     simp [i1,i2,i3,i6,i7,i8,i9,hp2,aQ i1,e2,r1]
   ·simp
   ·intro j hj
    have hp2:0<n-j:=by omega
    have r1:=hm2 j hj
    have hle2:n-j≤a:=by omega
    have hs:n-(j+1)=n-j-1:=by omega
    rw [hs]
    generalize n-j=p at*
    obtain⟨i1,i2,i3,i4,i5,i6,i7,i8,i9⟩:=idx p hle2 hp2
    have e2:=hc (p-1) i1
    simp [i1,i2,i3,i4,i6,i7,i8,i9,hp2,aQ i1,e2,r1]
 ·simp
 ·intro j hj
  have hp2:0<a-j:=by omega
  have r1:¬cf (a-j-1)=1:=of_decide_eq_true (k2 j hj)
  have hle2:a-j≤a:=by omega
  have hs:a-(j+1)=a-j-1:=by omega
  rw [hs]
  generalize a-j=p at*
  obtain⟨i1,i2,i3,i4,i5,i6,i7,i8,i9⟩:=idx p hle2 hp2
  have e2:=hc (p-1) i1
  simp [i1,i2,i3,i4,i6,i7,i8,i9,hp2,aQ i1,e2,r1]
theorem aar (r:Int)(big:Bool):sZ [vI r,V.v (.bool big)] [] []=some ⟨vI (ajm big r),[],[]⟩:=by
 have e:=Gt r
 unfold sZ ajm
 generalize kM r=c at*
 cases big
 ·simp [func278,f278,e]
 ·by_cases h2:c=2
  ·simp [func278,f278,e,h2]
  ·simp [func278,f278,e,h2]
theorem DZ (t:List Int)(j:Nat)(big:Bool)(hj:j<t.length):sZ [vI (t[j]),V.v (.bool big)] [] []=some ⟨vI (dx t big j),[],[]⟩:=by
 unfold dx
 rw [getD_at hj]
 exact aar _ _
theorem KN (t:List Int)(i:Option Nat)(a:Nat)(big:Bool)(h:a≤t.length)(ht:t.length≤2000):pq [.aM i (ints t),vI (a:Int),V.v (.bool big)] [] []=some ⟨vI (((kV t big a:Nat):Int)),[],[]⟩:=by
 have hc:=fun j (hj:j<t.length)=>DZ t j big hj
 have S9:=dw (a:Int) t.length (by omega)
 rw [show max 0 (min (a:Int) t.length)=a by omega]at S9
 have idx:=Nc h ht
 unfold kV
 obtain⟨k1,k2,k3⟩:=cK (fun j=>decide (dx t big (a-j-1)=0)) a
 generalize gM (fun j=>decide (dx t big (a-j-1)=0)) a=k at*
 have hk2:∀j,j<k→dx t big (a-j-1)=0:=fun j hj=>of_decide_eq_true (k2 j hj)
 simp only
 by_cases hka:k=a
 ·rw [hka,Nat.sub_self,show gM (fun j=>decide (dx t big (0-j-1)=dx t big (0-1))) 0=0 from rfl]
  simp [pq,func246,f246,S9]
  rw [aF (fun j=> .on ⟨[(2,V.v (.bool big)),(1,V.v (.int .i64 (((a-j:Nat):Int)))),(0, .aM i (ints t))],[],[],[]⟩) k ?_ ?_]
  ·subst hka;simp
  ·simp
  ·intro j hj
   have hp2:0<a-j:=by omega
   have r1:=hk2 j hj
   have hle2:a-j≤a:=by omega
   have hs:a-(j+1)=a-j-1:=by omega
   rw [hs]
   generalize a-j=p at*
   obtain⟨i1,i2,i3,i4,i5,i6,i7,i8,i9⟩:=idx p hle2 hp2
   have e2:=hc (p-1) i1
   simp [i1,i2,i3,i4,i6,i7,i8,i9,aQ i1,e2,r1,hp2]
 ·have k4:¬dx t big (a-k-1)=0:=of_decide_eq_false (k3.resolve_left hka)
  have hn0:0<a-k:=by omega
  have akD:a-k≤a:=by omega
  simp [pq,func246,f246,S9]
  rw [aF (fun j=> .on ⟨[(2,V.v (.bool big)),(1,V.v (.int .i64 (((a-j:Nat):Int)))),(0, .aM i (ints t))],[],[],[]⟩) k ?_ ?_]
  ·generalize a-k=n at*
   obtain⟨n1,n2,n3⟩:=cK (fun j=>decide (dx t big (n-j-1)=dx t big (n-1))) n
   generalize gM (fun j=>decide (dx t big (n-j-1)=dx t big (n-1))) n=m at*
   have hm2:∀j,j<m→dx t big (n-j-1)=dx t big (n-1):=fun j hj=>of_decide_eq_true (n2 j hj)
   have hm3:m=n∨¬dx t big (n-m-1)=dx t big (n-1):=n3.imp _root_.id of_decide_eq_false
   obtain⟨i1,i2,i3,i4,i5,i6,i7,i8,i9⟩:=idx n akD hn0
   have e1:=hc (n-1) i1
   have hnz:¬n=0:=by omega
   simp [i1,i2,i3,i4,i5,i6,i7,i8,i9,aQ i1,e1,k4,hn0,hnz]
   rw [aF (fun j=> .on ⟨[(7,V.v (.int .i64 (dx t big (n-1)))),(2,V.v (.bool big)),(1,V.v (.int .i64 (((n-j:Nat):Int)))),(0, .aM i (ints t))],[],[],[]⟩) m ?_ ?_]
   ·by_cases r:m=n
    ·subst r;simp
    ·have hp2:0<n-m:=by omega
     have r1:=hm3.resolve_left r
     have hle2:n-m≤a:=by omega
     generalize n-m=p at*
     obtain⟨i1,i2,i3,i4,i5,i6,i7,i8,i9⟩:=idx p hle2 hp2
     have e2:=hc (p-1) i1
     simp [i1,i2,i3,i4,i6,i7,i8,i9,aQ i1,e2,r1,hp2]
   ·simp
   ·intro j hj
    have hp2:0<n-j:=by omega
    have r1:=hm2 j hj
    have hle2:n-j≤a:=by omega
    have hs:n-(j+1)=n-j-1:=by omega
    rw [hs]
    generalize n-j=p at*
    obtain⟨i1,i2,i3,i4,i5,i6,i7,i8,i9⟩:=idx p hle2 hp2
    have e2:=hc (p-1) i1
    simp [i1,i2,i3,i4,i6,i7,i8,i9,aQ i1,e2,r1,hp2]
  ·simp
  ·intro j hj
   have hp2:0<a-j:=by omega
   have r1:=hk2 j hj
   have hle2:a-j≤a:=by omega
   have hs:a-(j+1)=a-j-1:=by omega
   rw [hs]
   generalize a-j=p at*
   obtain⟨i1,i2,i3,i4,i5,i6,i7,i8,i9⟩:=idx p hle2 hp2
   have e2:=hc (p-1) i1
   simp [i1,i2,i3,i4,i6,i7,i8,i9,aQ i1,e2,r1,hp2]
theorem aas (t:List Int)(i:Option Nat)(a:Nat)(big:Bool)(h:a≤t.length)(ht:t.length≤2000):wN [.aM i (ints t),vI (a:Int),V.v (.bool big)] [] []=some ⟨vI (((Gl t big a:Nat):Int)),[],[]⟩:=by
 have hc:=fun j (hj:j<t.length)=>DZ t j big hj
 have S9:=dw (a:Int) t.length (by omega)
 rw [show max 0 (min (a:Int) t.length)=a by omega]at S9
 have GX:∀m n:Nat,0≤(m:Int)+n∧((m:Int)+n).toNat=m+n:=fun m n=>⟨by omega,by omega⟩
 unfold Gl
 by_cases h0:a<t.length
 ·have h0i:(a:Int)<t.length:=by omega
  have h0n:¬(a:Int)=t.length:=by omega
  have h0m:¬a=t.length:=by omega
  have e0:=hc a h0
  by_cases hz:dx t big a=0
  ·rw [if_neg (fun e=>e.2 hz)]
   simp only
   obtain⟨k1,k2,k3⟩:=cK (fun j=>decide (dx t big (a+j)=0)) (t.length-a)
   generalize gM (fun j=>decide (dx t big (a+j)=0)) (t.length-a)=k at*
   rw [hz]at e0
   simp [wN,func292,f292,S9,h0n,h0m,h0i,h0,aQ h0,e0]
   rw [bK]
   simp [h0i,h0]
   rw [aF (fun j=> .on ⟨[(2,V.v (.bool big)),(1,V.v (.int .i64 (((a+j:Nat):Int)))),(0, .aM i (ints t))],[],[],[]⟩) k ?_ ?_]
   ·by_cases q:a+k=t.length
    ·have q2:(a:Int)+k=t.length:=by omega
     simp [q,q2]
    ·have hq:a+k<t.length:=by omega
     have hq2:(a:Int)+k<t.length:=by omega
     have e1:=hc (a+k) hq
     have h3':¬dx t big (a+k)=0:=of_decide_eq_false (k3.resolve_left (by omega))
     simp [hq,hq2,GX,aQ hq,e1,h3']
   ·simp
   ·intro j hj
    have hq:a+j<t.length:=by omega
    have hq2:(a:Int)+j<t.length:=by omega
    have e1:=hc (a+j) hq
    have h2':dx t big (a+j)=0:=of_decide_eq_true (k2 j hj)
    have hw:=bM ((a:Int)+(j+1)) (by omega)
    have hs:(a:Int)+j+1=(a:Int)+(j+1):=by omega
    simp [hq,hq2,GX,aQ hq,e1,h2',hw,hs]
  ·rw [if_pos ⟨h0,hz⟩]
   unfold xP
   obtain⟨m1,m2,m3⟩:=cK (fun j=>decide (dx t big (a+j)=dx t big a)) (t.length-a)
   generalize gM (fun j=>decide (dx t big (a+j)=dx t big a)) (t.length-a)=m at*
   generalize hb:a+m=b at*
   obtain⟨k1,k2,k3⟩:=cK (fun j=>decide (dx t big (b+j)=0)) (t.length-b)
   simp only
   generalize gM (fun j=>decide (dx t big (b+j)=0)) (t.length-b)=k at*
   simp [wN,func292,f292,S9,h0n,h0m,h0i,h0,aQ h0,e0]
   rw [aF (fun j=> .on ⟨[(7,V.v (.int .i64 (dx t big a))),(2,V.v (.bool big)),(1,V.v (.int .i64 (((a+j:Nat):Int)))),(0, .aM i (ints t))],[],[],[]⟩) m ?_ ?_]
   ·have hst:(a:Int)+m=b:=by omega
    have hbl:b≤t.length:=by omega
    have next:b=t.length∨(b<t.length∧¬dx t big b=dx t big a):=by
     rcases m3 with m3|m3
     ·exact .inl (by omega)
     ·by_cases q:b=t.length
      ·exact .inl q
      ·exact .inr ⟨by omega,of_decide_eq_false m3⟩
    clear m1 m2 m3 hb
    generalize dx t big a=ca at*
    rcases next with rfl|⟨q,q1⟩
    ·have hk0:k=0:=by omega
     subst hk0
     simp [hst]
     rw [bK]
     simp
    ·have q2:(b:Int)<t.length:=by omega
     have e1:=hc b q
     simp [hst,q,q2,hz,aQ q,e1,q1]
     rw [aF (fun j=> .on ⟨[(2,V.v (.bool big)),(1,V.v (.int .i64 (((b+j:Nat):Int)))),(0, .aM i (ints t))],[],[],[]⟩) k ?_ ?_]
     ·by_cases q:b+k=t.length
      ·have q2:(b:Int)+k=t.length:=by omega
       simp [q,q2]
      ·have hq:b+k<t.length:=by omega
       have hq2:(b:Int)+k<t.length:=by omega
       have e1:=hc (b+k) hq
       have h3':¬dx t big (b+k)=0:=of_decide_eq_false (k3.resolve_left (by omega))
       simp [hq,hq2,GX,aQ hq,e1,h3']
     ·simp
     ·intro j hj
      have hq:b+j<t.length:=by omega
      have hq2:(b:Int)+j<t.length:=by omega
      have e1:=hc (b+j) hq
      have h2':dx t big (b+j)=0:=of_decide_eq_true (k2 j hj)
      have hw:=bM ((b:Int)+(j+1)) (by omega)
      have hs:(b:Int)+j+1=(b:Int)+(j+1):=by omega
      simp [hq,hq2,GX,aQ hq,e1,h2',hw,hs]
   ·simp
   ·intro j hj
    have hq:a+j<t.length:=by omega
    have hq2:(a:Int)+j<t.length:=by omega
    have e1:=hc (a+j) hq
    have h2':dx t big (a+j)=dx t big a:=of_decide_eq_true (m2 j hj)
    have hw:=bM ((a:Int)+(j+1)) (by omega)
    have hs:(a:Int)+j+1=(a:Int)+(j+1):=by omega
    rw [h2']at e1
    simp [hq,hq2,hz,GX,aQ hq,e1,hw,hs]
 ·have ha:a=t.length:=by omega
  rw [if_neg (fun e=>h0 e.1)]
  simp only
  rw [ha,Nat.sub_self,show gM (fun j=>decide (dx t big (t.length+j)=0)) 0=0 from rfl]
  rw [ha]at S9
  simp [wN,func292,f292,S9]
theorem XU (t:List Int)(i:Option Nat)(a:Nat)(big:Bool)(h:a≤t.length)(ht:t.length≤2000):xK [.aM i (ints t),vI (a:Int),V.v (.bool big)] [] []=some ⟨vI (((xQ t big a:Nat):Int)),[],[]⟩:=by
 have hc:=fun j (hj:j<t.length)=>DZ t j big hj
 have S9:=dw (a:Int) t.length (by omega)
 rw [show max 0 (min (a:Int) t.length)=a by omega]at S9
 have w1:=bM ((a:Int)+1) (by omega)
 have w2:=bM ((t.length:Int)-1) (by omega)
 have e3:=dw ((t.length:Int)-1) t.length (by omega)
 have tn3:∀m n:Nat,0≤(m:Int)+1+n∧((m:Int)+1+n).toNat=m+1+n:=fun m n=>⟨by omega,by omega⟩
 have GX:∀m n:Nat,0≤(m:Int)+n∧((m:Int)+n).toNat=m+n:=fun m n=>⟨by omega,by omega⟩
 unfold xQ
 by_cases h0:t.length=0
 ·rw [if_pos h0]
  have:t= []:=List.length_eq_zero_iff.1 h0
  subst this
  have ha0:a=0:=by simpa using h
  subst ha0
  have e3:=dw (-1) 0 (by omega)
  rw [show max 0 (min (-1) (0:Int))=0 by omega]at e3
  have w2:=bM (-1) (by omega)
  simp at S9
  simp [xK,func293,f293,aZ,S9,w2]
  rw [bK]
  simp [e3,w2]
 rw [if_neg h0]
 obtain⟨k1,k2,k3⟩:=cK (fun j=>decide (dx t big (a+1+j)=0)) (t.length-(a+1))
 generalize gM (fun j=>decide (dx t big (a+1+j)=0)) (t.length-(a+1))=k at*
 rw [show max 0 (min ((t.length:Int)-1) t.length)=((t.length-1:Nat):Int) by omega]at e3
 simp only
 simp [xK,func293,f293,S9,w1]
 rw [aF (fun j=> .on ⟨[(2,V.v (.bool big)),(1,V.v (.int .i64 (((a+1+j:Nat):Int)))),(0, .aM i (ints t))],[],[],[]⟩) k ?_ ?_]
 ·by_cases q:t.length≤a+1+k
  ·have q2:¬(a:Int)+1+k<t.length:=by omega
   have q2n:¬a+1+k<t.length:=by omega
   have q3:(t.length:Int)≤(a:Int)+1+k:=by omega
   rw [if_pos q]
   simp [q2,q2n,q,q3,w2,e3]
  ·rw [if_neg q]
   have hq:a+1+k<t.length:=by omega
   have hq2:(a:Int)+1+k<t.length:=by omega
   have hq3:¬(t.length:Int)≤(a:Int)+1+k:=by omega
   have e1:=hc (a+1+k) hq
   have h3':¬dx t big (a+1+k)=0:=of_decide_eq_false (k3.resolve_left (by omega))
   unfold xP
   generalize hb:a+1+k=b at*
   have hbi:(a:Int)+1+k=b:=by omega
   obtain⟨m1,m2,m3⟩:=cK (fun j=>decide (dx t big (b+j)=dx t big b)) (t.length-b)
   generalize gM (fun j=>decide (dx t big (b+j)=dx t big b)) (t.length-b)=m at*
   have hm1:1≤m:=by
    rcases m3 with m3|m3
    ·omega
    ·cases m with
     | zero=>simp at m3
     | succ m=>omega
   obtain⟨m,rfl⟩:∃p,m=p+1:=⟨m-1,by omega⟩
   rw [show ((b+(m+1)-1:Nat):Int)=(b:Int)+m by omega]
   rw [hbi]at hq2 hq3
   simp [hbi,hq,hq2,hq3,q,aQ hq,e1,h3']
   rw [aF (fun j=> .on ⟨[(7,V.v (.int .i64 (dx t big b))),(2,V.v (.bool big)),(1,V.v (.int .i64 (((b+j:Nat):Int)))),(0, .aM i (ints t))],[],[],[]⟩) m ?_ ?_]
   ·have w4:=bM ((b:Int)+m+1) (by omega)
    rcases m3 with m3|m3
    ·have r2:(b:Int)+m+1=t.length:=by omega
     have r3:¬b+m+1<t.length:=by omega
     have w5:=bM (t.length:Int) (by omega)
     simp [w5,r2,r3]
    ·by_cases r:b+m+1<t.length
     ·have r2:(b:Int)+m+1<t.length:=by omega
      have r5:0≤(b:Int)+m+1:=by omega
      have r6:((b:Int)+m+1).toNat=b+m+1:=by omega
      have r4:¬dx t big (b+m+1)=dx t big b:=of_decide_eq_false m3
      have e2:=hc (b+m+1) r
      simp [w4,r,r2,r5,r6,aQ r,e2,r4]
     ·have r2:¬(b:Int)+m+1<t.length:=by omega
      simp [w4,r,r2]
   ·simp
   ·intro j hj
    have w4:=bM ((b:Int)+j+1) (by omega)
    have r:b+j+1<t.length:=by omega
    have r2:(b:Int)+j+1<t.length:=by omega
    have r5:0≤(b:Int)+j+1:=by omega
    have r6:((b:Int)+j+1).toNat=b+j+1:=by omega
    have r4:dx t big (b+j+1)=dx t big b:=of_decide_eq_true (m2 (j+1) (by omega))
    have e2:=hc (b+j+1) r
    have hs:(b:Int)+(j+1)=(b:Int)+j+1:=by omega
    simp [w4,r,r2,r5,r6,aQ r,e2,r4,hs]
 ·simp
 ·intro j hj
  have hq:a+1+j<t.length:=by omega
  have hq2:(a:Int)+1+j<t.length:=by omega
  have e1:=hc (a+1+j) hq
  have h2':dx t big (a+1+j)=0:=of_decide_eq_true (k2 j hj)
  have hw:=bM ((a:Int)+1+(j+1)) (by omega)
  have hs:(a:Int)+1+j+1=(a:Int)+1+(j+1):=by omega
  simp [hq,hq2,tn3,aQ hq,e1,h2',hw,hs]
theorem afS {t:List Int}{k:Nat}(h0:1≤k)(h:k<t.length):∃p x y q,t=p++x::y::q∧p.length=k-1:=by
 refine⟨t.take (k-1),t[k-1],t[k],t.drop (k+1),?_,by simp;omega⟩
 have e1:t.drop (k-1)=t[k-1]::t.drop (k-1+1):=List.drop_eq_getElem_cons (by omega)
 have e2:t.drop k=t[k]::t.drop (k+1):=List.drop_eq_getElem_cons h
 rw [show k-1+1=k by omega,e2]at e1
 rw [←e1,List.take_append_drop]
theorem acX {t:List Int}{k:Nat}(h0:1≤k)(h:k<t.length):t.take (k-1)++(t.drop k).take 1++(t.drop (k-1)).take 1++t.drop (k+1)=swapAt t k:=by
 obtain⟨p,x,y,q,rfl,hp⟩:=afS h0 h
 have hk:k=p.length+1:=by omega
 subst hk
 unfold swapAt
 have d1:p.drop (p.length+1)= []:=List.drop_eq_nil_of_le (by omega)
 have d2:p.drop (p.length+1+1)= []:=List.drop_eq_nil_of_le (by omega)
 have d3:p.length+1-p.length=1:=by omega
 have d4:p.length+1+1-p.length=2:=by omega
 simp [List.take_append,List.drop_append,List.getD_eq_getElem?_getD,List.getElem?_append,List.set_append,d1,d2,d3,d4]
theorem aat (t:List Int)(a:Int)(h:bU t a=true)(h2:2≤t.length)(k:Nat)(hk:(k:Int)=min a (t.length-1))(hk0:1≤k):tq [.agg [.aM (some 0) (ints t),vI a]] [] []=some ⟨.fT [.agg [.own 0,vI ((k:Int)+1)],V.v (.bool true)],[],[(0,ints (swapAt t k))]⟩:=by
 obtain⟨h3,h4,h5,h6⟩:=bS h
 have e1:=vT t a h
 have hkl:k<t.length:=by omega
 have e2:=tY (t.take (k-1)) ((t.drop k).take 1) ((t.drop (k-1)).take 1) (some 0) (some 1) (some 2) (by simp;omega)
 have e3:=tY (t.take (k-1)++(t.drop k).take 1++(t.drop (k-1)).take 1) (t.drop (k+1)) [] (some 0) (some 1) (some 2) (by simp;omega)
 rw [List.append_nil,acX hk0 hkl,aZ]at e3
 generalize t.take (k-1)++(t.drop k).take 1++(t.drop (k-1)).take 1=X at*
 generalize swapAt t k=Z at*
 have a0:¬a=0:=by omega
 have l2:¬(t.length:Int)<2:=by omega
 have w0:=bM ((t.length:Int)-1) (by omega)
 have w1:=bM ((k:Int)-1) (by omega)
 have w2:=bM ((k:Int)+1) (by omega)
 have q1:((k:Int)-1).toNat=k-1:=by omega
 have q2:((k:Int)+1).toNat=k+1:=by omega
 have q3:1≤(k:Int):=by omega
 have q4:(k:Int)-1≤t.length:=by omega
 have q5:(k:Int)≤(k:Int)+1:=by omega
 have q6:(k:Int)+1≤t.length:=by omega
 have q7:(k:Int)-1≤k:=by omega
 have q8:(k:Int)≤t.length:=by omega
 have q9:k+1-k=1:=by omega
 have qa:k-(k-1)=1:=by omega
 have qb:(t.drop (k+1)).take (t.length-(k+1))=t.drop (k+1):=List.take_of_length_le (by simp)
 have qc:0≤(k:Int)+1:=by omega
 generalize hE:tq _ _ _=R
 unfold tq at hE
 by_cases hc:a=t.length
 ·have hk2:(t.length:Int)-1=k:=by omega
  rw [hc]at hE e1
  have w3:=bM (k:Int) (by omega)
  have ht0:¬t= []:=fun q=>by rw [q]at h2;simp at h2
  simp [-au,func198,f198,ht0,w3,e1,e2,e3,l2,w0,hk2,w1,w2,q1,q2,q3,q4,q5,q6,q7,q8,q9,qa,qb,qc]at hE
  exact hE.symm
 ·have hk2:a=k:=by omega
  subst hk2
  have hc2:¬(k:Int)=t.length:=hc
  have k0:¬k=0:=by omega
  have hc3:¬k=t.length:=by omega
  simp [-au,func198,f198,e1,e2,e3,l2,k0,hc2,hc3,w1,w2,q1,q2,q3,q4,q5,q6,q7,q8,q9,qa,qb,qc]at hE
  exact hE.symm
end Go.Proofs.YtlpdjhiggpblcaaGreat
