/- Part 10 of a proof in several texts (an abstract evaluator, what the functions compute). -/
import Derived.Test.YtlpdjhiggpblcaaGreatPkEdKey9
open Go.Proofs.Tryz
namespace Go.Proofs.YtlpdjhiggpblcaaGreat
set_option linter.unusedSectionVars false
set_option linter.unusedSimpArgs false
set_option linter.unusedVariables false
open Go.RowKit
set_option maxHeartbeats 4000000
set_option maxRecDepth 10000
def bJ (l:List Int):List UInt8:=l.flatMap aY
theorem DX (r:Int):(aY r).length≤4:=by
 unfold aY
 split
 ·simp
 split
 ·simp
 split
 ·simp
 split<;>simp
theorem Gg (l:List Int):(bJ l).length≤4*l.length:=by
 induction l with
 | nil=>simp [bJ]
 | cons r l ih=>
  have:=DX r
  simp only [bJ,List.flatMap_cons,List.length_append,List.length_cons]at ih⊢;omega
theorem zX {l:List Int}{j:Nat}(h:j<l.length):bJ (l.take (j+1))=bJ (l.take j)++aY l[j]:=by
 unfold bJ
 rw [List.take_add_one,List.getElem?_eq_getElem h,List.flatMap_append];simp
theorem eZ:∀(l:List UInt8),bH qL (wU l)=some l
 | []=>rfl
 | c::l=>by
  rw [show wU (c::l)= [D.a (.int .u8 (c.toNat:Int))]::wU l from rfl]
  have h:UInt8.ofNat ((c.toNat:Int)).toNat=c:=by simp
  simp only [bH,qL,bq,eZ l,h]
theorem Wi (l:List Int)(hl:l.length≤1000000000):Ez [.aM (some 0) (ints l)] [] []=some ⟨V.v (.string (⟨(bJ l).toArray⟩)),[],[]⟩:=by
 simp [Ez,func203,f203]
 rw [aF (fun j=> .on ⟨[(9,V.v (.int .i64 ((j:Int)))),(8,V.v (.int .i64 ((l.length:Int)))),(7, .aM (some 0) (ints l)),(3, .own 2000000000)],[],[(2000000000,wU (bJ (l.take j)))],[]⟩) l.length ?_ ?_]
 ·simp [eZ]
 ·simp [bJ,uZ]
 ·intro j hj
  have hw:=bM (j+1) (by omega)
  have h1:(bJ (l.take j)).length≤4000000000:=by
   have:=Gg (l.take j)
   have e:(l.take j).length≤l.length:=by simp;omega
   omega
  have h2:=DX l[j]
  have h3:=zX hj
  simp [hj,hw,aQ hj,jJ]
  simp (disch:=omega) only [eB]
  simp [hw,h3]
theorem Wj (l:List Int)(hl:l.length≤1000000000):Ev [.aM (some 0) (ints l)] [] []=some ⟨V.v (.string (⟨(bJ l).toArray⟩)),[],[]⟩:=by
 simp [Ev,func174,f174]
 rw [aF (fun j=> .on ⟨[(8,V.v (.int .i64 ((j:Int)))),(7,V.v (.int .i64 ((l.length:Int)))),(6, .aM (some 0) (ints l)),(3, .own 2000000000)],[],[(2000000000,wU (bJ (l.take j)))],[]⟩) l.length ?_ ?_]
 ·simp [eZ]
 ·simp [bJ,uZ]
 ·intro j hj
  have hw:=bM (j+1) (by omega)
  have h1:(bJ (l.take j)).length≤4000000000:=by
   have:=Gg (l.take j)
   have e:(l.take j).length≤l.length:=by simp;omega
   omega
  have h2:=DX l[j]
  have h3:=zX hj
  simp [hj,hw,aQ hj,qX]
  simp (disch:=omega) only [eB]
  simp [hw,h3]
theorem zq {x:Int}(h:0≤x∧x≤255):((Qp x).toNat:Int)=x:=by
 rw [←vU x h,u8_in x h]
theorem akz (c:UInt8):Qp (c.toNat:Int)=c:=by simp [Qp]
def pY (b:List UInt8)(i:Nat):Int:=((b[i]?.getD 0).toNat:Int)
def val (b:List UInt8):Nat→Int
 | 1=>pY b 0
 | 2=>(pY b 0-192)*64+pY b 1-128
 | 3=>((pY b 0-224)*64+pY b 1-128)*64+pY b 2-128
 | 4=>(((pY b 0-240)*64+pY b 1-128)*64+pY b 2-128)*64+pY b 3-128
 | _=>0
def cls (c:Int):Nat:=if c<128 then 1 else if iq c 192 223 then 2 else if iq c 224 239 then 3 else if iq c 240 247 then 4 else 0
def dec:List UInt8→Option (Int×Nat)
 | []=>none
 | c::l=>if cls (pY (c::l) 0)≠0∧cls (pY (c::l) 0)≤(c::l).length∧aY (val (c::l) (cls (pY (c::l) 0)))=(c::l).take (cls (pY (c::l) 0))then some (val (c::l) (cls (pY (c::l) 0)),cls (pY (c::l) 0))else none
theorem M5 (c:UInt8)(l:List UInt8):dec (c::l)=if cls (pY (c::l) 0)≠0∧cls (pY (c::l) 0)≤(c::l).length∧aY (val (c::l) (cls (pY (c::l) 0)))=(c::l).take (cls (pY (c::l) 0))then some (val (c::l) (cls (pY (c::l) 0)),cls (pY (c::l) 0))else none:=rfl
theorem vg {r:Int}(h:mg r=true):
  (0≤r∧r<128∧aY r= [Qp r])∨(128≤r∧r<2048∧aY r= [Qp (192+r / 64),Qp (128+r%64)])∨
  (2048≤r∧r<65536∧aY r= [Qp (224+r / 4096),Qp (128+r / 64%64),Qp (128+r%64)])∨
  (65536≤r∧r≤1114111∧aY r= [Qp (240+r / 262144),Qp (128+r / 4096%64),Qp (128+r / 64%64),Qp (128+r%64)]):=by
 obtain⟨a,b⟩:=Gf h
 by_cases h1:r<128
 ·exact .inl ⟨a,h1,by simp [aY,h,h1]⟩
 by_cases h2:r<2048
 ·exact .inr (.inl ⟨by omega,h2,by simp [aY,h,h1,h2]⟩)
 by_cases h3:r<65536
 ·exact .inr (.inr (.inl ⟨by omega,h3,by simp [aY,h,h1,h2,h3]⟩))
 ·exact .inr (.inr (.inr ⟨by omega,b,by simp [aY,h,h1,h2,h3]⟩))
theorem I6 {r:Int}(h:mg r=true)(t:List UInt8):dec (aY r++t)=some (r,(aY r).length):=by
 rcases vg h with⟨a,b,e⟩|⟨a,b,e⟩|⟨a,b,e⟩|⟨a,b,e⟩
 ·have h0:=zq (x:=r) (by omega)
  have hc:cls r=1:=by simp [cls,b]
  rw [e]
  simp [dec,pY,h0,hc,val,e]
 ·have h0:=zq (x:=192+r / 64) (by omega)
  have h1:=zq (x:=128+r%64) (by omega)
  have hc:cls (192+r / 64)=2:=by
   have:¬192+r / 64<128:=by omega
   have i1:iq (192+r / 64) 192 223=true:=bB.2 (by omega)
   simp [cls,this,i1]
  have hv:(192+r / 64-192)*64+(128+r%64)-128=r:=by omega
  rw [e]
  simp [dec,pY,h0,h1,hc,val,hv,e]
 ·have h0:=zq (x:=224+r / 4096) (by omega)
  have h1:=zq (x:=128+r / 64%64) (by omega)
  have h2:=zq (x:=128+r%64) (by omega)
  have hc:cls (224+r / 4096)=3:=by
   have:¬224+r / 4096<128:=by omega
   have i1:iq (224+r / 4096) 192 223=false:=qj (by rw [bB];omega)
   have i2:iq (224+r / 4096) 224 239=true:=bB.2 (by omega)
   simp [cls,this,i1,i2]
  have hv:((224+r / 4096-224)*64+(128+r / 64%64)-128)*64+(128+r%64)-128=r:=by omega
  rw [e]
  simp [dec,pY,h0,h1,h2,hc,val,hv,e]
 ·have h0:=zq (x:=240+r / 262144) (by omega)
  have h1:=zq (x:=128+r / 4096%64) (by omega)
  have h2:=zq (x:=128+r / 64%64) (by omega)
  have h3:=zq (x:=128+r%64) (by omega)
  have hc:cls (240+r / 262144)=4:=by
   have:¬240+r / 262144<128:=by omega
   have i1:iq (240+r / 262144) 192 223=false:=qj (by rw [bB];omega)
   have i2:iq (240+r / 262144) 224 239=false:=qj (by rw [bB];omega)
   have i3:iq (240+r / 262144) 240 247=true:=bB.2 (by omega)
   simp [cls,this,i1,i2,i3]
  have hv:(((240+r / 262144-240)*64+(128+r / 4096%64)-128)*64+(128+r / 64%64)-128)*64+(128+r%64)-128=r:=by omega
  rw [e]
  simp [dec,pY,h0,h1,h2,h3,hc,val,hv,e]
theorem M6 {r:Int}(h:aY r≠ []):mg r=true:=by
 cases e:mg r
 ·exact absurd (by simp [aY,e]) h
 ·rfl
theorem SE {b:List UInt8}{r:Int}{n:Nat}(h:dec b=some (r,n)):mg r=true∧aY r=b.take n∧n≤b.length∧n=(aY r).length∧1≤n:=by
 cases b with
 | nil=>cases h
 | cons c l=>
  rw [M5]at h
  by_cases hc:cls (pY (c::l) 0)≠0∧cls (pY (c::l) 0)≤(c::l).length∧aY (val (c::l) (cls (pY (c::l) 0)))=(c::l).take (cls (pY (c::l) 0))
  ·rw [if_pos hc]at h
   obtain⟨h1,h2,h3⟩:=hc
   simp only [Option.some.injEq,Prod.mk.injEq]at h
   obtain⟨e1,e2⟩:=h
   rw [e1,e2]at h3
   rw [e2]at h1 h2
   have hlen:(aY r).length=n:=by rw [h3];simp only [List.length_take];omega
   exact⟨M6 (fun e=>by rw [e]at hlen;simp at hlen;omega),h3,h2,hlen.symm,by omega⟩
  ·rw [if_neg hc]at h;cases h
theorem akA {b:List UInt8}{n:Nat}(h1:1≤n)(h2:n≤b.length)(h3:aY (val b n)=b.take n):cls (pY b 0)=n∧dec b=some (val b n,n):=by
 have hn:b.take n≠ []:=fun e=>by
  have:(b.take n).length=0:=by rw [e];rfl
  simp only [List.length_take]at this
  omega
 have ok:=M6 (r:=val b n) (by rw [h3];exact hn)
 have hd:=I6 ok (b.drop n)
 rw [h3,List.take_append_drop]at hd
 have hl:(b.take n).length=n:=by simp only [List.length_take];omega
 rw [hl]at hd
 refine⟨?_,hd⟩
 cases b with
 | nil=>cases hd
 | cons c l=>
  rw [M5]at hd
  by_cases hc:cls (pY (c::l) 0)≠0∧cls (pY (c::l) 0)≤(c::l).length∧aY (val (c::l) (cls (pY (c::l) 0)))=(c::l).take (cls (pY (c::l) 0))
  ·rw [if_pos hc]at hd
   simp only [Option.some.injEq,Prod.mk.injEq]at hd;exact hd.2
  ·rw [if_neg hc]at hd;cases hd
def Reads (b:List UInt8)(l:List Int)(rest:List UInt8):Prop:=b=bJ l++rest∧(∀r∈l,mg r=true)∧dec rest=none
theorem M7:∀(n:Nat) (b:List UInt8),b.length≤n→∃l rest,Reads b l rest
 | 0,b,h=>⟨[],[],by cases b with
  | nil=>exact⟨rfl,by simp,rfl⟩
  | cons c l=>simp at h⟩
 | n+1,b,h=>by
  cases e:dec b with
  | none=>exact⟨[],b,rfl,by simp,e⟩
  | some x=>
   obtain⟨r,k⟩:=x
   obtain⟨a1,a2,a3,a4,a5⟩:=SE e
   obtain⟨l,rest,h1,h2,h3⟩:=M7 n (b.drop k) (by simp only [List.length_drop];omega)
   refine⟨r::l,rest,?_,?_,h3⟩
   ·rw [bJ,List.flatMap_cons,a2,List.append_assoc,←bJ,←h1,List.take_append_drop]
   ·intro x hx
    rcases List.mem_cons.1 hx with rfl|hx
    ·exact a1
    ·exact h2 x hx
theorem Reads.at {b:List UInt8}{l:List Int}{rest:List UInt8}(h:Reads b l rest){j:Nat}(hj:j<l.length):
  (bJ (l.take j)).length<b.length∧dec (b.drop (bJ (l.take j)).length)=some (l[j],(aY l[j]).length)∧(bJ (l.take j)).length+(aY l[j]).length=(bJ (l.take (j+1))).length:=by
 obtain⟨h1,h2,h3⟩:=h
 have ok:=h2 l[j] (List.getElem_mem hj)
 have e:l=l.take j++l[j]::l.drop (j+1):=by
  rw [List.getElem_cons_drop,List.take_append_drop]
 have e2:bJ l=bJ (l.take j)++(aY l[j]++bJ (l.drop (j+1))):=by
  conv=>lhs;rw [e]
  unfold bJ
  rw [List.flatMap_append,List.flatMap_cons]
 have e3:b.drop (bJ (l.take j)).length=aY l[j]++(bJ (l.drop (j+1))++rest):=by
  rw [h1,e2,List.append_assoc,List.drop_left,List.append_assoc]
 have hpos:1≤(aY l[j]).length:=by
  rcases vg ok with⟨_,_,e⟩|⟨_,_,e⟩|⟨_,_,e⟩|⟨_,_,e⟩<;>rw [e]<;>simp
 refine⟨?_,?_,?_⟩
 ·rw [h1,e2];simp only [List.length_append];omega
 ·rw [e3];exact I6 ok _
 ·rw [zX hj,List.length_append]
theorem Reads.end {b:List UInt8}{l:List Int}{rest:List UInt8}(h:Reads b l rest):b.drop (bJ l).length=rest∧(bJ l).length+rest.length=b.length:=by
 obtain⟨h1,h2,h3⟩:=h
 subst h1
 exact⟨List.drop_left,by simp⟩
theorem Reads.len {b:List UInt8}{l:List Int}{rest:List UInt8}(h:Reads b l rest):l.length≤b.length:=by
 obtain⟨h1,h2,h3⟩:=h
 subst h1
 have:∀l:List Int,(∀r∈l,mg r=true)→l.length≤(bJ l).length:=by
  intro l;induction l with
  | nil=>intro _;simp
  | cons r l ih=>
   intro hl
   have:=ih fun x hx=>hl x (List.mem_cons_of_mem _ hx)
   have hpos:1≤(aY r).length:=by
    rcases vg (hl r (List.mem_cons_self ..))with⟨_,_,e⟩|⟨_,_,e⟩|⟨_,_,e⟩|⟨_,_,e⟩<;>rw [e]<;>simp
   simp only [bJ,List.flatMap_cons,List.length_append,List.length_cons]at this⊢;omega
 have:=this l h2
 simp only [List.length_append];omega
set_option maxHeartbeats 8000000
theorem jK {b:List UInt8}{k i:Nat}(h:k+i<b.length):pY (b.drop k) i=(b[k+i].toNat:Int):=by
 unfold pY
 rw [List.getElem?_drop,List.getElem?_eq_getElem h];rfl
theorem lM {b:List UInt8}{k:Nat}(h:k<b.length):pY (b.drop k) 0=(b[k].toNat:Int):=jK (i:=0) h
theorem akB {b:List UInt8}{k:Nat}(h:k<b.length):dec (b.drop k)=if cls (b[k].toNat:Int)≠0∧k+cls (b[k].toNat:Int)≤b.length∧aY (val (b.drop k) (cls (b[k].toNat:Int)))=(b.drop k).take (cls (b[k].toNat:Int))then some (val (b.drop k) (cls (b[k].toNat:Int)),cls (b[k].toNat:Int))else none:=by
 have e:b.drop k=b[k]::b.drop (k+1):=(List.drop_eq_getElem_cons h)
 have hn:=lM h
 rw [e]at hn⊢
 rw [M5,hn]
 have hl:(b[k]::b.drop (k+1)).length=b.length-k:=by rw [←e,List.length_drop]
 rw [hl]
 congr 1
 simp only [eq_iff_iff]
 constructor
 ·rintro ⟨a,b,c⟩;exact⟨a,by omega,c⟩
 ·rintro ⟨a,b,c⟩;exact⟨a,by omega,c⟩
theorem XL {b:List UInt8}{k:Nat}(h:k<b.length):(b.drop k).take 1= [b[k]]:=by
 rw [List.drop_eq_getElem_cons h];rfl
theorem Uq {b:List UInt8}{k:Nat}(h:k+1<b.length):(b.drop k).take 2= [b[k],b[k+1]]:=by
 rw [List.drop_eq_getElem_cons (by omega:k<b.length),List.take_succ_cons,XL h]
theorem Ur {b:List UInt8}{k:Nat}(h:k+2<b.length):(b.drop k).take 3= [b[k],b[k+1],b[k+2]]:=by
 rw [List.drop_eq_getElem_cons (by omega:k<b.length),List.take_succ_cons,Uq (by omega)]
theorem acM {b:List UInt8}{k:Nat}(h:k+3<b.length):(b.drop k).take 4= [b[k],b[k+1],b[k+2],b[k+3]]:=by
 rw [List.drop_eq_getElem_cons (by omega:k<b.length),List.take_succ_cons,Ur (by omega)]
def vW:Option (Int×Nat)→Int
 | some x=>x.1
 | none=>0
def vX:Option (Int×Nat)→Int
 | some x=>x.2
 | none=>0
theorem P6 (b:List UInt8)(k:Nat)(hk:k<b.length)(hb:b.length≤1000000000):CX [.aM (some 0) (wU b),vI (k:Int)] [] []=some ⟨.fT [vI (vW (dec (b.drop k))),vI (vX (dec (b.drop k)))],[],[]⟩:=by
 unfold CX
 have hc:=b[k].toNat_lt
 have h1:¬((b.length:Int)≤k):=by omega
 have h0:¬((k:Int)<0):=by omega
 have w0:=bM (b[k].toNat:Int) (by omega)
 rw [akB hk]
 generalize hx:(b[k].toNat:Int)=x at w0
 have hx0:0≤x∧x≤255:=by omega
 have hxo:UInt8.ofNat x.toNat=b[k]:=by rw [←hx];simp
 by_cases c1:x<128
 ·have e1:cls x=1:=by simp [cls,c1]
  have hok:mg x=true:=by
   have i1:iq x 0 1114111=true:=bB.2 (by omega)
   have i2:iq x 55296 57343=false:=qj (by rw [bB];omega)
   simp [mg,i1,i2]
  have e2:val (b.drop k) 1=x:=by rw [val,lM hk,hx]
  have e3:aY x=(b.drop k).take 1:=by
   rw [XL hk];simp [aY,hok,c1];rw [←hx,akz]
  have e4:k+1≤b.length:=hk
  simp [func276,f276,h0,h1,hk,dZ hk,hx,w0,c1,e1,e2,e3,e4,vW,vX]
 by_cases c2:iq x 192 223=true
 ·have e1:cls x=2:=by simp [cls,c1,c2]
  obtain⟨a1,a2⟩:=Rf c2
  have w1:=bM (x-192) (by omega)
  have w2:=bM ((b.length:Int)-2) (by omega)
  by_cases e4:k+2≤b.length
  ·have e5:¬((b.length:Int)-2<k):=by omega
   have w3:=bM ((k:Int)+1) (by omega)
   have w4:=bM ((k:Int)+2) (by omega)
   have f1:(0:Int)≤(k:Int)+1:=by omega
   have f2:(k:Int)+2≤b.length:=by omega
   have f3:((k:Int)+2).toNat=k+2:=by omega
   have f4:k+2-(k+1)=1:=by omega
   have f5:k+2-k=2:=by omega
   have f7:(k:Int)≤(k:Int)+2:=by omega
   have f8:(k:Int)+1≤(k:Int)+2:=by omega
   have g1:k+1<b.length:=by omega
   have r1:=b[k+1].toNat_lt
   have p1:=bM (b[k+1].toNat:Int) (by omega)
   have Qq:=bM ((x-192)*64) (by omega)
   have OC:=bM ((x-192)*64+(b[k+1].toNat:Int)) (by omega)
   have OD:=bM ((x-192)*64+(b[k+1].toNat:Int)-128) (by omega)
   have v1:val (b.drop k) 2=(x-192)*64+(b[k+1].toNat:Int)-128:=by rw [val,lM hk,jK g1,hx]
   have z0:aY ((x-192)*64+(b[k+1].toNat:Int)-128)= [b[k],b[k+1]]∨aY ((x-192)*64+(b[k+1].toNat:Int)-128)≠ [b[k],b[k+1]]:=Decidable.em _
   rcases z0 with z|z
   ·simp [func276,f276,h0,h1,hk,dZ hk,hx,w0,c1,c2,e1,e4,e5,w1,w2,w3,w4,vW,vX,dG,f1,f2,f3,f4,f5,f7,f8,XL (k:=k+1) g1,Uq g1,Bj,Ee,bK,p1,Qq,OC,OD,qX,eZ,v1,z,hxo]
   ·simp [func276,f276,h0,h1,hk,dZ hk,hx,w0,c1,c2,e1,e4,e5,w1,w2,w3,w4,vW,vX,dG,f1,f2,f3,f4,f5,f7,f8,XL (k:=k+1) g1,Uq g1,Bj,Ee,bK,p1,Qq,OC,OD,qX,eZ,v1,z,hxo]
  ·have e5:(b.length:Int)-2<k:=by omega
   simp [func276,f276,h0,h1,hk,dZ hk,hx,w0,c1,c2,e1,e4,e5,w1,w2,vW,vX,dG]
 by_cases c3:iq x 224 239=true
 ·have e1:cls x=3:=by simp [cls,c1,c2,c3]
  obtain⟨a1,a2⟩:=Rf c3
  have w1:=bM (x-224) (by omega)
  have w2:=bM ((b.length:Int)-3) (by omega)
  by_cases e4:k+3≤b.length
  ·have e5:¬((b.length:Int)-3<k):=by omega
   have w3:=bM ((k:Int)+1) (by omega)
   have w4:=bM ((k:Int)+3) (by omega)
   have f1:(0:Int)≤(k:Int)+1:=by omega
   have f2:(k:Int)+3≤b.length:=by omega
   have f3:((k:Int)+3).toNat=k+3:=by omega
   have f4:k+3-(k+1)=2:=by omega
   have f5:k+3-k=3:=by omega
   have f7:(k:Int)≤(k:Int)+3:=by omega
   have f8:(k:Int)+1≤(k:Int)+3:=by omega
   have g1:k+1<b.length:=by omega
   have r1:=b[k+1].toNat_lt
   have p1:=bM (b[k+1].toNat:Int) (by omega)
   have g2:k+2<b.length:=by omega
   have r2:=b[k+2].toNat_lt
   have p2:=bM (b[k+2].toNat:Int) (by omega)
   have Qq:=bM ((x-224)*64) (by omega)
   have OC:=bM ((x-224)*64+(b[k+1].toNat:Int)) (by omega)
   have OD:=bM ((x-224)*64+(b[k+1].toNat:Int)-128) (by omega)
   have q20:=bM (((x-224)*64+(b[k+1].toNat:Int)-128)*64) (by omega)
   have q21:=bM (((x-224)*64+(b[k+1].toNat:Int)-128)*64+(b[k+2].toNat:Int)) (by omega)
   have q22:=bM (((x-224)*64+(b[k+1].toNat:Int)-128)*64+(b[k+2].toNat:Int)-128) (by omega)
   have v1:val (b.drop k) 3=((x-224)*64+(b[k+1].toNat:Int)-128)*64+(b[k+2].toNat:Int)-128:=by rw [val,lM hk,jK g1,jK g2,hx]
   have z0:aY (((x-224)*64+(b[k+1].toNat:Int)-128)*64+(b[k+2].toNat:Int)-128)= [b[k],b[k+1],b[k+2]]∨aY (((x-224)*64+(b[k+1].toNat:Int)-128)*64+(b[k+2].toNat:Int)-128)≠ [b[k],b[k+1],b[k+2]]:=Decidable.em _
   rcases z0 with z|z
   ·simp [func276,f276,h0,h1,hk,dZ hk,hx,w0,c1,c2,c3,e1,e4,e5,w1,w2,w3,w4,vW,vX,dG,f1,f2,f3,f4,f5,f7,f8,Uq (k:=k+1) g2,Ur g2,Bj,Ee,bK,p1,p2,Qq,OC,OD,q20,q21,q22,qX,eZ,v1,z,hxo]
   ·simp [func276,f276,h0,h1,hk,dZ hk,hx,w0,c1,c2,c3,e1,e4,e5,w1,w2,w3,w4,vW,vX,dG,f1,f2,f3,f4,f5,f7,f8,Uq (k:=k+1) g2,Ur g2,Bj,Ee,bK,p1,p2,Qq,OC,OD,q20,q21,q22,qX,eZ,v1,z,hxo]
  ·have e5:(b.length:Int)-3<k:=by omega
   simp [func276,f276,h0,h1,hk,dZ hk,hx,w0,c1,c2,c3,e1,e4,e5,w1,w2,vW,vX,dG]
 by_cases c4:iq x 240 247=true
 ·have e1:cls x=4:=by simp [cls,c1,c2,c3,c4]
  obtain⟨a1,a2⟩:=Rf c4
  have w1:=bM (x-240) (by omega)
  have w2:=bM ((b.length:Int)-4) (by omega)
  by_cases e4:k+4≤b.length
  ·have e5:¬((b.length:Int)-4<k):=by omega
   have w3:=bM ((k:Int)+1) (by omega)
   have w4:=bM ((k:Int)+4) (by omega)
   have f1:(0:Int)≤(k:Int)+1:=by omega
   have f2:(k:Int)+4≤b.length:=by omega
   have f3:((k:Int)+4).toNat=k+4:=by omega
   have f4:k+4-(k+1)=3:=by omega
   have f5:k+4-k=4:=by omega
   have f7:(k:Int)≤(k:Int)+4:=by omega
   have f8:(k:Int)+1≤(k:Int)+4:=by omega
   have g1:k+1<b.length:=by omega
   have r1:=b[k+1].toNat_lt
   have p1:=bM (b[k+1].toNat:Int) (by omega)
   have g2:k+2<b.length:=by omega
   have r2:=b[k+2].toNat_lt
   have p2:=bM (b[k+2].toNat:Int) (by omega)
   have g3:k+3<b.length:=by omega
   have r3:=b[k+3].toNat_lt
   have p3:=bM (b[k+3].toNat:Int) (by omega)
   have Qq:=bM ((x-240)*64) (by omega)
   have OC:=bM ((x-240)*64+(b[k+1].toNat:Int)) (by omega)
   have OD:=bM ((x-240)*64+(b[k+1].toNat:Int)-128) (by omega)
   have q20:=bM (((x-240)*64+(b[k+1].toNat:Int)-128)*64) (by omega)
   have q21:=bM (((x-240)*64+(b[k+1].toNat:Int)-128)*64+(b[k+2].toNat:Int)) (by omega)
   have q22:=bM (((x-240)*64+(b[k+1].toNat:Int)-128)*64+(b[k+2].toNat:Int)-128) (by omega)
   have q30:=bM ((((x-240)*64+(b[k+1].toNat:Int)-128)*64+(b[k+2].toNat:Int)-128)*64) (by omega)
   have q31:=bM ((((x-240)*64+(b[k+1].toNat:Int)-128)*64+(b[k+2].toNat:Int)-128)*64+(b[k+3].toNat:Int)) (by omega)
   have q32:=bM ((((x-240)*64+(b[k+1].toNat:Int)-128)*64+(b[k+2].toNat:Int)-128)*64+(b[k+3].toNat:Int)-128) (by omega)
   have v1:val (b.drop k) 4=(((x-240)*64+(b[k+1].toNat:Int)-128)*64+(b[k+2].toNat:Int)-128)*64+(b[k+3].toNat:Int)-128:=by rw [val,lM hk,jK g1,jK g2,jK g3,hx]
   have z0:aY ((((x-240)*64+(b[k+1].toNat:Int)-128)*64+(b[k+2].toNat:Int)-128)*64+(b[k+3].toNat:Int)-128)= [b[k],b[k+1],b[k+2],b[k+3]]∨aY ((((x-240)*64+(b[k+1].toNat:Int)-128)*64+(b[k+2].toNat:Int)-128)*64+(b[k+3].toNat:Int)-128)≠ [b[k],b[k+1],b[k+2],b[k+3]]:=Decidable.em _
   rcases z0 with z|z
   ·simp [func276,f276,h0,h1,hk,dZ hk,hx,w0,c1,c2,c3,c4,e1,e4,e5,w1,w2,w3,w4,vW,vX,dG,f1,f2,f3,f4,f5,f7,f8,Ur (k:=k+1) g3,acM g3,Bj,Ee,bK,p1,p2,p3,Qq,OC,OD,q20,q21,q22,q30,q31,q32,qX,eZ,v1,z,hxo]
   ·simp [func276,f276,h0,h1,hk,dZ hk,hx,w0,c1,c2,c3,c4,e1,e4,e5,w1,w2,w3,w4,vW,vX,dG,f1,f2,f3,f4,f5,f7,f8,Ur (k:=k+1) g3,acM g3,Bj,Ee,bK,p1,p2,p3,Qq,OC,OD,q20,q21,q22,q30,q31,q32,qX,eZ,v1,z,hxo]
  ·have e5:(b.length:Int)-4<k:=by omega
   simp [func276,f276,h0,h1,hk,dZ hk,hx,w0,c1,c2,c3,c4,e1,e4,e5,w1,w2,vW,vX,dG]
 have e1:cls x=0:=by simp [cls,c1,c2,c3,c4]
 simp [func276,f276,h0,h1,hk,dZ hk,hx,w0,c1,c2,c3,c4,e1,vW,vX,dG]
theorem aeD {b:List UInt8}{r:Int}{n:Nat}(h:dec b=some (r,n)):r=val b n∧n≤4:=by
 cases b with
 | nil=>cases h
 | cons c l=>
  rw [M5]at h
  by_cases hc:cls (pY (c::l) 0)≠0∧cls (pY (c::l) 0)≤(c::l).length∧aY (val (c::l) (cls (pY (c::l) 0)))=(c::l).take (cls (pY (c::l) 0))
  ·rw [if_pos hc]at h
   simp only [Option.some.injEq,Prod.mk.injEq]at h
   refine⟨by rw [←h.1,h.2],?_⟩
   rw [←h.2]
   unfold cls
   split
   ·omega
   split
   ·omega
   split
   ·omega
   split<;>omega
  ·rw [if_neg hc]at h;cases h
theorem ahV (b:List UInt8):∃N,N≤4∧(∀j,j<N→j+1≤b.length∧aY (val b (j+1))≠b.take (j+1))∧((N<4∧N+1≤b.length∧aY (val b (N+1))=b.take (N+1)∧dec b=some (val b (N+1),N+1))∨((N=4∨b.length<N+1)∧dec b=none)):=by
 have step:∀n,n≤4→(∀j,j<n→j+1≤b.length∧aY (val b (j+1))≠b.take (j+1))→∃N,N≤4∧(∀j,j<N→j+1≤b.length∧aY (val b (j+1))≠b.take (j+1))∧((N<4∧N+1≤b.length∧aY (val b (N+1))=b.take (N+1)∧dec b=some (val b (N+1),N+1))∨((N=4∨b.length<N+1)∧dec b=none)):=by
  intro n
  induction h:4-n generalizing n with
  | zero=>
   intro hn hall
   refine⟨n,hn,hall, .inr ⟨.inl (by omega),?_⟩⟩
   cases e:dec b with
   | none=>rfl
   | some x=>
    obtain⟨r,m⟩:=x
    obtain⟨a1,a2,a3,a4,a5⟩:=SE e
    obtain⟨v1,v2⟩:=aeD e
    have:=(hall (m-1) (by omega)).2
    rw [show m-1+1=m by omega,←v1]at this
    exact absurd a2 this
  | succ d ih=>
   intro hn hall
   by_cases hl:n+1≤b.length
   ·by_cases ht:aY (val b (n+1))=b.take (n+1)
    ·exact⟨n,hn,hall, .inl ⟨by omega,hl,ht,(akA (by omega) hl ht).2⟩⟩
    ·refine ih (n+1) (by omega) (by omega) fun j hj=>?_
     rcases Nat.lt_or_ge j n with h1|h1
     ·exact hall j h1
     ·obtain rfl:j=n:=by omega
      exact⟨hl,ht⟩
   ·refine⟨n,hn,hall, .inr ⟨.inr (by omega),?_⟩⟩
    cases e:dec b with
    | none=>rfl
    | some x=>
     obtain⟨r,m⟩:=x
     obtain⟨a1,a2,a3,a4,a5⟩:=SE e
     obtain⟨v1,v2⟩:=aeD e
     have:=(hall (m-1) (by omega)).2
     rw [show m-1+1=m by omega,←v1]at this
     exact absurd a2 this
 exact step 0 (by omega) fun j hj=>by omega
theorem P7 (b:List UInt8)(k:Nat)(hk:k<b.length)(hb:b.length≤1000000000):CZ [.aM (some 0) (wU b),vI (k:Int)] [] []=some ⟨.fT [vI (vW (dec (b.drop k))),vI (vX (dec (b.drop k)))],[],[]⟩:=by
 unfold CZ
 have hc:=b[k].toNat_lt
 have h1:¬((b.length:Int)≤k):=by omega
 have h0:¬((k:Int)<0):=by omega
 have w0:=bM (b[k].toNat:Int) (by omega)
 have wl:=bM ((b.length:Int)-k) (by omega)
 generalize hx:(b[k].toNat:Int)=x at w0
 have hx0:0≤x∧x≤255:=by omega
 have hxo:UInt8.ofNat x.toNat=b[k]:=by rw [←hx];simp
 obtain⟨N,hN4,hbad,hend⟩:=ahV (b.drop k)
 rw [List.length_drop]at hend
 simp only [List.length_drop]at hbad
 simp [func291,f291,h0,h1]
 rw [aF (fun j=> .on ⟨[(6,V.v (.int .i64 ((j:Int)+1))),(1,V.v (.int .i64 ((k:Int)))),(0, .aM (some 0) (wU b))],[],[],[]⟩) N ?_ ?_]
 ·rcases hend with⟨e1,e2,e3,e4⟩|⟨e1,e2⟩
  ·rw [e4]
   rcases(by omega:N=0∨N=1∨N=2∨N=3)with rfl|rfl|rfl|rfl
   ·have w4:=bM ((k:Int)+1) (by omega)
    have f2:(k:Int)+1≤b.length:=by omega
    have f9:(1:Int)≤(b.length:Int)-k:=by omega
    have f3:((k:Int)+1).toNat=k+1:=by omega
    have f5:k+1-k=1:=by omega
    have f7:(k:Int)≤(k:Int)+1:=by omega
    have v1:val (b.drop k) 1=x:=by rw [val,lM hk,hx]
    have z:aY (x)=(b.drop k).take 1:=by rw [←v1];exact e3
    rw [XL hk]at z
    simp [hk,dZ hk,hx,w0,wl,bK,jJ,eZ,hxo,vW,vX,w4,f2,f9,f3,f5,f7,XL hk,v1,z]
   ·have w1:=bM (x-192) (by omega)
    have w4:=bM ((k:Int)+2) (by omega)
    have f2:(k:Int)+2≤b.length:=by omega
    have f9:(2:Int)≤(b.length:Int)-k:=by omega
    have f3:((k:Int)+2).toNat=k+2:=by omega
    have f5:k+2-k=2:=by omega
    have f7:(k:Int)≤(k:Int)+2:=by omega
    have g1:k+1<b.length:=by omega
    have r1:=b[k+1].toNat_lt
    have p1:=bM (b[k+1].toNat:Int) (by omega)
    have t1:=bM ((k:Int)+1) (by omega)
    have u1:((k:Int)+1).toNat=k+1:=by omega
    have y1:(k:Int)+1<b.length:=by omega
    have l1:(0:Int)≤(k:Int)+1:=by omega
    have Qq:=bM ((x-192)*64) (by omega)
    have OC:=bM ((x-192)*64+(b[k+1].toNat:Int)) (by omega)
    have OD:=bM ((x-192)*64+(b[k+1].toNat:Int)-128) (by omega)
    have v1:val (b.drop k) 2=(x-192)*64+(b[k+1].toNat:Int)-128:=by rw [val,lM hk,jK g1,hx]
    have z:aY ((x-192)*64+(b[k+1].toNat:Int)-128)=(b.drop k).take 2:=by rw [←v1];exact e3
    rw [Uq g1]at z
    simp [hk,dZ hk,hx,w0,wl,bK,jJ,eZ,hxo,vW,vX,w1,w4,f2,f9,f3,f5,f7,p1,t1,u1,y1,l1,dZ g1,Qq,OC,OD,Uq g1,v1,z]
   ·have w1:=bM (x-224) (by omega)
    have w4:=bM ((k:Int)+3) (by omega)
    have f2:(k:Int)+3≤b.length:=by omega
    have f9:(3:Int)≤(b.length:Int)-k:=by omega
    have f3:((k:Int)+3).toNat=k+3:=by omega
    have f5:k+3-k=3:=by omega
    have f7:(k:Int)≤(k:Int)+3:=by omega
    have g1:k+1<b.length:=by omega
    have r1:=b[k+1].toNat_lt
    have p1:=bM (b[k+1].toNat:Int) (by omega)
    have t1:=bM ((k:Int)+1) (by omega)
    have u1:((k:Int)+1).toNat=k+1:=by omega
    have y1:(k:Int)+1<b.length:=by omega
    have l1:(0:Int)≤(k:Int)+1:=by omega
    have g2:k+2<b.length:=by omega
    have r2:=b[k+2].toNat_lt
    have p2:=bM (b[k+2].toNat:Int) (by omega)
    have t2:=bM ((k:Int)+2) (by omega)
    have u2:((k:Int)+2).toNat=k+2:=by omega
    have y2:(k:Int)+2<b.length:=by omega
    have l2:(0:Int)≤(k:Int)+2:=by omega
    have Qq:=bM ((x-224)*64) (by omega)
    have OC:=bM ((x-224)*64+(b[k+1].toNat:Int)) (by omega)
    have OD:=bM ((x-224)*64+(b[k+1].toNat:Int)-128) (by omega)
    have q20:=bM (((x-224)*64+(b[k+1].toNat:Int)-128)*64) (by omega)
    have q21:=bM (((x-224)*64+(b[k+1].toNat:Int)-128)*64+(b[k+2].toNat:Int)) (by omega)
    have q22:=bM (((x-224)*64+(b[k+1].toNat:Int)-128)*64+(b[k+2].toNat:Int)-128) (by omega)
    have v1:val (b.drop k) 3=((x-224)*64+(b[k+1].toNat:Int)-128)*64+(b[k+2].toNat:Int)-128:=by rw [val,lM hk,jK g1,jK g2,hx]
    have z:aY (((x-224)*64+(b[k+1].toNat:Int)-128)*64+(b[k+2].toNat:Int)-128)=(b.drop k).take 3:=by rw [←v1];exact e3
    rw [Ur g2]at z
    simp [hk,dZ hk,hx,w0,wl,bK,jJ,eZ,hxo,vW,vX,w1,w4,f2,f9,f3,f5,f7,p1,t1,u1,y1,l1,dZ g1,p2,t2,u2,y2,l2,dZ g2,Qq,OC,OD,q20,q21,q22,Ur g2,v1,z]
   ·have w1:=bM (x-240) (by omega)
    have w4:=bM ((k:Int)+4) (by omega)
    have f2:(k:Int)+4≤b.length:=by omega
    have f9:(4:Int)≤(b.length:Int)-k:=by omega
    have f3:((k:Int)+4).toNat=k+4:=by omega
    have f5:k+4-k=4:=by omega
    have f7:(k:Int)≤(k:Int)+4:=by omega
    have g1:k+1<b.length:=by omega
    have r1:=b[k+1].toNat_lt
    have p1:=bM (b[k+1].toNat:Int) (by omega)
    have t1:=bM ((k:Int)+1) (by omega)
    have u1:((k:Int)+1).toNat=k+1:=by omega
    have y1:(k:Int)+1<b.length:=by omega
    have l1:(0:Int)≤(k:Int)+1:=by omega
    have g2:k+2<b.length:=by omega
    have r2:=b[k+2].toNat_lt
    have p2:=bM (b[k+2].toNat:Int) (by omega)
    have t2:=bM ((k:Int)+2) (by omega)
    have u2:((k:Int)+2).toNat=k+2:=by omega
    have y2:(k:Int)+2<b.length:=by omega
    have l2:(0:Int)≤(k:Int)+2:=by omega
    have g3:k+3<b.length:=by omega
    have r3:=b[k+3].toNat_lt
    have p3:=bM (b[k+3].toNat:Int) (by omega)
    have t3:=bM ((k:Int)+3) (by omega)
    have u3:((k:Int)+3).toNat=k+3:=by omega
    have y3:(k:Int)+3<b.length:=by omega
    have l3:(0:Int)≤(k:Int)+3:=by omega
    have Qq:=bM ((x-240)*64) (by omega)
    have OC:=bM ((x-240)*64+(b[k+1].toNat:Int)) (by omega)
    have OD:=bM ((x-240)*64+(b[k+1].toNat:Int)-128) (by omega)
    have q20:=bM (((x-240)*64+(b[k+1].toNat:Int)-128)*64) (by omega)
    have q21:=bM (((x-240)*64+(b[k+1].toNat:Int)-128)*64+(b[k+2].toNat:Int)) (by omega)
    have q22:=bM (((x-240)*64+(b[k+1].toNat:Int)-128)*64+(b[k+2].toNat:Int)-128) (by omega)
    have q30:=bM ((((x-240)*64+(b[k+1].toNat:Int)-128)*64+(b[k+2].toNat:Int)-128)*64) (by omega)
    have q31:=bM ((((x-240)*64+(b[k+1].toNat:Int)-128)*64+(b[k+2].toNat:Int)-128)*64+(b[k+3].toNat:Int)) (by omega)
    have q32:=bM ((((x-240)*64+(b[k+1].toNat:Int)-128)*64+(b[k+2].toNat:Int)-128)*64+(b[k+3].toNat:Int)-128) (by omega)
    have v1:val (b.drop k) 4=(((x-240)*64+(b[k+1].toNat:Int)-128)*64+(b[k+2].toNat:Int)-128)*64+(b[k+3].toNat:Int)-128:=by rw [val,lM hk,jK g1,jK g2,jK g3,hx]
    have z:aY ((((x-240)*64+(b[k+1].toNat:Int)-128)*64+(b[k+2].toNat:Int)-128)*64+(b[k+3].toNat:Int)-128)=(b.drop k).take 4:=by rw [←v1];exact e3
    rw [acM g3]at z
    simp [hk,dZ hk,hx,w0,wl,bK,jJ,eZ,hxo,vW,vX,w1,w4,f2,f9,f3,f5,f7,p1,t1,u1,y1,l1,dZ g1,p2,t2,u2,y2,l2,dZ g2,p3,t3,u3,y3,l3,dZ g3,Qq,OC,OD,q20,q21,q22,q30,q31,q32,acM g3,v1,z]
  ·rw [e2]
   by_cases e5:N=4
   ·subst e5;simp [vW,vX]
   ·have e6:¬((N:Int)+1≤(b.length:Int)-k):=by omega
    have e7:(N:Int)+1≤4:=by omega
    simp [wl,e6,e7,vW,vX]
 ·simp
 ·intro j hj
  have hb2:=hbad j hj
  rcases(by omega:j=0∨j=1∨j=2∨j=3)with rfl|rfl|rfl|rfl
  ·have w4:=bM ((k:Int)+1) (by omega)
   have f2:(k:Int)+1≤b.length:=by omega
   have f9:(1:Int)≤(b.length:Int)-k:=by omega
   have f3:((k:Int)+1).toNat=k+1:=by omega
   have f5:k+1-k=1:=by omega
   have f7:(k:Int)≤(k:Int)+1:=by omega
   have v1:val (b.drop k) 1=x:=by rw [val,lM hk,hx]
   have z:aY (x)≠(b.drop k).take 1:=by rw [←v1];exact hb2.2
   rw [XL hk]at z
   by_cases hl:(aY (x)).length=1
   ·simp [hk,dZ hk,hx,w0,wl,bK,jJ,eZ,hxo,vW,vX,w4,f2,f9,f3,f5,f7,XL hk,v1,z,hl]
   ·have hl':¬(((aY (x)).length:Int)=1):=by omega
    simp [hk,dZ hk,hx,w0,wl,bK,jJ,eZ,hxo,vW,vX,w4,f2,f9,f3,f5,f7,XL hk,v1,z,hl,hl']
  ·have w1:=bM (x-192) (by omega)
   have w4:=bM ((k:Int)+2) (by omega)
   have f2:(k:Int)+2≤b.length:=by omega
   have f9:(2:Int)≤(b.length:Int)-k:=by omega
   have f3:((k:Int)+2).toNat=k+2:=by omega
   have f5:k+2-k=2:=by omega
   have f7:(k:Int)≤(k:Int)+2:=by omega
   have g1:k+1<b.length:=by omega
   have r1:=b[k+1].toNat_lt
   have p1:=bM (b[k+1].toNat:Int) (by omega)
   have t1:=bM ((k:Int)+1) (by omega)
   have u1:((k:Int)+1).toNat=k+1:=by omega
   have y1:(k:Int)+1<b.length:=by omega
   have l1:(0:Int)≤(k:Int)+1:=by omega
   have Qq:=bM ((x-192)*64) (by omega)
   have OC:=bM ((x-192)*64+(b[k+1].toNat:Int)) (by omega)
   have OD:=bM ((x-192)*64+(b[k+1].toNat:Int)-128) (by omega)
   have v1:val (b.drop k) 2=(x-192)*64+(b[k+1].toNat:Int)-128:=by rw [val,lM hk,jK g1,hx]
   have z:aY ((x-192)*64+(b[k+1].toNat:Int)-128)≠(b.drop k).take 2:=by rw [←v1];exact hb2.2
   rw [Uq g1]at z
   by_cases hl:(aY ((x-192)*64+(b[k+1].toNat:Int)-128)).length=2
   ·simp [hk,dZ hk,hx,w0,wl,bK,jJ,eZ,hxo,vW,vX,w1,w4,f2,f9,f3,f5,f7,p1,t1,u1,y1,l1,dZ g1,Qq,OC,OD,Uq g1,v1,z,hl]
   ·have hl':¬(((aY ((x-192)*64+(b[k+1].toNat:Int)-128)).length:Int)=2):=by omega
    simp [hk,dZ hk,hx,w0,wl,bK,jJ,eZ,hxo,vW,vX,w1,w4,f2,f9,f3,f5,f7,p1,t1,u1,y1,l1,dZ g1,Qq,OC,OD,Uq g1,v1,z,hl,hl']
  ·have w1:=bM (x-224) (by omega)
   have w4:=bM ((k:Int)+3) (by omega)
   have f2:(k:Int)+3≤b.length:=by omega
   have f9:(3:Int)≤(b.length:Int)-k:=by omega
   have f3:((k:Int)+3).toNat=k+3:=by omega
   have f5:k+3-k=3:=by omega
   have f7:(k:Int)≤(k:Int)+3:=by omega
   have g1:k+1<b.length:=by omega
   have r1:=b[k+1].toNat_lt
   have p1:=bM (b[k+1].toNat:Int) (by omega)
   have t1:=bM ((k:Int)+1) (by omega)
   have u1:((k:Int)+1).toNat=k+1:=by omega
   have y1:(k:Int)+1<b.length:=by omega
   have l1:(0:Int)≤(k:Int)+1:=by omega
   have g2:k+2<b.length:=by omega
   have r2:=b[k+2].toNat_lt
   have p2:=bM (b[k+2].toNat:Int) (by omega)
   have t2:=bM ((k:Int)+2) (by omega)
   have u2:((k:Int)+2).toNat=k+2:=by omega
   have y2:(k:Int)+2<b.length:=by omega
   have l2:(0:Int)≤(k:Int)+2:=by omega
   have Qq:=bM ((x-224)*64) (by omega)
   have OC:=bM ((x-224)*64+(b[k+1].toNat:Int)) (by omega)
   have OD:=bM ((x-224)*64+(b[k+1].toNat:Int)-128) (by omega)
   have q20:=bM (((x-224)*64+(b[k+1].toNat:Int)-128)*64) (by omega)
   have q21:=bM (((x-224)*64+(b[k+1].toNat:Int)-128)*64+(b[k+2].toNat:Int)) (by omega)
   have q22:=bM (((x-224)*64+(b[k+1].toNat:Int)-128)*64+(b[k+2].toNat:Int)-128) (by omega)
   have v1:val (b.drop k) 3=((x-224)*64+(b[k+1].toNat:Int)-128)*64+(b[k+2].toNat:Int)-128:=by rw [val,lM hk,jK g1,jK g2,hx]
   have z:aY (((x-224)*64+(b[k+1].toNat:Int)-128)*64+(b[k+2].toNat:Int)-128)≠(b.drop k).take 3:=by rw [←v1];exact hb2.2
   rw [Ur g2]at z
   by_cases hl:(aY (((x-224)*64+(b[k+1].toNat:Int)-128)*64+(b[k+2].toNat:Int)-128)).length=3
   ·simp [hk,dZ hk,hx,w0,wl,bK,jJ,eZ,hxo,vW,vX,w1,w4,f2,f9,f3,f5,f7,p1,t1,u1,y1,l1,dZ g1,p2,t2,u2,y2,l2,dZ g2,Qq,OC,OD,q20,q21,q22,Ur g2,v1,z,hl]
   ·have hl':¬(((aY (((x-224)*64+(b[k+1].toNat:Int)-128)*64+(b[k+2].toNat:Int)-128)).length:Int)=3):=by omega
    simp [hk,dZ hk,hx,w0,wl,bK,jJ,eZ,hxo,vW,vX,w1,w4,f2,f9,f3,f5,f7,p1,t1,u1,y1,l1,dZ g1,p2,t2,u2,y2,l2,dZ g2,Qq,OC,OD,q20,q21,q22,Ur g2,v1,z,hl,hl']
  ·have w1:=bM (x-240) (by omega)
   have w4:=bM ((k:Int)+4) (by omega)
   have f2:(k:Int)+4≤b.length:=by omega
   have f9:(4:Int)≤(b.length:Int)-k:=by omega
   have f3:((k:Int)+4).toNat=k+4:=by omega
   have f5:k+4-k=4:=by omega
   have f7:(k:Int)≤(k:Int)+4:=by omega
   have g1:k+1<b.length:=by omega
   have r1:=b[k+1].toNat_lt
   have p1:=bM (b[k+1].toNat:Int) (by omega)
   have t1:=bM ((k:Int)+1) (by omega)
   have u1:((k:Int)+1).toNat=k+1:=by omega
   have y1:(k:Int)+1<b.length:=by omega
   have l1:(0:Int)≤(k:Int)+1:=by omega
   have g2:k+2<b.length:=by omega
   have r2:=b[k+2].toNat_lt
   have p2:=bM (b[k+2].toNat:Int) (by omega)
   have t2:=bM ((k:Int)+2) (by omega)
   have u2:((k:Int)+2).toNat=k+2:=by omega
   have y2:(k:Int)+2<b.length:=by omega
   have l2:(0:Int)≤(k:Int)+2:=by omega
   have g3:k+3<b.length:=by omega
   have r3:=b[k+3].toNat_lt
   have p3:=bM (b[k+3].toNat:Int) (by omega)
   have t3:=bM ((k:Int)+3) (by omega)
   have u3:((k:Int)+3).toNat=k+3:=by omega
   have y3:(k:Int)+3<b.length:=by omega
   have l3:(0:Int)≤(k:Int)+3:=by omega
   have Qq:=bM ((x-240)*64) (by omega)
   have OC:=bM ((x-240)*64+(b[k+1].toNat:Int)) (by omega)
   have OD:=bM ((x-240)*64+(b[k+1].toNat:Int)-128) (by omega)
   have q20:=bM (((x-240)*64+(b[k+1].toNat:Int)-128)*64) (by omega)
   have q21:=bM (((x-240)*64+(b[k+1].toNat:Int)-128)*64+(b[k+2].toNat:Int)) (by omega)
   have q22:=bM (((x-240)*64+(b[k+1].toNat:Int)-128)*64+(b[k+2].toNat:Int)-128) (by omega)
   have q30:=bM ((((x-240)*64+(b[k+1].toNat:Int)-128)*64+(b[k+2].toNat:Int)-128)*64) (by omega)
   have q31:=bM ((((x-240)*64+(b[k+1].toNat:Int)-128)*64+(b[k+2].toNat:Int)-128)*64+(b[k+3].toNat:Int)) (by omega)
   have q32:=bM ((((x-240)*64+(b[k+1].toNat:Int)-128)*64+(b[k+2].toNat:Int)-128)*64+(b[k+3].toNat:Int)-128) (by omega)
   have v1:val (b.drop k) 4=(((x-240)*64+(b[k+1].toNat:Int)-128)*64+(b[k+2].toNat:Int)-128)*64+(b[k+3].toNat:Int)-128:=by rw [val,lM hk,jK g1,jK g2,jK g3,hx]
   have z:aY ((((x-240)*64+(b[k+1].toNat:Int)-128)*64+(b[k+2].toNat:Int)-128)*64+(b[k+3].toNat:Int)-128)≠(b.drop k).take 4:=by rw [←v1];exact hb2.2
   rw [acM g3]at z
   by_cases hl:(aY ((((x-240)*64+(b[k+1].toNat:Int)-128)*64+(b[k+2].toNat:Int)-128)*64+(b[k+3].toNat:Int)-128)).length=4
   ·simp [hk,dZ hk,hx,w0,wl,bK,jJ,eZ,hxo,vW,vX,w1,w4,f2,f9,f3,f5,f7,p1,t1,u1,y1,l1,dZ g1,p2,t2,u2,y2,l2,dZ g2,p3,t3,u3,y3,l3,dZ g3,Qq,OC,OD,q20,q21,q22,q30,q31,q32,acM g3,v1,z,hl]
   ·have hl':¬(((aY ((((x-240)*64+(b[k+1].toNat:Int)-128)*64+(b[k+2].toNat:Int)-128)*64+(b[k+3].toNat:Int)-128)).length:Int)=4):=by omega
    simp [hk,dZ hk,hx,w0,wl,bK,jJ,eZ,hxo,vW,vX,w1,w4,f2,f9,f3,f5,f7,p1,t1,u1,y1,l1,dZ g1,p2,t2,u2,y2,l2,dZ g2,p3,t3,u3,y3,l3,dZ g3,Qq,OC,OD,q20,q21,q22,q30,q31,q32,acM g3,v1,z,hl,hl']
theorem I7 (s:ByteArray):nL s=wU s.data.toList:=rfl
theorem Lr {r:Int}(h:mg r=true):1≤(aY r).length:=by
 rcases vg h with⟨_,_,e⟩|⟨_,_,e⟩|⟨_,_,e⟩|⟨_,_,e⟩<;>rw [e]<;>simp
theorem Ls (s:ByteArray)(l:List Int)(rest:List UInt8)(h:Reads s.data.toList l rest)(hs:s.size≤65536):yS [V.v (.string s)] [] []=some ⟨.fT [.own 0,V.v (.bool rest.isEmpty)],[],[(0,if rest.isEmpty then ints l else [])]⟩:=by
 unfold yS
 have h1:¬(65536<(s.size:Int)):=by omega
 have h2:s.size≤4611686018427387904:=by omega
 have hsz:s.data.toList.length=s.size:=by simp
 have hds:s.data.toList.length=s.data.size:=Array.length_toList
 have hl:=h.len
 simp [func234,f234,h1,h2,I7]
 rw [aF (fun j=> .on ⟨[(6,V.v (.int .i64 (((bJ (l.take j)).length:Int)))),(5, .fz (wU s.data.toList)),(4, .own 2000001000)],[],[(2000001000,ints (l.take j))],[(13,[])]⟩) l.length ?_ ?_]
 ·obtain⟨e1,e2⟩:=h.end
  have e3:=h.2.2
  cases rest with
  | nil=>
   have e4:¬((bJ l).length<s.size):=by rw [List.length_nil]at e2;omega
   simp [e4]
  | cons c rest=>
   have e4:(bJ l).length<s.data.toList.length:=by rw [List.length_cons]at e2;omega
   have e5:(bJ l).length<s.size:=by omega
   have e5b:(bJ l).length<s.data.size:=by omega
   have e6:=P6 s.data.toList (bJ l).length e4 (by omega)
   rw [e1,e3]at e6
   simp [e5,e5b,e6,vW,vX]
 ·simp [bJ,aZ]
 ·intro j hj
  obtain⟨a1,a2,a3⟩:=h.at hj
  have a4:(bJ (l.take (j+1))).length≤65536:=by
   have:=zX hj
   have e:(bJ (l.take (j+1))).length≤s.data.toList.length:=by
    conv=>rhs;rw [h.1]
    rw [List.length_append]
    have:l=l.take (j+1)++l.drop (j+1):=(List.take_append_drop _ _).symm
    conv=>rhs;rw [this]
    unfold bJ
    rw [List.flatMap_append,List.length_append];omega
   omega
  have w1:=bM ((bJ (l.take (j+1))).length:Int) (by omega)
  have e5:(bJ (l.take j)).length<s.size:=by omega
  have e5b:(bJ (l.take j)).length<s.data.size:=by omega
  have e6:=P6 s.data.toList _ a1 (by omega)
  rw [a2]at e6
  have e7:=Lr (h.2.1 l[j] (List.getElem_mem hj))
  have e8:¬(aY l[j]= []):=fun e=>by rw [e]at e7;simp at e7
  have e9:((bJ (l.take j)).length:Int)+((aY l[j]).length:Int)=((bJ (l.take (j+1))).length:Int):=by omega
  have e10:(l.take j).length≤65536:=by simp;omega
  have e11:ints (l.take j)++ [[D.a (.int .i64 (l[j]))]]=ints (l.take (j+1)):=by rw [Vb,List.take_add_one,List.getElem?_eq_getElem hj];rfl
  simp [e5,e5b,e6,vW,vX,e8]
  simp (disch:=omega) only [eB]
  simp [e9,w1,e11]
theorem SF (s:ByteArray)(l:List Int)(rest:List UInt8)(h:Reads s.data.toList l rest)(hs:s.size≤65536):yY [V.v (.string s)] [] []=some ⟨.fT [.own 0,V.v (.bool rest.isEmpty)],[],[(0,if rest.isEmpty then ints l else [])]⟩:=by
 unfold yY
 have h1:¬(65536<(s.size:Int)):=by omega
 have h2:s.size≤4611686018427387904:=by omega
 have hsz:s.data.toList.length=s.size:=by simp
 have hds:s.data.toList.length=s.data.size:=Array.length_toList
 have hl:=h.len
 simp [func280,f280,h1,h2,I7]
 rw [aF (fun j=> .on ⟨[(6,V.v (.int .i64 (((bJ (l.take j)).length:Int)))),(5, .own 2000001000),(4, .fz (wU s.data.toList))],[],[(2000001000,ints (l.take j))],[(13,[])]⟩) l.length ?_ ?_]
 ·obtain⟨e1,e2⟩:=h.end
  have e3:=h.2.2
  cases rest with
  | nil=>
   have e4:¬((bJ l).length<s.size):=by rw [List.length_nil]at e2;omega
   simp [e4]
  | cons c rest=>
   have e4:(bJ l).length<s.data.toList.length:=by rw [List.length_cons]at e2;omega
   have e5:(bJ l).length<s.size:=by omega
   have e5b:(bJ l).length<s.data.size:=by omega
   have e6:=P7 s.data.toList (bJ l).length e4 (by omega)
   rw [e1,e3]at e6
   simp [e5,e5b,e6,vW,vX]
 ·simp [bJ,aZ]
 ·intro j hj
  obtain⟨a1,a2,a3⟩:=h.at hj
  have a4:(bJ (l.take (j+1))).length≤65536:=by
   have:=zX hj
   have e:(bJ (l.take (j+1))).length≤s.data.toList.length:=by
    conv=>rhs;rw [h.1]
    rw [List.length_append]
    have:l=l.take (j+1)++l.drop (j+1):=(List.take_append_drop _ _).symm
    conv=>rhs;rw [this]
    unfold bJ
    rw [List.flatMap_append,List.length_append];omega
   omega
  have w1:=bM ((bJ (l.take (j+1))).length:Int) (by omega)
  have e5:(bJ (l.take j)).length<s.size:=by omega
  have e5b:(bJ (l.take j)).length<s.data.size:=by omega
  have e6:=P7 s.data.toList _ a1 (by omega)
  rw [a2]at e6
  have e7:=Lr (h.2.1 l[j] (List.getElem_mem hj))
  have e8:¬(aY l[j]= []):=fun e=>by rw [e]at e7;simp at e7
  have e9:((bJ (l.take j)).length:Int)+((aY l[j]).length:Int)=((bJ (l.take (j+1))).length:Int):=by omega
  have e10:(l.take j).length≤65536:=by simp;omega
  have e11:ints (l.take j)++ [[D.a (.int .i64 (l[j]))]]=ints (l.take (j+1)):=by rw [Vb,List.take_add_one,List.getElem?_eq_getElem hj];rfl
  simp [e5,e5b,e6,vW,vX,e8]
  simp (disch:=omega) only [eB]
  simp [e9,w1,e11]
structure iQ (f:Int) (l:List ByteArray):Prop where
 first:1≤f∧f≤1000000000
 len:l.length≤60
 each:∀s∈l,1≤s.size∧s.size≤1000
def gI (f:Int)(l:List ByteArray):Int:=if l= []then 0 else f+l.length-1
theorem EH (f:Int)(l:List ByteArray)(h:iQ f l):nZ [.agg [vI f, .aM (some 0) (strs l)]] [] []=some ⟨V.v (.bool true),[],[]⟩:=by
 have q1:iq f 1 1000000000=true:=bB.2 h.first
 have q2:¬(60:Int)<l.length:=by have:=h.len;omega
 have q3:=h.len
 simp [nZ,func72,f72,dG,q1,q2]
 rw [aF (fun j=> .on ⟨[(18,V.v (.int .i64 ((j:Int)))),(17,V.v (.int .i64 ((l.length:Int)))),(16, .aM (some 0) (strs l))],[],[],[]⟩) l.length ?_ ?_]
 ·simp
 ·simp
 ·intro j hj
  have hw:=bM (j+1) (by omega)
  have e:=h.each l[j] (List.getElem_mem hj)
  have q4:iq (l[j].size:Int) 1 1000=true:=bB.2 (by omega)
  simp [hj,hw,dG,q4]
theorem P8 (f:Int)(l:List ByteArray)(h:iQ f l):zK [.agg [vI f, .aM (some 0) (strs l)]] [] []=some ⟨vI (gI f l),[],[]⟩:=by
 have e:=EH f l h
 have h1:=h.first
 have h2:=h.len
 have w1:=bM (f+l.length) (by omega)
 have w2:=bM (f+l.length-1) (by omega)
 unfold zK gI
 by_cases hl:l= []
 ·subst hl
  simp only [show strs []= []from rfl]at e
  simp [func172,f172,e,show strs []= []from rfl]
 ·simp [func172,f172,e,hl,w1,w2]
theorem acN (f:Int)(l:List ByteArray)(h:iQ f l)(k:Nat)(hk:k<l.length):sU [.agg [vI f, .aM (some 0) (strs l)],vI (f+k)] [] []=some ⟨.fT [V.v (.string (l[k])),V.v (.bool true)],[],[]⟩:=by
 have e:=EH f l h
 have h1:=h.first
 have h2:=h.len
 have w1:=bM (f+l.length) (by omega)
 have w2:=bM (f+l.length-1) (by omega)
 have w3:=bM (f+k-f) (by omega)
 have q:iq (f+k) f (f+l.length-1)=true:=bB.2 (by omega)
 have q2:f+(k:Int)-f=k:=by omega
 rw [q2]at w3
 simp [sU,func231,f231,e,dG,w1,w2,q,q2,w3,hk]
theorem Us (f:Int)(l:List ByteArray)(h:iQ f l)(n:Int)(hn:n<f∨f+l.length≤n):sU [.agg [vI f, .aM (some 0) (strs l)],vI n] [] []=some ⟨.fT [V.v (.string (⟨#[]⟩)),V.v (.bool false)],[],[]⟩:=by
 have e:=EH f l h
 have h1:=h.first
 have h2:=h.len
 have w1:=bM (f+l.length) (by omega)
 have w2:=bM (f+l.length-1) (by omega)
 have q:iq n f (f+l.length-1)=false:=by
  cases e:iq n f (f+l.length-1)
  ·rfl
  ·have:=bB.1 e;omega
 simp [sU,func231,f231,e,dG,w1,w2,q]
theorem uE (f:Int)(l:List ByteArray)(h:iQ f l):nN [.agg [vI f, .aM (some 0) (strs l)]] [] []=some ⟨V.v (.bool true),[],[]⟩:=by
 have q1:=h.first
 have q2:=h.len
 have q3:¬f<1:=by omega
 have q4:(l.length:Int)≤60:=by omega
 simp [nN,func70,f70]
 rw [aF (fun j=> .on ⟨[(8,V.v (.int .i64 ((j:Int)))),(7,V.v (.int .i64 ((l.length:Int)))),(6, .aM (some 0) (strs l)),(1, .ref 1 0)],[(1,[vI f, .aM (some 0) (strs l)])],[],[]⟩) l.length ?_ ?_]
 ·simp [q1,q2,q4]
 ·simp
 ·intro j hj
  have hw:=bM (j+1) (by omega)
  have e:=h.each l[j] (List.getElem_mem hj)
  have q5:¬(l[j].size:Int)<1:=by omega
  have q6:¬(1000:Int)<l[j].size:=by omega
  simp [hj,hw,q5,q6]
set_option maxHeartbeats 16000000
set_option maxRecDepth 100000
def dN (fr fh:Int):Bool:=(fr==0&&fh==0)||(fr != 0&&(dn fr&&iq fh 0 3))
def gy (vi:Bool)(mode:Int)(lt:List Int)(la cnt op za wt fr fh last:Int)(rp:List dL)(ul:List fH)(Av:Int)(ot:List Int)(oa:Int)(q:List Int)(hit:Int)(bt:List Int)(ba:Int):Bool:=
 bU lt la&&(bU ot oa&&(bU bt ba&&(iq cnt 0 999&&(iq za 0 999&&(fP vi mode lt la op za wt&&(dN fr fh&&(iq last 0 3&&(iG rp&&(jT ul&&(iq Av 0 1000000060&&(iq hit 0 1000000060&&((Av != 0||qA ot oa)&&(decide (q.length≤40)&&(q.all dn&&gq mode q hit bt ba))))))))))))))
theorem aeE (vi:Bool)(mode:Int)(lt:List Int)(la cnt op za wt fr fh last:Int)(rp:List dL)(ul:List fH)(Av:Int)(ot:List Int)(oa:Int)(q:List Int)(hit:Int)(bt:List Int)(ba:Int)(h1:lt.length≤1000000000)(h2:ot.length≤1000000000)(h3:bt.length≤1000000000)(h4:q.length≤1000000000)(h5:sD (aC rp)=true)(h6:sD (aG ul)=true):CW [.agg [V.v (.bool vi),vI mode, .aM (some 0) (ints lt),vI la,vI cnt,vI op,vI za,vI wt,vI fr,vI fh,vI last, .aM (some 1) (aC rp), .aM (some 2) (aG ul),vI Av, .aM (some 3) (ints ot),vI oa, .aM (some 4) (ints q),vI hit, .aM (some 5) (ints bt),vI ba]] [] []=some ⟨V.v (.bool (gy vi mode lt la cnt op za wt fr fh last rp ul Av ot oa q hit bt ba)),[],[]⟩:=by
 unfold CW
 cases a0:bU lt la
 ·simp [func9,f9,gy,dN,bP,h1,h2,h3,h5,h6,dG,dz,cO,cZ,bI,aR,a0]
 cases a1:bU ot oa
 ·simp [func9,f9,gy,dN,bP,h1,h2,h3,h5,h6,dG,dz,cO,cZ,bI,aR,a0,a1]
 cases a2:bU bt ba
 ·simp [func9,f9,gy,dN,bP,h1,h2,h3,h5,h6,dG,dz,cO,cZ,bI,aR,a0,a1,a2]
 cases a3:iq cnt 0 999
 ·simp [func9,f9,gy,dN,bP,h1,h2,h3,h5,h6,dG,dz,cO,cZ,bI,aR,a0,a1,a2,a3]
 cases a4:iq za 0 999
 ·simp [func9,f9,gy,dN,bP,h1,h2,h3,h5,h6,dG,dz,cO,cZ,bI,aR,a0,a1,a2,a3,a4]
 cases a5:fP vi mode lt la op za wt
 ·simp [func9,f9,gy,dN,bP,h1,h2,h3,h5,h6,dG,dz,cO,cZ,bI,aR,a0,a1,a2,a3,a4,a5]
 by_cases f0:fr=0
 ·subst f0
  by_cases f1:fh=0
  rotate_left
  ·simp [func9,f9,gy,dN,bP,h1,h2,h3,h5,h6,dG,dz,cO,cZ,bI,aR,a0,a1,a2,a3,a4,a5,f1]
  subst f1
  cases c0:iq last 0 3
  ·simp [func9,f9,gy,dN,bP,h1,h2,h3,h5,h6,dG,dz,cO,cZ,bI,aR,a0,a1,a2,a3,a4,a5,c0]
  cases c1:iG rp
  ·simp [func9,f9,gy,dN,bP,h1,h2,h3,h5,h6,dG,dz,cO,cZ,bI,aR,a0,a1,a2,a3,a4,a5,c0,c1]
  cases c2:jT ul
  ·simp [func9,f9,gy,dN,bP,h1,h2,h3,h5,h6,dG,dz,cO,cZ,bI,aR,a0,a1,a2,a3,a4,a5,c0,c1,c2]
  cases c3:iq Av 0 1000000060
  ·simp [func9,f9,gy,dN,bP,h1,h2,h3,h5,h6,dG,dz,cO,cZ,bI,aR,a0,a1,a2,a3,a4,a5,c0,c1,c2,c3]
  cases c4:iq hit 0 1000000060
  ·simp [func9,f9,gy,dN,bP,h1,h2,h3,h5,h6,dG,dz,cO,cZ,bI,aR,a0,a1,a2,a3,a4,a5,c0,c1,c2,c3,c4]
  by_cases d0:Av=0
  ·subst d0
   cases e0:qA ot oa
   ·simp [func9,f9,gy,dN,bP,h1,h2,h3,h5,h6,dG,dz,cO,cZ,bI,aR,a0,a1,a2,a3,a4,a5,c0,c1,c2,c3,c4,e0]
   by_cases d1:q.length≤40
   rotate_left
   ·have d1':40<(q.length:Int):=by omega
    simp [func9,f9,gy,dN,bP,h1,h2,h3,h5,h6,dG,dz,cO,cZ,bI,aR,a0,a1,a2,a3,a4,a5,c0,c1,c2,c3,c4,e0,d1,d1']
   have d1':¬(40<(q.length:Int)):=by omega
   simp [func9,f9,gy,dN,bP,h1,h2,h3,h5,h6,dG,dz,cO,cZ,bI,aR,a0,a1,a2,a3,a4,a5,c0,c1,c2,c3,c4,e0,d1,d1']
   rcases lg dn q with g|⟨g,N,hN,g1,g2⟩
   ·rw [aF (fun j=> .on ⟨[(109,V.v (.int .i64 ((j:Int)))),(108,V.v (.int .i64 ((q.length:Int)))),(107, .aM (some 4) (ints q)),(1, .ref 1 0)],[(1,[V.v (.bool vi),vI mode, .aM (some 0) (ints lt),vI la,vI cnt,vI op,vI za,vI wt,vI 0,vI 0,vI last, .aM (some 1) (aC rp), .aM (some 2) (aG ul),vI 0, .aM (some 3) (ints ot),vI oa, .aM (some 4) (ints q),vI hit, .aM (some 5) (ints bt),vI ba])],[],[]⟩) q.length ?_ ?_]
    ·by_cases m3:mode=3
     ·simp [func9,f9,gy,dN,bP,h1,h2,h3,h5,h6,dG,dz,cO,cZ,bI,aR,a0,a1,a2,a3,a4,a5,c0,c1,c2,c3,c4,e0,d1,d1',g,gq,m3]
     ·by_cases q0:q= []
      ·subst q0
       by_cases t0:hit=0
       ·subst t0;cases em:qA bt ba<;>simp [func9,f9,gy,dN,bP,h1,h2,h3,h5,h6,dG,dz,cO,cZ,bI,aR,a0,a1,a2,a3,a4,a5,c0,c1,c2,c3,c4,e0,d1,d1',g,gq,m3,em]
       ·simp [func9,f9,gy,dN,bP,h1,h2,h3,h5,h6,dG,dz,cO,cZ,bI,aR,a0,a1,a2,a3,a4,a5,c0,c1,c2,c3,c4,e0,d1,d1',g,gq,m3,t0]
      ·simp [func9,f9,gy,dN,bP,h1,h2,h3,h5,h6,dG,dz,cO,cZ,bI,aR,a0,a1,a2,a3,a4,a5,c0,c1,c2,c3,c4,e0,d1,d1',g,gq,m3,q0]
    ·simp
    ·intro j hj
     have hw:=bM (j+1) (by omega)
     have:=List.all_eq_true.1 g q[j] (List.getElem_mem hj)
     simp [hj,hw,aQ hj,aR,this]
   ·rw [aF (fun j=> .on ⟨[(109,V.v (.int .i64 ((j:Int)))),(108,V.v (.int .i64 ((q.length:Int)))),(107, .aM (some 4) (ints q)),(1, .ref 1 0)],[(1,[V.v (.bool vi),vI mode, .aM (some 0) (ints lt),vI la,vI cnt,vI op,vI za,vI wt,vI 0,vI 0,vI last, .aM (some 1) (aC rp), .aM (some 2) (aG ul),vI 0, .aM (some 3) (ints ot),vI oa, .aM (some 4) (ints q),vI hit, .aM (some 5) (ints bt),vI ba])],[],[]⟩) N ?_ ?_]
    ·simp [hN,aQ hN,aR,g1,g,gy]
    ·simp
    ·intro j hj
     have hj':j<q.length:=by omega
     have hw:=bM (j+1) (by omega)
     simp [hj',hw,aQ hj',aR,g2 j hj' hj]
  ·skip
   by_cases d1:q.length≤40
   rotate_left
   ·have d1':40<(q.length:Int):=by omega
    simp [func9,f9,gy,dN,bP,h1,h2,h3,h5,h6,dG,dz,cO,cZ,bI,aR,a0,a1,a2,a3,a4,a5,c0,c1,c2,c3,c4,d0,d1,d1']
   have d1':¬(40<(q.length:Int)):=by omega
   simp [func9,f9,gy,dN,bP,h1,h2,h3,h5,h6,dG,dz,cO,cZ,bI,aR,a0,a1,a2,a3,a4,a5,c0,c1,c2,c3,c4,d0,d1,d1']
   rcases lg dn q with g|⟨g,N,hN,g1,g2⟩
   ·rw [aF (fun j=> .on ⟨[(109,V.v (.int .i64 ((j:Int)))),(108,V.v (.int .i64 ((q.length:Int)))),(107, .aM (some 4) (ints q)),(1, .ref 1 0)],[(1,[V.v (.bool vi),vI mode, .aM (some 0) (ints lt),vI la,vI cnt,vI op,vI za,vI wt,vI 0,vI 0,vI last, .aM (some 1) (aC rp), .aM (some 2) (aG ul),vI Av, .aM (some 3) (ints ot),vI oa, .aM (some 4) (ints q),vI hit, .aM (some 5) (ints bt),vI ba])],[],[]⟩) q.length ?_ ?_]
    ·by_cases m3:mode=3
     ·simp [func9,f9,gy,dN,bP,h1,h2,h3,h5,h6,dG,dz,cO,cZ,bI,aR,a0,a1,a2,a3,a4,a5,c0,c1,c2,c3,c4,d0,d1,d1',g,gq,m3]
     ·by_cases q0:q= []
      ·subst q0
       by_cases t0:hit=0
       ·subst t0;cases em:qA bt ba<;>simp [func9,f9,gy,dN,bP,h1,h2,h3,h5,h6,dG,dz,cO,cZ,bI,aR,a0,a1,a2,a3,a4,a5,c0,c1,c2,c3,c4,d0,d1,d1',g,gq,m3,em]
       ·simp [func9,f9,gy,dN,bP,h1,h2,h3,h5,h6,dG,dz,cO,cZ,bI,aR,a0,a1,a2,a3,a4,a5,c0,c1,c2,c3,c4,d0,d1,d1',g,gq,m3,t0]
      ·simp [func9,f9,gy,dN,bP,h1,h2,h3,h5,h6,dG,dz,cO,cZ,bI,aR,a0,a1,a2,a3,a4,a5,c0,c1,c2,c3,c4,d0,d1,d1',g,gq,m3,q0]
    ·simp
    ·intro j hj
     have hw:=bM (j+1) (by omega)
     have:=List.all_eq_true.1 g q[j] (List.getElem_mem hj)
     simp [hj,hw,aQ hj,aR,this]
   ·rw [aF (fun j=> .on ⟨[(109,V.v (.int .i64 ((j:Int)))),(108,V.v (.int .i64 ((q.length:Int)))),(107, .aM (some 4) (ints q)),(1, .ref 1 0)],[(1,[V.v (.bool vi),vI mode, .aM (some 0) (ints lt),vI la,vI cnt,vI op,vI za,vI wt,vI 0,vI 0,vI last, .aM (some 1) (aC rp), .aM (some 2) (aG ul),vI Av, .aM (some 3) (ints ot),vI oa, .aM (some 4) (ints q),vI hit, .aM (some 5) (ints bt),vI ba])],[],[]⟩) N ?_ ?_]
    ·simp [hN,aQ hN,aR,g1,g,gy]
    ·simp
    ·intro j hj
     have hj':j<q.length:=by omega
     have hw:=bM (j+1) (by omega)
     simp [hj',hw,aQ hj',aR,g2 j hj' hj]
 ·skip
  cases f1:dn fr
  ·simp [func9,f9,gy,dN,bP,h1,h2,h3,h5,h6,dG,dz,cO,cZ,bI,aR,a0,a1,a2,a3,a4,a5,f0,f1]
  cases f2:iq fh 0 3
  ·simp [func9,f9,gy,dN,bP,h1,h2,h3,h5,h6,dG,dz,cO,cZ,bI,aR,a0,a1,a2,a3,a4,a5,f0,f1,f2]
  cases c0:iq last 0 3
  ·simp [func9,f9,gy,dN,bP,h1,h2,h3,h5,h6,dG,dz,cO,cZ,bI,aR,a0,a1,a2,a3,a4,a5,f0,f1,f2,c0]
  cases c1:iG rp
  ·simp [func9,f9,gy,dN,bP,h1,h2,h3,h5,h6,dG,dz,cO,cZ,bI,aR,a0,a1,a2,a3,a4,a5,f0,f1,f2,c0,c1]
  cases c2:jT ul
  ·simp [func9,f9,gy,dN,bP,h1,h2,h3,h5,h6,dG,dz,cO,cZ,bI,aR,a0,a1,a2,a3,a4,a5,f0,f1,f2,c0,c1,c2]
  cases c3:iq Av 0 1000000060
  ·simp [func9,f9,gy,dN,bP,h1,h2,h3,h5,h6,dG,dz,cO,cZ,bI,aR,a0,a1,a2,a3,a4,a5,f0,f1,f2,c0,c1,c2,c3]
  cases c4:iq hit 0 1000000060
  ·simp [func9,f9,gy,dN,bP,h1,h2,h3,h5,h6,dG,dz,cO,cZ,bI,aR,a0,a1,a2,a3,a4,a5,f0,f1,f2,c0,c1,c2,c3,c4]
  by_cases d0:Av=0
  ·subst d0
   cases e0:qA ot oa
   ·simp [func9,f9,gy,dN,bP,h1,h2,h3,h5,h6,dG,dz,cO,cZ,bI,aR,a0,a1,a2,a3,a4,a5,f0,f1,f2,c0,c1,c2,c3,c4,e0]
   by_cases d1:q.length≤40
   rotate_left
   ·have d1':40<(q.length:Int):=by omega
    simp [func9,f9,gy,dN,bP,h1,h2,h3,h5,h6,dG,dz,cO,cZ,bI,aR,a0,a1,a2,a3,a4,a5,f0,f1,f2,c0,c1,c2,c3,c4,e0,d1,d1']
   have d1':¬(40<(q.length:Int)):=by omega
   simp [func9,f9,gy,dN,bP,h1,h2,h3,h5,h6,dG,dz,cO,cZ,bI,aR,a0,a1,a2,a3,a4,a5,f0,f1,f2,c0,c1,c2,c3,c4,e0,d1,d1']
   rcases lg dn q with g|⟨g,N,hN,g1,g2⟩
   ·rw [aF (fun j=> .on ⟨[(109,V.v (.int .i64 ((j:Int)))),(108,V.v (.int .i64 ((q.length:Int)))),(107, .aM (some 4) (ints q)),(1, .ref 1 0)],[(1,[V.v (.bool vi),vI mode, .aM (some 0) (ints lt),vI la,vI cnt,vI op,vI za,vI wt,vI fr,vI fh,vI last, .aM (some 1) (aC rp), .aM (some 2) (aG ul),vI 0, .aM (some 3) (ints ot),vI oa, .aM (some 4) (ints q),vI hit, .aM (some 5) (ints bt),vI ba])],[],[]⟩) q.length ?_ ?_]
    ·by_cases m3:mode=3
     ·simp [func9,f9,gy,dN,bP,h1,h2,h3,h5,h6,dG,dz,cO,cZ,bI,aR,a0,a1,a2,a3,a4,a5,f0,f1,f2,c0,c1,c2,c3,c4,e0,d1,d1',g,gq,m3]
     ·by_cases q0:q= []
      ·subst q0
       by_cases t0:hit=0
       ·subst t0;cases em:qA bt ba<;>simp [func9,f9,gy,dN,bP,h1,h2,h3,h5,h6,dG,dz,cO,cZ,bI,aR,a0,a1,a2,a3,a4,a5,f0,f1,f2,c0,c1,c2,c3,c4,e0,d1,d1',g,gq,m3,em]
       ·simp [func9,f9,gy,dN,bP,h1,h2,h3,h5,h6,dG,dz,cO,cZ,bI,aR,a0,a1,a2,a3,a4,a5,f0,f1,f2,c0,c1,c2,c3,c4,e0,d1,d1',g,gq,m3,t0]
      ·simp [func9,f9,gy,dN,bP,h1,h2,h3,h5,h6,dG,dz,cO,cZ,bI,aR,a0,a1,a2,a3,a4,a5,f0,f1,f2,c0,c1,c2,c3,c4,e0,d1,d1',g,gq,m3,q0]
    ·simp
    ·intro j hj
     have hw:=bM (j+1) (by omega)
     have:=List.all_eq_true.1 g q[j] (List.getElem_mem hj)
     simp [hj,hw,aQ hj,aR,this]
   ·rw [aF (fun j=> .on ⟨[(109,V.v (.int .i64 ((j:Int)))),(108,V.v (.int .i64 ((q.length:Int)))),(107, .aM (some 4) (ints q)),(1, .ref 1 0)],[(1,[V.v (.bool vi),vI mode, .aM (some 0) (ints lt),vI la,vI cnt,vI op,vI za,vI wt,vI fr,vI fh,vI last, .aM (some 1) (aC rp), .aM (some 2) (aG ul),vI 0, .aM (some 3) (ints ot),vI oa, .aM (some 4) (ints q),vI hit, .aM (some 5) (ints bt),vI ba])],[],[]⟩) N ?_ ?_]
    ·simp [hN,aQ hN,aR,g1,g,gy]
    ·simp
    ·intro j hj
     have hj':j<q.length:=by omega
     have hw:=bM (j+1) (by omega)
     simp [hj',hw,aQ hj',aR,g2 j hj' hj]
  ·skip
   by_cases d1:q.length≤40
   rotate_left
   ·have d1':40<(q.length:Int):=by omega
    simp [func9,f9,gy,dN,bP,h1,h2,h3,h5,h6,dG,dz,cO,cZ,bI,aR,a0,a1,a2,a3,a4,a5,f0,f1,f2,c0,c1,c2,c3,c4,d0,d1,d1']
   have d1':¬(40<(q.length:Int)):=by omega
   simp [func9,f9,gy,dN,bP,h1,h2,h3,h5,h6,dG,dz,cO,cZ,bI,aR,a0,a1,a2,a3,a4,a5,f0,f1,f2,c0,c1,c2,c3,c4,d0,d1,d1']
   rcases lg dn q with g|⟨g,N,hN,g1,g2⟩
   ·rw [aF (fun j=> .on ⟨[(109,V.v (.int .i64 ((j:Int)))),(108,V.v (.int .i64 ((q.length:Int)))),(107, .aM (some 4) (ints q)),(1, .ref 1 0)],[(1,[V.v (.bool vi),vI mode, .aM (some 0) (ints lt),vI la,vI cnt,vI op,vI za,vI wt,vI fr,vI fh,vI last, .aM (some 1) (aC rp), .aM (some 2) (aG ul),vI Av, .aM (some 3) (ints ot),vI oa, .aM (some 4) (ints q),vI hit, .aM (some 5) (ints bt),vI ba])],[],[]⟩) q.length ?_ ?_]
    ·by_cases m3:mode=3
     ·simp [func9,f9,gy,dN,bP,h1,h2,h3,h5,h6,dG,dz,cO,cZ,bI,aR,a0,a1,a2,a3,a4,a5,f0,f1,f2,c0,c1,c2,c3,c4,d0,d1,d1',g,gq,m3]
     ·by_cases q0:q= []
      ·subst q0
       by_cases t0:hit=0
       ·subst t0;cases em:qA bt ba<;>simp [func9,f9,gy,dN,bP,h1,h2,h3,h5,h6,dG,dz,cO,cZ,bI,aR,a0,a1,a2,a3,a4,a5,f0,f1,f2,c0,c1,c2,c3,c4,d0,d1,d1',g,gq,m3,em]
       ·simp [func9,f9,gy,dN,bP,h1,h2,h3,h5,h6,dG,dz,cO,cZ,bI,aR,a0,a1,a2,a3,a4,a5,f0,f1,f2,c0,c1,c2,c3,c4,d0,d1,d1',g,gq,m3,t0]
      ·simp [func9,f9,gy,dN,bP,h1,h2,h3,h5,h6,dG,dz,cO,cZ,bI,aR,a0,a1,a2,a3,a4,a5,f0,f1,f2,c0,c1,c2,c3,c4,d0,d1,d1',g,gq,m3,q0]
    ·simp
    ·intro j hj
     have hw:=bM (j+1) (by omega)
     have:=List.all_eq_true.1 g q[j] (List.getElem_mem hj)
     simp [hj,hw,aQ hj,aR,this]
   ·rw [aF (fun j=> .on ⟨[(109,V.v (.int .i64 ((j:Int)))),(108,V.v (.int .i64 ((q.length:Int)))),(107, .aM (some 4) (ints q)),(1, .ref 1 0)],[(1,[V.v (.bool vi),vI mode, .aM (some 0) (ints lt),vI la,vI cnt,vI op,vI za,vI wt,vI fr,vI fh,vI last, .aM (some 1) (aC rp), .aM (some 2) (aG ul),vI Av, .aM (some 3) (ints ot),vI oa, .aM (some 4) (ints q),vI hit, .aM (some 5) (ints bt),vI ba])],[],[]⟩) N ?_ ?_]
    ·simp [hN,aQ hN,aR,g1,g,gy]
    ·simp
    ·intro j hj
     have hj':j<q.length:=by omega
     have hw:=bM (j+1) (by omega)
     simp [hj',hw,aQ hj',aR,g2 j hj' hj]
def dF.ok (e:dF):Bool:=gy e.Vi e.bQ e.ak.av e.ak.At e.bD e.Op e.bN e.fC e.dY e.bL e.iO e.aL.aA e.fD.bT e.kr e.gX.av e.gX.At e.bO e.lV e.bX.av e.bX.At
structure dF.sm (e:dF):Prop where
 h1:e.ak.av.length≤1000000000
 h2:e.gX.av.length≤1000000000
 h3:e.bX.av.length≤1000000000
 h4:e.bO.length≤1000000000
 h5:sD (aC e.aL.aA)=true
 h6:sD (aG e.fD.bT)=true
theorem EI {l:List dL}(h:iG l=true):sD (aC l)=true:=by
 simp only [iG,Bool.and_eq_true,decide_eq_true_eq]at h
 refine SB (by simp;omega) fun j r e=>?_
 have hj:j<l.length:=by have:=(List.getElem?_eq_some_iff.1 e).1;simpa using this
 rw [dX hj]at e
 injection e with e;subst e
 have:=List.all_eq_true.1 h.1 l[j] (List.getElem_mem hj)
 simp only [uQ,eO,Bool.and_eq_true,decide_eq_true_eq]at this
 simp only [oK,uz,EF,Bool.and_true]
 exact ni (by omega)
theorem M8 {l:List fH}(h:jT l=true):sD (aG l)=true:=by
 simp only [jT,Bool.and_eq_true,decide_eq_true_eq]at h
 refine SB (by simp;omega) fun j r e=>?_
 have hj:j<l.length:=by have:=(List.getElem?_eq_some_iff.1 e).1;simpa using this
 rw [dW hj]at e
 injection e with e;subst e
 have:=List.all_eq_true.1 h.1 l[j] (List.getElem_mem hj)
 simp only [EG,bU,eO,Bool.and_eq_true,decide_eq_true_eq]at this
 simp only [oK,uz,EF,IZ,Bool.and_true]
 exact ni (by omega)
theorem dF.SG {e:dF}(h:e.ok=true):e.sm:=by
 simp only [dF.ok,gy,Bool.and_eq_true,decide_eq_true_eq]at h
 obtain⟨a1,a2,a3,a4,a5,a6,a7,a8,a9,a10,a11,a12,a13,a14,a15,a16⟩:=h
 have len:∀{l:List Int} {a:Int},bU l a=true→l.length≤1000000000:=fun h=>by
  simp only [bU,eO,Bool.and_eq_true,decide_eq_true_eq]at h;omega
 exact⟨len a1,len a2,len a3,by omega,EI a9,M8 a10⟩
theorem ahW {l:List Int}{a:Int}(h:atEnd l a=false):l= []∨(l≠ []∧¬a=l.length):=by
 cases l with
 | nil=>exact .inl rfl
 | cons x l=>exact .inr ⟨by simp,by simpa [atEnd] using h⟩
theorem afN {l:List Int}{a:Int}(h:atEnd l a=true):0<l.length∧a=l.length:=by
 simpa [atEnd,List.length_pos_iff] using h
theorem dA (vi:Bool)(mode:Int)(lt:List Int)(la cnt op za wt fr fh last:Int)(rp:List dL)(ul:List fH)(Av:Int)(ot:List Int)(oa:Int)(q:List Int)(hit:Int)(bt:List Int)(ba:Int):FW [.agg [V.v (.bool vi),vI mode, .aM (some 0) (ints lt),vI la,vI cnt,vI op,vI za,vI wt,vI fr,vI fh,vI last, .aM (some 1) (aC rp), .aM (some 2) (aG ul),vI Av, .aM (some 3) (ints ot),vI oa, .aM (some 4) (ints q),vI hit, .aM (some 5) (ints bt),vI ba]] [] []=some ⟨V.v (.bool (fP vi mode lt la op za wt&&gq mode q hit bt ba)),[],[]⟩:=by
 unfold FW
 by_cases m2:mode=2
 ·subst m2
  cases vi
  ·simp [func135,f135,fP,gq,aI,aU,aO]
  cases hA:atEnd lt la
  ·rcases ahW hA with e|⟨e,e2⟩
   ·subst e
    by_cases q0:q= []
    ·subst q0
     by_cases t0:hit=0
     ·subst t0
      cases em:qA bt ba
      ·simp [func135,f135,fP,gq,aI,aU,aO,hA,em]
      by_cases o0:op=0
      ·subst o0
       by_cases k0:za=0
       ·subst k0
        by_cases w0:wt=0
        ·subst w0
         simp [func135,f135,fP,gq,aI,aU,aO,hA,em]
        ·skip
         cases hW:xM wt<;>simp [func135,f135,fP,gq,aI,aU,aO,hA,em,w0,hW]
       ·skip
        by_cases w0:wt=0
        ·subst w0
         simp [func135,f135,fP,gq,aI,aU,aO,hA,em,k0]
        ·skip
         cases hW:xM wt<;>simp [func135,f135,fP,gq,aI,aU,aO,hA,em,k0,w0,hW]
      ·skip
       cases hO:opC op
       ·simp [func135,f135,fP,gq,aI,aU,aO,hA,em,o0,hO]
       by_cases w0:wt=0
       ·subst w0
        simp [func135,f135,fP,gq,aI,aU,aO,hA,em,o0,hO]
       ·skip
        cases hW:xM wt<;>simp [func135,f135,fP,gq,aI,aU,aO,hA,em,o0,hO,w0,hW]
     ·skip
      simp [func135,f135,fP,gq,aI,aU,aO,hA,t0]
    ·have q1:0<q.length:=List.length_pos_iff.2 q0
     simp [func135,f135,fP,gq,aI,aU,aO,hA,q0,q1]
   ·have e3:0<lt.length:=List.length_pos_iff.2 e
    by_cases q0:q= []
    ·subst q0
     by_cases t0:hit=0
     ·subst t0
      cases em:qA bt ba
      ·simp [func135,f135,fP,gq,aI,aU,aO,hA,e,e2,e3,em]
      by_cases o0:op=0
      ·subst o0
       by_cases k0:za=0
       ·subst k0
        by_cases w0:wt=0
        ·subst w0
         simp [func135,f135,fP,gq,aI,aU,aO,hA,e,e2,e3,em]
        ·skip
         cases hW:xM wt<;>simp [func135,f135,fP,gq,aI,aU,aO,hA,e,e2,e3,em,w0,hW]
       ·skip
        by_cases w0:wt=0
        ·subst w0
         simp [func135,f135,fP,gq,aI,aU,aO,hA,e,e2,e3,em,k0]
        ·skip
         cases hW:xM wt<;>simp [func135,f135,fP,gq,aI,aU,aO,hA,e,e2,e3,em,k0,w0,hW]
      ·skip
       cases hO:opC op
       ·simp [func135,f135,fP,gq,aI,aU,aO,hA,e,e2,e3,em,o0,hO]
       by_cases w0:wt=0
       ·subst w0
        simp [func135,f135,fP,gq,aI,aU,aO,hA,e,e2,e3,em,o0,hO]
       ·skip
        cases hW:xM wt<;>simp [func135,f135,fP,gq,aI,aU,aO,hA,e,e2,e3,em,o0,hO,w0,hW]
     ·skip
      simp [func135,f135,fP,gq,aI,aU,aO,hA,e,e2,e3,t0]
    ·have q1:0<q.length:=List.length_pos_iff.2 q0
     simp [func135,f135,fP,gq,aI,aU,aO,hA,e,e2,e3,q0,q1]
  ·obtain⟨e1,e2⟩:=afN hA
   subst e2
   simp [func135,f135,fP,gq,aI,aU,aO,hA,e1]
 by_cases m0:mode=0
 ·subst m0
  cases vi
  ·skip
   by_cases o0:op=0
   ·subst o0
    by_cases k0:za=0
    ·subst k0
     by_cases w0:wt=0
     ·subst w0
      by_cases q0:q= []
      ·subst q0
       by_cases t0:hit=0
       ·subst t0
        cases em:qA bt ba
        ·simp [func135,f135,fP,gq,aI,aU,aO,em]
        simp [func135,f135,fP,gq,aI,aU,aO,em]
       ·skip
        simp [func135,f135,fP,gq,aI,aU,aO,t0]
      ·have q1:0<q.length:=List.length_pos_iff.2 q0
       simp [func135,f135,fP,gq,aI,aU,aO,q0,q1]
     ·skip
      simp [func135,f135,fP,gq,aI,aU,aO,w0]
    ·skip
     simp [func135,f135,fP,gq,aI,aU,aO,k0]
   ·skip
    simp [func135,f135,fP,gq,aI,aU,aO,o0]
  ·simp [func135,f135,fP,gq,aI,aU,aO]
 by_cases m1:mode=1
 ·subst m1
  cases vi
  ·simp [func135,f135,fP,gq,aI,aU,aO]
  ·skip
   by_cases o0:op=0
   ·subst o0
    by_cases k0:za=0
    ·subst k0
     by_cases w0:wt=0
     ·subst w0
      by_cases q0:q= []
      ·subst q0
       by_cases t0:hit=0
       ·subst t0
        cases em:qA bt ba
        ·simp [func135,f135,fP,gq,aI,aU,aO,em]
        simp [func135,f135,fP,gq,aI,aU,aO,em]
       ·skip
        simp [func135,f135,fP,gq,aI,aU,aO,t0]
      ·have q1:0<q.length:=List.length_pos_iff.2 q0
       simp [func135,f135,fP,gq,aI,aU,aO,q0,q1]
     ·skip
      simp [func135,f135,fP,gq,aI,aU,aO,w0]
    ·skip
     simp [func135,f135,fP,gq,aI,aU,aO,k0]
   ·skip
    simp [func135,f135,fP,gq,aI,aU,aO,o0]
 by_cases m3:mode=3
 ·subst m3
  cases vi
  ·skip
   by_cases o0:op=0
   ·subst o0
    by_cases k0:za=0
    ·subst k0
     by_cases w0:wt=0
     ·subst w0
      simp [func135,f135,fP,gq,aI,aU,aO]
     ·skip
      simp [func135,f135,fP,gq,aI,aU,aO,w0]
    ·skip
     simp [func135,f135,fP,gq,aI,aU,aO,k0]
   ·skip
    simp [func135,f135,fP,gq,aI,aU,aO,o0]
  ·skip
   by_cases o0:op=0
   ·subst o0
    by_cases k0:za=0
    ·subst k0
     by_cases w0:wt=0
     ·subst w0
      simp [func135,f135,fP,gq,aI,aU,aO]
     ·skip
      simp [func135,f135,fP,gq,aI,aU,aO,w0]
    ·skip
     simp [func135,f135,fP,gq,aI,aU,aO,k0]
   ·skip
    simp [func135,f135,fP,gq,aI,aU,aO,o0]
 by_cases ml:mode<0
 ·simp [func135,f135,fP,gq,aI,aU,aO,m0,m1,m2,m3,ml]
 ·have mh:3<mode:=by omega
  simp [func135,f135,fP,gq,aI,aU,aO,m0,m1,m2,m3,ml,mh]
theorem kQ (l:List Int)(i:Option Nat)(h:l.length≤1000000):jZ [.aM i (ints l)] [] []=some ⟨.own 0,[],[(0,ints l)]⟩:=by
 have g1:l.length*8≤140737488355328:=by omega
 have g2:l.length≤4611686018427387904:=by omega
 simp [jZ,func98,f98,g1,g2]
theorem j4 (l:List Int)(i:Option Nat)(a:Int)(h:l.length≤1000000):kP [.agg [.aM i (ints l),vI a]] [] []=some ⟨.agg [.own 0,vI a],[],[(0,ints l)]⟩:=by
 have e:=kQ l (some 0) h
 simp [kP,func100,f100,e]
theorem I8 (l:List dL)(i:Option Nat)(h:l.length≤1000)(hp:∀p∈l,p.av.length≤2000):wD [.agg [.aM i (aC l)]] [] []=some ⟨.agg [.own 0],[],[(0,aC l)]⟩:=by
 simp [wD,func142,f142]
 rw [aF (fun k=> .on ⟨[(9,V.v (.int .i64 ((k:Int)))),(8,V.v (.int .i64 ((l.length:Int)))),(7, .aM i (aC l)),(3, .ref 3 0),(2, .ref 2 0)],[(3,[.own 2000000000]),(2,[.own 2000000001])],[(2000000001,[]),(2000000000,aC (l.take k))],[]⟩) l.length ?_ ?_]
 ·simp
 ·simp [show aC []= []from rfl]
 ·intro k hk
  have hw:=bM ((k:Int)+1) (by omega)
  have hq:=hp l[k] (List.getElem_mem hk)
  have e:=kQ l[k].av (some 0) (by omega)
  have g3:min k l.length=k:=by omega
  have g4:(k+1)*24≤140737488355328:=by omega
  have g5:k≤4611686018427387903:=by omega
  have g6:aC (l.take (k+1))=aC (l.take k)++ [[.l (ints l[k].av)]]:=by rw [E5,←List.take_succ_eq_append_getElem hk]
  simp [hk,hw,e,g3,g4,g5,g6]
theorem Dn (l:List fH)(i:Option Nat)(h:l.length≤1000)(hp:∀p∈l,p.av.length≤2000):wE [.agg [.aM i (aG l)]] [] []=some ⟨.agg [.own 0],[],[(0,aG l)]⟩:=by
 simp [wE,func143,f143]
 rw [aF (fun k=> .on ⟨[(9,V.v (.int .i64 ((k:Int)))),(8,V.v (.int .i64 ((l.length:Int)))),(7, .aM i (aG l)),(3, .ref 3 0),(2, .ref 2 0)],[(3,[.own 2000000000]),(2,[.own 2000000001])],[(2000000001,[]),(2000000000,aG (l.take k))],[]⟩) l.length ?_ ?_]
 ·simp
 ·simp [show aG []= []from rfl]
 ·intro k hk
  have hw:=bM ((k:Int)+1) (by omega)
  have hq:=hp l[k] (List.getElem_mem hk)
  have e:=j4 l[k].av (some 0) l[k].At (by omega)
  have g3:min k l.length=k:=by omega
  have g4:(k+1)*32≤140737488355328:=by omega
  have g5:k≤4611686018427387903:=by omega
  have g6:aG (l.take (k+1))=aG (l.take k)++ [[.l (ints l[k].av),D.a (.int .i64 (l[k].At))]]:=by rw [wz,←List.take_succ_eq_append_getElem hk]
  simp [hk,hw,e,g3,g4,g5,g6]
structure NM (e:dF):Prop where
 line:e.ak.av.length≤2000
 own:e.gX.av.length≤2000
 back:e.bX.av.length≤2000
 query:e.bO.length≤2000
 ring:e.aL.aA.length≤1000∧∀p∈e.aL.aA,p.av.length≤2000
 undo:e.fD.bT.length≤1000∧∀p∈e.fD.bT,p.av.length≤2000
theorem EJ (e:dF)(h:NM e):jG [gL e] [] []=some ⟨gO e,[],hO e⟩:=by
 have e1:=j4 e.ak.av (some 0) e.ak.At (by have:=h.line;omega)
 have e2:=j4 e.gX.av (some 0) e.gX.At (by have:=h.own;omega)
 have e3:=j4 e.bX.av (some 0) e.bX.At (by have:=h.back;omega)
 have e4:=I8 e.aL.aA (some 0) h.ring.1 h.ring.2
 have e5:=Dn e.fD.bT (some 0) h.undo.1 h.undo.2
 have e6:=kQ e.bO (some 0) (by have:=h.query;omega)
 simp [jG,func74,f74,e1,e2,e3,e4,e5,e6]
theorem ze (e:dF)(h:NM e)(last:Int):qP [gL e,vI last] [] []=some ⟨.agg [V.v (.bool e.Vi),vI e.bQ, .own 0,vI e.ak.At,vI 0,vI 0,vI 0,vI 0,vI e.dY,vI e.bL,vI last, .own 1, .own 2,vI e.kr, .own 3,vI e.gX.At, .own 4,vI e.lV, .own 5,vI e.bX.At],[],(hO e)⟩:=by
 have e1:=EJ e h
 simp [qP,func171,f171,e1]
theorem M9 (e:dF)(h:NM e):kg [gL e] [] []=some ⟨.fT [.agg [V.v (.bool e.Vi),vI e.bQ, .own 0,vI e.ak.At,vI 0,vI 0,vI 0,vI 0,vI e.dY,vI e.bL,vI 0, .own 1, .own 2,vI e.kr, .own 3,vI e.gX.At, .own 4,vI e.lV, .own 5,vI e.bX.At],vI 1],[],(hO e)⟩:=by
 have e1:=ze e h 0
 simp [kg,func96,f96,e1]
theorem SH (e:dF)(ok:e.ok=true):CW [gL e] [] []=some ⟨V.v (.bool true),[],[]⟩:=by
 have hsm:=dF.SG ok
 have hE:=aeE e.Vi e.bQ e.ak.av e.ak.At e.bD e.Op e.bN e.fC e.dY e.bL e.iO e.aL.aA e.fD.bT e.kr e.gX.av e.gX.At e.bO e.lV e.bX.av e.bX.At hsm.h1 hsm.h2 hsm.h3 hsm.h4 hsm.h5 hsm.h6
 rw [hE]
 have:gy e.Vi e.bQ e.ak.av e.ak.At e.bD e.Op e.bN e.fC e.dY e.bL e.iO e.aL.aA e.fD.bT e.kr e.gX.av e.gX.At e.bO e.lV e.bX.av e.bX.At=true:=ok
 rw [this]
theorem NM.of {e:dF}(ok:e.ok=true):NM e:=by
 simp only [dF.ok,gy,Bool.and_eq_true,decide_eq_true_eq]at ok
 obtain⟨a1,a2,a3,a4,a5,a6,a7,a8,a9,a10,a11,a12,a13,a14,a15,a16⟩:=ok
 have len:∀{l:List Int} {a:Int},bU l a=true→l.length≤400:=fun h=>by
  simp only [bU,eO,Bool.and_eq_true,decide_eq_true_eq]at h;exact h.1.1
 simp only [iG,jT,Bool.and_eq_true,decide_eq_true_eq]at a9 a10
 refine⟨by have:=len a1;omega,by have:=len a2;omega,by have:=len a3;omega,by omega,⟨by omega,fun p hp=>?_⟩,by omega,fun p hp=>?_⟩
 ·have:=List.all_eq_true.1 a9.1 p hp
  simp only [uQ,eO,Bool.and_eq_true,decide_eq_true_eq]at this;omega
 ·have:=List.all_eq_true.1 a10.1 p hp
  simp only [EG]at this
  have:=len this;omega
theorem Ut (t:List Int)(a mode:Int)(h:¬mode=2):kI [.agg [.aM (some 0) (ints t),vI a],vI mode] [] []=some ⟨.agg [.aM (some 0) (ints t),vI a],[],[]⟩:=by
 simp [kI,func176,f176,h]
theorem afO (s:ByteArray)(t:List Int)(h:Reads s.data.toList t [])(ht:eO t=true)(hs:s.size≤65536):wH [V.v (.string s)] [] []=some ⟨.fT [.agg [.own 0,vI (t.length:Int)],V.v (.bool true)],[],[(0,ints t)]⟩:=by
 have e1:=Ls s t [] h hs
 have hl:t.length≤400:=by simp only [eO,Bool.and_eq_true,decide_eq_true_eq]at ht;exact ht.1
 have e2:=bP t t.length (by omega)
 have q:bU t t.length=true:=by
  unfold bU
  rw [ht,bB.2 (by omega)];rfl
 rw [q]at e2
 simp [wH,func232,f232,e1,e2]
theorem reads_nil:Reads (⟨#[]⟩:ByteArray).data.toList [] []:=⟨rfl,(fun _ h=>nomatch h),rfl⟩
theorem acO (e e':dF)(f Af:Int)(l:List ByteArray)(h:dO [gL e,aH f l,vI Af] [] []=some ⟨.fT [.agg [V.v (.bool e'.Vi),vI e'.bQ, .own 0,vI e'.ak.At,vI e'.bD,vI e'.Op,vI e'.bN,vI e'.fC,vI e'.dY,vI e'.bL,vI e'.iO, .own 1, .own 2,vI e'.kr, .own 3,vI e'.gX.At, .own 4,vI e'.lV, .own 5,vI e'.bX.At],V.v (.bool true)],[],[(0,ints e'.ak.av),(1,aC e'.aL.aA),(2,aG e'.fD.bT),(3,ints e'.gX.av),(4,ints e'.bO),(5,ints e'.bX.av)]⟩):
  AU [gL e,aH f l,vI Af] [] []=some ⟨.fT [.agg [V.v (.bool e'.Vi),vI e'.bQ, .own 0,vI e'.ak.At,vI e'.bD,vI e'.Op,vI e'.bN,vI e'.fC,vI e'.dY,vI e'.bL,vI e'.iO, .own 1, .own 2,vI e'.kr, .own 3,vI e'.gX.At, .own 4,vI e'.lV, .own 5,vI e'.bX.At],vI 0],[],[(0,ints e'.ak.av),(1,aC e'.aL.aA),(2,aG e'.fD.bT),(3,ints e'.gX.av),(4,ints e'.bO),(5,ints e'.bX.av)]⟩:=by
 simp [AU,func155,f155,h]
theorem acP (e:dF)(hb:NM e)(f Af:Int)(l:List ByteArray)(h:dO [gL e,aH f l,vI Af] [] []=some ⟨.fT [.agg [V.v (.bool false),vI 0, .own 0,vI 0,vI 0,vI 0,vI 0,vI 0,vI 0,vI 0,vI 0, .own 1, .own 2,vI 0, .own 3,vI 0, .own 4,vI 0, .own 5,vI 0],V.v (.bool false)],[],[(0,[]),(1,[]),(2,[]),(3,[]),(4,[]),(5,[])]⟩):
  AU [gL e,aH f l,vI Af] [] []=some ⟨.fT [.agg [V.v (.bool e.Vi),vI e.bQ, .own 0,vI e.ak.At,vI 0,vI 0,vI 0,vI 0,vI e.dY,vI e.bL,vI 0, .own 1, .own 2,vI e.kr, .own 3,vI e.gX.At, .own 4,vI e.lV, .own 5,vI e.bX.At],vI 1],[],(hO e)⟩:=by
 have e1:=M9 e hb
 simp [AU,func155,f155,h,e1]
theorem OE:∀(a b:List Int),a.length=b.length→a=b∨∃N,∃h:N<a.length,∃h':N<b.length,a[N]≠b[N]∧∀j (hj:j<a.length) (hj':j<b.length),j<N→a[j]=b[j]
 | [],[],_=> .inl rfl
 | x::a,y::b,h=>by
  by_cases e:x=y
  ·subst e
   rcases OE a b (by simpa using h)with h1|⟨N,h1,h2,h3,h4⟩
   ·exact .inl (by rw [h1])
   ·refine .inr ⟨N+1,by simp;exact h1,by simp;exact h2,by simpa using h3,fun j hj hj' hjN=>?_⟩
    cases j with
    | zero=>rfl
    | succ j=>simpa using h4 j (by simpa using hj) (by simpa using hj') (by omega)
  ·exact .inr ⟨0,by simp,by simp,by simpa using e,fun j _ _ hj=>by omega⟩
theorem Dp (a b:List Int)(ha:a.length≤1000000)(hb:b.length≤1000000):wF [.aM (some 0) (ints a), .aM (some 1) (ints b)] [] []=some ⟨V.v (.bool (decide (a=b))),[],[]⟩:=by
 unfold wF
 by_cases hl:a.length=b.length
 ·have hli:(a.length:Int)=b.length:=by omega
  simp [func220,f220,hl,hli]
  rcases OE a b hl with h|⟨N,h1,h2,h3,h4⟩
  ·subst h
   rw [aF (fun j=> .on ⟨[(13,V.v (.int .i64 ((j:Int)))),(12,V.v (.int .i64 ((a.length:Int)))),(1, .aM (some 1) (ints a)),(0, .aM (some 0) (ints a))],[],[],[]⟩) a.length ?_ ?_]
   ·simp
   ·simp
   ·intro j hj
    have hw:=bM ((j:Int)+1) (by omega)
    simp [hj,hw,aQ hj]
  ·have hab:¬a=b:=fun e=>by subst e;exact h3 rfl
   rw [aF (fun j=> .on ⟨[(13,V.v (.int .i64 ((j:Int)))),(12,V.v (.int .i64 ((b.length:Int)))),(1, .aM (some 1) (ints b)),(0, .aM (some 0) (ints a))],[],[],[]⟩) N ?_ ?_]
   ·simp [h1,h2,aQ h1,aQ h2,h3,hab]
   ·simp
   ·intro j hj
    have j1:j<a.length:=by omega
    have j2:j<b.length:=by omega
    have hw:=bM ((j:Int)+1) (by omega)
    simp [j1,j2,hw,aQ j1,aQ j2,h4 j j1 j2 hj]
 ·have hli:¬(a.length:Int)=b.length:=by omega
  have hab:¬a=b:=fun e=>hl (by rw [e])
  simp [func220,f220,hl,hli,hab]
theorem vo (t:List Int)(i:Option Nat)(a at_:Int)(h:t.length≤1000000):qQ [.agg [.aM i (ints t),vI a],vI at_] [] []=some ⟨.agg [.own 0,vI (max 0 (min at_ t.length))],[],[(0,ints t)]⟩:=by
 have e:=kQ t (some 0) h
 simp [qQ,func154,f154,e]
def cutAt (a from_ mQ:Int):Int:=if mQ≤a then a-(mQ-from_)else if from_<a then from_ else a
theorem Cm (t:List Int)(a:Int)(h:bU t a=true)(f mQ:Nat)(h1:f≤mQ)(h2:mQ≤t.length):sS [.agg [.aM (some 0) (ints t),vI a],vI (f:Int),vI (mQ:Int)] [] []=some ⟨.fT [.agg [.own 0,vI (cutAt a f mQ)], .own 1,V.v (.bool true)],[],[(0,ints (t.take f++t.drop mQ)),(1,ints ((t.drop f).take (mQ-f)))]⟩:=by
 have hl:t.length≤400:=by simp only [bU,eO,Bool.and_eq_true,decide_eq_true_eq]at h;exact h.1.1
 have ha:0≤a∧a≤t.length:=by simp only [bU,Bool.and_eq_true]at h;exact Rf h.2
 have e1:=bP t a (by omega)
 rw [h]at e1
 have e2:yQ [.agg [.aM (some 0) (ints t),vI a],vI (f:Int),vI (mQ:Int)] [] []=some ⟨V.v (.bool true),[],[]⟩:=by
  have q1:(f:Int)≤mQ:=by omega
  have q2:(mQ:Int)≤t.length:=by omega
  simp [yQ,func222,f222,e1,q1,q2]
 have e3:=kQ (t.take f) (some 0) (by simp;omega)
 have e4:=kQ ((t.drop f).take (mQ-f)) (some 0) (by simp;omega)
 have q0:f≤t.length:=by omega
 have q1:(f:Int)≤mQ:=by omega
 have q2:(mQ:Int)≤t.length:=by omega
 have q3:(f:Int)≤t.length:=by omega
 have q4:(min f t.length+(t.length-mQ))*8≤140737488355328:=by omega
 have q5:min f t.length+(t.length-mQ)≤4611686018427387904:=by omega
 have q6:min f t.length=f:=by omega
 have q7:(f+(t.length-mQ))*8≤140737488355328:=by omega
 have q8:f+(t.length-mQ)≤4611686018427387904:=by omega
 have q9:(t.drop mQ).take (t.length-mQ)=t.drop mQ:=List.take_of_length_le (by simp)
 have w1:=bM ((mQ:Int)-f) (by omega)
 have w2:=bM (a-((mQ:Int)-f)) (by omega)
 generalize hE:sS _ _ _=R
 unfold sS at hE
 unfold cutAt
 by_cases c1:(mQ:Int)≤a
 ·simp [-au,←au,func164,f164,e2,e3,e4,q0,q1,q2,q3,q4,q5,q6,q7,q8,q9,w1,w2,c1,h1,h2]at hE
  rw [if_pos c1]
  exact hE.symm
 ·by_cases c2:(f:Int)<a
  ·simp [-au,←au,func164,f164,e2,e3,e4,q0,q1,q2,q3,q4,q5,q6,q7,q8,q9,c1,c2,h1,h2]at hE
   rw [if_neg c1,if_pos c2]
   exact hE.symm
  ·simp [-au,←au,func164,f164,e2,e3,e4,q0,q1,q2,q3,q4,q5,q6,q7,q8,q9,c1,c2,h1,h2]at hE
   rw [if_neg c1,if_neg c2]
   exact hE.symm
theorem wS {l:List dL}(h:iG l=true):l.length≤6∧∀p∈l,0<p.av.length∧p.av.length≤400∧p.av.all iB=true:=by
 simp only [iG,Bool.and_eq_true,decide_eq_true_eq]at h
 refine⟨h.2,fun p hp=>?_⟩
 have:=List.all_eq_true.1 h.1 p hp
 simp only [uQ,eO,Bool.and_eq_true,decide_eq_true_eq]at this
 exact⟨this.1,this.2.1,this.2.2⟩
theorem aak {l:List dL}{t:List Int}(h:iG l=true)(ht:eO t=true)(h0:t≠ []):iG ((⟨t⟩::l).take 6)=true:=by
 simp only [iG,Bool.and_eq_true,decide_eq_true_eq]at h⊢
 refine⟨List.all_eq_true.2 fun p hp=>?_,by simp;omega⟩
 rcases List.mem_cons.1 (List.mem_of_mem_take hp)with rfl|hp
 ·simp [uQ,ht,List.length_pos_iff.2 h0]
 ·exact List.all_eq_true.1 h.1 p hp
theorem Gh (l:List dL)(h:iG l=true):o8 [.agg [.aM (some 0) (aC l)]] [] []=some ⟨.own 0,[],[(0,ints ((l.head?.map (·.av)).getD []))]⟩:=by
 obtain⟨hl,hp⟩:=wS h
 have e1:=cO l (EI h)
 rw [h]at e1
 unfold o8
 cases l with
 | nil=>
  simp only [show aC []= []from rfl]at e1⊢
  simp [func219,f219,e1,aZ]
 | cons p l=>
  have e2:=kQ p.av (some 0) (by have:=(hp p (by simp)).2.1;omega)
  have hn:¬(l.length:Int)+1=0:=by omega
  rw [iI]at e1⊢
  simp [func219,f219,e1,e2,hn]
theorem ahX {l:List fH}(h:jT l=true):∀p∈l,bU p.av p.At=true:=by
 simp only [jT,Bool.and_eq_true,decide_eq_true_eq]at h
 intro p hp
 have:=List.all_eq_true.1 h.1 p hp
 simpa [EG] using this
def SI (t:List Int)(a:Int):Int:=if atEnd t a=true then a-1 else a
theorem Uu (t:List Int)(a:Int)(ha:0≤a∧a≤1000):kI [.agg [.aM (some 0) (ints t),vI a],vI 2] [] []=some ⟨.agg [.aM (some 0) (ints t),vI (SI t a)],[],[]⟩:=by
 have e1:=vS t a
 have w:=bM (a-1) (by omega)
 unfold kI SI
 cases h:atEnd t a
 ·rw [h]at e1
  simp [func176,f176,e1]
 ·rw [h]at e1
  simp [func176,f176,e1,w]
structure anf (e:dF):Prop where
 b:NM e
 mode:e.bQ=2
 line:bU e.ak.av e.ak.At=true
 undo:jT e.fD.bT=true∧e.fD.bT.length≤19
theorem fF (a n:Int):og [vI a,vI n] [] []=some ⟨vI (max 0 (min a n)),[],[]⟩:=by
 simp [og,func162,f162]
theorem eT (r:Int):vL [vI r] [] []=some ⟨V.v (.bool (iq r 65 90)),[],[]⟩:=by
 simp [vL,func223,f223,dG]
theorem fK (r:Int):sQ [vI r] [] []=some ⟨V.v (.bool (iq r 97 122)),[],[]⟩:=by
 simp [sQ,func141,f141,dG]
theorem lN (r:Int):Cb [vI r] [] []=some ⟨V.v (.bool (iq r 48 57)),[],[]⟩:=by
 simp [Cb,func159,f159,dG]
def nV (l:List dL)(t:List Int)(how:Int):List dL:=
 if t= []then l else match l with
 | []=> [⟨t⟩]
 | p::r=>if how=0∨400<p.av.length+t.length then(⟨t⟩::p::r).take 6 else if how=1 then⟨p.av++t⟩::r else⟨t++p.av⟩::r
theorem Gi {l:List dL}{t:List Int}(h:iG l=true)(ht:eO t=true)(how:Int):iG (nV l t how)=true:=by
 unfold nV
 by_cases h0:t= []
 ·rw [if_pos h0];exact h
 rw [if_neg h0]
 cases l with
 | nil=>exact aak h ht h0
 | cons p r=>
  simp only
  have hp:eO p.av=true∧iG r=true∧r.length≤5:=by
   simp only [iG,List.all_cons,uQ,Bool.and_eq_true,decide_eq_true_eq,List.length_cons]at h⊢
   exact⟨h.1.1.2,⟨h.1.2,by omega⟩,by omega⟩
  by_cases h1:how=0∨400<p.av.length+t.length
  ·rw [if_pos h1];exact aak h ht h0
  rw [if_neg h1]
  have key:∀x:List Int,eO x=true→x≠ []→iG (⟨x⟩::r)=true:=fun x hx h0=>by
   have hr:=hp.2.1
   simp only [iG,List.all_cons,uQ,Bool.and_eq_true,decide_eq_true_eq,List.length_cons]at hr⊢
   exact⟨⟨⟨List.length_pos_iff.2 h0,hx⟩,hr.1⟩,by omega⟩
  have ht':=ht
  have hp':=hp.1
  simp only [eO,Bool.and_eq_true,decide_eq_true_eq]at ht' hp'
  have hl:p.av.length+t.length≤400:=by omega
  split
  ·exact key _ (by simp only [eO,List.length_append,List.all_append,Bool.and_eq_true,decide_eq_true_eq];exact⟨hl,hp'.2,ht'.2⟩) (by simp [h0])
  ·exact key _ (by simp only [eO,List.length_append,List.all_append,Bool.and_eq_true,decide_eq_true_eq];exact⟨by omega,ht'.2,hp'.2⟩) (by simp [h0])
theorem SK (l:List dL)(t:List Int)(how:Int)(h:iG l=true)(ht:eO t=true)(hw:0≤how∧how≤2):yR [.agg [.aM (some 0) (aC l)], .aM (some 1) (ints t),vI how] [] []=some ⟨.fT [.agg [.own 0],V.v (.bool true)],[],[(0,aC (nV l t how))]⟩:=by
 obtain⟨hl,hp⟩:=wS h
 have htl:t.length≤400:=by simp only [eO,Bool.and_eq_true,decide_eq_true_eq]at ht;exact ht.1
 have e1:=cO l (EI h)
 rw [h]at e1
 have e2:=qB t (by omega)
 rw [ht]at e2
 have e3:=I8 l (some 0) (by omega) (fun p hq=>by have:=(hp p hq).2.1;omega)
 have e4:=kQ t (some 0) (by omega)
 have q1:iq how 0 2=true:=bB.2 hw
 have q2:iq 0 0 2=true:=by decide
 have q3:iq 1 0 2=true:=by decide
 generalize hE:yR _ _ _=R
 unfold yR at hE
 by_cases h0:t= []
 ·subst h0
  unfold nV
  rw [if_pos rfl]
  simp only [show ints []= []from rfl]at hE e2
  simp [func166,f166,e1,e2,e3,e4,dG,q1]at hE
  exact hE.symm
 unfold nV
 rw [if_neg h0]
 have hn:¬(t.length:Int)=0:=by have:=List.length_pos_iff.2 h0;omega
 cases l with
 | nil=>
  simp only [show aC []= []from rfl]at hE e1 e3
  have rf:dV ([]:List (List D))=true:=rfl
  rw [show aC [⟨t⟩]= [[.l (ints t)]]from rfl]
  by_cases hc1:how=0
  ·simp [func166,f166,e1,e2,e3,e4,dG,q1,q2,q3,h0,rf,hc1]at hE
   exact hE.symm
  ·simp [func166,f166,e1,e2,e3,e4,dG,q1,q2,q3,h0,rf,hc1]at hE
   exact hE.symm
 | cons p l=>
  have hll:l.length≤5:=by simpa using hl
  have hpl:=(hp p (by simp)).2.1
  have hn0:¬(l.length:Int)+1=0:=by omega
  have wl:=bM ((p.av.length:Int)+t.length) (by omega)
  have rf:dV (aC (p::l))=false:=by simp [iI,dV,sH]
  simp only
  by_cases hc:how=0∨400<p.av.length+t.length
  ·rw [if_pos hc]
   have g3:(1+(l.length+1))*24≤140737488355328:=by omega
   have g4:1+(l.length+1)≤4611686018427387904:=by omega
   have hc':how=0∨¬how=0∧(400:Int)<(p.av.length:Int)+t.length:=by omega
   by_cases h6:l.length=5
   ·have m76:min (7:Int) 6=6:=by decide
    rcases hc' with hc'|⟨hc',hc2⟩
    ·simp [func166,f166,e1,e2,e3,e4,dG,q1,q2,q3,h0,h6,m76,rf,hc']at hE
     exact hE.symm
    ·rw [iI]at e1 e3
     simp [func166,f166,e1,e2,e3,e4,dG,q1,q2,q3,h0,h6,m76,rf,hc',hc2,hn0,wl,iI]at hE
     exact hE.symm
   ·have h6i:¬(6:Int)≤(l.length:Int)+1+1∨(l.length:Int)+1+1=6:=by omega
    have h6m:min ((l.length:Int)+1+1) 6=(l.length:Int)+1+1:=by omega
    have h6t:l.take 4=l:=List.take_of_length_le (by omega)
    have h6n:((l.length:Int)+1+1).toNat=l.length+2:=by omega
    have h6p:0≤(l.length:Int)+1+1:=by omega
    rw [show List.take 6 (⟨t⟩::p::l)=⟨t⟩::p::l.take 4 from rfl,h6t]
    rcases hc' with hc'|⟨hc',hc2⟩
    ·simp [func166,f166,e1,e2,e3,e4,dG,q1,q2,q3,h0,g3,g4,h6m,h6n,h6p,rf,hc']at hE
     exact hE.symm
    ·rw [iI]at e1 e3
     simp [func166,f166,e1,e2,e3,e4,dG,q1,q2,q3,h0,g3,g4,h6m,h6n,h6p,rf,hc',hc2,hn0,wl,iI]at hE
     exact hE.symm
  ·rw [if_neg hc]
   have hc1:¬how=0:=fun e=>hc (.inl e)
   have hc2:¬(400:Int)<(p.av.length:Int)+t.length:=by omega
   have g3:(p.av.length+t.length)*8≤140737488355328:=by omega
   have g4:p.av.length+t.length≤4611686018427387904:=by omega
   have g5:(t.length+p.av.length)*8≤140737488355328:=by omega
   have g6:t.length+p.av.length≤4611686018427387904:=by omega
   by_cases hc3:how=1
   ·rw [if_pos hc3]
    rw [iI]at e1 e3
    simp [func166,f166,e1,e2,e3,e4,dG,q1,q2,q3,h0,rf,hc3,hc2,wl,iI,hn0,g3,g4]at hE
    rw [iI,au]
    exact hE.symm
   ·rw [if_neg hc3]
    rw [iI]at e1 e3
    simp [func166,f166,e1,e2,e3,e4,dG,q1,q2,q3,h0,rf,hc1,hc3,hc2,wl,iI,hn0,g5,g6]at hE
    rw [iI,au]
    exact hE.symm
def Bb (l:List fH)(x:fH):List fH:=
 if l.getLast?.map (·.av)=some x.av then l else if l.length=20 then l.drop 1++ [x]else l++ [x]
theorem pI {l:List fH}(h:jT l=true):l.length≤20∧∀p∈l,bU p.av p.At=true:=by
 refine⟨?_,ahX h⟩
 simp only [jT,Bool.and_eq_true,decide_eq_true_eq]at h
 omega
theorem XM {l:List fH}(h:l.length≤20)(hp:∀p∈l,bU p.av p.At=true):jT l=true:=by
 simp only [jT,Bool.and_eq_true,decide_eq_true_eq]
 exact⟨List.all_eq_true.2 fun p hq=>by simpa [EG] using hp p hq,by omega⟩
theorem acQ {l:List fH}{x:fH}(h:jT l=true)(hx:bU x.av x.At=true):jT (Bb l x)=true:=by
 obtain⟨h1,h2⟩:=pI h
 unfold Bb
 split
 ·exact h
 ·split
  ·refine XM (by simp;omega) fun p hp=>?_
   rcases List.mem_append.1 hp with hp|hp
   ·exact h2 p (List.mem_of_mem_drop hp)
   ·rw [List.mem_singleton.1 hp];exact hx
  ·refine XM (by simp;omega) fun p hp=>?_
   rcases List.mem_append.1 hp with hp|hp
   ·exact h2 p hp
   ·rw [List.mem_singleton.1 hp];exact hx
theorem bS {t:List Int}{a:Int}(h:bU t a=true):t.length≤400∧t.all iB=true∧0≤a∧a≤t.length:=by
 simp only [bU,eO,Bool.and_eq_true,decide_eq_true_eq]at h
 have:=bB.1 h.2
 exact⟨h.1.1,h.1.2,this.1,this.2⟩
theorem Wm {l:List fH}(h0:l≠ []){t:List Int}{a:Int}:List.take l.length (aG l++ [[.l (ints t),D.a (.int .i64 a)]]).tail=aG (l.drop 1++ [⟨t,a⟩]):=by
 obtain⟨x,r,rfl⟩:=List.exists_cons_of_ne_nil h0
 rw [YO,List.cons_append,List.tail_cons,show aG r++ [[.l (ints t),D.a (.int .i64 a)]]=aG (r++ [⟨t,a⟩])from wz r ⟨t,a⟩]
 exact List.take_of_length_le (by simp)
theorem acR (l:List fH)(t:List Int)(a:Int)(h:jT l=true)(ht:bU t a=true):Ca [.agg [.aM (some 0) (aG l)], .agg [.aM (some 1) (ints t),vI a]] [] []=some ⟨.fT [.agg [.own 0],V.v (.bool true)],[],[(0,aG (Bb l ⟨t,a⟩))]⟩:=by
 obtain⟨hl,hp⟩:=pI h
 have htl:=(bS ht).1
 have e1:=cZ l (M8 h)
 rw [h]at e1
 have e2:=bP t a (by omega)
 rw [ht]at e2
 have e3:=Dn l (some 0) (by omega) (fun p hq=>by have:=(bS (hp p hq)).1;omega)
 have e4:=j4 t (some 0) a (by omega)
 have e6:aG (l++ [⟨t,a⟩])=aG l++ [[.l (ints t),D.a (.int .i64 a)]]:=(wz l ⟨t,a⟩).symm
 have g1:(l.length+1)*32≤140737488355328:=by omega
 have g2:l.length+1≤4611686018427387904:=by omega
 have g4:l.length≤4611686018427387903:=by omega
 generalize hE:Ca _ _ _=R
 unfold Ca at hE
 unfold Bb
 by_cases h0:l= []
 ·subst h0
  simp only [show aG []= []from rfl]at hE e1 e3
  simp [func226,f226,e1,e2,e3,e4]at hE
  exact hE.symm
 ·have hlen:0<l.length:=List.length_pos_iff.2 h0
  have hj:l.length-1<l.length:=by omega
  have hq:=(bS (hp l[l.length-1] (List.getElem_mem hj))).1
  have e5:=Dp l[l.length-1].av t (by omega) (by omega)
  have w:=bM ((l.length:Int)-1) (by omega)
  have k1:0≤(l.length:Int)-1:=by omega
  have k2:(l.length:Int)-1<l.length:=by omega
  have k3:((l.length:Int)-1).toNat=l.length-1:=by omega
  have k4:(0:Int)<l.length:=by omega
  have k5:1≤(l.length:Int):=by omega
  have hlast:l.getLast?.map (·.av)=some l[l.length-1].av:=by rw [List.getLast?_eq_getElem?,List.getElem?_eq_getElem hj];rfl
  simp only [hlast,Option.some.injEq]
  by_cases hs:l[l.length-1].av=t
  ·rw [decide_eq_true hs]at e5
   rw [if_pos hs]
   simp [func226,f226,e1,e2,e3,e4,e5,w,k1,k2,k3,k4,k5,hj,hlen,dW hj]at hE
   exact hE.symm
  ·rw [decide_eq_false hs]at e5
   rw [if_neg hs]
   by_cases h20:l.length=20
   ·rw [if_pos h20]
    have g3:(20:Int)<(l.length:Int)+1:=by omega
    have g5:(1:Int)≤(l.length:Int)+1:=by omega
    have g6:wid 2 (aG l++ [[.l (ints t),D.a (.int .i64 a)]])=true:=by rw [←e6];exact Ri _
    have g7:(1:Int)<(l.length:Int)+1:=by omega
    simp [func226,f226,e1,e2,e3,e4,e5,w,k1,k2,k3,k4,k5,hj,hlen,dW hj,g1,g2,g3,g4,g5,g6,g7]at hE
    rw [←hE,Wm h0]
   ·rw [if_neg h20,e6]
    have g3:¬(20:Int)<(l.length:Int)+1:=by omega
    simp [func226,f226,e1,e2,e3,e4,e5,w,k1,k2,k3,k4,k5,hj,hlen,dW hj,g1,g2,g3,g4]at hE
    exact hE.symm
theorem aal (l:List fH)(h:jT l=true)(h0:l≠ []):sV [.agg [.aM (some 0) (aG l)]] [] []=some ⟨.fT [.agg [.own 0], .agg [.own 1,vI ((l.getLast h0).At)],V.v (.bool true)],[],[(0,aG l.dropLast),(1,ints (l.getLast h0).av)]⟩:=by
 obtain⟨hl,hp⟩:=pI h
 have e1:=cZ l (M8 h)
 rw [h]at e1
 have hlen:0<l.length:=List.length_pos_iff.2 h0
 have hj:l.length-1<l.length:=by omega
 have hq:=(bS (hp l[l.length-1] (List.getElem_mem hj))).1
 have e3:=Dn l.dropLast (some 0) (by simp;omega) (fun p hq=>by have:=(bS (hp p (List.dropLast_subset _ hq))).1;omega)
 have e3':=Dn l.dropLast none (by simp;omega) (fun p hq=>by have:=(bS (hp p (List.dropLast_subset _ hq))).1;omega)
 have e4:=j4 l[l.length-1].av (some 0) l[l.length-1].At (by omega)
 have w:=bM ((l.length:Int)-1) (by omega)
 have k1:0≤(l.length:Int)-1:=by omega
 have k2:(l.length:Int)-1<l.length:=by omega
 have k3:((l.length:Int)-1).toNat=l.length-1:=by omega
 have k4:(0:Int)<l.length:=by omega
 have k5:1≤(l.length:Int):=by omega
 have k6:(l.length:Int)-1≤l.length:=by omega
 have k7:¬l.length=0:=by omega
 have k8:l.take (l.length-1)=l.dropLast:=(List.dropLast_eq_take ..).symm
 rw [List.getLast_eq_getElem]
 generalize hE:sV _ _ _=R
 simp [sV,func227,f227,e1,e3,e3',e4,w,k1,k2,k3,k4,k5,k6,k7,k8,h0,hj,dW hj]at hE
 exact hE.symm
theorem SL:sV [.agg [.aM (some 0) (aG [])]] [] []=some ⟨.fT [.agg [.own 0], .agg [.own 1,vI 0],V.v (.bool false)],[],[(0,[]),(1,[])]⟩:=by
 have e1:=cZ [] rfl
 simp only [show jT []=true from rfl,show aG []= []from rfl]at e1⊢
 simp [sV,func227,f227,e1]
def jl (mode:Int)(t:List Int)(a:Int):Int:=if mode=2 then SI t a else a
theorem xO (t:List Int)(a mode:Int)(ha:0≤a∧a≤1000):kI [.agg [.aM (some 0) (ints t),vI a],vI mode] [] []=some ⟨.agg [.aM (some 0) (ints t),vI (jl mode t a)],[],[]⟩:=by
 unfold jl
 by_cases h:mode=2
 ·rw [if_pos h,h];exact Uu t a ha
 ·rw [if_neg h];exact Ut t a mode h
def rZ (e:dF)(t:List Int)(last:Int):List fH:=if t=e.ak.av∨(last=1∧e.iO=1)then e.fD.bT else Bb e.fD.bT e.ak
theorem I9 {e:dF}(h:e.ok=true):bU e.ak.av e.ak.At=true∧iG e.aL.aA=true∧jT e.fD.bT=true:=by
 simp only [dF.ok,gy,Bool.and_eq_true,decide_eq_true_eq]at h
 exact⟨h.1,h.2.2.2.2.2.2.2.2.1,h.2.2.2.2.2.2.2.2.2.1⟩
theorem acS {e:dF}(ok:e.ok=true)(t:List Int)(last:Int):jT (rZ e t last)=true:=by
 obtain⟨h1,h2,h3⟩:=I9 ok
 unfold rZ
 split
 ·exact h3
 ·exact acQ h3 h1
theorem acT (e:dF)(ok:e.ok=true)(t:List Int)(a last:Int)(ht:t.length≤400)(ha:0≤a∧a≤t.length):Aj [gL e, .agg [.aM (some 6) (ints t),vI a],vI last] [] []=some ⟨.agg [V.v (.bool e.Vi),vI e.bQ, .own 0,vI (jl e.bQ t a),vI 0,vI 0,vI 0,vI 0,vI e.dY,vI e.bL,vI last, .own 1, .own 2,vI e.kr, .own 3,vI e.gX.At, .own 4,vI e.lV, .own 5,vI e.bX.At],[],[(0,ints t),(1,aC e.aL.aA),(2,aG (rZ e t last)),(3,ints e.gX.av),(4,ints e.bO),(5,ints e.bX.av)]⟩:=by
 obtain⟨h1,h2,h3⟩:=I9 ok
 have e1:=ze e (NM.of ok) last
 have hel:=(bS h1).1
 have e2:=Dp t e.ak.av (by omega) (by omega)
 have e3:=acR e.fD.bT e.ak.av e.ak.At h3 h1
 have e4:=j4 t (some 0) a (by omega)
 have e5:=xO t a e.bQ (by omega)
 generalize hE:Aj _ _ _=R
 unfold Aj at hE
 unfold rZ
 by_cases hs:t=e.ak.av
 ·rw [decide_eq_true hs]at e2
  rw [if_pos (.inl hs)]
  simp [func165,f165,e1,e2,e4,e5]at hE
  exact hE.symm
 ·rw [decide_eq_false hs]at e2
  by_cases hl:last=1
  ·subst hl
   by_cases hl2:e.iO=1
   ·rw [if_pos (.inr ⟨rfl,hl2⟩)]
    simp only [gL,gO,hO,hl2]at e1 hE
    simp [func165,f165,e1,e2,e4,e5]at hE
    exact hE.symm
   ·rw [if_neg (by simp [hs,hl2])]
    simp [func165,f165,e1,e2,e3,e4,e5,hl2]at hE
    exact hE.symm
  ·rw [if_neg (by simp [hs,hl])]
   simp [func165,f165,e1,e2,e3,e4,e5,hl]at hE
   exact hE.symm
theorem akC (e:dF)(ok:e.ok=true)(t:List Int)(a:Int)(ht:t.length≤400)(ha:0≤a∧a≤t.length):vK [gL e, .agg [.aM (some 6) (ints t),vI a]] [] []=some ⟨.fT [.agg [V.v (.bool e.Vi),vI e.bQ, .own 0,vI (jl e.bQ t a),vI 0,vI 0,vI 0,vI 0,vI e.dY,vI e.bL,vI 0, .own 1, .own 2,vI e.kr, .own 3,vI e.gX.At, .own 4,vI e.lV, .own 5,vI e.bX.At],vI 0],[],[(0,ints t),(1,aC e.aL.aA),(2,aG (rZ e t 0)),(3,ints e.gX.av),(4,ints e.bO),(5,ints e.bX.av)]⟩:=by
 have e1:=acT e ok t a 0 ht ha
 simp [vK,func153,f153,e1]
theorem ajk (e:dF)(ok:e.ok=true)(h0:e.fD.bT≠ []):zo [gL e] [] []=some ⟨.fT [.agg [V.v (.bool e.Vi),vI e.bQ, .own 0,V.v (.int .i64 (jl e.bQ (e.fD.bT.getLast h0).av (e.fD.bT.getLast h0).At)),vI 0,vI 0,vI 0,vI 0,vI e.dY,vI e.bL,vI 0, .own 1, .own 2,vI e.kr, .own 3,vI e.gX.At, .own 4,vI e.lV, .own 5,vI e.bX.At],vI 0],[],[(0,ints ((e.fD.bT.getLast h0).av)),(1,aC e.aL.aA),(2,aG e.fD.bT.dropLast),(3,ints e.gX.av),(4,ints e.bO),(5,ints e.bX.av)]⟩:=by
 obtain⟨h1,h2,h3⟩:=I9 ok
 have e1:=aal e.fD.bT h3 h0
 have e2:=ze e (NM.of ok) 0
 have hx:=bS ((pI h3).2 _ (List.getLast_mem h0))
 have e5:=xO (e.fD.bT.getLast h0).av (e.fD.bT.getLast h0).At e.bQ (by omega)
 generalize e.fD.bT.getLast h0=x at*
 generalize hE:zo _ _ _=R
 simp [zo,func169,f169,e1,e2,e5]at hE
 exact hE.symm
theorem acU (e:dF)(ok:e.ok=true)(h0:e.fD.bT= []):zo [gL e] [] []=some ⟨.fT [.agg [V.v (.bool e.Vi),vI e.bQ, .own 0,vI e.ak.At,vI 0,vI 0,vI 0,vI 0,vI e.dY,vI e.bL,vI 0, .own 1, .own 2,vI e.kr, .own 3,vI e.gX.At, .own 4,vI e.lV, .own 5,vI e.bX.At],vI 1],[],(hO e)⟩:=by
 have e1:=SL
 have e2:=M9 e (NM.of ok)
 rw [←h0]at e1
 generalize hE:zo _ _ _=R
 simp [zo,func169,f169,e1,e2]at hE
 exact hE.symm
def Bc (e:dF)(how:Int):Int:=if e.iO=2 then how else 0
theorem ajl (e:dF)(ok:e.ok=true)(f mQ:Nat)(how:Int)(hw:0≤how∧how≤2)(h1:f<mQ)(h2:mQ≤e.ak.av.length):qd [gL e,vI (f:Int),vI (mQ:Int),vI how] [] []=
   some ⟨.fT [.agg [V.v (.bool e.Vi),vI e.bQ, .own 0,V.v (.int .i64 (jl e.bQ (e.ak.av.take f++e.ak.av.drop mQ) (cutAt e.ak.At f mQ))),vI 0,vI 0,vI 0,vI 0,vI e.dY,vI e.bL,vI 2, .own 1, .own 2,vI e.kr, .own 3,vI e.gX.At, .own 4,vI e.lV, .own 5,vI e.bX.At],vI 0],[],
    [(0,ints (e.ak.av.take f++e.ak.av.drop mQ)),(1,aC (nV e.aL.aA ((e.ak.av.drop f).take (mQ-f)) (Bc e how))),(2,aG (rZ e (e.ak.av.take f++e.ak.av.drop mQ) 2)),(3,ints e.gX.av),(4,ints e.bO),(5,ints e.bX.av)]⟩:=by
 obtain⟨o1,o2,o3⟩:=I9 ok
 have hl:=bS o1
 have e1:=Cm e.ak.av e.ak.At o1 f mQ (by omega) h2
 have hg0:(e.ak.av.drop f).take (mQ-f)≠ []:=fun e=>by have:=congrArg List.length e;simp at this;omega
 have hgo:eO ((e.ak.av.drop f).take (mQ-f))=true:=by
  simp only [eO,Bool.and_eq_true,decide_eq_true_eq]
  refine⟨by simp;omega,List.all_eq_true.2 fun x hx=>List.all_eq_true.1 hl.2.1 x (List.mem_of_mem_drop (List.mem_of_mem_take hx))⟩
 have e3:=SK e.aL.aA ((e.ak.av.drop f).take (mQ-f)) (Bc e how) o2 hgo (by unfold Bc;split<;>omega)
 have hxl:(e.ak.av.take f++e.ak.av.drop mQ).length=f+(e.ak.av.length-mQ):=by simp;omega
 generalize (e.ak.av.drop f).take (mQ-f)=gone at*
 generalize e.ak.av.take f++e.ak.av.drop mQ=X at*
 have hca:0≤cutAt e.ak.At f mQ∧cutAt e.ak.At f mQ≤X.length:=by
  unfold cutAt
  split
  ·omega
  ·split<;>omega
 have e5:=acT e ok X (cutAt e.ak.At f mQ) 2 (by omega) hca
 have hgn:¬(gone.length:Int)=0:=by have:=List.length_pos_iff.2 hg0;omega
 generalize hE:qd _ _ _=R
 unfold qd at hE
 unfold Bc at*
 by_cases hk:e.iO=2
 ·rw [if_pos hk]at e3⊢
  simp only [gL,gO,hO,hk]at e5 hE
  simp [-au,func94,f94,e1,e3,e5,hgn,hg0]at hE
  exact hE.symm
 ·rw [if_neg hk]at e3⊢
  simp [-au,func94,f94,e1,e3,e5,hgn,hg0,hk]at hE
  exact hE.symm
theorem acV (e:dF)(ok:e.ok=true)(f:Nat)(how:Int)(h2:f≤e.ak.av.length):qd [gL e,vI (f:Int),vI (f:Int),vI how] [] []=some ⟨.fT [.agg [V.v (.bool e.Vi),vI e.bQ, .own 0,vI e.ak.At,vI 0,vI 0,vI 0,vI 0,vI e.dY,vI e.bL,vI 0, .own 1, .own 2,vI e.kr, .own 3,vI e.gX.At, .own 4,vI e.lV, .own 5,vI e.bX.At],vI 1],[],(hO e)⟩:=by
 obtain⟨o1,o2,o3⟩:=I9 ok
 have e1:=Cm e.ak.av e.ak.At o1 f f (by omega) h2
 have e2:=M9 e (NM.of ok)
 have hz:(e.ak.av.drop f).take (f-f)= []:=by simp
 rw [hz]at e1
 simp only [show ints []= []from rfl]at e1
 generalize hE:qd _ _ _=R
 simp [qd, -au,func94,f94,e1,e2]at hE
 exact hE.symm
end Go.Proofs.YtlpdjhiggpblcaaGreat
