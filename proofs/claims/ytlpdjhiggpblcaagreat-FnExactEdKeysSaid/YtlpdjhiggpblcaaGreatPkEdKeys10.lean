/- Part 10 of a proof in several texts (an abstract evaluator, what the functions compute). -/
import Derived.Test.YtlpdjhiggpblcaaGreatPkEdKeys9
open Go.Proofs.Tryz
namespace Go.Proofs.YtlpdjhiggpblcaaGreat
set_option linter.unusedSectionVars false
set_option linter.unusedSimpArgs false
set_option linter.unusedVariables false
open Go.RowKit
set_option maxHeartbeats 4000000
set_option maxRecDepth 10000
def Q5 (x:Int):UInt8:=UInt8.ofNat x.toNat
theorem u8_in (x:Int)(h:0≤x∧x≤255):IntKind.u8.wrap x=x:=by
 simp [IntKind.wrap,IntKind.bits,IntKind.signed];omega
theorem wz (x:Int)(h:0≤x∧x≤255):IntKind.u8.wrap x=((Q5 x).toNat:Int):=by
 rw [u8_in x h]
 unfold Q5
 rw [UInt8.toNat_ofNat']
 omega
def aY (r:Int):List UInt8:=
 if mI r=false then []else if r<128 then [Q5 r]else if r<2048 then [Q5 (192+r / 64),Q5 (128+r%64)]
 else if r<65536 then [Q5 (224+r / 4096),Q5 (128+r / 64%64),Q5 (128+r%64)]
 else [Q5 (240+r / 262144),Q5 (128+r / 4096%64),Q5 (128+r / 64%64),Q5 (128+r%64)]
theorem GH {r:Int}(h:mI r=true):0≤r∧r≤1114111:=by
 simp only [mI,Bool.and_eq_true]at h
 exact RQ h.1
theorem vJ (l:List UInt8):xw l=l.map fun c=> [D.a (.int .u8 (c.toNat:Int))]:=rfl
theorem jI (r:Int):xY [vI r] [] []=some ⟨.own 0,[],[(0,xw (aY r))]⟩:=by
 unfold xY
 cases h1:mI r
 ·simp [func261,f261,Ce,h1,aY,vJ]
 obtain⟨a,b⟩:=GH h1
 have d1:=Int.tdiv_eq_ediv_of_nonneg a (b:=64)
 have d2:=Int.tdiv_eq_ediv_of_nonneg a (b:=4096)
 have d3:=Int.tdiv_eq_ediv_of_nonneg a (b:=262144)
 have m1:=Int.tmod_eq_emod_of_nonneg a (b:=64)
 have m2:=Int.tmod_eq_emod_of_nonneg (show 0≤r / 64 by omega) (b:=64)
 have m3:=Int.tmod_eq_emod_of_nonneg (show 0≤r / 4096 by omega) (b:=64)
 have w1:=bN (r / 64) (by omega)
 have w2:=bN (r / 4096) (by omega)
 have w3:=bN (r / 262144) (by omega)
 have v1:=bN (128+r%64) (by omega)
 have v2:=bN (128+r / 64%64) (by omega)
 have v3:=bN (128+r / 4096%64) (by omega)
 have u1:=wz (128+r%64) (by omega)
 have u2:=wz (128+r / 64%64) (by omega)
 have u3:=wz (128+r / 4096%64) (by omega)
 by_cases h2:r<128
 ·simp [func261,f261,Ce,h1,aY,h2,vJ,wz r (by omega)]
 by_cases h3:r<2048
 ·have x1:=bN (192+r / 64) (by omega)
  have x2:=wz (192+r / 64) (by omega)
  simp [func261,f261,Ce,h1,aY,h2,h3,vJ,d1,m1,w1,v1,u1,x1,x2]
 by_cases h4:r<65536
 ·have x1:=bN (224+r / 4096) (by omega)
  have x2:=wz (224+r / 4096) (by omega)
  simp [func261,f261,Ce,h1,aY,h2,h3,h4,vJ,d1,d2,m1,m2,w1,w2,v1,v2,u1,u2,x1,x2]
 have x1:=bN (240+r / 262144) (by omega)
 have x2:=wz (240+r / 262144) (by omega)
 simp [func261,f261,Ce,h1,aY,h2,h3,h4,vJ,d1,d2,d3,m1,m2,m3,w1,w2,w3,v1,v2,v3,u1,u2,u3,x1,x2]
theorem rM (r:Int):xO [vI r] [] []=some ⟨.own 0,[],[(0,xw (aY r))]⟩:=by
 unfold xO
 cases h1:mI r
 ·simp [func230,f230,Cc,h1,aY,vJ]
 obtain⟨a,b⟩:=GH h1
 have d1:=Int.tdiv_eq_ediv_of_nonneg a (b:=64)
 have d2:=Int.tdiv_eq_ediv_of_nonneg a (b:=4096)
 have d3:=Int.tdiv_eq_ediv_of_nonneg a (b:=262144)
 have m1:=Int.tmod_eq_emod_of_nonneg a (b:=64)
 have m2:=Int.tmod_eq_emod_of_nonneg (show 0≤r / 64 by omega) (b:=64)
 have m3:=Int.tmod_eq_emod_of_nonneg (show 0≤r / 4096 by omega) (b:=64)
 have w1:=bN (r / 64) (by omega)
 have w2:=bN (r / 4096) (by omega)
 have w3:=bN (r / 262144) (by omega)
 have v1:=bN (128+r%64) (by omega)
 have v2:=bN (128+r / 64%64) (by omega)
 have v3:=bN (128+r / 4096%64) (by omega)
 have u1:=wz (128+r%64) (by omega)
 have u2:=wz (128+r / 64%64) (by omega)
 have u3:=wz (128+r / 4096%64) (by omega)
 by_cases h2:r<128
 ·simp [func230,f230,Cc,h1,aY,h2,vJ,wz r (by omega)]
 by_cases h3:r<2048
 ·have x1:=bN (192+r / 64) (by omega)
  have x2:=wz (192+r / 64) (by omega)
  simp [func230,f230,Cc,h1,aY,h2,h3,vJ,d1,m1,w1,v1,u1,x1,x2]
 by_cases h4:r<65536
 ·have x1:=bN (224+r / 4096) (by omega)
  have x2:=wz (224+r / 4096) (by omega)
  simp [func230,f230,Cc,h1,aY,h2,h3,h4,vJ,d1,d2,m1,m2,w1,w2,v1,v2,u1,u2,x1,x2]
 have x1:=bN (240+r / 262144) (by omega)
 have x2:=wz (240+r / 262144) (by omega)
 simp [func230,f230,Cc,h1,aY,h2,h3,h4,vJ,d1,d2,d3,m1,m2,m3,w1,w2,w3,v1,v2,v3,u1,u2,u3,x1,x2]
def bM (l:List Int):List UInt8:=l.flatMap aY
theorem El (r:Int):(aY r).length≤4:=by
 unfold aY
 split
 ·simp
 split
 ·simp
 split
 ·simp
 split<;>simp
theorem GI (l:List Int):(bM l).length≤4*l.length:=by
 induction l with
 | nil=>simp [bM]
 | cons r l ih=>
  have:=El r
  simp only [bM,List.flatMap_cons,List.length_append,List.length_cons]at ih⊢;omega
theorem Aq {l:List Int}{j:Nat}(h:j<l.length):bM (l.take (j+1))=bM (l.take j)++aY l[j]:=by
 unfold bM
 rw [List.take_add_one,List.getElem?_eq_getElem h,List.flatMap_append];simp
theorem fu:∀(l:List UInt8),bK qZ (xw l)=some l
 | []=>rfl
 | c::l=>by
  rw [show xw (c::l)= [D.a (.int .u8 (c.toNat:Int))]::xw l from rfl]
  have h:UInt8.ofNat ((c.toNat:Int)).toNat=c:=by simp
  simp only [bK,qZ,bq,fu l,h]
theorem WW (l:List Int)(hl:l.length≤1000000000):EU [.aL (some 0) (ints l)] [] []=some ⟨V.v (.string (⟨(bM l).toArray⟩)),[],[]⟩:=by
 simp [EU,func203,f203]
 rw [aD (fun j=> .on ⟨[(9,V.v (.int .i64 ((j:Int)))),(8,V.v (.int .i64 ((l.length:Int)))),(7, .aL (some 0) (ints l)),(3, .own 2000000000)],[],[(2000000000,xw (bM (l.take j)))],[]⟩) l.length ?_ ?_]
 ·simp [fu]
 ·simp [bM,vJ]
 ·intro j hj
  have hw:=bN (j+1) (by omega)
  have h1:(bM (l.take j)).length≤4000000000:=by
   have:=GI (l.take j)
   have e:(l.take j).length≤l.length:=by simp;omega
   omega
  have h2:=El l[j]
  have h3:=Aq hj
  simp [hj,hw,aQ hj,jI]
  simp (disch:=omega) only [eB]
  simp [hw,h3]
theorem WX (l:List Int)(hl:l.length≤1000000000):ER [.aL (some 0) (ints l)] [] []=some ⟨V.v (.string (⟨(bM l).toArray⟩)),[],[]⟩:=by
 simp [ER,func174,f174]
 rw [aD (fun j=> .on ⟨[(8,V.v (.int .i64 ((j:Int)))),(7,V.v (.int .i64 ((l.length:Int)))),(6, .aL (some 0) (ints l)),(3, .own 2000000000)],[],[(2000000000,xw (bM (l.take j)))],[]⟩) l.length ?_ ?_]
 ·simp [fu]
 ·simp [bM,vJ]
 ·intro j hj
  have hw:=bN (j+1) (by omega)
  have h1:(bM (l.take j)).length≤4000000000:=by
   have:=GI (l.take j)
   have e:(l.take j).length≤l.length:=by simp;omega
   omega
  have h2:=El l[j]
  have h3:=Aq hj
  simp [hj,hw,aQ hj,rM]
  simp (disch:=omega) only [eB]
  simp [hw,h3]
theorem zO {x:Int}(h:0≤x∧x≤255):((Q5 x).toNat:Int)=x:=by
 rw [←wz x h,u8_in x h]
theorem aly (c:UInt8):Q5 (c.toNat:Int)=c:=by simp [Q5]
def qw (b:List UInt8)(i:Nat):Int:=((b[i]?.getD 0).toNat:Int)
def val (b:List UInt8):Nat→Int
 | 1=>qw b 0
 | 2=>(qw b 0-192)*64+qw b 1-128
 | 3=>((qw b 0-224)*64+qw b 1-128)*64+qw b 2-128
 | 4=>(((qw b 0-240)*64+qw b 1-128)*64+qw b 2-128)*64+qw b 3-128
 | _=>0
def cls (c:Int):Nat:=if c<128 then 1 else if iw c 192 223 then 2 else if iw c 224 239 then 3 else if iw c 240 247 then 4 else 0
def dec:List UInt8→Option (Int×Nat)
 | []=>none
 | c::l=>if cls (qw (c::l) 0)≠0∧cls (qw (c::l) 0)≤(c::l).length∧aY (val (c::l) (cls (qw (c::l) 0)))=(c::l).take (cls (qw (c::l) 0))then some (val (c::l) (cls (qw (c::l) 0)),cls (qw (c::l) 0))else none
theorem NI (c:UInt8)(l:List UInt8):dec (c::l)=if cls (qw (c::l) 0)≠0∧cls (qw (c::l) 0)≤(c::l).length∧aY (val (c::l) (cls (qw (c::l) 0)))=(c::l).take (cls (qw (c::l) 0))then some (val (c::l) (cls (qw (c::l) 0)),cls (qw (c::l) 0))else none:=rfl
theorem vK {r:Int}(h:mI r=true):
  (0≤r∧r<128∧aY r= [Q5 r])∨(128≤r∧r<2048∧aY r= [Q5 (192+r / 64),Q5 (128+r%64)])∨
  (2048≤r∧r<65536∧aY r= [Q5 (224+r / 4096),Q5 (128+r / 64%64),Q5 (128+r%64)])∨
  (65536≤r∧r≤1114111∧aY r= [Q5 (240+r / 262144),Q5 (128+r / 4096%64),Q5 (128+r / 64%64),Q5 (128+r%64)]):=by
 obtain⟨a,b⟩:=GH h
 by_cases h1:r<128
 ·exact .inl ⟨a,h1,by simp [aY,h,h1]⟩
 by_cases h2:r<2048
 ·exact .inr (.inl ⟨by omega,h2,by simp [aY,h,h1,h2]⟩)
 by_cases h3:r<65536
 ·exact .inr (.inr (.inl ⟨by omega,h3,by simp [aY,h,h1,h2,h3]⟩))
 ·exact .inr (.inr (.inr ⟨by omega,b,by simp [aY,h,h1,h2,h3]⟩))
theorem Jv {r:Int}(h:mI r=true)(t:List UInt8):dec (aY r++t)=some (r,(aY r).length):=by
 rcases vK h with⟨a,b,e⟩|⟨a,b,e⟩|⟨a,b,e⟩|⟨a,b,e⟩
 ·have h0:=zO (x:=r) (by omega)
  have hc:cls r=1:=by simp [cls,b]
  rw [e]
  simp [dec,qw,h0,hc,val,e]
 ·have h0:=zO (x:=192+r / 64) (by omega)
  have h1:=zO (x:=128+r%64) (by omega)
  have hc:cls (192+r / 64)=2:=by
   have:¬192+r / 64<128:=by omega
   have i1:iw (192+r / 64) 192 223=true:=bC.2 (by omega)
   simp [cls,this,i1]
  have hv:(192+r / 64-192)*64+(128+r%64)-128=r:=by omega
  rw [e]
  simp [dec,qw,h0,h1,hc,val,hv,e]
 ·have h0:=zO (x:=224+r / 4096) (by omega)
  have h1:=zO (x:=128+r / 64%64) (by omega)
  have h2:=zO (x:=128+r%64) (by omega)
  have hc:cls (224+r / 4096)=3:=by
   have:¬224+r / 4096<128:=by omega
   have i1:iw (224+r / 4096) 192 223=false:=qC (by rw [bC];omega)
   have i2:iw (224+r / 4096) 224 239=true:=bC.2 (by omega)
   simp [cls,this,i1,i2]
  have hv:((224+r / 4096-224)*64+(128+r / 64%64)-128)*64+(128+r%64)-128=r:=by omega
  rw [e]
  simp [dec,qw,h0,h1,h2,hc,val,hv,e]
 ·have h0:=zO (x:=240+r / 262144) (by omega)
  have h1:=zO (x:=128+r / 4096%64) (by omega)
  have h2:=zO (x:=128+r / 64%64) (by omega)
  have h3:=zO (x:=128+r%64) (by omega)
  have hc:cls (240+r / 262144)=4:=by
   have:¬240+r / 262144<128:=by omega
   have i1:iw (240+r / 262144) 192 223=false:=qC (by rw [bC];omega)
   have i2:iw (240+r / 262144) 224 239=false:=qC (by rw [bC];omega)
   have i3:iw (240+r / 262144) 240 247=true:=bC.2 (by omega)
   simp [cls,this,i1,i2,i3]
  have hv:(((240+r / 262144-240)*64+(128+r / 4096%64)-128)*64+(128+r / 64%64)-128)*64+(128+r%64)-128=r:=by omega
  rw [e]
  simp [dec,qw,h0,h1,h2,h3,hc,val,hv,e]
theorem NJ {r:Int}(h:aY r≠ []):mI r=true:=by
 cases e:mI r
 ·exact absurd (by simp [aY,e]) h
 ·rfl
theorem Tx {b:List UInt8}{r:Int}{n:Nat}(h:dec b=some (r,n)):mI r=true∧aY r=b.take n∧n≤b.length∧n=(aY r).length∧1≤n:=by
 cases b with
 | nil=>cases h
 | cons c l=>
  rw [NI]at h
  by_cases hc:cls (qw (c::l) 0)≠0∧cls (qw (c::l) 0)≤(c::l).length∧aY (val (c::l) (cls (qw (c::l) 0)))=(c::l).take (cls (qw (c::l) 0))
  ·rw [if_pos hc]at h
   obtain⟨h1,h2,h3⟩:=hc
   simp only [Option.some.injEq,Prod.mk.injEq]at h
   obtain⟨e1,e2⟩:=h
   rw [e1,e2]at h3
   rw [e2]at h1 h2
   have hlen:(aY r).length=n:=by rw [h3];simp only [List.length_take];omega
   exact⟨NJ (fun e=>by rw [e]at hlen;simp at hlen;omega),h3,h2,hlen.symm,by omega⟩
  ·rw [if_neg hc]at h;cases h
theorem alz {b:List UInt8}{n:Nat}(h1:1≤n)(h2:n≤b.length)(h3:aY (val b n)=b.take n):cls (qw b 0)=n∧dec b=some (val b n,n):=by
 have hn:b.take n≠ []:=fun e=>by
  have:(b.take n).length=0:=by rw [e];rfl
  simp only [List.length_take]at this
  omega
 have ok:=NJ (r:=val b n) (by rw [h3];exact hn)
 have hd:=Jv ok (b.drop n)
 rw [h3,List.take_append_drop]at hd
 have hl:(b.take n).length=n:=by simp only [List.length_take];omega
 rw [hl]at hd
 refine⟨?_,hd⟩
 cases b with
 | nil=>cases hd
 | cons c l=>
  rw [NI]at hd
  by_cases hc:cls (qw (c::l) 0)≠0∧cls (qw (c::l) 0)≤(c::l).length∧aY (val (c::l) (cls (qw (c::l) 0)))=(c::l).take (cls (qw (c::l) 0))
  ·rw [if_pos hc]at hd
   simp only [Option.some.injEq,Prod.mk.injEq]at hd;exact hd.2
  ·rw [if_neg hc]at hd;cases hd
def Reads (b:List UInt8)(l:List Int)(rest:List UInt8):Prop:=b=bM l++rest∧(∀r∈l,mI r=true)∧dec rest=none
theorem NK:∀(n:Nat) (b:List UInt8),b.length≤n→∃l rest,Reads b l rest
 | 0,b,h=>⟨[],[],by cases b with
  | nil=>exact⟨rfl,by simp,rfl⟩
  | cons c l=>simp at h⟩
 | n+1,b,h=>by
  cases e:dec b with
  | none=>exact⟨[],b,rfl,by simp,e⟩
  | some x=>
   obtain⟨r,k⟩:=x
   obtain⟨a1,a2,a3,a4,a5⟩:=Tx e
   obtain⟨l,rest,h1,h2,h3⟩:=NK n (b.drop k) (by simp only [List.length_drop];omega)
   refine⟨r::l,rest,?_,?_,h3⟩
   ·rw [bM,List.flatMap_cons,a2,List.append_assoc,←bM,←h1,List.take_append_drop]
   ·intro x hx
    rcases List.mem_cons.1 hx with rfl|hx
    ·exact a1
    ·exact h2 x hx
theorem Reads.at {b:List UInt8}{l:List Int}{rest:List UInt8}(h:Reads b l rest){j:Nat}(hj:j<l.length):
  (bM (l.take j)).length<b.length∧dec (b.drop (bM (l.take j)).length)=some (l[j],(aY l[j]).length)∧(bM (l.take j)).length+(aY l[j]).length=(bM (l.take (j+1))).length:=by
 obtain⟨h1,h2,h3⟩:=h
 have ok:=h2 l[j] (List.getElem_mem hj)
 have e:l=l.take j++l[j]::l.drop (j+1):=by
  rw [List.getElem_cons_drop,List.take_append_drop]
 have e2:bM l=bM (l.take j)++(aY l[j]++bM (l.drop (j+1))):=by
  conv=>lhs;rw [e]
  unfold bM
  rw [List.flatMap_append,List.flatMap_cons]
 have e3:b.drop (bM (l.take j)).length=aY l[j]++(bM (l.drop (j+1))++rest):=by
  rw [h1,e2,List.append_assoc,List.drop_left,List.append_assoc]
 have hpos:1≤(aY l[j]).length:=by
  rcases vK ok with⟨_,_,e⟩|⟨_,_,e⟩|⟨_,_,e⟩|⟨_,_,e⟩<;>rw [e]<;>simp
 refine⟨?_,?_,?_⟩
 ·rw [h1,e2];simp only [List.length_append];omega
 ·rw [e3];exact Jv ok _
 ·rw [Aq hj,List.length_append]
theorem Reads.end {b:List UInt8}{l:List Int}{rest:List UInt8}(h:Reads b l rest):b.drop (bM l).length=rest∧(bM l).length+rest.length=b.length:=by
 obtain⟨h1,h2,h3⟩:=h
 subst h1
 exact⟨List.drop_left,by simp⟩
theorem Reads.len {b:List UInt8}{l:List Int}{rest:List UInt8}(h:Reads b l rest):l.length≤b.length:=by
 obtain⟨h1,h2,h3⟩:=h
 subst h1
 have:∀l:List Int,(∀r∈l,mI r=true)→l.length≤(bM l).length:=by
  intro l;induction l with
  | nil=>intro _;simp
  | cons r l ih=>
   intro hl
   have:=ih fun x hx=>hl x (List.mem_cons_of_mem _ hx)
   have hpos:1≤(aY r).length:=by
    rcases vK (hl r (List.mem_cons_self ..))with⟨_,_,e⟩|⟨_,_,e⟩|⟨_,_,e⟩|⟨_,_,e⟩<;>rw [e]<;>simp
   simp only [bM,List.flatMap_cons,List.length_append,List.length_cons]at this⊢;omega
 have:=this l h2
 simp only [List.length_append];omega
set_option maxHeartbeats 8000000
theorem jJ {b:List UInt8}{k i:Nat}(h:k+i<b.length):qw (b.drop k) i=(b[k+i].toNat:Int):=by
 unfold qw
 rw [List.getElem?_drop,List.getElem?_eq_getElem h];rfl
theorem lU {b:List UInt8}{k:Nat}(h:k<b.length):qw (b.drop k) 0=(b[k].toNat:Int):=jJ (i:=0) h
theorem alA {b:List UInt8}{k:Nat}(h:k<b.length):dec (b.drop k)=if cls (b[k].toNat:Int)≠0∧k+cls (b[k].toNat:Int)≤b.length∧aY (val (b.drop k) (cls (b[k].toNat:Int)))=(b.drop k).take (cls (b[k].toNat:Int))then some (val (b.drop k) (cls (b[k].toNat:Int)),cls (b[k].toNat:Int))else none:=by
 have e:b.drop k=b[k]::b.drop (k+1):=(List.drop_eq_getElem_cons h)
 have hn:=lU h
 rw [e]at hn⊢
 rw [NI,hn]
 have hl:(b[k]::b.drop (k+1)).length=b.length-k:=by rw [←e,List.length_drop]
 rw [hl]
 congr 1
 simp only [eq_iff_iff]
 constructor
 ·rintro ⟨a,b,c⟩;exact⟨a,by omega,c⟩
 ·rintro ⟨a,b,c⟩;exact⟨a,by omega,c⟩
theorem Ym {b:List UInt8}{k:Nat}(h:k<b.length):(b.drop k).take 1= [b[k]]:=by
 rw [List.drop_eq_getElem_cons h];rfl
theorem U5 {b:List UInt8}{k:Nat}(h:k+1<b.length):(b.drop k).take 2= [b[k],b[k+1]]:=by
 rw [List.drop_eq_getElem_cons (by omega:k<b.length),List.take_succ_cons,Ym h]
theorem U6 {b:List UInt8}{k:Nat}(h:k+2<b.length):(b.drop k).take 3= [b[k],b[k+1],b[k+2]]:=by
 rw [List.drop_eq_getElem_cons (by omega:k<b.length),List.take_succ_cons,U5 (by omega)]
theorem adj {b:List UInt8}{k:Nat}(h:k+3<b.length):(b.drop k).take 4= [b[k],b[k+1],b[k+2],b[k+3]]:=by
 rw [List.drop_eq_getElem_cons (by omega:k<b.length),List.take_succ_cons,U6 (by omega)]
def wB:Option (Int×Nat)→Int
 | some x=>x.1
 | none=>0
def wC:Option (Int×Nat)→Int
 | some x=>x.2
 | none=>0
theorem QE (b:List UInt8)(k:Nat)(hk:k<b.length)(hb:b.length≤1000000000):Dr [.aL (some 0) (xw b),vI (k:Int)] [] []=some ⟨.fU [vI (wB (dec (b.drop k))),vI (wC (dec (b.drop k)))],[],[]⟩:=by
 unfold Dr
 have hc:=b[k].toNat_lt
 have h1:¬((b.length:Int)≤k):=by omega
 have h0:¬((k:Int)<0):=by omega
 have w0:=bN (b[k].toNat:Int) (by omega)
 rw [alA hk]
 generalize hx:(b[k].toNat:Int)=x at w0
 have hx0:0≤x∧x≤255:=by omega
 have hxo:UInt8.ofNat x.toNat=b[k]:=by rw [←hx];simp
 by_cases c1:x<128
 ·have e1:cls x=1:=by simp [cls,c1]
  have hok:mI x=true:=by
   have i1:iw x 0 1114111=true:=bC.2 (by omega)
   have i2:iw x 55296 57343=false:=qC (by rw [bC];omega)
   simp [mI,i1,i2]
  have e2:val (b.drop k) 1=x:=by rw [val,lU hk,hx]
  have e3:aY x=(b.drop k).take 1:=by
   rw [Ym hk];simp [aY,hok,c1];rw [←hx,aly]
  have e4:k+1≤b.length:=hk
  simp [func276,f276,h0,h1,hk,eG hk,hx,w0,c1,e1,e2,e3,e4,wB,wC]
 by_cases c2:iw x 192 223=true
 ·have e1:cls x=2:=by simp [cls,c1,c2]
  obtain⟨a1,a2⟩:=RQ c2
  have w1:=bN (x-192) (by omega)
  have w2:=bN ((b.length:Int)-2) (by omega)
  by_cases e4:k+2≤b.length
  ·have e5:¬((b.length:Int)-2<k):=by omega
   have w3:=bN ((k:Int)+1) (by omega)
   have w4:=bN ((k:Int)+2) (by omega)
   have f1:(0:Int)≤(k:Int)+1:=by omega
   have f2:(k:Int)+2≤b.length:=by omega
   have f3:((k:Int)+2).toNat=k+2:=by omega
   have f4:k+2-(k+1)=1:=by omega
   have f5:k+2-k=2:=by omega
   have f7:(k:Int)≤(k:Int)+2:=by omega
   have f8:(k:Int)+1≤(k:Int)+2:=by omega
   have g1:k+1<b.length:=by omega
   have r1:=b[k+1].toNat_lt
   have p1:=bN (b[k+1].toNat:Int) (by omega)
   have Q6:=bN ((x-192)*64) (by omega)
   have Pk:=bN ((x-192)*64+(b[k+1].toNat:Int)) (by omega)
   have Pn:=bN ((x-192)*64+(b[k+1].toNat:Int)-128) (by omega)
   have v1:val (b.drop k) 2=(x-192)*64+(b[k+1].toNat:Int)-128:=by rw [val,lU hk,jJ g1,hx]
   have z0:aY ((x-192)*64+(b[k+1].toNat:Int)-128)= [b[k],b[k+1]]∨aY ((x-192)*64+(b[k+1].toNat:Int)-128)≠ [b[k],b[k+1]]:=Decidable.em _
   rcases z0 with z|z
   ·simp [func276,f276,h0,h1,hk,eG hk,hx,w0,c1,c2,e1,e4,e5,w1,w2,w3,w4,wB,wC,dH,f1,f2,f3,f4,f5,f7,f8,Ym (k:=k+1) g1,U5 g1,BL,EA,bO,p1,Q6,Pk,Pn,rM,fu,v1,z,hxo]
   ·simp [func276,f276,h0,h1,hk,eG hk,hx,w0,c1,c2,e1,e4,e5,w1,w2,w3,w4,wB,wC,dH,f1,f2,f3,f4,f5,f7,f8,Ym (k:=k+1) g1,U5 g1,BL,EA,bO,p1,Q6,Pk,Pn,rM,fu,v1,z,hxo]
  ·have e5:(b.length:Int)-2<k:=by omega
   simp [func276,f276,h0,h1,hk,eG hk,hx,w0,c1,c2,e1,e4,e5,w1,w2,wB,wC,dH]
 by_cases c3:iw x 224 239=true
 ·have e1:cls x=3:=by simp [cls,c1,c2,c3]
  obtain⟨a1,a2⟩:=RQ c3
  have w1:=bN (x-224) (by omega)
  have w2:=bN ((b.length:Int)-3) (by omega)
  by_cases e4:k+3≤b.length
  ·have e5:¬((b.length:Int)-3<k):=by omega
   have w3:=bN ((k:Int)+1) (by omega)
   have w4:=bN ((k:Int)+3) (by omega)
   have f1:(0:Int)≤(k:Int)+1:=by omega
   have f2:(k:Int)+3≤b.length:=by omega
   have f3:((k:Int)+3).toNat=k+3:=by omega
   have f4:k+3-(k+1)=2:=by omega
   have f5:k+3-k=3:=by omega
   have f7:(k:Int)≤(k:Int)+3:=by omega
   have f8:(k:Int)+1≤(k:Int)+3:=by omega
   have g1:k+1<b.length:=by omega
   have r1:=b[k+1].toNat_lt
   have p1:=bN (b[k+1].toNat:Int) (by omega)
   have g2:k+2<b.length:=by omega
   have r2:=b[k+2].toNat_lt
   have p2:=bN (b[k+2].toNat:Int) (by omega)
   have Q6:=bN ((x-224)*64) (by omega)
   have Pk:=bN ((x-224)*64+(b[k+1].toNat:Int)) (by omega)
   have Pn:=bN ((x-224)*64+(b[k+1].toNat:Int)-128) (by omega)
   have q20:=bN (((x-224)*64+(b[k+1].toNat:Int)-128)*64) (by omega)
   have q21:=bN (((x-224)*64+(b[k+1].toNat:Int)-128)*64+(b[k+2].toNat:Int)) (by omega)
   have q22:=bN (((x-224)*64+(b[k+1].toNat:Int)-128)*64+(b[k+2].toNat:Int)-128) (by omega)
   have v1:val (b.drop k) 3=((x-224)*64+(b[k+1].toNat:Int)-128)*64+(b[k+2].toNat:Int)-128:=by rw [val,lU hk,jJ g1,jJ g2,hx]
   have z0:aY (((x-224)*64+(b[k+1].toNat:Int)-128)*64+(b[k+2].toNat:Int)-128)= [b[k],b[k+1],b[k+2]]∨aY (((x-224)*64+(b[k+1].toNat:Int)-128)*64+(b[k+2].toNat:Int)-128)≠ [b[k],b[k+1],b[k+2]]:=Decidable.em _
   rcases z0 with z|z
   ·simp [func276,f276,h0,h1,hk,eG hk,hx,w0,c1,c2,c3,e1,e4,e5,w1,w2,w3,w4,wB,wC,dH,f1,f2,f3,f4,f5,f7,f8,U5 (k:=k+1) g2,U6 g2,BL,EA,bO,p1,p2,Q6,Pk,Pn,q20,q21,q22,rM,fu,v1,z,hxo]
   ·simp [func276,f276,h0,h1,hk,eG hk,hx,w0,c1,c2,c3,e1,e4,e5,w1,w2,w3,w4,wB,wC,dH,f1,f2,f3,f4,f5,f7,f8,U5 (k:=k+1) g2,U6 g2,BL,EA,bO,p1,p2,Q6,Pk,Pn,q20,q21,q22,rM,fu,v1,z,hxo]
  ·have e5:(b.length:Int)-3<k:=by omega
   simp [func276,f276,h0,h1,hk,eG hk,hx,w0,c1,c2,c3,e1,e4,e5,w1,w2,wB,wC,dH]
 by_cases c4:iw x 240 247=true
 ·have e1:cls x=4:=by simp [cls,c1,c2,c3,c4]
  obtain⟨a1,a2⟩:=RQ c4
  have w1:=bN (x-240) (by omega)
  have w2:=bN ((b.length:Int)-4) (by omega)
  by_cases e4:k+4≤b.length
  ·have e5:¬((b.length:Int)-4<k):=by omega
   have w3:=bN ((k:Int)+1) (by omega)
   have w4:=bN ((k:Int)+4) (by omega)
   have f1:(0:Int)≤(k:Int)+1:=by omega
   have f2:(k:Int)+4≤b.length:=by omega
   have f3:((k:Int)+4).toNat=k+4:=by omega
   have f4:k+4-(k+1)=3:=by omega
   have f5:k+4-k=4:=by omega
   have f7:(k:Int)≤(k:Int)+4:=by omega
   have f8:(k:Int)+1≤(k:Int)+4:=by omega
   have g1:k+1<b.length:=by omega
   have r1:=b[k+1].toNat_lt
   have p1:=bN (b[k+1].toNat:Int) (by omega)
   have g2:k+2<b.length:=by omega
   have r2:=b[k+2].toNat_lt
   have p2:=bN (b[k+2].toNat:Int) (by omega)
   have g3:k+3<b.length:=by omega
   have r3:=b[k+3].toNat_lt
   have p3:=bN (b[k+3].toNat:Int) (by omega)
   have Q6:=bN ((x-240)*64) (by omega)
   have Pk:=bN ((x-240)*64+(b[k+1].toNat:Int)) (by omega)
   have Pn:=bN ((x-240)*64+(b[k+1].toNat:Int)-128) (by omega)
   have q20:=bN (((x-240)*64+(b[k+1].toNat:Int)-128)*64) (by omega)
   have q21:=bN (((x-240)*64+(b[k+1].toNat:Int)-128)*64+(b[k+2].toNat:Int)) (by omega)
   have q22:=bN (((x-240)*64+(b[k+1].toNat:Int)-128)*64+(b[k+2].toNat:Int)-128) (by omega)
   have q30:=bN ((((x-240)*64+(b[k+1].toNat:Int)-128)*64+(b[k+2].toNat:Int)-128)*64) (by omega)
   have q31:=bN ((((x-240)*64+(b[k+1].toNat:Int)-128)*64+(b[k+2].toNat:Int)-128)*64+(b[k+3].toNat:Int)) (by omega)
   have q32:=bN ((((x-240)*64+(b[k+1].toNat:Int)-128)*64+(b[k+2].toNat:Int)-128)*64+(b[k+3].toNat:Int)-128) (by omega)
   have v1:val (b.drop k) 4=(((x-240)*64+(b[k+1].toNat:Int)-128)*64+(b[k+2].toNat:Int)-128)*64+(b[k+3].toNat:Int)-128:=by rw [val,lU hk,jJ g1,jJ g2,jJ g3,hx]
   have z0:aY ((((x-240)*64+(b[k+1].toNat:Int)-128)*64+(b[k+2].toNat:Int)-128)*64+(b[k+3].toNat:Int)-128)= [b[k],b[k+1],b[k+2],b[k+3]]∨aY ((((x-240)*64+(b[k+1].toNat:Int)-128)*64+(b[k+2].toNat:Int)-128)*64+(b[k+3].toNat:Int)-128)≠ [b[k],b[k+1],b[k+2],b[k+3]]:=Decidable.em _
   rcases z0 with z|z
   ·simp [func276,f276,h0,h1,hk,eG hk,hx,w0,c1,c2,c3,c4,e1,e4,e5,w1,w2,w3,w4,wB,wC,dH,f1,f2,f3,f4,f5,f7,f8,U6 (k:=k+1) g3,adj g3,BL,EA,bO,p1,p2,p3,Q6,Pk,Pn,q20,q21,q22,q30,q31,q32,rM,fu,v1,z,hxo]
   ·simp [func276,f276,h0,h1,hk,eG hk,hx,w0,c1,c2,c3,c4,e1,e4,e5,w1,w2,w3,w4,wB,wC,dH,f1,f2,f3,f4,f5,f7,f8,U6 (k:=k+1) g3,adj g3,BL,EA,bO,p1,p2,p3,Q6,Pk,Pn,q20,q21,q22,q30,q31,q32,rM,fu,v1,z,hxo]
  ·have e5:(b.length:Int)-4<k:=by omega
   simp [func276,f276,h0,h1,hk,eG hk,hx,w0,c1,c2,c3,c4,e1,e4,e5,w1,w2,wB,wC,dH]
 have e1:cls x=0:=by simp [cls,c1,c2,c3,c4]
 simp [func276,f276,h0,h1,hk,eG hk,hx,w0,c1,c2,c3,c4,e1,wB,wC,dH]
theorem ae9 {b:List UInt8}{r:Int}{n:Nat}(h:dec b=some (r,n)):r=val b n∧n≤4:=by
 cases b with
 | nil=>cases h
 | cons c l=>
  rw [NI]at h
  by_cases hc:cls (qw (c::l) 0)≠0∧cls (qw (c::l) 0)≤(c::l).length∧aY (val (c::l) (cls (qw (c::l) 0)))=(c::l).take (cls (qw (c::l) 0))
  ·rw [if_pos hc]at h
   simp only [Option.some.injEq,Prod.mk.injEq]at h
   refine⟨by rw [←h.1,h.2],?_⟩
   rw [←h.2]
   unfold cls
   split
   ·omega
   split
   ·omega
   split
   ·omega
   split<;>omega
  ·rw [if_neg hc]at h;cases h
theorem aiH (b:List UInt8):∃N,N≤4∧(∀j,j<N→j+1≤b.length∧aY (val b (j+1))≠b.take (j+1))∧((N<4∧N+1≤b.length∧aY (val b (N+1))=b.take (N+1)∧dec b=some (val b (N+1),N+1))∨((N=4∨b.length<N+1)∧dec b=none)):=by
 have step:∀n,n≤4→(∀j,j<n→j+1≤b.length∧aY (val b (j+1))≠b.take (j+1))→∃N,N≤4∧(∀j,j<N→j+1≤b.length∧aY (val b (j+1))≠b.take (j+1))∧((N<4∧N+1≤b.length∧aY (val b (N+1))=b.take (N+1)∧dec b=some (val b (N+1),N+1))∨((N=4∨b.length<N+1)∧dec b=none)):=by
  intro n
  induction h:4-n generalizing n with
  | zero=>
   intro hn hall
   refine⟨n,hn,hall, .inr ⟨.inl (by omega),?_⟩⟩
   cases e:dec b with
   | none=>rfl
   | some x=>
    obtain⟨r,m⟩:=x
    obtain⟨a1,a2,a3,a4,a5⟩:=Tx e
    obtain⟨v1,v2⟩:=ae9 e
    have:=(hall (m-1) (by omega)).2
    rw [show m-1+1=m by omega,←v1]at this
    exact absurd a2 this
  | succ d ih=>
   intro hn hall
   by_cases hl:n+1≤b.length
   ·by_cases ht:aY (val b (n+1))=b.take (n+1)
    ·exact⟨n,hn,hall, .inl ⟨by omega,hl,ht,(alz (by omega) hl ht).2⟩⟩
    ·refine ih (n+1) (by omega) (by omega) fun j hj=>?_
     rcases Nat.lt_or_ge j n with h1|h1
     ·exact hall j h1
     ·obtain rfl:j=n:=by omega
      exact⟨hl,ht⟩
   ·refine⟨n,hn,hall, .inr ⟨.inr (by omega),?_⟩⟩
    cases e:dec b with
    | none=>rfl
    | some x=>
     obtain⟨r,m⟩:=x
     obtain⟨a1,a2,a3,a4,a5⟩:=Tx e
     obtain⟨v1,v2⟩:=ae9 e
     have:=(hall (m-1) (by omega)).2
     rw [show m-1+1=m by omega,←v1]at this
     exact absurd a2 this
 exact step 0 (by omega) fun j hj=>by omega
theorem QF (b:List UInt8)(k:Nat)(hk:k<b.length)(hb:b.length≤1000000000):Du [.aL (some 0) (xw b),vI (k:Int)] [] []=some ⟨.fU [vI (wB (dec (b.drop k))),vI (wC (dec (b.drop k)))],[],[]⟩:=by
 unfold Du
 have hc:=b[k].toNat_lt
 have h1:¬((b.length:Int)≤k):=by omega
 have h0:¬((k:Int)<0):=by omega
 have w0:=bN (b[k].toNat:Int) (by omega)
 have wl:=bN ((b.length:Int)-k) (by omega)
 generalize hx:(b[k].toNat:Int)=x at w0
 have hx0:0≤x∧x≤255:=by omega
 have hxo:UInt8.ofNat x.toNat=b[k]:=by rw [←hx];simp
 obtain⟨N,hN4,hbad,hend⟩:=aiH (b.drop k)
 rw [List.length_drop]at hend
 simp only [List.length_drop]at hbad
 simp [func291,f291,h0,h1]
 rw [aD (fun j=> .on ⟨[(6,V.v (.int .i64 ((j:Int)+1))),(1,V.v (.int .i64 ((k:Int)))),(0, .aL (some 0) (xw b))],[],[],[]⟩) N ?_ ?_]
 ·rcases hend with⟨e1,e2,e3,e4⟩|⟨e1,e2⟩
  ·rw [e4]
   rcases(by omega:N=0∨N=1∨N=2∨N=3)with rfl|rfl|rfl|rfl
   ·have w4:=bN ((k:Int)+1) (by omega)
    have f2:(k:Int)+1≤b.length:=by omega
    have f9:(1:Int)≤(b.length:Int)-k:=by omega
    have f3:((k:Int)+1).toNat=k+1:=by omega
    have f5:k+1-k=1:=by omega
    have f7:(k:Int)≤(k:Int)+1:=by omega
    have v1:val (b.drop k) 1=x:=by rw [val,lU hk,hx]
    have z:aY (x)=(b.drop k).take 1:=by rw [←v1];exact e3
    rw [Ym hk]at z
    simp [hk,eG hk,hx,w0,wl,bO,jI,fu,hxo,wB,wC,w4,f2,f9,f3,f5,f7,Ym hk,v1,z]
   ·have w1:=bN (x-192) (by omega)
    have w4:=bN ((k:Int)+2) (by omega)
    have f2:(k:Int)+2≤b.length:=by omega
    have f9:(2:Int)≤(b.length:Int)-k:=by omega
    have f3:((k:Int)+2).toNat=k+2:=by omega
    have f5:k+2-k=2:=by omega
    have f7:(k:Int)≤(k:Int)+2:=by omega
    have g1:k+1<b.length:=by omega
    have r1:=b[k+1].toNat_lt
    have p1:=bN (b[k+1].toNat:Int) (by omega)
    have t1:=bN ((k:Int)+1) (by omega)
    have u1:((k:Int)+1).toNat=k+1:=by omega
    have y1:(k:Int)+1<b.length:=by omega
    have l1:(0:Int)≤(k:Int)+1:=by omega
    have Q6:=bN ((x-192)*64) (by omega)
    have Pk:=bN ((x-192)*64+(b[k+1].toNat:Int)) (by omega)
    have Pn:=bN ((x-192)*64+(b[k+1].toNat:Int)-128) (by omega)
    have v1:val (b.drop k) 2=(x-192)*64+(b[k+1].toNat:Int)-128:=by rw [val,lU hk,jJ g1,hx]
    have z:aY ((x-192)*64+(b[k+1].toNat:Int)-128)=(b.drop k).take 2:=by rw [←v1];exact e3
    rw [U5 g1]at z
    simp [hk,eG hk,hx,w0,wl,bO,jI,fu,hxo,wB,wC,w1,w4,f2,f9,f3,f5,f7,p1,t1,u1,y1,l1,eG g1,Q6,Pk,Pn,U5 g1,v1,z]
   ·have w1:=bN (x-224) (by omega)
    have w4:=bN ((k:Int)+3) (by omega)
    have f2:(k:Int)+3≤b.length:=by omega
    have f9:(3:Int)≤(b.length:Int)-k:=by omega
    have f3:((k:Int)+3).toNat=k+3:=by omega
    have f5:k+3-k=3:=by omega
    have f7:(k:Int)≤(k:Int)+3:=by omega
    have g1:k+1<b.length:=by omega
    have r1:=b[k+1].toNat_lt
    have p1:=bN (b[k+1].toNat:Int) (by omega)
    have t1:=bN ((k:Int)+1) (by omega)
    have u1:((k:Int)+1).toNat=k+1:=by omega
    have y1:(k:Int)+1<b.length:=by omega
    have l1:(0:Int)≤(k:Int)+1:=by omega
    have g2:k+2<b.length:=by omega
    have r2:=b[k+2].toNat_lt
    have p2:=bN (b[k+2].toNat:Int) (by omega)
    have t2:=bN ((k:Int)+2) (by omega)
    have u2:((k:Int)+2).toNat=k+2:=by omega
    have y2:(k:Int)+2<b.length:=by omega
    have l2:(0:Int)≤(k:Int)+2:=by omega
    have Q6:=bN ((x-224)*64) (by omega)
    have Pk:=bN ((x-224)*64+(b[k+1].toNat:Int)) (by omega)
    have Pn:=bN ((x-224)*64+(b[k+1].toNat:Int)-128) (by omega)
    have q20:=bN (((x-224)*64+(b[k+1].toNat:Int)-128)*64) (by omega)
    have q21:=bN (((x-224)*64+(b[k+1].toNat:Int)-128)*64+(b[k+2].toNat:Int)) (by omega)
    have q22:=bN (((x-224)*64+(b[k+1].toNat:Int)-128)*64+(b[k+2].toNat:Int)-128) (by omega)
    have v1:val (b.drop k) 3=((x-224)*64+(b[k+1].toNat:Int)-128)*64+(b[k+2].toNat:Int)-128:=by rw [val,lU hk,jJ g1,jJ g2,hx]
    have z:aY (((x-224)*64+(b[k+1].toNat:Int)-128)*64+(b[k+2].toNat:Int)-128)=(b.drop k).take 3:=by rw [←v1];exact e3
    rw [U6 g2]at z
    simp [hk,eG hk,hx,w0,wl,bO,jI,fu,hxo,wB,wC,w1,w4,f2,f9,f3,f5,f7,p1,t1,u1,y1,l1,eG g1,p2,t2,u2,y2,l2,eG g2,Q6,Pk,Pn,q20,q21,q22,U6 g2,v1,z]
   ·have w1:=bN (x-240) (by omega)
    have w4:=bN ((k:Int)+4) (by omega)
    have f2:(k:Int)+4≤b.length:=by omega
    have f9:(4:Int)≤(b.length:Int)-k:=by omega
    have f3:((k:Int)+4).toNat=k+4:=by omega
    have f5:k+4-k=4:=by omega
    have f7:(k:Int)≤(k:Int)+4:=by omega
    have g1:k+1<b.length:=by omega
    have r1:=b[k+1].toNat_lt
    have p1:=bN (b[k+1].toNat:Int) (by omega)
    have t1:=bN ((k:Int)+1) (by omega)
    have u1:((k:Int)+1).toNat=k+1:=by omega
    have y1:(k:Int)+1<b.length:=by omega
    have l1:(0:Int)≤(k:Int)+1:=by omega
    have g2:k+2<b.length:=by omega
    have r2:=b[k+2].toNat_lt
    have p2:=bN (b[k+2].toNat:Int) (by omega)
    have t2:=bN ((k:Int)+2) (by omega)
    have u2:((k:Int)+2).toNat=k+2:=by omega
    have y2:(k:Int)+2<b.length:=by omega
    have l2:(0:Int)≤(k:Int)+2:=by omega
    have g3:k+3<b.length:=by omega
    have r3:=b[k+3].toNat_lt
    have p3:=bN (b[k+3].toNat:Int) (by omega)
    have t3:=bN ((k:Int)+3) (by omega)
    have u3:((k:Int)+3).toNat=k+3:=by omega
    have y3:(k:Int)+3<b.length:=by omega
    have l3:(0:Int)≤(k:Int)+3:=by omega
    have Q6:=bN ((x-240)*64) (by omega)
    have Pk:=bN ((x-240)*64+(b[k+1].toNat:Int)) (by omega)
    have Pn:=bN ((x-240)*64+(b[k+1].toNat:Int)-128) (by omega)
    have q20:=bN (((x-240)*64+(b[k+1].toNat:Int)-128)*64) (by omega)
    have q21:=bN (((x-240)*64+(b[k+1].toNat:Int)-128)*64+(b[k+2].toNat:Int)) (by omega)
    have q22:=bN (((x-240)*64+(b[k+1].toNat:Int)-128)*64+(b[k+2].toNat:Int)-128) (by omega)
    have q30:=bN ((((x-240)*64+(b[k+1].toNat:Int)-128)*64+(b[k+2].toNat:Int)-128)*64) (by omega)
    have q31:=bN ((((x-240)*64+(b[k+1].toNat:Int)-128)*64+(b[k+2].toNat:Int)-128)*64+(b[k+3].toNat:Int)) (by omega)
    have q32:=bN ((((x-240)*64+(b[k+1].toNat:Int)-128)*64+(b[k+2].toNat:Int)-128)*64+(b[k+3].toNat:Int)-128) (by omega)
    have v1:val (b.drop k) 4=(((x-240)*64+(b[k+1].toNat:Int)-128)*64+(b[k+2].toNat:Int)-128)*64+(b[k+3].toNat:Int)-128:=by rw [val,lU hk,jJ g1,jJ g2,jJ g3,hx]
    have z:aY ((((x-240)*64+(b[k+1].toNat:Int)-128)*64+(b[k+2].toNat:Int)-128)*64+(b[k+3].toNat:Int)-128)=(b.drop k).take 4:=by rw [←v1];exact e3
    rw [adj g3]at z
    simp [hk,eG hk,hx,w0,wl,bO,jI,fu,hxo,wB,wC,w1,w4,f2,f9,f3,f5,f7,p1,t1,u1,y1,l1,eG g1,p2,t2,u2,y2,l2,eG g2,p3,t3,u3,y3,l3,eG g3,Q6,Pk,Pn,q20,q21,q22,q30,q31,q32,adj g3,v1,z]
  ·rw [e2]
   by_cases e5:N=4
   ·subst e5;simp [wB,wC]
   ·have e6:¬((N:Int)+1≤(b.length:Int)-k):=by omega
    have e7:(N:Int)+1≤4:=by omega
    simp [wl,e6,e7,wB,wC]
 ·simp
 ·intro j hj
  have hb2:=hbad j hj
  rcases(by omega:j=0∨j=1∨j=2∨j=3)with rfl|rfl|rfl|rfl
  ·have w4:=bN ((k:Int)+1) (by omega)
   have f2:(k:Int)+1≤b.length:=by omega
   have f9:(1:Int)≤(b.length:Int)-k:=by omega
   have f3:((k:Int)+1).toNat=k+1:=by omega
   have f5:k+1-k=1:=by omega
   have f7:(k:Int)≤(k:Int)+1:=by omega
   have v1:val (b.drop k) 1=x:=by rw [val,lU hk,hx]
   have z:aY (x)≠(b.drop k).take 1:=by rw [←v1];exact hb2.2
   rw [Ym hk]at z
   by_cases hl:(aY (x)).length=1
   ·simp [hk,eG hk,hx,w0,wl,bO,jI,fu,hxo,wB,wC,w4,f2,f9,f3,f5,f7,Ym hk,v1,z,hl]
   ·have hl':¬(((aY (x)).length:Int)=1):=by omega
    simp [hk,eG hk,hx,w0,wl,bO,jI,fu,hxo,wB,wC,w4,f2,f9,f3,f5,f7,Ym hk,v1,z,hl,hl']
  ·have w1:=bN (x-192) (by omega)
   have w4:=bN ((k:Int)+2) (by omega)
   have f2:(k:Int)+2≤b.length:=by omega
   have f9:(2:Int)≤(b.length:Int)-k:=by omega
   have f3:((k:Int)+2).toNat=k+2:=by omega
   have f5:k+2-k=2:=by omega
   have f7:(k:Int)≤(k:Int)+2:=by omega
   have g1:k+1<b.length:=by omega
   have r1:=b[k+1].toNat_lt
   have p1:=bN (b[k+1].toNat:Int) (by omega)
   have t1:=bN ((k:Int)+1) (by omega)
   have u1:((k:Int)+1).toNat=k+1:=by omega
   have y1:(k:Int)+1<b.length:=by omega
   have l1:(0:Int)≤(k:Int)+1:=by omega
   have Q6:=bN ((x-192)*64) (by omega)
   have Pk:=bN ((x-192)*64+(b[k+1].toNat:Int)) (by omega)
   have Pn:=bN ((x-192)*64+(b[k+1].toNat:Int)-128) (by omega)
   have v1:val (b.drop k) 2=(x-192)*64+(b[k+1].toNat:Int)-128:=by rw [val,lU hk,jJ g1,hx]
   have z:aY ((x-192)*64+(b[k+1].toNat:Int)-128)≠(b.drop k).take 2:=by rw [←v1];exact hb2.2
   rw [U5 g1]at z
   by_cases hl:(aY ((x-192)*64+(b[k+1].toNat:Int)-128)).length=2
   ·simp [hk,eG hk,hx,w0,wl,bO,jI,fu,hxo,wB,wC,w1,w4,f2,f9,f3,f5,f7,p1,t1,u1,y1,l1,eG g1,Q6,Pk,Pn,U5 g1,v1,z,hl]
   ·have hl':¬(((aY ((x-192)*64+(b[k+1].toNat:Int)-128)).length:Int)=2):=by omega
    simp [hk,eG hk,hx,w0,wl,bO,jI,fu,hxo,wB,wC,w1,w4,f2,f9,f3,f5,f7,p1,t1,u1,y1,l1,eG g1,Q6,Pk,Pn,U5 g1,v1,z,hl,hl']
  ·have w1:=bN (x-224) (by omega)
   have w4:=bN ((k:Int)+3) (by omega)
   have f2:(k:Int)+3≤b.length:=by omega
   have f9:(3:Int)≤(b.length:Int)-k:=by omega
   have f3:((k:Int)+3).toNat=k+3:=by omega
   have f5:k+3-k=3:=by omega
   have f7:(k:Int)≤(k:Int)+3:=by omega
   have g1:k+1<b.length:=by omega
   have r1:=b[k+1].toNat_lt
   have p1:=bN (b[k+1].toNat:Int) (by omega)
   have t1:=bN ((k:Int)+1) (by omega)
   have u1:((k:Int)+1).toNat=k+1:=by omega
   have y1:(k:Int)+1<b.length:=by omega
   have l1:(0:Int)≤(k:Int)+1:=by omega
   have g2:k+2<b.length:=by omega
   have r2:=b[k+2].toNat_lt
   have p2:=bN (b[k+2].toNat:Int) (by omega)
   have t2:=bN ((k:Int)+2) (by omega)
   have u2:((k:Int)+2).toNat=k+2:=by omega
   have y2:(k:Int)+2<b.length:=by omega
   have l2:(0:Int)≤(k:Int)+2:=by omega
   have Q6:=bN ((x-224)*64) (by omega)
   have Pk:=bN ((x-224)*64+(b[k+1].toNat:Int)) (by omega)
   have Pn:=bN ((x-224)*64+(b[k+1].toNat:Int)-128) (by omega)
   have q20:=bN (((x-224)*64+(b[k+1].toNat:Int)-128)*64) (by omega)
   have q21:=bN (((x-224)*64+(b[k+1].toNat:Int)-128)*64+(b[k+2].toNat:Int)) (by omega)
   have q22:=bN (((x-224)*64+(b[k+1].toNat:Int)-128)*64+(b[k+2].toNat:Int)-128) (by omega)
   have v1:val (b.drop k) 3=((x-224)*64+(b[k+1].toNat:Int)-128)*64+(b[k+2].toNat:Int)-128:=by rw [val,lU hk,jJ g1,jJ g2,hx]
   have z:aY (((x-224)*64+(b[k+1].toNat:Int)-128)*64+(b[k+2].toNat:Int)-128)≠(b.drop k).take 3:=by rw [←v1];exact hb2.2
   rw [U6 g2]at z
   by_cases hl:(aY (((x-224)*64+(b[k+1].toNat:Int)-128)*64+(b[k+2].toNat:Int)-128)).length=3
   ·simp [hk,eG hk,hx,w0,wl,bO,jI,fu,hxo,wB,wC,w1,w4,f2,f9,f3,f5,f7,p1,t1,u1,y1,l1,eG g1,p2,t2,u2,y2,l2,eG g2,Q6,Pk,Pn,q20,q21,q22,U6 g2,v1,z,hl]
   ·have hl':¬(((aY (((x-224)*64+(b[k+1].toNat:Int)-128)*64+(b[k+2].toNat:Int)-128)).length:Int)=3):=by omega
    simp [hk,eG hk,hx,w0,wl,bO,jI,fu,hxo,wB,wC,w1,w4,f2,f9,f3,f5,f7,p1,t1,u1,y1,l1,eG g1,p2,t2,u2,y2,l2,eG g2,Q6,Pk,Pn,q20,q21,q22,U6 g2,v1,z,hl,hl']
  ·have w1:=bN (x-240) (by omega)
   have w4:=bN ((k:Int)+4) (by omega)
   have f2:(k:Int)+4≤b.length:=by omega
   have f9:(4:Int)≤(b.length:Int)-k:=by omega
   have f3:((k:Int)+4).toNat=k+4:=by omega
   have f5:k+4-k=4:=by omega
   have f7:(k:Int)≤(k:Int)+4:=by omega
   have g1:k+1<b.length:=by omega
   have r1:=b[k+1].toNat_lt
   have p1:=bN (b[k+1].toNat:Int) (by omega)
   have t1:=bN ((k:Int)+1) (by omega)
   have u1:((k:Int)+1).toNat=k+1:=by omega
   have y1:(k:Int)+1<b.length:=by omega
   have l1:(0:Int)≤(k:Int)+1:=by omega
   have g2:k+2<b.length:=by omega
   have r2:=b[k+2].toNat_lt
   have p2:=bN (b[k+2].toNat:Int) (by omega)
   have t2:=bN ((k:Int)+2) (by omega)
   have u2:((k:Int)+2).toNat=k+2:=by omega
   have y2:(k:Int)+2<b.length:=by omega
   have l2:(0:Int)≤(k:Int)+2:=by omega
   have g3:k+3<b.length:=by omega
   have r3:=b[k+3].toNat_lt
   have p3:=bN (b[k+3].toNat:Int) (by omega)
   have t3:=bN ((k:Int)+3) (by omega)
   have u3:((k:Int)+3).toNat=k+3:=by omega
   have y3:(k:Int)+3<b.length:=by omega
   have l3:(0:Int)≤(k:Int)+3:=by omega
   have Q6:=bN ((x-240)*64) (by omega)
   have Pk:=bN ((x-240)*64+(b[k+1].toNat:Int)) (by omega)
   have Pn:=bN ((x-240)*64+(b[k+1].toNat:Int)-128) (by omega)
   have q20:=bN (((x-240)*64+(b[k+1].toNat:Int)-128)*64) (by omega)
   have q21:=bN (((x-240)*64+(b[k+1].toNat:Int)-128)*64+(b[k+2].toNat:Int)) (by omega)
   have q22:=bN (((x-240)*64+(b[k+1].toNat:Int)-128)*64+(b[k+2].toNat:Int)-128) (by omega)
   have q30:=bN ((((x-240)*64+(b[k+1].toNat:Int)-128)*64+(b[k+2].toNat:Int)-128)*64) (by omega)
   have q31:=bN ((((x-240)*64+(b[k+1].toNat:Int)-128)*64+(b[k+2].toNat:Int)-128)*64+(b[k+3].toNat:Int)) (by omega)
   have q32:=bN ((((x-240)*64+(b[k+1].toNat:Int)-128)*64+(b[k+2].toNat:Int)-128)*64+(b[k+3].toNat:Int)-128) (by omega)
   have v1:val (b.drop k) 4=(((x-240)*64+(b[k+1].toNat:Int)-128)*64+(b[k+2].toNat:Int)-128)*64+(b[k+3].toNat:Int)-128:=by rw [val,lU hk,jJ g1,jJ g2,jJ g3,hx]
   have z:aY ((((x-240)*64+(b[k+1].toNat:Int)-128)*64+(b[k+2].toNat:Int)-128)*64+(b[k+3].toNat:Int)-128)≠(b.drop k).take 4:=by rw [←v1];exact hb2.2
   rw [adj g3]at z
   by_cases hl:(aY ((((x-240)*64+(b[k+1].toNat:Int)-128)*64+(b[k+2].toNat:Int)-128)*64+(b[k+3].toNat:Int)-128)).length=4
   ·simp [hk,eG hk,hx,w0,wl,bO,jI,fu,hxo,wB,wC,w1,w4,f2,f9,f3,f5,f7,p1,t1,u1,y1,l1,eG g1,p2,t2,u2,y2,l2,eG g2,p3,t3,u3,y3,l3,eG g3,Q6,Pk,Pn,q20,q21,q22,q30,q31,q32,adj g3,v1,z,hl]
   ·have hl':¬(((aY ((((x-240)*64+(b[k+1].toNat:Int)-128)*64+(b[k+2].toNat:Int)-128)*64+(b[k+3].toNat:Int)-128)).length:Int)=4):=by omega
    simp [hk,eG hk,hx,w0,wl,bO,jI,fu,hxo,wB,wC,w1,w4,f2,f9,f3,f5,f7,p1,t1,u1,y1,l1,eG g1,p2,t2,u2,y2,l2,eG g2,p3,t3,u3,y3,l3,eG g3,Q6,Pk,Pn,q20,q21,q22,q30,q31,q32,adj g3,v1,z,hl,hl']
theorem Jw (s:ByteArray):nS s=xw s.data.toList:=rfl
theorem Mj {r:Int}(h:mI r=true):1≤(aY r).length:=by
 rcases vK h with⟨_,_,e⟩|⟨_,_,e⟩|⟨_,_,e⟩|⟨_,_,e⟩<;>rw [e]<;>simp
theorem Mk (s:ByteArray)(l:List Int)(rest:List UInt8)(h:Reads s.data.toList l rest)(hs:s.size≤65536):zo [V.v (.string s)] [] []=some ⟨.fU [.own 0,V.v (.bool rest.isEmpty)],[],[(0,if rest.isEmpty then ints l else [])]⟩:=by
 unfold zo
 have h1:¬(65536<(s.size:Int)):=by omega
 have h2:s.size≤4611686018427387904:=by omega
 have hsz:s.data.toList.length=s.size:=by simp
 have hds:s.data.toList.length=s.data.size:=Array.length_toList
 have hl:=h.len
 simp [func234,f234,h1,h2,Jw]
 rw [aD (fun j=> .on ⟨[(6,V.v (.int .i64 (((bM (l.take j)).length:Int)))),(5, .fz (xw s.data.toList)),(4, .own 2000001000)],[],[(2000001000,ints (l.take j))],[(13,[])]⟩) l.length ?_ ?_]
 ·obtain⟨e1,e2⟩:=h.end
  have e3:=h.2.2
  cases rest with
  | nil=>
   have e4:¬((bM l).length<s.size):=by rw [List.length_nil]at e2;omega
   simp [e4]
  | cons c rest=>
   have e4:(bM l).length<s.data.toList.length:=by rw [List.length_cons]at e2;omega
   have e5:(bM l).length<s.size:=by omega
   have e5b:(bM l).length<s.data.size:=by omega
   have e6:=QE s.data.toList (bM l).length e4 (by omega)
   rw [e1,e3]at e6
   simp [e5,e5b,e6,wB,wC]
 ·simp [bM,aZ]
 ·intro j hj
  obtain⟨a1,a2,a3⟩:=h.at hj
  have a4:(bM (l.take (j+1))).length≤65536:=by
   have:=Aq hj
   have e:(bM (l.take (j+1))).length≤s.data.toList.length:=by
    conv=>rhs;rw [h.1]
    rw [List.length_append]
    have:l=l.take (j+1)++l.drop (j+1):=(List.take_append_drop _ _).symm
    conv=>rhs;rw [this]
    unfold bM
    rw [List.flatMap_append,List.length_append];omega
   omega
  have w1:=bN ((bM (l.take (j+1))).length:Int) (by omega)
  have e5:(bM (l.take j)).length<s.size:=by omega
  have e5b:(bM (l.take j)).length<s.data.size:=by omega
  have e6:=QE s.data.toList _ a1 (by omega)
  rw [a2]at e6
  have e7:=Mj (h.2.1 l[j] (List.getElem_mem hj))
  have e8:¬(aY l[j]= []):=fun e=>by rw [e]at e7;simp at e7
  have e9:((bM (l.take j)).length:Int)+((aY l[j]).length:Int)=((bM (l.take (j+1))).length:Int):=by omega
  have e10:(l.take j).length≤65536:=by simp;omega
  have e11:ints (l.take j)++ [[D.a (.int .i64 (l[j]))]]=ints (l.take (j+1)):=by rw [VN,List.take_add_one,List.getElem?_eq_getElem hj];rfl
  simp [e5,e5b,e6,wB,wC,e8]
  simp (disch:=omega) only [eB]
  simp [e9,w1,e11]
theorem Tz (s:ByteArray)(l:List Int)(rest:List UInt8)(h:Reads s.data.toList l rest)(hs:s.size≤65536):zA [V.v (.string s)] [] []=some ⟨.fU [.own 0,V.v (.bool rest.isEmpty)],[],[(0,if rest.isEmpty then ints l else [])]⟩:=by
 unfold zA
 have h1:¬(65536<(s.size:Int)):=by omega
 have h2:s.size≤4611686018427387904:=by omega
 have hsz:s.data.toList.length=s.size:=by simp
 have hds:s.data.toList.length=s.data.size:=Array.length_toList
 have hl:=h.len
 simp [func280,f280,h1,h2,Jw]
 rw [aD (fun j=> .on ⟨[(6,V.v (.int .i64 (((bM (l.take j)).length:Int)))),(5, .own 2000001000),(4, .fz (xw s.data.toList))],[],[(2000001000,ints (l.take j))],[(13,[])]⟩) l.length ?_ ?_]
 ·obtain⟨e1,e2⟩:=h.end
  have e3:=h.2.2
  cases rest with
  | nil=>
   have e4:¬((bM l).length<s.size):=by rw [List.length_nil]at e2;omega
   simp [e4]
  | cons c rest=>
   have e4:(bM l).length<s.data.toList.length:=by rw [List.length_cons]at e2;omega
   have e5:(bM l).length<s.size:=by omega
   have e5b:(bM l).length<s.data.size:=by omega
   have e6:=QF s.data.toList (bM l).length e4 (by omega)
   rw [e1,e3]at e6
   simp [e5,e5b,e6,wB,wC]
 ·simp [bM,aZ]
 ·intro j hj
  obtain⟨a1,a2,a3⟩:=h.at hj
  have a4:(bM (l.take (j+1))).length≤65536:=by
   have:=Aq hj
   have e:(bM (l.take (j+1))).length≤s.data.toList.length:=by
    conv=>rhs;rw [h.1]
    rw [List.length_append]
    have:l=l.take (j+1)++l.drop (j+1):=(List.take_append_drop _ _).symm
    conv=>rhs;rw [this]
    unfold bM
    rw [List.flatMap_append,List.length_append];omega
   omega
  have w1:=bN ((bM (l.take (j+1))).length:Int) (by omega)
  have e5:(bM (l.take j)).length<s.size:=by omega
  have e5b:(bM (l.take j)).length<s.data.size:=by omega
  have e6:=QF s.data.toList _ a1 (by omega)
  rw [a2]at e6
  have e7:=Mj (h.2.1 l[j] (List.getElem_mem hj))
  have e8:¬(aY l[j]= []):=fun e=>by rw [e]at e7;simp at e7
  have e9:((bM (l.take j)).length:Int)+((aY l[j]).length:Int)=((bM (l.take (j+1))).length:Int):=by omega
  have e10:(l.take j).length≤65536:=by simp;omega
  have e11:ints (l.take j)++ [[D.a (.int .i64 (l[j]))]]=ints (l.take (j+1)):=by rw [VN,List.take_add_one,List.getElem?_eq_getElem hj];rfl
  simp [e5,e5b,e6,wB,wC,e8]
  simp (disch:=omega) only [eB]
  simp [e9,w1,e11]
structure iB (f:Int) (l:List ByteArray):Prop where
 first:1≤f∧f≤1000000000
 len:l.length≤60
 each:∀s∈l,1≤s.size∧s.size≤1000
def gM (f:Int)(l:List ByteArray):Int:=if l= []then 0 else f+l.length-1
theorem E9 (f:Int)(l:List ByteArray)(h:iB f l):nW [.agg [vI f, .aL (some 0) (strs l)]] [] []=some ⟨V.v (.bool true),[],[]⟩:=by
 have q1:iw f 1 1000000000=true:=bC.2 h.first
 have q2:¬(60:Int)<l.length:=by have:=h.len;omega
 have q3:=h.len
 simp [nW,func72,f72,dH,q1,q2]
 rw [aD (fun j=> .on ⟨[(18,V.v (.int .i64 ((j:Int)))),(17,V.v (.int .i64 ((l.length:Int)))),(16, .aL (some 0) (strs l))],[],[],[]⟩) l.length ?_ ?_]
 ·simp
 ·simp
 ·intro j hj
  have hw:=bN (j+1) (by omega)
  have e:=h.each l[j] (List.getElem_mem hj)
  have q4:iw (l[j].size:Int) 1 1000=true:=bC.2 (by omega)
  simp [hj,hw,dH,q4]
theorem QG (f:Int)(l:List ByteArray)(h:iB f l):Aa [.agg [vI f, .aL (some 0) (strs l)]] [] []=some ⟨vI (gM f l),[],[]⟩:=by
 have e:=E9 f l h
 have h1:=h.first
 have h2:=h.len
 have w1:=bN (f+l.length) (by omega)
 have w2:=bN (f+l.length-1) (by omega)
 unfold Aa gM
 by_cases hl:l= []
 ·subst hl
  simp only [show strs []= []from rfl]at e
  simp [func172,f172,e,show strs []= []from rfl]
 ·simp [func172,f172,e,hl,w1,w2]
theorem adk (f:Int)(l:List ByteArray)(h:iB f l)(k:Nat)(hk:k<l.length):tQ [.agg [vI f, .aL (some 0) (strs l)],vI (f+k)] [] []=some ⟨.fU [V.v (.string (l[k])),V.v (.bool true)],[],[]⟩:=by
 have e:=E9 f l h
 have h1:=h.first
 have h2:=h.len
 have w1:=bN (f+l.length) (by omega)
 have w2:=bN (f+l.length-1) (by omega)
 have w3:=bN (f+k-f) (by omega)
 have q:iw (f+k) f (f+l.length-1)=true:=bC.2 (by omega)
 have q2:f+(k:Int)-f=k:=by omega
 rw [q2]at w3
 simp [tQ,func231,f231,e,dH,w1,w2,q,q2,w3,hk]
theorem U7 (f:Int)(l:List ByteArray)(h:iB f l)(n:Int)(hn:n<f∨f+l.length≤n):tQ [.agg [vI f, .aL (some 0) (strs l)],vI n] [] []=some ⟨.fU [V.v (.string (⟨#[]⟩)),V.v (.bool false)],[],[]⟩:=by
 have e:=E9 f l h
 have h1:=h.first
 have h2:=h.len
 have w1:=bN (f+l.length) (by omega)
 have w2:=bN (f+l.length-1) (by omega)
 have q:iw n f (f+l.length-1)=false:=by
  cases e:iw n f (f+l.length-1)
  ·rfl
  ·have:=bC.1 e;omega
 simp [tQ,func231,f231,e,dH,w1,w2,q]
theorem uP (f:Int)(l:List ByteArray)(h:iB f l):mV [.agg [vI f, .aL (some 0) (strs l)]] [] []=some ⟨V.v (.bool true),[],[]⟩:=by
 have q1:=h.first
 have q2:=h.len
 have q3:¬f<1:=by omega
 have q4:(l.length:Int)≤60:=by omega
 simp [mV,func70,f70]
 rw [aD (fun j=> .on ⟨[(8,V.v (.int .i64 ((j:Int)))),(7,V.v (.int .i64 ((l.length:Int)))),(6, .aL (some 0) (strs l)),(1, .ref 1 0)],[(1,[vI f, .aL (some 0) (strs l)])],[],[]⟩) l.length ?_ ?_]
 ·simp [q1,q2,q4]
 ·simp
 ·intro j hj
  have hw:=bN (j+1) (by omega)
  have e:=h.each l[j] (List.getElem_mem hj)
  have q5:¬(l[j].size:Int)<1:=by omega
  have q6:¬(1000:Int)<l[j].size:=by omega
  simp [hj,hw,q5,q6]
set_option maxHeartbeats 16000000
set_option maxRecDepth 100000
def dO (fr fh:Int):Bool:=(fr==0&&fh==0)||(fr != 0&&(dh fr&&iw fh 0 3))
def gB (vi:Bool)(mode:Int)(lt:List Int)(la cnt op zD wt fr fh last:Int)(rp:List dL)(ul:List fH)(A8:Int)(ot:List Int)(oa:Int)(q:List Int)(hit:Int)(bt:List Int)(ba:Int):Bool:=
 bV lt la&&(bV ot oa&&(bV bt ba&&(iw cnt 0 999&&(iw zD 0 999&&(fQ vi mode lt la op zD wt&&(dO fr fh&&(iw last 0 3&&(iJ rp&&(jS ul&&(iw A8 0 1000000060&&(iw hit 0 1000000060&&((A8 != 0||qK ot oa)&&(decide (q.length≤40)&&(q.all dh&&gy mode q hit bt ba))))))))))))))
theorem afa (vi:Bool)(mode:Int)(lt:List Int)(la cnt op zD wt fr fh last:Int)(rp:List dL)(ul:List fH)(A8:Int)(ot:List Int)(oa:Int)(q:List Int)(hit:Int)(bt:List Int)(ba:Int)(h1:lt.length≤1000000000)(h2:ot.length≤1000000000)(h3:bt.length≤1000000000)(h4:q.length≤1000000000)(h5:sG (aC rp)=true)(h6:sG (aG ul)=true):Bo [.agg [V.v (.bool vi),vI mode, .aL (some 0) (ints lt),vI la,vI cnt,vI op,vI zD,vI wt,vI fr,vI fh,vI last, .aL (some 1) (aC rp), .aL (some 2) (aG ul),vI A8, .aL (some 3) (ints ot),vI oa, .aL (some 4) (ints q),vI hit, .aL (some 5) (ints bt),vI ba]] [] []=some ⟨V.v (.bool (gB vi mode lt la cnt op zD wt fr fh last rp ul A8 ot oa q hit bt ba)),[],[]⟩:=by
 unfold Bo
 cases a0:bV lt la
 ·simp [func9,f9,gB,dO,bQ,h1,h2,h3,h5,h6,dH,dA,cK,cO,bL,aR,a0]
 cases a1:bV ot oa
 ·simp [func9,f9,gB,dO,bQ,h1,h2,h3,h5,h6,dH,dA,cK,cO,bL,aR,a0,a1]
 cases a2:bV bt ba
 ·simp [func9,f9,gB,dO,bQ,h1,h2,h3,h5,h6,dH,dA,cK,cO,bL,aR,a0,a1,a2]
 cases a3:iw cnt 0 999
 ·simp [func9,f9,gB,dO,bQ,h1,h2,h3,h5,h6,dH,dA,cK,cO,bL,aR,a0,a1,a2,a3]
 cases a4:iw zD 0 999
 ·simp [func9,f9,gB,dO,bQ,h1,h2,h3,h5,h6,dH,dA,cK,cO,bL,aR,a0,a1,a2,a3,a4]
 cases a5:fQ vi mode lt la op zD wt
 ·simp [func9,f9,gB,dO,bQ,h1,h2,h3,h5,h6,dH,dA,cK,cO,bL,aR,a0,a1,a2,a3,a4,a5]
 by_cases f0:fr=0
 ·subst f0
  by_cases f1:fh=0
  rotate_left
  ·simp [func9,f9,gB,dO,bQ,h1,h2,h3,h5,h6,dH,dA,cK,cO,bL,aR,a0,a1,a2,a3,a4,a5,f1]
  subst f1
  cases c0:iw last 0 3
  ·simp [func9,f9,gB,dO,bQ,h1,h2,h3,h5,h6,dH,dA,cK,cO,bL,aR,a0,a1,a2,a3,a4,a5,c0]
  cases c1:iJ rp
  ·simp [func9,f9,gB,dO,bQ,h1,h2,h3,h5,h6,dH,dA,cK,cO,bL,aR,a0,a1,a2,a3,a4,a5,c0,c1]
  cases c2:jS ul
  ·simp [func9,f9,gB,dO,bQ,h1,h2,h3,h5,h6,dH,dA,cK,cO,bL,aR,a0,a1,a2,a3,a4,a5,c0,c1,c2]
  cases c3:iw A8 0 1000000060
  ·simp [func9,f9,gB,dO,bQ,h1,h2,h3,h5,h6,dH,dA,cK,cO,bL,aR,a0,a1,a2,a3,a4,a5,c0,c1,c2,c3]
  cases c4:iw hit 0 1000000060
  ·simp [func9,f9,gB,dO,bQ,h1,h2,h3,h5,h6,dH,dA,cK,cO,bL,aR,a0,a1,a2,a3,a4,a5,c0,c1,c2,c3,c4]
  by_cases d0:A8=0
  ·subst d0
   cases e0:qK ot oa
   ·simp [func9,f9,gB,dO,bQ,h1,h2,h3,h5,h6,dH,dA,cK,cO,bL,aR,a0,a1,a2,a3,a4,a5,c0,c1,c2,c3,c4,e0]
   by_cases d1:q.length≤40
   rotate_left
   ·have d1':40<(q.length:Int):=by omega
    simp [func9,f9,gB,dO,bQ,h1,h2,h3,h5,h6,dH,dA,cK,cO,bL,aR,a0,a1,a2,a3,a4,a5,c0,c1,c2,c3,c4,e0,d1,d1']
   have d1':¬(40<(q.length:Int)):=by omega
   simp [func9,f9,gB,dO,bQ,h1,h2,h3,h5,h6,dH,dA,cK,cO,bL,aR,a0,a1,a2,a3,a4,a5,c0,c1,c2,c3,c4,e0,d1,d1']
   rcases j4 dh q with g|⟨g,N,hN,g1,g2⟩
   ·rw [aD (fun j=> .on ⟨[(109,V.v (.int .i64 ((j:Int)))),(108,V.v (.int .i64 ((q.length:Int)))),(107, .aL (some 4) (ints q)),(1, .ref 1 0)],[(1,[V.v (.bool vi),vI mode, .aL (some 0) (ints lt),vI la,vI cnt,vI op,vI zD,vI wt,vI 0,vI 0,vI last, .aL (some 1) (aC rp), .aL (some 2) (aG ul),vI 0, .aL (some 3) (ints ot),vI oa, .aL (some 4) (ints q),vI hit, .aL (some 5) (ints bt),vI ba])],[],[]⟩) q.length ?_ ?_]
    ·by_cases m3:mode=3
     ·simp [func9,f9,gB,dO,bQ,h1,h2,h3,h5,h6,dH,dA,cK,cO,bL,aR,a0,a1,a2,a3,a4,a5,c0,c1,c2,c3,c4,e0,d1,d1',g,gy,m3]
     ·by_cases q0:q= []
      ·subst q0
       by_cases t0:hit=0
       ·subst t0;cases em:qK bt ba<;>simp [func9,f9,gB,dO,bQ,h1,h2,h3,h5,h6,dH,dA,cK,cO,bL,aR,a0,a1,a2,a3,a4,a5,c0,c1,c2,c3,c4,e0,d1,d1',g,gy,m3,em]
       ·simp [func9,f9,gB,dO,bQ,h1,h2,h3,h5,h6,dH,dA,cK,cO,bL,aR,a0,a1,a2,a3,a4,a5,c0,c1,c2,c3,c4,e0,d1,d1',g,gy,m3,t0]
      ·simp [func9,f9,gB,dO,bQ,h1,h2,h3,h5,h6,dH,dA,cK,cO,bL,aR,a0,a1,a2,a3,a4,a5,c0,c1,c2,c3,c4,e0,d1,d1',g,gy,m3,q0]
    ·simp
    ·intro j hj
     have hw:=bN (j+1) (by omega)
     have:=List.all_eq_true.1 g q[j] (List.getElem_mem hj)
     simp [hj,hw,aQ hj,aR,this]
   ·rw [aD (fun j=> .on ⟨[(109,V.v (.int .i64 ((j:Int)))),(108,V.v (.int .i64 ((q.length:Int)))),(107, .aL (some 4) (ints q)),(1, .ref 1 0)],[(1,[V.v (.bool vi),vI mode, .aL (some 0) (ints lt),vI la,vI cnt,vI op,vI zD,vI wt,vI 0,vI 0,vI last, .aL (some 1) (aC rp), .aL (some 2) (aG ul),vI 0, .aL (some 3) (ints ot),vI oa, .aL (some 4) (ints q),vI hit, .aL (some 5) (ints bt),vI ba])],[],[]⟩) N ?_ ?_]
    ·simp [hN,aQ hN,aR,g1,g,gB]
    ·simp
    ·intro j hj
     have hj':j<q.length:=by omega
     have hw:=bN (j+1) (by omega)
     simp [hj',hw,aQ hj',aR,g2 j hj' hj]
  ·skip
   by_cases d1:q.length≤40
   rotate_left
   ·have d1':40<(q.length:Int):=by omega
    simp [func9,f9,gB,dO,bQ,h1,h2,h3,h5,h6,dH,dA,cK,cO,bL,aR,a0,a1,a2,a3,a4,a5,c0,c1,c2,c3,c4,d0,d1,d1']
   have d1':¬(40<(q.length:Int)):=by omega
   simp [func9,f9,gB,dO,bQ,h1,h2,h3,h5,h6,dH,dA,cK,cO,bL,aR,a0,a1,a2,a3,a4,a5,c0,c1,c2,c3,c4,d0,d1,d1']
   rcases j4 dh q with g|⟨g,N,hN,g1,g2⟩
   ·rw [aD (fun j=> .on ⟨[(109,V.v (.int .i64 ((j:Int)))),(108,V.v (.int .i64 ((q.length:Int)))),(107, .aL (some 4) (ints q)),(1, .ref 1 0)],[(1,[V.v (.bool vi),vI mode, .aL (some 0) (ints lt),vI la,vI cnt,vI op,vI zD,vI wt,vI 0,vI 0,vI last, .aL (some 1) (aC rp), .aL (some 2) (aG ul),vI A8, .aL (some 3) (ints ot),vI oa, .aL (some 4) (ints q),vI hit, .aL (some 5) (ints bt),vI ba])],[],[]⟩) q.length ?_ ?_]
    ·by_cases m3:mode=3
     ·simp [func9,f9,gB,dO,bQ,h1,h2,h3,h5,h6,dH,dA,cK,cO,bL,aR,a0,a1,a2,a3,a4,a5,c0,c1,c2,c3,c4,d0,d1,d1',g,gy,m3]
     ·by_cases q0:q= []
      ·subst q0
       by_cases t0:hit=0
       ·subst t0;cases em:qK bt ba<;>simp [func9,f9,gB,dO,bQ,h1,h2,h3,h5,h6,dH,dA,cK,cO,bL,aR,a0,a1,a2,a3,a4,a5,c0,c1,c2,c3,c4,d0,d1,d1',g,gy,m3,em]
       ·simp [func9,f9,gB,dO,bQ,h1,h2,h3,h5,h6,dH,dA,cK,cO,bL,aR,a0,a1,a2,a3,a4,a5,c0,c1,c2,c3,c4,d0,d1,d1',g,gy,m3,t0]
      ·simp [func9,f9,gB,dO,bQ,h1,h2,h3,h5,h6,dH,dA,cK,cO,bL,aR,a0,a1,a2,a3,a4,a5,c0,c1,c2,c3,c4,d0,d1,d1',g,gy,m3,q0]
    ·simp
    ·intro j hj
     have hw:=bN (j+1) (by omega)
     have:=List.all_eq_true.1 g q[j] (List.getElem_mem hj)
     simp [hj,hw,aQ hj,aR,this]
   ·rw [aD (fun j=> .on ⟨[(109,V.v (.int .i64 ((j:Int)))),(108,V.v (.int .i64 ((q.length:Int)))),(107, .aL (some 4) (ints q)),(1, .ref 1 0)],[(1,[V.v (.bool vi),vI mode, .aL (some 0) (ints lt),vI la,vI cnt,vI op,vI zD,vI wt,vI 0,vI 0,vI last, .aL (some 1) (aC rp), .aL (some 2) (aG ul),vI A8, .aL (some 3) (ints ot),vI oa, .aL (some 4) (ints q),vI hit, .aL (some 5) (ints bt),vI ba])],[],[]⟩) N ?_ ?_]
    ·simp [hN,aQ hN,aR,g1,g,gB]
    ·simp
    ·intro j hj
     have hj':j<q.length:=by omega
     have hw:=bN (j+1) (by omega)
     simp [hj',hw,aQ hj',aR,g2 j hj' hj]
 ·skip
  cases f1:dh fr
  ·simp [func9,f9,gB,dO,bQ,h1,h2,h3,h5,h6,dH,dA,cK,cO,bL,aR,a0,a1,a2,a3,a4,a5,f0,f1]
  cases f2:iw fh 0 3
  ·simp [func9,f9,gB,dO,bQ,h1,h2,h3,h5,h6,dH,dA,cK,cO,bL,aR,a0,a1,a2,a3,a4,a5,f0,f1,f2]
  cases c0:iw last 0 3
  ·simp [func9,f9,gB,dO,bQ,h1,h2,h3,h5,h6,dH,dA,cK,cO,bL,aR,a0,a1,a2,a3,a4,a5,f0,f1,f2,c0]
  cases c1:iJ rp
  ·simp [func9,f9,gB,dO,bQ,h1,h2,h3,h5,h6,dH,dA,cK,cO,bL,aR,a0,a1,a2,a3,a4,a5,f0,f1,f2,c0,c1]
  cases c2:jS ul
  ·simp [func9,f9,gB,dO,bQ,h1,h2,h3,h5,h6,dH,dA,cK,cO,bL,aR,a0,a1,a2,a3,a4,a5,f0,f1,f2,c0,c1,c2]
  cases c3:iw A8 0 1000000060
  ·simp [func9,f9,gB,dO,bQ,h1,h2,h3,h5,h6,dH,dA,cK,cO,bL,aR,a0,a1,a2,a3,a4,a5,f0,f1,f2,c0,c1,c2,c3]
  cases c4:iw hit 0 1000000060
  ·simp [func9,f9,gB,dO,bQ,h1,h2,h3,h5,h6,dH,dA,cK,cO,bL,aR,a0,a1,a2,a3,a4,a5,f0,f1,f2,c0,c1,c2,c3,c4]
  by_cases d0:A8=0
  ·subst d0
   cases e0:qK ot oa
   ·simp [func9,f9,gB,dO,bQ,h1,h2,h3,h5,h6,dH,dA,cK,cO,bL,aR,a0,a1,a2,a3,a4,a5,f0,f1,f2,c0,c1,c2,c3,c4,e0]
   by_cases d1:q.length≤40
   rotate_left
   ·have d1':40<(q.length:Int):=by omega
    simp [func9,f9,gB,dO,bQ,h1,h2,h3,h5,h6,dH,dA,cK,cO,bL,aR,a0,a1,a2,a3,a4,a5,f0,f1,f2,c0,c1,c2,c3,c4,e0,d1,d1']
   have d1':¬(40<(q.length:Int)):=by omega
   simp [func9,f9,gB,dO,bQ,h1,h2,h3,h5,h6,dH,dA,cK,cO,bL,aR,a0,a1,a2,a3,a4,a5,f0,f1,f2,c0,c1,c2,c3,c4,e0,d1,d1']
   rcases j4 dh q with g|⟨g,N,hN,g1,g2⟩
   ·rw [aD (fun j=> .on ⟨[(109,V.v (.int .i64 ((j:Int)))),(108,V.v (.int .i64 ((q.length:Int)))),(107, .aL (some 4) (ints q)),(1, .ref 1 0)],[(1,[V.v (.bool vi),vI mode, .aL (some 0) (ints lt),vI la,vI cnt,vI op,vI zD,vI wt,vI fr,vI fh,vI last, .aL (some 1) (aC rp), .aL (some 2) (aG ul),vI 0, .aL (some 3) (ints ot),vI oa, .aL (some 4) (ints q),vI hit, .aL (some 5) (ints bt),vI ba])],[],[]⟩) q.length ?_ ?_]
    ·by_cases m3:mode=3
     ·simp [func9,f9,gB,dO,bQ,h1,h2,h3,h5,h6,dH,dA,cK,cO,bL,aR,a0,a1,a2,a3,a4,a5,f0,f1,f2,c0,c1,c2,c3,c4,e0,d1,d1',g,gy,m3]
     ·by_cases q0:q= []
      ·subst q0
       by_cases t0:hit=0
       ·subst t0;cases em:qK bt ba<;>simp [func9,f9,gB,dO,bQ,h1,h2,h3,h5,h6,dH,dA,cK,cO,bL,aR,a0,a1,a2,a3,a4,a5,f0,f1,f2,c0,c1,c2,c3,c4,e0,d1,d1',g,gy,m3,em]
       ·simp [func9,f9,gB,dO,bQ,h1,h2,h3,h5,h6,dH,dA,cK,cO,bL,aR,a0,a1,a2,a3,a4,a5,f0,f1,f2,c0,c1,c2,c3,c4,e0,d1,d1',g,gy,m3,t0]
      ·simp [func9,f9,gB,dO,bQ,h1,h2,h3,h5,h6,dH,dA,cK,cO,bL,aR,a0,a1,a2,a3,a4,a5,f0,f1,f2,c0,c1,c2,c3,c4,e0,d1,d1',g,gy,m3,q0]
    ·simp
    ·intro j hj
     have hw:=bN (j+1) (by omega)
     have:=List.all_eq_true.1 g q[j] (List.getElem_mem hj)
     simp [hj,hw,aQ hj,aR,this]
   ·rw [aD (fun j=> .on ⟨[(109,V.v (.int .i64 ((j:Int)))),(108,V.v (.int .i64 ((q.length:Int)))),(107, .aL (some 4) (ints q)),(1, .ref 1 0)],[(1,[V.v (.bool vi),vI mode, .aL (some 0) (ints lt),vI la,vI cnt,vI op,vI zD,vI wt,vI fr,vI fh,vI last, .aL (some 1) (aC rp), .aL (some 2) (aG ul),vI 0, .aL (some 3) (ints ot),vI oa, .aL (some 4) (ints q),vI hit, .aL (some 5) (ints bt),vI ba])],[],[]⟩) N ?_ ?_]
    ·simp [hN,aQ hN,aR,g1,g,gB]
    ·simp
    ·intro j hj
     have hj':j<q.length:=by omega
     have hw:=bN (j+1) (by omega)
     simp [hj',hw,aQ hj',aR,g2 j hj' hj]
  ·skip
   by_cases d1:q.length≤40
   rotate_left
   ·have d1':40<(q.length:Int):=by omega
    simp [func9,f9,gB,dO,bQ,h1,h2,h3,h5,h6,dH,dA,cK,cO,bL,aR,a0,a1,a2,a3,a4,a5,f0,f1,f2,c0,c1,c2,c3,c4,d0,d1,d1']
   have d1':¬(40<(q.length:Int)):=by omega
   simp [func9,f9,gB,dO,bQ,h1,h2,h3,h5,h6,dH,dA,cK,cO,bL,aR,a0,a1,a2,a3,a4,a5,f0,f1,f2,c0,c1,c2,c3,c4,d0,d1,d1']
   rcases j4 dh q with g|⟨g,N,hN,g1,g2⟩
   ·rw [aD (fun j=> .on ⟨[(109,V.v (.int .i64 ((j:Int)))),(108,V.v (.int .i64 ((q.length:Int)))),(107, .aL (some 4) (ints q)),(1, .ref 1 0)],[(1,[V.v (.bool vi),vI mode, .aL (some 0) (ints lt),vI la,vI cnt,vI op,vI zD,vI wt,vI fr,vI fh,vI last, .aL (some 1) (aC rp), .aL (some 2) (aG ul),vI A8, .aL (some 3) (ints ot),vI oa, .aL (some 4) (ints q),vI hit, .aL (some 5) (ints bt),vI ba])],[],[]⟩) q.length ?_ ?_]
    ·by_cases m3:mode=3
     ·simp [func9,f9,gB,dO,bQ,h1,h2,h3,h5,h6,dH,dA,cK,cO,bL,aR,a0,a1,a2,a3,a4,a5,f0,f1,f2,c0,c1,c2,c3,c4,d0,d1,d1',g,gy,m3]
     ·by_cases q0:q= []
      ·subst q0
       by_cases t0:hit=0
       ·subst t0;cases em:qK bt ba<;>simp [func9,f9,gB,dO,bQ,h1,h2,h3,h5,h6,dH,dA,cK,cO,bL,aR,a0,a1,a2,a3,a4,a5,f0,f1,f2,c0,c1,c2,c3,c4,d0,d1,d1',g,gy,m3,em]
       ·simp [func9,f9,gB,dO,bQ,h1,h2,h3,h5,h6,dH,dA,cK,cO,bL,aR,a0,a1,a2,a3,a4,a5,f0,f1,f2,c0,c1,c2,c3,c4,d0,d1,d1',g,gy,m3,t0]
      ·simp [func9,f9,gB,dO,bQ,h1,h2,h3,h5,h6,dH,dA,cK,cO,bL,aR,a0,a1,a2,a3,a4,a5,f0,f1,f2,c0,c1,c2,c3,c4,d0,d1,d1',g,gy,m3,q0]
    ·simp
    ·intro j hj
     have hw:=bN (j+1) (by omega)
     have:=List.all_eq_true.1 g q[j] (List.getElem_mem hj)
     simp [hj,hw,aQ hj,aR,this]
   ·rw [aD (fun j=> .on ⟨[(109,V.v (.int .i64 ((j:Int)))),(108,V.v (.int .i64 ((q.length:Int)))),(107, .aL (some 4) (ints q)),(1, .ref 1 0)],[(1,[V.v (.bool vi),vI mode, .aL (some 0) (ints lt),vI la,vI cnt,vI op,vI zD,vI wt,vI fr,vI fh,vI last, .aL (some 1) (aC rp), .aL (some 2) (aG ul),vI A8, .aL (some 3) (ints ot),vI oa, .aL (some 4) (ints q),vI hit, .aL (some 5) (ints bt),vI ba])],[],[]⟩) N ?_ ?_]
    ·simp [hN,aQ hN,aR,g1,g,gB]
    ·simp
    ·intro j hj
     have hj':j<q.length:=by omega
     have hw:=bN (j+1) (by omega)
     simp [hj',hw,aQ hj',aR,g2 j hj' hj]
def dw.ok (e:dw):Bool:=gB e.Vi e.bR e.au.av e.au.At e.bA e.Op e.bH e.eY e.dN e.bG e.iA e.aM.aA e.eO.bP e.jT e.gG.av e.gG.At e.bI e.kV e.bT.av e.bT.At
structure dw.sm (e:dw):Prop where
 h1:e.au.av.length≤1000000000
 h2:e.gG.av.length≤1000000000
 h3:e.bT.av.length≤1000000000
 h4:e.bI.length≤1000000000
 h5:sG (aC e.aM.aA)=true
 h6:sG (aG e.eO.bP)=true
theorem Fa {l:List dL}(h:iJ l=true):sG (aC l)=true:=by
 simp only [iJ,Bool.and_eq_true,decide_eq_true_eq]at h
 refine Pj (by simp;omega) fun j r e=>?_
 have hj:j<l.length:=by have:=(List.getElem?_eq_some_iff.1 e).1;simpa using this
 rw [dZ hj]at e
 injection e with e;subst e
 have:=List.all_eq_true.1 h.1 l[j] (List.getElem_mem hj)
 simp only [uZ,eT,Bool.and_eq_true,decide_eq_true_eq]at this
 simp only [oW,uO,E5,Bool.and_true]
 exact kQ (by omega)
theorem NM {l:List fH}(h:jS l=true):sG (aG l)=true:=by
 simp only [jS,Bool.and_eq_true,decide_eq_true_eq]at h
 refine Pj (by simp;omega) fun j r e=>?_
 have hj:j<l.length:=by have:=(List.getElem?_eq_some_iff.1 e).1;simpa using this
 rw [dX hj]at e
 injection e with e;subst e
 have:=List.all_eq_true.1 h.1 l[j] (List.getElem_mem hj)
 simp only [E8,bV,eT,Bool.and_eq_true,decide_eq_true_eq]at this
 simp only [oW,uO,E5,Js,Bool.and_true]
 exact kQ (by omega)
theorem dw.TA {e:dw}(h:e.ok=true):e.sm:=by
 simp only [dw.ok,gB,Bool.and_eq_true,decide_eq_true_eq]at h
 obtain⟨a1,a2,a3,a4,a5,a6,a7,a8,a9,a10,a11,a12,a13,a14,a15,a16⟩:=h
 have len:∀{l:List Int} {a:Int},bV l a=true→l.length≤1000000000:=fun h=>by
  simp only [bV,eT,Bool.and_eq_true,decide_eq_true_eq]at h;omega
 exact⟨len a1,len a2,len a3,by omega,Fa a9,NM a10⟩
theorem aiI {l:List Int}{a:Int}(h:atEnd l a=false):l= []∨(l≠ []∧¬a=l.length):=by
 cases l with
 | nil=>exact .inl rfl
 | cons x l=>exact .inr ⟨by simp,by simpa [atEnd] using h⟩
theorem agt {l:List Int}{a:Int}(h:atEnd l a=true):0<l.length∧a=l.length:=by
 simpa [atEnd,List.length_pos_iff] using h
theorem dD (vi:Bool)(mode:Int)(lt:List Int)(la cnt op zD wt fr fh last:Int)(rp:List dL)(ul:List fH)(A8:Int)(ot:List Int)(oa:Int)(q:List Int)(hit:Int)(bt:List Int)(ba:Int):Gp [.agg [V.v (.bool vi),vI mode, .aL (some 0) (ints lt),vI la,vI cnt,vI op,vI zD,vI wt,vI fr,vI fh,vI last, .aL (some 1) (aC rp), .aL (some 2) (aG ul),vI A8, .aL (some 3) (ints ot),vI oa, .aL (some 4) (ints q),vI hit, .aL (some 5) (ints bt),vI ba]] [] []=some ⟨V.v (.bool (fQ vi mode lt la op zD wt&&gy mode q hit bt ba)),[],[]⟩:=by
 unfold Gp
 by_cases m2:mode=2
 ·subst m2
  cases vi
  ·simp [func135,f135,fQ,gy,aJ,aU,aO]
  cases hA:atEnd lt la
  ·rcases aiI hA with e|⟨e,e2⟩
   ·subst e
    by_cases q0:q= []
    ·subst q0
     by_cases t0:hit=0
     ·subst t0
      cases em:qK bt ba
      ·simp [func135,f135,fQ,gy,aJ,aU,aO,hA,em]
      by_cases o0:op=0
      ·subst o0
       by_cases k0:zD=0
       ·subst k0
        by_cases w0:wt=0
        ·subst w0
         simp [func135,f135,fQ,gy,aJ,aU,aO,hA,em]
        ·skip
         cases hW:yh wt<;>simp [func135,f135,fQ,gy,aJ,aU,aO,hA,em,w0,hW]
       ·skip
        by_cases w0:wt=0
        ·subst w0
         simp [func135,f135,fQ,gy,aJ,aU,aO,hA,em,k0]
        ·skip
         cases hW:yh wt<;>simp [func135,f135,fQ,gy,aJ,aU,aO,hA,em,k0,w0,hW]
      ·skip
       cases hO:opC op
       ·simp [func135,f135,fQ,gy,aJ,aU,aO,hA,em,o0,hO]
       by_cases w0:wt=0
       ·subst w0
        simp [func135,f135,fQ,gy,aJ,aU,aO,hA,em,o0,hO]
       ·skip
        cases hW:yh wt<;>simp [func135,f135,fQ,gy,aJ,aU,aO,hA,em,o0,hO,w0,hW]
     ·skip
      simp [func135,f135,fQ,gy,aJ,aU,aO,hA,t0]
    ·have q1:0<q.length:=List.length_pos_iff.2 q0
     simp [func135,f135,fQ,gy,aJ,aU,aO,hA,q0,q1]
   ·have e3:0<lt.length:=List.length_pos_iff.2 e
    by_cases q0:q= []
    ·subst q0
     by_cases t0:hit=0
     ·subst t0
      cases em:qK bt ba
      ·simp [func135,f135,fQ,gy,aJ,aU,aO,hA,e,e2,e3,em]
      by_cases o0:op=0
      ·subst o0
       by_cases k0:zD=0
       ·subst k0
        by_cases w0:wt=0
        ·subst w0
         simp [func135,f135,fQ,gy,aJ,aU,aO,hA,e,e2,e3,em]
        ·skip
         cases hW:yh wt<;>simp [func135,f135,fQ,gy,aJ,aU,aO,hA,e,e2,e3,em,w0,hW]
       ·skip
        by_cases w0:wt=0
        ·subst w0
         simp [func135,f135,fQ,gy,aJ,aU,aO,hA,e,e2,e3,em,k0]
        ·skip
         cases hW:yh wt<;>simp [func135,f135,fQ,gy,aJ,aU,aO,hA,e,e2,e3,em,k0,w0,hW]
      ·skip
       cases hO:opC op
       ·simp [func135,f135,fQ,gy,aJ,aU,aO,hA,e,e2,e3,em,o0,hO]
       by_cases w0:wt=0
       ·subst w0
        simp [func135,f135,fQ,gy,aJ,aU,aO,hA,e,e2,e3,em,o0,hO]
       ·skip
        cases hW:yh wt<;>simp [func135,f135,fQ,gy,aJ,aU,aO,hA,e,e2,e3,em,o0,hO,w0,hW]
     ·skip
      simp [func135,f135,fQ,gy,aJ,aU,aO,hA,e,e2,e3,t0]
    ·have q1:0<q.length:=List.length_pos_iff.2 q0
     simp [func135,f135,fQ,gy,aJ,aU,aO,hA,e,e2,e3,q0,q1]
  ·obtain⟨e1,e2⟩:=agt hA
   subst e2
   simp [func135,f135,fQ,gy,aJ,aU,aO,hA,e1]
 by_cases m0:mode=0
 ·subst m0
  cases vi
  ·skip
   by_cases o0:op=0
   ·subst o0
    by_cases k0:zD=0
    ·subst k0
     by_cases w0:wt=0
     ·subst w0
      by_cases q0:q= []
      ·subst q0
       by_cases t0:hit=0
       ·subst t0
        cases em:qK bt ba
        ·simp [func135,f135,fQ,gy,aJ,aU,aO,em]
        simp [func135,f135,fQ,gy,aJ,aU,aO,em]
       ·skip
        simp [func135,f135,fQ,gy,aJ,aU,aO,t0]
      ·have q1:0<q.length:=List.length_pos_iff.2 q0
       simp [func135,f135,fQ,gy,aJ,aU,aO,q0,q1]
     ·skip
      simp [func135,f135,fQ,gy,aJ,aU,aO,w0]
    ·skip
     simp [func135,f135,fQ,gy,aJ,aU,aO,k0]
   ·skip
    simp [func135,f135,fQ,gy,aJ,aU,aO,o0]
  ·simp [func135,f135,fQ,gy,aJ,aU,aO]
 by_cases m1:mode=1
 ·subst m1
  cases vi
  ·simp [func135,f135,fQ,gy,aJ,aU,aO]
  ·skip
   by_cases o0:op=0
   ·subst o0
    by_cases k0:zD=0
    ·subst k0
     by_cases w0:wt=0
     ·subst w0
      by_cases q0:q= []
      ·subst q0
       by_cases t0:hit=0
       ·subst t0
        cases em:qK bt ba
        ·simp [func135,f135,fQ,gy,aJ,aU,aO,em]
        simp [func135,f135,fQ,gy,aJ,aU,aO,em]
       ·skip
        simp [func135,f135,fQ,gy,aJ,aU,aO,t0]
      ·have q1:0<q.length:=List.length_pos_iff.2 q0
       simp [func135,f135,fQ,gy,aJ,aU,aO,q0,q1]
     ·skip
      simp [func135,f135,fQ,gy,aJ,aU,aO,w0]
    ·skip
     simp [func135,f135,fQ,gy,aJ,aU,aO,k0]
   ·skip
    simp [func135,f135,fQ,gy,aJ,aU,aO,o0]
 by_cases m3:mode=3
 ·subst m3
  cases vi
  ·skip
   by_cases o0:op=0
   ·subst o0
    by_cases k0:zD=0
    ·subst k0
     by_cases w0:wt=0
     ·subst w0
      simp [func135,f135,fQ,gy,aJ,aU,aO]
     ·skip
      simp [func135,f135,fQ,gy,aJ,aU,aO,w0]
    ·skip
     simp [func135,f135,fQ,gy,aJ,aU,aO,k0]
   ·skip
    simp [func135,f135,fQ,gy,aJ,aU,aO,o0]
  ·skip
   by_cases o0:op=0
   ·subst o0
    by_cases k0:zD=0
    ·subst k0
     by_cases w0:wt=0
     ·subst w0
      simp [func135,f135,fQ,gy,aJ,aU,aO]
     ·skip
      simp [func135,f135,fQ,gy,aJ,aU,aO,w0]
    ·skip
     simp [func135,f135,fQ,gy,aJ,aU,aO,k0]
   ·skip
    simp [func135,f135,fQ,gy,aJ,aU,aO,o0]
 by_cases ml:mode<0
 ·simp [func135,f135,fQ,gy,aJ,aU,aO,m0,m1,m2,m3,ml]
 ·have mh:3<mode:=by omega
  simp [func135,f135,fQ,gy,aJ,aU,aO,m0,m1,m2,m3,ml,mh]
theorem lg (l:List Int)(i:Option Nat)(h:l.length≤1000000):jZ [.aL i (ints l)] [] []=some ⟨.own 0,[],[(0,ints l)]⟩:=by
 have g1:l.length*8≤140737488355328:=by omega
 have g2:l.length≤4611686018427387904:=by omega
 simp [jZ,func98,f98,g1,g2]
theorem j5 (l:List Int)(i:Option Nat)(a:Int)(h:l.length≤1000000):kZ [.agg [.aL i (ints l),vI a]] [] []=some ⟨.agg [.own 0,vI a],[],[(0,ints l)]⟩:=by
 have e:=lg l (some 0) h
 simp [kZ,func100,f100,e]
theorem Jy (l:List dL)(i:Option Nat)(h:l.length≤1000)(hp:∀p∈l,p.av.length≤2000):wN [.agg [.aL i (aC l)]] [] []=some ⟨.agg [.own 0],[],[(0,aC l)]⟩:=by
 simp [wN,func142,f142]
 rw [aD (fun k=> .on ⟨[(9,V.v (.int .i64 ((k:Int)))),(8,V.v (.int .i64 ((l.length:Int)))),(7, .aL i (aC l)),(3, .ref 3 0),(2, .ref 2 0)],[(3,[.own 2000000000]),(2,[.own 2000000001])],[(2000000001,[]),(2000000000,aC (l.take k))],[]⟩) l.length ?_ ?_]
 ·simp
 ·simp [show aC []= []from rfl]
 ·intro k hk
  have hw:=bN ((k:Int)+1) (by omega)
  have hq:=hp l[k] (List.getElem_mem hk)
  have e:=lg l[k].av (some 0) (by omega)
  have g3:min k l.length=k:=by omega
  have g4:(k+1)*24≤140737488355328:=by omega
  have g5:k≤4611686018427387903:=by omega
  have g6:aC (l.take (k+1))=aC (l.take k)++ [[.l (ints l[k].av)]]:=by rw [FH,←List.take_succ_eq_append_getElem hk]
  simp [hk,hw,e,g3,g4,g5,g6]
theorem DN (l:List fH)(i:Option Nat)(h:l.length≤1000)(hp:∀p∈l,p.av.length≤2000):wO [.agg [.aL i (aG l)]] [] []=some ⟨.agg [.own 0],[],[(0,aG l)]⟩:=by
 simp [wO,func143,f143]
 rw [aD (fun k=> .on ⟨[(9,V.v (.int .i64 ((k:Int)))),(8,V.v (.int .i64 ((l.length:Int)))),(7, .aL i (aG l)),(3, .ref 3 0),(2, .ref 2 0)],[(3,[.own 2000000000]),(2,[.own 2000000001])],[(2000000001,[]),(2000000000,aG (l.take k))],[]⟩) l.length ?_ ?_]
 ·simp
 ·simp [show aG []= []from rfl]
 ·intro k hk
  have hw:=bN ((k:Int)+1) (by omega)
  have hq:=hp l[k] (List.getElem_mem hk)
  have e:=j5 l[k].av (some 0) l[k].At (by omega)
  have g3:min k l.length=k:=by omega
  have g4:(k+1)*32≤140737488355328:=by omega
  have g5:k≤4611686018427387903:=by omega
  have g6:aG (l.take (k+1))=aG (l.take k)++ [[.l (ints l[k].av),D.a (.int .i64 (l[k].At))]]:=by rw [wI,←List.take_succ_eq_append_getElem hk]
  simp [hk,hw,e,g3,g4,g5,g6]
structure Oy (e:dw):Prop where
 line:e.au.av.length≤2000
 own:e.gG.av.length≤2000
 back:e.bT.av.length≤2000
 query:e.bI.length≤2000
 ring:e.aM.aA.length≤1000∧∀p∈e.aM.aA,p.av.length≤2000
 undo:e.eO.bP.length≤1000∧∀p∈e.eO.bP,p.av.length≤2000
theorem Fb (e:dw)(h:Oy e):jo [gL e] [] []=some ⟨gO e,[],hO e⟩:=by
 have e1:=j5 e.au.av (some 0) e.au.At (by have:=h.line;omega)
 have e2:=j5 e.gG.av (some 0) e.gG.At (by have:=h.own;omega)
 have e3:=j5 e.bT.av (some 0) e.bT.At (by have:=h.back;omega)
 have e4:=Jy e.aM.aA (some 0) h.ring.1 h.ring.2
 have e5:=DN e.eO.bP (some 0) h.undo.1 h.undo.2
 have e6:=lg e.bI (some 0) (by have:=h.query;omega)
 simp [jo,func74,f74,e1,e2,e3,e4,e5,e6]
theorem zF (e:dw)(h:Oy e)(last:Int):rC [gL e,vI last] [] []=some ⟨.agg [V.v (.bool e.Vi),vI e.bR, .own 0,vI e.au.At,vI 0,vI 0,vI 0,vI 0,vI e.dN,vI e.bG,vI last, .own 1, .own 2,vI e.jT, .own 3,vI e.gG.At, .own 4,vI e.kV, .own 5,vI e.bT.At],[],(hO e)⟩:=by
 have e1:=Fb e h
 simp [rC,func171,f171,e1]
theorem NP (e:dw)(h:Oy e):kr [gL e] [] []=some ⟨.fU [.agg [V.v (.bool e.Vi),vI e.bR, .own 0,vI e.au.At,vI 0,vI 0,vI 0,vI 0,vI e.dN,vI e.bG,vI 0, .own 1, .own 2,vI e.jT, .own 3,vI e.gG.At, .own 4,vI e.kV, .own 5,vI e.bT.At],vI 1],[],(hO e)⟩:=by
 have e1:=zF e h 0
 simp [kr,func96,f96,e1]
theorem NQ (e:dw)(ok:e.ok=true):Bo [gL e] [] []=some ⟨V.v (.bool true),[],[]⟩:=by
 have hsm:=dw.TA ok
 have hE:=afa e.Vi e.bR e.au.av e.au.At e.bA e.Op e.bH e.eY e.dN e.bG e.iA e.aM.aA e.eO.bP e.jT e.gG.av e.gG.At e.bI e.kV e.bT.av e.bT.At hsm.h1 hsm.h2 hsm.h3 hsm.h4 hsm.h5 hsm.h6
 rw [hE]
 have:gB e.Vi e.bR e.au.av e.au.At e.bA e.Op e.bH e.eY e.dN e.bG e.iA e.aM.aA e.eO.bP e.jT e.gG.av e.gG.At e.bI e.kV e.bT.av e.bT.At=true:=ok
 rw [this]
theorem Oy.of {e:dw}(ok:e.ok=true):Oy e:=by
 simp only [dw.ok,gB,Bool.and_eq_true,decide_eq_true_eq]at ok
 obtain⟨a1,a2,a3,a4,a5,a6,a7,a8,a9,a10,a11,a12,a13,a14,a15,a16⟩:=ok
 have len:∀{l:List Int} {a:Int},bV l a=true→l.length≤400:=fun h=>by
  simp only [bV,eT,Bool.and_eq_true,decide_eq_true_eq]at h;exact h.1.1
 simp only [iJ,jS,Bool.and_eq_true,decide_eq_true_eq]at a9 a10
 refine⟨by have:=len a1;omega,by have:=len a2;omega,by have:=len a3;omega,by omega,⟨by omega,fun p hp=>?_⟩,by omega,fun p hp=>?_⟩
 ·have:=List.all_eq_true.1 a9.1 p hp
  simp only [uZ,eT,Bool.and_eq_true,decide_eq_true_eq]at this;omega
 ·have:=List.all_eq_true.1 a10.1 p hp
  simp only [E8]at this
  have:=len this;omega
theorem U8 (t:List Int)(a mode:Int)(h:¬mode=2):kJ [.agg [.aL (some 0) (ints t),vI a],vI mode] [] []=some ⟨.agg [.aL (some 0) (ints t),vI a],[],[]⟩:=by
 simp [kJ,func176,f176,h]
theorem agu (s:ByteArray)(t:List Int)(h:Reads s.data.toList t [])(ht:eT t=true)(hs:s.size≤65536):wR [V.v (.string s)] [] []=some ⟨.fU [.agg [.own 0,vI (t.length:Int)],V.v (.bool true)],[],[(0,ints t)]⟩:=by
 have e1:=Mk s t [] h hs
 have hl:t.length≤400:=by simp only [eT,Bool.and_eq_true,decide_eq_true_eq]at ht;exact ht.1
 have e2:=bQ t t.length (by omega)
 have q:bV t t.length=true:=by
  unfold bV
  rw [ht,bC.2 (by omega)];rfl
 rw [q]at e2
 simp [wR,func232,f232,e1,e2]
theorem reads_nil:Reads (⟨#[]⟩:ByteArray).data.toList [] []:=⟨rfl,(fun _ h=>nomatch h),rfl⟩
theorem adl (e e':dw)(f AB:Int)(l:List ByteArray)(h:dQ [gL e,aH f l,vI AB] [] []=some ⟨.fU [.agg [V.v (.bool e'.Vi),vI e'.bR, .own 0,vI e'.au.At,vI e'.bA,vI e'.Op,vI e'.bH,vI e'.eY,vI e'.dN,vI e'.bG,vI e'.iA, .own 1, .own 2,vI e'.jT, .own 3,vI e'.gG.At, .own 4,vI e'.kV, .own 5,vI e'.bT.At],V.v (.bool true)],[],[(0,ints e'.au.av),(1,aC e'.aM.aA),(2,aG e'.eO.bP),(3,ints e'.gG.av),(4,ints e'.bI),(5,ints e'.bT.av)]⟩):
  Bq [gL e,aH f l,vI AB] [] []=some ⟨.fU [.agg [V.v (.bool e'.Vi),vI e'.bR, .own 0,vI e'.au.At,vI e'.bA,vI e'.Op,vI e'.bH,vI e'.eY,vI e'.dN,vI e'.bG,vI e'.iA, .own 1, .own 2,vI e'.jT, .own 3,vI e'.gG.At, .own 4,vI e'.kV, .own 5,vI e'.bT.At],vI 0],[],[(0,ints e'.au.av),(1,aC e'.aM.aA),(2,aG e'.eO.bP),(3,ints e'.gG.av),(4,ints e'.bI),(5,ints e'.bT.av)]⟩:=by
 simp [Bq,func155,f155,h]
theorem adn (e:dw)(hb:Oy e)(f AB:Int)(l:List ByteArray)(h:dQ [gL e,aH f l,vI AB] [] []=some ⟨.fU [.agg [V.v (.bool false),vI 0, .own 0,vI 0,vI 0,vI 0,vI 0,vI 0,vI 0,vI 0,vI 0, .own 1, .own 2,vI 0, .own 3,vI 0, .own 4,vI 0, .own 5,vI 0],V.v (.bool false)],[],[(0,[]),(1,[]),(2,[]),(3,[]),(4,[]),(5,[])]⟩):
  Bq [gL e,aH f l,vI AB] [] []=some ⟨.fU [.agg [V.v (.bool e.Vi),vI e.bR, .own 0,vI e.au.At,vI 0,vI 0,vI 0,vI 0,vI e.dN,vI e.bG,vI 0, .own 1, .own 2,vI e.jT, .own 3,vI e.gG.At, .own 4,vI e.kV, .own 5,vI e.bT.At],vI 1],[],(hO e)⟩:=by
 have e1:=NP e hb
 simp [Bq,func155,f155,h,e1]
theorem Po:∀(a b:List Int),a.length=b.length→a=b∨∃N,∃h:N<a.length,∃h':N<b.length,a[N]≠b[N]∧∀j (hj:j<a.length) (hj':j<b.length),j<N→a[j]=b[j]
 | [],[],_=> .inl rfl
 | x::a,y::b,h=>by
  by_cases e:x=y
  ·subst e
   rcases Po a b (by simpa using h)with h1|⟨N,h1,h2,h3,h4⟩
   ·exact .inl (by rw [h1])
   ·refine .inr ⟨N+1,by simp;exact h1,by simp;exact h2,by simpa using h3,fun j hj hj' hjN=>?_⟩
    cases j with
    | zero=>rfl
    | succ j=>simpa using h4 j (by simpa using hj) (by simpa using hj') (by omega)
  ·exact .inr ⟨0,by simp,by simp,by simpa using e,fun j _ _ hj=>by omega⟩
theorem DR (a b:List Int)(ha:a.length≤1000000)(hb:b.length≤1000000):wP [.aL (some 0) (ints a), .aL (some 1) (ints b)] [] []=some ⟨V.v (.bool (decide (a=b))),[],[]⟩:=by
 unfold wP
 by_cases hl:a.length=b.length
 ·have hli:(a.length:Int)=b.length:=by omega
  simp [func220,f220,hl,hli]
  rcases Po a b hl with h|⟨N,h1,h2,h3,h4⟩
  ·subst h
   rw [aD (fun j=> .on ⟨[(13,V.v (.int .i64 ((j:Int)))),(12,V.v (.int .i64 ((a.length:Int)))),(1, .aL (some 1) (ints a)),(0, .aL (some 0) (ints a))],[],[],[]⟩) a.length ?_ ?_]
   ·simp
   ·simp
   ·intro j hj
    have hw:=bN ((j:Int)+1) (by omega)
    simp [hj,hw,aQ hj]
  ·have hab:¬a=b:=fun e=>by subst e;exact h3 rfl
   rw [aD (fun j=> .on ⟨[(13,V.v (.int .i64 ((j:Int)))),(12,V.v (.int .i64 ((b.length:Int)))),(1, .aL (some 1) (ints b)),(0, .aL (some 0) (ints a))],[],[],[]⟩) N ?_ ?_]
   ·simp [h1,h2,aQ h1,aQ h2,h3,hab]
   ·simp
   ·intro j hj
    have j1:j<a.length:=by omega
    have j2:j<b.length:=by omega
    have hw:=bN ((j:Int)+1) (by omega)
    simp [j1,j2,hw,aQ j1,aQ j2,h4 j j1 j2 hj]
 ·have hli:¬(a.length:Int)=b.length:=by omega
  have hab:¬a=b:=fun e=>hl (by rw [e])
  simp [func220,f220,hl,hli,hab]
theorem vL (t:List Int)(i:Option Nat)(a at_:Int)(h:t.length≤1000000):rD [.agg [.aL i (ints t),vI a],vI at_] [] []=some ⟨.agg [.own 0,vI (max 0 (min at_ t.length))],[],[(0,ints t)]⟩:=by
 have e:=lg t (some 0) h
 simp [rD,func154,f154,e]
def cutAt (a from_ nk:Int):Int:=if nk≤a then a-(nk-from_)else if from_<a then from_ else a
theorem CS (t:List Int)(a:Int)(h:bV t a=true)(f nk:Nat)(h1:f≤nk)(h2:nk≤t.length):tO [.agg [.aL (some 0) (ints t),vI a],vI (f:Int),vI (nk:Int)] [] []=some ⟨.fU [.agg [.own 0,vI (cutAt a f nk)], .own 1,V.v (.bool true)],[],[(0,ints (t.take f++t.drop nk)),(1,ints ((t.drop f).take (nk-f)))]⟩:=by
 have hl:t.length≤400:=by simp only [bV,eT,Bool.and_eq_true,decide_eq_true_eq]at h;exact h.1.1
 have ha:0≤a∧a≤t.length:=by simp only [bV,Bool.and_eq_true]at h;exact RQ h.2
 have e1:=bQ t a (by omega)
 rw [h]at e1
 have e2:zm [.agg [.aL (some 0) (ints t),vI a],vI (f:Int),vI (nk:Int)] [] []=some ⟨V.v (.bool true),[],[]⟩:=by
  have q1:(f:Int)≤nk:=by omega
  have q2:(nk:Int)≤t.length:=by omega
  simp [zm,func222,f222,e1,q1,q2]
 have e3:=lg (t.take f) (some 0) (by simp;omega)
 have e4:=lg ((t.drop f).take (nk-f)) (some 0) (by simp;omega)
 have q0:f≤t.length:=by omega
 have q1:(f:Int)≤nk:=by omega
 have q2:(nk:Int)≤t.length:=by omega
 have q3:(f:Int)≤t.length:=by omega
 have q4:(min f t.length+(t.length-nk))*8≤140737488355328:=by omega
 have q5:min f t.length+(t.length-nk)≤4611686018427387904:=by omega
 have q6:min f t.length=f:=by omega
 have q7:(f+(t.length-nk))*8≤140737488355328:=by omega
 have q8:f+(t.length-nk)≤4611686018427387904:=by omega
 have q9:(t.drop nk).take (t.length-nk)=t.drop nk:=List.take_of_length_le (by simp)
 have w1:=bN ((nk:Int)-f) (by omega)
 have w2:=bN (a-((nk:Int)-f)) (by omega)
 generalize hE:tO _ _ _=R
 unfold tO at hE
 unfold cutAt
 by_cases c1:(nk:Int)≤a
 ·simp [-ak,←ak,func164,f164,e2,e3,e4,q0,q1,q2,q3,q4,q5,q6,q7,q8,q9,w1,w2,c1,h1,h2]at hE
  rw [if_pos c1]
  exact hE.symm
 ·by_cases c2:(f:Int)<a
  ·simp [-ak,←ak,func164,f164,e2,e3,e4,q0,q1,q2,q3,q4,q5,q6,q7,q8,q9,c1,c2,h1,h2]at hE
   rw [if_neg c1,if_pos c2]
   exact hE.symm
  ·simp [-ak,←ak,func164,f164,e2,e3,e4,q0,q1,q2,q3,q4,q5,q6,q7,q8,q9,c1,c2,h1,h2]at hE
   rw [if_neg c1,if_neg c2]
   exact hE.symm
theorem xq {l:List dL}(h:iJ l=true):l.length≤6∧∀p∈l,0<p.av.length∧p.av.length≤400∧p.av.all iE=true:=by
 simp only [iJ,Bool.and_eq_true,decide_eq_true_eq]at h
 refine⟨h.2,fun p hp=>?_⟩
 have:=List.all_eq_true.1 h.1 p hp
 simp only [uZ,eT,Bool.and_eq_true,decide_eq_true_eq]at this
 exact⟨this.1,this.2.1,this.2.2⟩
theorem aaS {l:List dL}{t:List Int}(h:iJ l=true)(ht:eT t=true)(h0:t≠ []):iJ ((⟨t⟩::l).take 6)=true:=by
 simp only [iJ,Bool.and_eq_true,decide_eq_true_eq]at h⊢
 refine⟨List.all_eq_true.2 fun p hp=>?_,by simp;omega⟩
 rcases List.mem_cons.1 (List.mem_of_mem_take hp)with rfl|hp
 ·simp [uZ,ht,List.length_pos_iff.2 h0]
 ·exact List.all_eq_true.1 h.1 p hp
theorem GJ (l:List dL)(h:iJ l=true):pJ [.agg [.aL (some 0) (aC l)]] [] []=some ⟨.own 0,[],[(0,ints ((l.head?.map (·.av)).getD []))]⟩:=by
 obtain⟨hl,hp⟩:=xq h
 have e1:=cK l (Fa h)
 rw [h]at e1
 unfold pJ
 cases l with
 | nil=>
  simp only [show aC []= []from rfl]at e1⊢
  simp [func219,f219,e1,aZ]
 | cons p l=>
  have e2:=lg p.av (some 0) (by have:=(hp p (by simp)).2.1;omega)
  have hn:¬(l.length:Int)+1=0:=by omega
  rw [iL]at e1⊢
  simp [func219,f219,e1,e2,hn]
theorem aiJ {l:List fH}(h:jS l=true):∀p∈l,bV p.av p.At=true:=by
 simp only [jS,Bool.and_eq_true,decide_eq_true_eq]at h
 intro p hp
 have:=List.all_eq_true.1 h.1 p hp
 simpa [E8] using this
def TB (t:List Int)(a:Int):Int:=if atEnd t a=true then a-1 else a
theorem U9 (t:List Int)(a:Int)(ha:0≤a∧a≤1000):kJ [.agg [.aL (some 0) (ints t),vI a],vI 2] [] []=some ⟨.agg [.aL (some 0) (ints t),vI (TB t a)],[],[]⟩:=by
 have e1:=wo t a
 have w:=bN (a-1) (by omega)
 unfold kJ TB
 cases h:atEnd t a
 ·rw [h]at e1
  simp [func176,f176,e1]
 ·rw [h]at e1
  simp [func176,f176,e1,w]
structure aok (e:dw):Prop where
 b:Oy e
 mode:e.bR=2
 line:bV e.au.av e.au.At=true
 undo:jS e.eO.bP=true∧e.eO.bP.length≤19
theorem fF (a n:Int):oF [vI a,vI n] [] []=some ⟨vI (max 0 (min a n)),[],[]⟩:=by
 simp [oF,func162,f162]
theorem eU (r:Int):vU [vI r] [] []=some ⟨V.v (.bool (iw r 65 90)),[],[]⟩:=by
 simp [vU,func223,f223,dH]
theorem fK (r:Int):tN [vI r] [] []=some ⟨V.v (.bool (iw r 97 122)),[],[]⟩:=by
 simp [tN,func141,f141,dH]
theorem lV (r:Int):CB [vI r] [] []=some ⟨V.v (.bool (iw r 48 57)),[],[]⟩:=by
 simp [CB,func159,f159,dH]
def ou (l:List dL)(t:List Int)(how:Int):List dL:=
 if t= []then l else match l with
 | []=> [⟨t⟩]
 | p::r=>if how=0∨400<p.av.length+t.length then(⟨t⟩::p::r).take 6 else if how=1 then⟨p.av++t⟩::r else⟨t++p.av⟩::r
theorem GK {l:List dL}{t:List Int}(h:iJ l=true)(ht:eT t=true)(how:Int):iJ (ou l t how)=true:=by
 unfold ou
 by_cases h0:t= []
 ·rw [if_pos h0];exact h
 rw [if_neg h0]
 cases l with
 | nil=>exact aaS h ht h0
 | cons p r=>
  simp only
  have hp:eT p.av=true∧iJ r=true∧r.length≤5:=by
   simp only [iJ,List.all_cons,uZ,Bool.and_eq_true,decide_eq_true_eq,List.length_cons]at h⊢
   exact⟨h.1.1.2,⟨h.1.2,by omega⟩,by omega⟩
  by_cases h1:how=0∨400<p.av.length+t.length
  ·rw [if_pos h1];exact aaS h ht h0
  rw [if_neg h1]
  have key:∀x:List Int,eT x=true→x≠ []→iJ (⟨x⟩::r)=true:=fun x hx h0=>by
   have hr:=hp.2.1
   simp only [iJ,List.all_cons,uZ,Bool.and_eq_true,decide_eq_true_eq,List.length_cons]at hr⊢
   exact⟨⟨⟨List.length_pos_iff.2 h0,hx⟩,hr.1⟩,by omega⟩
  have ht':=ht
  have hp':=hp.1
  simp only [eT,Bool.and_eq_true,decide_eq_true_eq]at ht' hp'
  have hl:p.av.length+t.length≤400:=by omega
  split
  ·exact key _ (by simp only [eT,List.length_append,List.all_append,Bool.and_eq_true,decide_eq_true_eq];exact⟨hl,hp'.2,ht'.2⟩) (by simp [h0])
  ·exact key _ (by simp only [eT,List.length_append,List.all_append,Bool.and_eq_true,decide_eq_true_eq];exact⟨by omega,ht'.2,hp'.2⟩) (by simp [h0])
theorem TD (l:List dL)(t:List Int)(how:Int)(h:iJ l=true)(ht:eT t=true)(hw:0≤how∧how≤2):zn [.agg [.aL (some 0) (aC l)], .aL (some 1) (ints t),vI how] [] []=some ⟨.fU [.agg [.own 0],V.v (.bool true)],[],[(0,aC (ou l t how))]⟩:=by
 obtain⟨hl,hp⟩:=xq h
 have htl:t.length≤400:=by simp only [eT,Bool.and_eq_true,decide_eq_true_eq]at ht;exact ht.1
 have e1:=cK l (Fa h)
 rw [h]at e1
 have e2:=qL t (by omega)
 rw [ht]at e2
 have e3:=Jy l (some 0) (by omega) (fun p hq=>by have:=(hp p hq).2.1;omega)
 have e4:=lg t (some 0) (by omega)
 have q1:iw how 0 2=true:=bC.2 hw
 have q2:iw 0 0 2=true:=by decide
 have q3:iw 1 0 2=true:=by decide
 generalize hE:zn _ _ _=R
 unfold zn at hE
 by_cases h0:t= []
 ·subst h0
  unfold ou
  rw [if_pos rfl]
  simp only [show ints []= []from rfl]at hE e2
  simp [func166,f166,e1,e2,e3,e4,dH,q1]at hE
  exact hE.symm
 unfold ou
 rw [if_neg h0]
 have hn:¬(t.length:Int)=0:=by have:=List.length_pos_iff.2 h0;omega
 cases l with
 | nil=>
  simp only [show aC []= []from rfl]at hE e1 e3
  have rf:dU ([]:List (List D))=true:=rfl
  rw [show aC [⟨t⟩]= [[.l (ints t)]]from rfl]
  by_cases hc1:how=0
  ·simp [func166,f166,e1,e2,e3,e4,dH,q1,q2,q3,h0,rf,hc1]at hE
   exact hE.symm
  ·simp [func166,f166,e1,e2,e3,e4,dH,q1,q2,q3,h0,rf,hc1]at hE
   exact hE.symm
 | cons p l=>
  have hll:l.length≤5:=by simpa using hl
  have hpl:=(hp p (by simp)).2.1
  have hn0:¬(l.length:Int)+1=0:=by omega
  have wl:=bN ((p.av.length:Int)+t.length) (by omega)
  have rf:dU (aC (p::l))=false:=by simp [iL,dU,tq]
  simp only
  by_cases hc:how=0∨400<p.av.length+t.length
  ·rw [if_pos hc]
   have g3:(1+(l.length+1))*24≤140737488355328:=by omega
   have g4:1+(l.length+1)≤4611686018427387904:=by omega
   have hc':how=0∨¬how=0∧(400:Int)<(p.av.length:Int)+t.length:=by omega
   by_cases h6:l.length=5
   ·have m76:min (7:Int) 6=6:=by decide
    rcases hc' with hc'|⟨hc',hc2⟩
    ·simp [func166,f166,e1,e2,e3,e4,dH,q1,q2,q3,h0,h6,m76,rf,hc']at hE
     exact hE.symm
    ·rw [iL]at e1 e3
     simp [func166,f166,e1,e2,e3,e4,dH,q1,q2,q3,h0,h6,m76,rf,hc',hc2,hn0,wl,iL]at hE
     exact hE.symm
   ·have h6i:¬(6:Int)≤(l.length:Int)+1+1∨(l.length:Int)+1+1=6:=by omega
    have h6m:min ((l.length:Int)+1+1) 6=(l.length:Int)+1+1:=by omega
    have h6t:l.take 4=l:=List.take_of_length_le (by omega)
    have h6n:((l.length:Int)+1+1).toNat=l.length+2:=by omega
    have h6p:0≤(l.length:Int)+1+1:=by omega
    rw [show List.take 6 (⟨t⟩::p::l)=⟨t⟩::p::l.take 4 from rfl,h6t]
    rcases hc' with hc'|⟨hc',hc2⟩
    ·simp [func166,f166,e1,e2,e3,e4,dH,q1,q2,q3,h0,g3,g4,h6m,h6n,h6p,rf,hc']at hE
     exact hE.symm
    ·rw [iL]at e1 e3
     simp [func166,f166,e1,e2,e3,e4,dH,q1,q2,q3,h0,g3,g4,h6m,h6n,h6p,rf,hc',hc2,hn0,wl,iL]at hE
     exact hE.symm
  ·rw [if_neg hc]
   have hc1:¬how=0:=fun e=>hc (.inl e)
   have hc2:¬(400:Int)<(p.av.length:Int)+t.length:=by omega
   have g3:(p.av.length+t.length)*8≤140737488355328:=by omega
   have g4:p.av.length+t.length≤4611686018427387904:=by omega
   have g5:(t.length+p.av.length)*8≤140737488355328:=by omega
   have g6:t.length+p.av.length≤4611686018427387904:=by omega
   by_cases hc3:how=1
   ·rw [if_pos hc3]
    rw [iL]at e1 e3
    simp [func166,f166,e1,e2,e3,e4,dH,q1,q2,q3,h0,rf,hc3,hc2,wl,iL,hn0,g3,g4]at hE
    rw [iL,ak]
    exact hE.symm
   ·rw [if_neg hc3]
    rw [iL]at e1 e3
    simp [func166,f166,e1,e2,e3,e4,dH,q1,q2,q3,h0,rf,hc1,hc3,hc2,wl,iL,hn0,g5,g6]at hE
    rw [iL,ak]
    exact hE.symm
def BA (l:List fH)(x:fH):List fH:=
 if l.getLast?.map (·.av)=some x.av then l else if l.length=20 then l.drop 1++ [x]else l++ [x]
theorem pW {l:List fH}(h:jS l=true):l.length≤20∧∀p∈l,bV p.av p.At=true:=by
 refine⟨?_,aiJ h⟩
 simp only [jS,Bool.and_eq_true,decide_eq_true_eq]at h
 omega
theorem Yn {l:List fH}(h:l.length≤20)(hp:∀p∈l,bV p.av p.At=true):jS l=true:=by
 simp only [jS,Bool.and_eq_true,decide_eq_true_eq]
 exact⟨List.all_eq_true.2 fun p hq=>by simpa [E8] using hp p hq,by omega⟩
theorem ado {l:List fH}{x:fH}(h:jS l=true)(hx:bV x.av x.At=true):jS (BA l x)=true:=by
 obtain⟨h1,h2⟩:=pW h
 unfold BA
 split
 ·exact h
 ·split
  ·refine Yn (by simp;omega) fun p hp=>?_
   rcases List.mem_append.1 hp with hp|hp
   ·exact h2 p (List.mem_of_mem_drop hp)
   ·rw [List.mem_singleton.1 hp];exact hx
  ·refine Yn (by simp;omega) fun p hp=>?_
   rcases List.mem_append.1 hp with hp|hp
   ·exact h2 p hp
   ·rw [List.mem_singleton.1 hp];exact hx
theorem bU {t:List Int}{a:Int}(h:bV t a=true):t.length≤400∧t.all iE=true∧0≤a∧a≤t.length:=by
 simp only [bV,eT,Bool.and_eq_true,decide_eq_true_eq]at h
 have:=bC.1 h.2
 exact⟨h.1.1,h.1.2,this.1,this.2⟩
theorem WY {l:List fH}(h0:l≠ []){t:List Int}{a:Int}:List.take l.length (aG l++ [[.l (ints t),D.a (.int .i64 a)]]).tail=aG (l.drop 1++ [⟨t,a⟩]):=by
 obtain⟨x,r,rfl⟩:=List.exists_cons_of_ne_nil h0
 rw [Zl,List.cons_append,List.tail_cons,show aG r++ [[.l (ints t),D.a (.int .i64 a)]]=aG (r++ [⟨t,a⟩])from wI r ⟨t,a⟩]
 exact List.take_of_length_le (by simp)
theorem adp (l:List fH)(t:List Int)(a:Int)(h:jS l=true)(ht:bV t a=true):Cz [.agg [.aL (some 0) (aG l)], .agg [.aL (some 1) (ints t),vI a]] [] []=some ⟨.fU [.agg [.own 0],V.v (.bool true)],[],[(0,aG (BA l ⟨t,a⟩))]⟩:=by
 obtain⟨hl,hp⟩:=pW h
 have htl:=(bU ht).1
 have e1:=cO l (NM h)
 rw [h]at e1
 have e2:=bQ t a (by omega)
 rw [ht]at e2
 have e3:=DN l (some 0) (by omega) (fun p hq=>by have:=(bU (hp p hq)).1;omega)
 have e4:=j5 t (some 0) a (by omega)
 have e6:aG (l++ [⟨t,a⟩])=aG l++ [[.l (ints t),D.a (.int .i64 a)]]:=(wI l ⟨t,a⟩).symm
 have g1:(l.length+1)*32≤140737488355328:=by omega
 have g2:l.length+1≤4611686018427387904:=by omega
 have g4:l.length≤4611686018427387903:=by omega
 generalize hE:Cz _ _ _=R
 unfold Cz at hE
 unfold BA
 by_cases h0:l= []
 ·subst h0
  simp only [show aG []= []from rfl]at hE e1 e3
  simp [func226,f226,e1,e2,e3,e4]at hE
  exact hE.symm
 ·have hlen:0<l.length:=List.length_pos_iff.2 h0
  have hj:l.length-1<l.length:=by omega
  have hq:=(bU (hp l[l.length-1] (List.getElem_mem hj))).1
  have e5:=DR l[l.length-1].av t (by omega) (by omega)
  have w:=bN ((l.length:Int)-1) (by omega)
  have k1:0≤(l.length:Int)-1:=by omega
  have k2:(l.length:Int)-1<l.length:=by omega
  have k3:((l.length:Int)-1).toNat=l.length-1:=by omega
  have k4:(0:Int)<l.length:=by omega
  have k5:1≤(l.length:Int):=by omega
  have hlast:l.getLast?.map (·.av)=some l[l.length-1].av:=by rw [List.getLast?_eq_getElem?,List.getElem?_eq_getElem hj];rfl
  simp only [hlast,Option.some.injEq]
  by_cases hs:l[l.length-1].av=t
  ·rw [decide_eq_true hs]at e5
   rw [if_pos hs]
   simp [func226,f226,e1,e2,e3,e4,e5,w,k1,k2,k3,k4,k5,hj,hlen,dX hj]at hE
   exact hE.symm
  ·rw [decide_eq_false hs]at e5
   rw [if_neg hs]
   by_cases h20:l.length=20
   ·rw [if_pos h20]
    have g3:(20:Int)<(l.length:Int)+1:=by omega
    have g5:(1:Int)≤(l.length:Int)+1:=by omega
    have g6:wid 2 (aG l++ [[.l (ints t),D.a (.int .i64 a)]])=true:=by rw [←e6];exact RU _
    have g7:(1:Int)<(l.length:Int)+1:=by omega
    simp [func226,f226,e1,e2,e3,e4,e5,w,k1,k2,k3,k4,k5,hj,hlen,dX hj,g1,g2,g3,g4,g5,g6,g7]at hE
    rw [←hE,WY h0]
   ·rw [if_neg h20,e6]
    have g3:¬(20:Int)<(l.length:Int)+1:=by omega
    simp [func226,f226,e1,e2,e3,e4,e5,w,k1,k2,k3,k4,k5,hj,hlen,dX hj,g1,g2,g3,g4]at hE
    exact hE.symm
theorem aaT (l:List fH)(h:jS l=true)(h0:l≠ []):tT [.agg [.aL (some 0) (aG l)]] [] []=some ⟨.fU [.agg [.own 0], .agg [.own 1,vI ((l.getLast h0).At)],V.v (.bool true)],[],[(0,aG l.dropLast),(1,ints (l.getLast h0).av)]⟩:=by
 obtain⟨hl,hp⟩:=pW h
 have e1:=cO l (NM h)
 rw [h]at e1
 have hlen:0<l.length:=List.length_pos_iff.2 h0
 have hj:l.length-1<l.length:=by omega
 have hq:=(bU (hp l[l.length-1] (List.getElem_mem hj))).1
 have e3:=DN l.dropLast (some 0) (by simp;omega) (fun p hq=>by have:=(bU (hp p (List.dropLast_subset _ hq))).1;omega)
 have e3':=DN l.dropLast none (by simp;omega) (fun p hq=>by have:=(bU (hp p (List.dropLast_subset _ hq))).1;omega)
 have e4:=j5 l[l.length-1].av (some 0) l[l.length-1].At (by omega)
 have w:=bN ((l.length:Int)-1) (by omega)
 have k1:0≤(l.length:Int)-1:=by omega
 have k2:(l.length:Int)-1<l.length:=by omega
 have k3:((l.length:Int)-1).toNat=l.length-1:=by omega
 have k4:(0:Int)<l.length:=by omega
 have k5:1≤(l.length:Int):=by omega
 have k6:(l.length:Int)-1≤l.length:=by omega
 have k7:¬l.length=0:=by omega
 have k8:l.take (l.length-1)=l.dropLast:=(List.dropLast_eq_take ..).symm
 rw [List.getLast_eq_getElem]
 generalize hE:tT _ _ _=R
 simp [tT,func227,f227,e1,e3,e3',e4,w,k1,k2,k3,k4,k5,k6,k7,k8,h0,hj,dX hj]at hE
 exact hE.symm
theorem TF:tT [.agg [.aL (some 0) (aG [])]] [] []=some ⟨.fU [.agg [.own 0], .agg [.own 1,vI 0],V.v (.bool false)],[],[(0,[]),(1,[])]⟩:=by
 have e1:=cO [] rfl
 simp only [show jS []=true from rfl,show aG []= []from rfl]at e1⊢
 simp [tT,func227,f227,e1]
def jq (mode:Int)(t:List Int)(a:Int):Int:=if mode=2 then TB t a else a
theorem yj (t:List Int)(a mode:Int)(ha:0≤a∧a≤1000):kJ [.agg [.aL (some 0) (ints t),vI a],vI mode] [] []=some ⟨.agg [.aL (some 0) (ints t),vI (jq mode t a)],[],[]⟩:=by
 unfold jq
 by_cases h:mode=2
 ·rw [if_pos h,h];exact U9 t a ha
 ·rw [if_neg h];exact U8 t a mode h
def sS (e:dw)(t:List Int)(last:Int):List fH:=if t=e.au.av∨(last=1∧e.iA=1)then e.eO.bP else BA e.eO.bP e.au
theorem Jz {e:dw}(h:e.ok=true):bV e.au.av e.au.At=true∧iJ e.aM.aA=true∧jS e.eO.bP=true:=by
 simp only [dw.ok,gB,Bool.and_eq_true,decide_eq_true_eq]at h
 exact⟨h.1,h.2.2.2.2.2.2.2.2.1,h.2.2.2.2.2.2.2.2.2.1⟩
theorem adq {e:dw}(ok:e.ok=true)(t:List Int)(last:Int):jS (sS e t last)=true:=by
 obtain⟨h1,h2,h3⟩:=Jz ok
 unfold sS
 split
 ·exact h3
 ·exact ado h3 h1
theorem adr (e:dw)(ok:e.ok=true)(t:List Int)(a last:Int)(ht:t.length≤400)(ha:0≤a∧a≤t.length):AO [gL e, .agg [.aL (some 6) (ints t),vI a],vI last] [] []=some ⟨.agg [V.v (.bool e.Vi),vI e.bR, .own 0,vI (jq e.bR t a),vI 0,vI 0,vI 0,vI 0,vI e.dN,vI e.bG,vI last, .own 1, .own 2,vI e.jT, .own 3,vI e.gG.At, .own 4,vI e.kV, .own 5,vI e.bT.At],[],[(0,ints t),(1,aC e.aM.aA),(2,aG (sS e t last)),(3,ints e.gG.av),(4,ints e.bI),(5,ints e.bT.av)]⟩:=by
 obtain⟨h1,h2,h3⟩:=Jz ok
 have e1:=zF e (Oy.of ok) last
 have hel:=(bU h1).1
 have e2:=DR t e.au.av (by omega) (by omega)
 have e3:=adp e.eO.bP e.au.av e.au.At h3 h1
 have e4:=j5 t (some 0) a (by omega)
 have e5:=yj t a e.bR (by omega)
 generalize hE:AO _ _ _=R
 unfold AO at hE
 unfold sS
 by_cases hs:t=e.au.av
 ·rw [decide_eq_true hs]at e2
  rw [if_pos (.inl hs)]
  simp [func165,f165,e1,e2,e4,e5]at hE
  exact hE.symm
 ·rw [decide_eq_false hs]at e2
  by_cases hl:last=1
  ·subst hl
   by_cases hl2:e.iA=1
   ·rw [if_pos (.inr ⟨rfl,hl2⟩)]
    simp only [gL,gO,hO,hl2]at e1 hE
    simp [func165,f165,e1,e2,e4,e5]at hE
    exact hE.symm
   ·rw [if_neg (by simp [hs,hl2])]
    simp [func165,f165,e1,e2,e3,e4,e5,hl2]at hE
    exact hE.symm
  ·rw [if_neg (by simp [hs,hl])]
   simp [func165,f165,e1,e2,e3,e4,e5,hl]at hE
   exact hE.symm
theorem alB (e:dw)(ok:e.ok=true)(t:List Int)(a:Int)(ht:t.length≤400)(ha:0≤a∧a≤t.length):vT [gL e, .agg [.aL (some 6) (ints t),vI a]] [] []=some ⟨.fU [.agg [V.v (.bool e.Vi),vI e.bR, .own 0,vI (jq e.bR t a),vI 0,vI 0,vI 0,vI 0,vI e.dN,vI e.bG,vI 0, .own 1, .own 2,vI e.jT, .own 3,vI e.gG.At, .own 4,vI e.kV, .own 5,vI e.bT.At],vI 0],[],[(0,ints t),(1,aC e.aM.aA),(2,aG (sS e t 0)),(3,ints e.gG.av),(4,ints e.bI),(5,ints e.bT.av)]⟩:=by
 have e1:=adr e ok t a 0 ht ha
 simp [vT,func153,f153,e1]
theorem akb (e:dw)(ok:e.ok=true)(h0:e.eO.bP≠ []):zM [gL e] [] []=some ⟨.fU [.agg [V.v (.bool e.Vi),vI e.bR, .own 0,V.v (.int .i64 (jq e.bR (e.eO.bP.getLast h0).av (e.eO.bP.getLast h0).At)),vI 0,vI 0,vI 0,vI 0,vI e.dN,vI e.bG,vI 0, .own 1, .own 2,vI e.jT, .own 3,vI e.gG.At, .own 4,vI e.kV, .own 5,vI e.bT.At],vI 0],[],[(0,ints ((e.eO.bP.getLast h0).av)),(1,aC e.aM.aA),(2,aG e.eO.bP.dropLast),(3,ints e.gG.av),(4,ints e.bI),(5,ints e.bT.av)]⟩:=by
 obtain⟨h1,h2,h3⟩:=Jz ok
 have e1:=aaT e.eO.bP h3 h0
 have e2:=zF e (Oy.of ok) 0
 have hx:=bU ((pW h3).2 _ (List.getLast_mem h0))
 have e5:=yj (e.eO.bP.getLast h0).av (e.eO.bP.getLast h0).At e.bR (by omega)
 generalize e.eO.bP.getLast h0=x at*
 generalize hE:zM _ _ _=R
 simp [zM,func169,f169,e1,e2,e5]at hE
 exact hE.symm
theorem ads (e:dw)(ok:e.ok=true)(h0:e.eO.bP= []):zM [gL e] [] []=some ⟨.fU [.agg [V.v (.bool e.Vi),vI e.bR, .own 0,vI e.au.At,vI 0,vI 0,vI 0,vI 0,vI e.dN,vI e.bG,vI 0, .own 1, .own 2,vI e.jT, .own 3,vI e.gG.At, .own 4,vI e.kV, .own 5,vI e.bT.At],vI 1],[],(hO e)⟩:=by
 have e1:=TF
 have e2:=NP e (Oy.of ok)
 rw [←h0]at e1
 generalize hE:zM _ _ _=R
 simp [zM,func169,f169,e1,e2]at hE
 exact hE.symm
def BD (e:dw)(how:Int):Int:=if e.iA=2 then how else 0
theorem akc (e:dw)(ok:e.ok=true)(f nk:Nat)(how:Int)(hw:0≤how∧how≤2)(h1:f<nk)(h2:nk≤e.au.av.length):qz [gL e,vI (f:Int),vI (nk:Int),vI how] [] []=
   some ⟨.fU [.agg [V.v (.bool e.Vi),vI e.bR, .own 0,V.v (.int .i64 (jq e.bR (e.au.av.take f++e.au.av.drop nk) (cutAt e.au.At f nk))),vI 0,vI 0,vI 0,vI 0,vI e.dN,vI e.bG,vI 2, .own 1, .own 2,vI e.jT, .own 3,vI e.gG.At, .own 4,vI e.kV, .own 5,vI e.bT.At],vI 0],[],
    [(0,ints (e.au.av.take f++e.au.av.drop nk)),(1,aC (ou e.aM.aA ((e.au.av.drop f).take (nk-f)) (BD e how))),(2,aG (sS e (e.au.av.take f++e.au.av.drop nk) 2)),(3,ints e.gG.av),(4,ints e.bI),(5,ints e.bT.av)]⟩:=by
 obtain⟨o1,o2,o3⟩:=Jz ok
 have hl:=bU o1
 have e1:=CS e.au.av e.au.At o1 f nk (by omega) h2
 have hg0:(e.au.av.drop f).take (nk-f)≠ []:=fun e=>by have:=congrArg List.length e;simp at this;omega
 have hgo:eT ((e.au.av.drop f).take (nk-f))=true:=by
  simp only [eT,Bool.and_eq_true,decide_eq_true_eq]
  refine⟨by simp;omega,List.all_eq_true.2 fun x hx=>List.all_eq_true.1 hl.2.1 x (List.mem_of_mem_drop (List.mem_of_mem_take hx))⟩
 have e3:=TD e.aM.aA ((e.au.av.drop f).take (nk-f)) (BD e how) o2 hgo (by unfold BD;split<;>omega)
 have hxl:(e.au.av.take f++e.au.av.drop nk).length=f+(e.au.av.length-nk):=by simp;omega
 generalize (e.au.av.drop f).take (nk-f)=gone at*
 generalize e.au.av.take f++e.au.av.drop nk=X at*
 have hca:0≤cutAt e.au.At f nk∧cutAt e.au.At f nk≤X.length:=by
  unfold cutAt
  split
  ·omega
  ·split<;>omega
 have e5:=adr e ok X (cutAt e.au.At f nk) 2 (by omega) hca
 have hgn:¬(gone.length:Int)=0:=by have:=List.length_pos_iff.2 hg0;omega
 generalize hE:qz _ _ _=R
 unfold qz at hE
 unfold BD at*
 by_cases hk:e.iA=2
 ·rw [if_pos hk]at e3⊢
  simp only [gL,gO,hO,hk]at e5 hE
  simp [-ak,func94,f94,e1,e3,e5,hgn,hg0]at hE
  exact hE.symm
 ·rw [if_neg hk]at e3⊢
  simp [-ak,func94,f94,e1,e3,e5,hgn,hg0,hk]at hE
  exact hE.symm
theorem adt (e:dw)(ok:e.ok=true)(f:Nat)(how:Int)(h2:f≤e.au.av.length):qz [gL e,vI (f:Int),vI (f:Int),vI how] [] []=some ⟨.fU [.agg [V.v (.bool e.Vi),vI e.bR, .own 0,vI e.au.At,vI 0,vI 0,vI 0,vI 0,vI e.dN,vI e.bG,vI 0, .own 1, .own 2,vI e.jT, .own 3,vI e.gG.At, .own 4,vI e.kV, .own 5,vI e.bT.At],vI 1],[],(hO e)⟩:=by
 obtain⟨o1,o2,o3⟩:=Jz ok
 have e1:=CS e.au.av e.au.At o1 f f (by omega) h2
 have e2:=NP e (Oy.of ok)
 have hz:(e.au.av.drop f).take (f-f)= []:=by simp
 rw [hz]at e1
 simp only [show ints []= []from rfl]at e1
 generalize hE:qz _ _ _=R
 simp [qz, -ak,func94,f94,e1,e2]at hE
 exact hE.symm
end Go.Proofs.YtlpdjhiggpblcaaGreat
