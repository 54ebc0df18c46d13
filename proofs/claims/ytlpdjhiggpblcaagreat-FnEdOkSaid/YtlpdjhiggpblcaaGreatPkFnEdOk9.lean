/- Part 9 of a proof in several texts (an abstract evaluator, what the functions compute). -/
import Derived.Test.YtlpdjhiggpblcaaGreatPkFnEdOk8
open Go.Proofs.Tryz
namespace Go.Proofs.YtlpdjhiggpblcaaGreat
open Go.RowKit
mutual
def bnD (B:Nat):D→Bool
 | .a _=>true
 | .l rows=>decide (rows.length≤B)&&bnT B rows
 | .gone=>false
def bnR (B:Nat):List D→Bool
 | []=>true
 | d::r=>bnD B d&&bnR B r
def bnT (B:Nat):List (List D)→Bool
 | []=>true
 | r::rows=>bnR B r&&bnT B rows
end
def bnL (B:Nat)(rows:List (List D)):Bool:=decide (rows.length≤B)&&bnT B rows
abbrev smL (rows:List (List D)):Bool:=bnL 1000000000 rows
abbrev smR (r:List D):Bool:=bnR 1000000000 r
variable {B:Nat}
@[simp] theorem Yp (v:Value):bnD B (.a v)=true:=id rfl
@[simp] theorem QI (rows:List (List D)):bnD B (.l rows)=bnL B rows:=id rfl
@[simp] theorem FB:bnR B []=true:=id rfl
@[simp] theorem zD (d:D)(r:List D):bnR B (d::r)=(bnD B d&&bnR B r):=id rfl
@[simp] theorem ajz:bnL B []=true:=by simp [bnL,bnT]
theorem LM {rows:List (List D)}(h:bnL B rows=true):rows.length≤B:=by
 unfold bnL at h;rw [Bool.and_eq_true,decide_eq_true_eq]at h;exact h.1
theorem afG:∀{rows:List (List D)} {j:Nat} {r:List D},bnT B rows=true→rows[j]?=some r→bnR B r=true
 | [],j,r,_,e=>by simp at e
 | x::rows,j,r,h,e=>by
  have h:(bnR B x&&bnT B rows)=true:=h
  rw [Bool.and_eq_true]at h
  cases j with
  | zero=>simp at e;subst e;exact h.1
  | succ j=>exact afG h.2 (by simpa using e)
theorem afH:∀{rows:List (List D)},(∀(j:Nat) (r:List D),rows[j]?=some r→bnR B r=true)→bnT B rows=true
 | [],_=>rfl
 | x::rows,h=>by
  show(bnR B x&&bnT B rows)=true
  rw [h 0 x rfl,afH fun j r e=>h (j+1) r (by simpa using e)];rfl
theorem ahZ {rows:List (List D)}{j:Nat}{r:List D}(h:bnL B rows=true)(e:rows[j]?=some r):bnR B r=true:=by
 unfold bnL at h;rw [Bool.and_eq_true]at h;exact afG h.2 e
theorem aaK {rows:List (List D)}(hl:rows.length≤B)(h:∀(j:Nat) (r:List D),rows[j]?=some r→bnR B r=true):bnL B rows=true:=by
 unfold bnL;rw [afH h,decide_eq_true hl];rfl
theorem O6 {rows:List (List D)}(h:smL rows=true):rows.length≤1000000000:=LM h
theorem VN {rows:List (List D)}{j:Nat}{r:List D}(h:smL rows=true)(e:rows[j]?=some r):smR r=true:=ahZ h e
theorem Yq:∀{rows:List (List D)},dN rows=true→bnT B rows=true
 | [],_=>rfl
 | r::rows,h=>by
  have h:(r.all sF&&dN rows)=true:=h
  rw [Bool.and_eq_true]at h
  have:∀l:List D,l.all sF=true→bnR B l=true:=by
   intro l;induction l with
   | nil=>intro _;rfl
   | cons d l ih=>
    intro h
    rw [List.all_cons,Bool.and_eq_true]at h
    rw [zD,ih h.2]
    cases d with
    | a v=>rfl
    | l rows=>cases h.1
    | gone=>cases h.1
  show(bnR B r&&bnT B rows)=true
  rw [this r h.1,Yq h.2];rfl
theorem afI {rows:List (List D)}(h:dN rows=true)(hl:rows.length≤B):bnL B rows=true:=by
 unfold bnL;rw [Yq h,decide_eq_true hl];rfl
theorem QJ {l:List Int}(h:l.length≤B):bnL B (ints l)=true:=afI (acN l) (by simpa using h)
end Go.Proofs.YtlpdjhiggpblcaaGreat
namespace Go.Proofs.YtlpdjhiggpblcaaGreat
set_option linter.unusedSectionVars false
set_option linter.unusedSimpArgs false
set_option linter.unusedVariables false
open Go.RowKit
set_option maxHeartbeats 4000000
set_option maxRecDepth 10000
def lV (r:Int):Bool:=gY r 0 1114111&& !gY r 55296 57343
def bS (r:Int):Bool:=lV r&&decide (32≤r)&& !gY r 127 159
def fP (r:Int):Bool:=bS r||r==9||r==10
theorem nJ {α:Type}(p:α→Bool)(l:List α):l.all p=true∨(l.all p=false∧∃N,∃h:N<l.length,p l[N]=false∧∀j (hj:j<l.length),j<N→p l[j]=true):=by
 induction l with
 | nil=>exact .inl rfl
 | cons x l ih=>
  cases hx:p x
  ·exact .inr ⟨by simp [hx],0,by simp,hx,fun j hj h=>by omega⟩
  ·rcases ih with h|⟨h,N,hN,h1,h2⟩
   ·exact .inl (by simp [hx,h])
   ·refine .inr ⟨by simp [hx,h],N+1,by simpa using hN,by simpa using h1,fun j hj hlt=>?_⟩
    cases j with
    | zero=>simpa using hx
    | succ j=>simpa using h2 j (by simpa using hj) (by omega)
theorem AX (r:Int):DZ [vI r] [] []=some ⟨V.v (.bool (lV r)),[],[]⟩:=by
 unfold DZ
 cases h1:gY r 0 1114111<;>cases h2:gY r 55296 57343<;>simp [func122,f122,dQ,lV,h1,h2]
theorem AY (r:Int):DW [vI r] [] []=some ⟨V.v (.bool (lV r)),[],[]⟩:=by
 unfold DW
 by_cases h1:0≤r<;>by_cases h2:r≤1114111<;>by_cases h3:r<55296<;>by_cases h4:57343<r<;>simp [func148,f148,lV,gY,h1,h2,h3,h4]<;>omega
theorem aQ (r:Int):oQ [vI r] [] []=some ⟨V.v (.bool (bS r)),[],[]⟩:=by
 unfold oQ
 cases h1:lV r<;>by_cases h3:32≤r<;>cases h2:gY r 127 159<;>simp [func44,f44,dQ,AX,bS,h1,h2,h3]
theorem aZ (r:Int):oP [vI r] [] []=some ⟨V.v (.bool (bS r)),[],[]⟩:=by
 unfold oP
 cases h1:lV r<;>by_cases h3:32≤r<;>by_cases h4:r<127<;>by_cases h5:159<r<;>simp [func87,f87,AY,bS,gY,h1,h3,h4,h5]<;>omega
theorem sj (r:Int):yT [vI r] [] []=some ⟨V.v (.bool (fP r)),[],[]⟩:=by
 unfold yT
 by_cases h3:r=9
 ·subst h3;cases h1:bS 9<;>simp [func209,f209,aQ,fP,h1]
 by_cases h4:r=10
 ·subst h4;cases h1:bS 10<;>simp [func209,f209,aQ,fP,h1]
 cases h1:bS r<;>simp [func209,f209,aQ,fP,h1,h3,h4]
theorem Ig (r:Int):Cr [vI r] [] []=some ⟨V.v (.bool (fP r)),[],[]⟩:=by
 unfold Cr
 by_cases h3:r=9
 ·subst h3;cases h1:bS 9<;>simp [func271,f271,aZ,fP,h1]
 by_cases h4:r=10
 ·subst h4;cases h1:bS 10<;>simp [func271,f271,aZ,fP,h1]
 cases h1:bS r<;>simp [func271,f271,aZ,fP,h1,h3,h4]
theorem Ih (l:List Int)(hl:l.length≤1000000000):tq [.aP (some 0) (ints l)] [] []=some ⟨V.v (.bool (l.all fP)),[],[]⟩:=by
 simp [tq,func213,f213]
 rcases nJ fP l with h|⟨h,N,hN,h1,h2⟩
 ·rw [aJ (fun j=> .on ⟨[(7,V.v (.int .i64 ((j:Int)))),(6,V.v (.int .i64 ((l.length:Int)))),(5, .aP (some 0) (ints l))],[],[],[]⟩) l.length ?_ ?_]
  ·simp [h]
  ·simp
  ·intro j hj
   have hw:=bM (j+1) (by omega)
   have:=List.all_eq_true.1 h l[j] (List.getElem_mem hj)
   simp [hj,hw,aO hj,Ig,this]
 ·rw [aJ (fun j=> .on ⟨[(7,V.v (.int .i64 ((j:Int)))),(6,V.v (.int .i64 ((l.length:Int)))),(5, .aP (some 0) (ints l))],[],[],[]⟩) N ?_ ?_]
  ·simp [h,hN,h1,aO hN,Ig]
  ·simp
  ·intro j hj
   have hj':j<l.length:=by omega
   have hw:=bM (j+1) (by omega)
   simp [hj',hw,aO hj',Ig,h2 j hj' hj]
set_option maxHeartbeats 8000000
theorem Ec {f:Q→Option (Ex×Q)}{s:Q}{R:Option (Ex×Q)}(hL:uM f s=R){σ:Type}(st:Nat→σ→Q)(n:Nat)(I:Nat→σ→Prop)(a0:σ)(h0:s=st 0 a0)(i0:I 0 a0)
  (hs:∀j a,j<n→I j a→∃b,I (j+1) b∧f (st j a)=some (.normal,st (j+1) b)):∃a,I n a∧K3 f (f (st n a))=R:=by
 have key:∀k,k≤n→∃a,I k a∧uM f (st k a)=R:=by
  intro k
  induction k with
  | zero=>intro _;exact⟨a0,i0,by rw [←h0];exact hL⟩
  | succ k ih=>
   intro hk
   obtain⟨a,ha,e⟩:=ih (by omega)
   obtain⟨b,hb,e2⟩:=hs k a (by omega) ha
   rw [bL,e2,Aa]at e
   exact⟨b,hb,e⟩
 obtain⟨a,ha,e⟩:=key n (Nat.le_refl _)
 exact⟨a,ha,by rw [←bL];exact e⟩
theorem QK (A m:Nat)(hm:m<9223372036854775808):0≤IntKind.i64.wrap ((A &&& m:Nat):Int)∧IntKind.i64.wrap ((A &&& m:Nat):Int)≤m:=by
 have h:A &&& m≤m:=Nat.and_le_right
 rw [bM _ (by omega)]
 omega
theorem VO:IntKind.i64.bits=64:=rfl
def fH (b:List UInt8)(i h:Int):List V:= [.aP (some 0) (nK b),vI i,vI h]
theorem aaL (b:List UInt8)(hb:b.length≤1048576):∃h,DV [.aP (some 0) (nK b)] [] []=some ⟨.ref 0 0,[fH b 0 h],[]⟩:=by
 generalize hE:DV [.aP (some 0) (nK b)] [] []=R
 unfold DV at hE
 have w0:=bM (600128+(b.length:Int)) (by omega)
 simp [func29,f29,VO,w0]at hE
 generalize hL:uM _ _=L at hE
 obtain⟨h, -,e⟩:=Ec hL (σ:=Int) (fun j h=> .on ⟨[(4,V.v (.int .i64 ((j:Int)))),(3,V.v (.int .i64 h)),(0, .aP (some 0) (nK b))],[],[],[]⟩) (min b.length 4000) (fun _ _=>True) (600128+(b.length:Int)) (by simp) trivial (fun j h hj _=>by
  have h1:j<b.length:=by omega
  have h2:(j:Int)<4000:=by omega
  have hw:=bM (j+1) (by omega)
  simp [h1,h2,hw,dU h1,VO])
 subst e
 by_cases h1:b.length≤4000
 ·have h2:min b.length 4000=b.length:=by omega
  rw [h2]at hE
  simp at hE
  exact⟨h,hE.symm⟩
 ·have h2:min b.length 4000=4000:=by omega
  have h3:4000<b.length:=by omega
  have h4:(4000:Int)<b.length:=by omega
  rw [h2]at hE
  simp [h3,h4]at hE
  exact⟨h,hE.symm⟩
theorem CB (b:List UInt8)(i h:Int)(hb:b.length≤1048576)(hi:0≤i∧i≤b.length):∃x i' h',Bn [.ref 0 0] [fH b i h] []=some ⟨vI x,[fH b i' h'],[]⟩∧(0≤x∧x≤255)∧0≤i'∧i'≤b.length:=by
 obtain⟨k,rfl⟩:=Int.eq_ofNat_of_zero_le hi.1
 generalize hE:Bn [.ref 0 0] [fH b k h] []=R
 unfold Bn fH at hE
 by_cases h1:k<b.length
 ·have hw:=bM ((k:Int)+1) (by omega)
  simp [func144,f144,h1,VO,dU h1,hw]at hE
  exact⟨_,_,_,hE.symm,QK _ 255 (by omega),by omega,by omega⟩
 ·simp [func144,f144,h1,VO]at hE
  exact⟨_,_,_,hE.symm,QK _ 255 (by omega),hi⟩
theorem bD (b:List UInt8)(i h n:Int)(hb:b.length≤1048576)(hi:0≤i∧i≤b.length)(hn:0<n):∃x i' h',jv [.ref 0 0,vI n] [fH b i h] []=some ⟨vI x,[fH b i' h'],[]⟩∧(0≤x∧x<n)∧0≤i'∧i'≤b.length:=by
 have h0:¬n≤0:=by omega
 have hn0:¬n=0:=by omega
 have tm:∀x:Int,0≤x→0≤x.tmod n∧x.tmod n<n:=fun x hx=>⟨Int.tmod_nonneg n hx,Int.tmod_lt_of_pos x hn⟩
 obtain⟨x1,i1,h1,e1,r1,j1⟩:=CB b i h hb hi
 unfold fH at e1
 unfold jv fH
 by_cases h2:n≤256
 ·refine⟨x1.tmod n,i1,h1,?_,tm x1 r1.1,j1⟩
  simp [func77,f77,h0,hn0,h2,e1]
 ·obtain⟨x2,i2,h2',e2,r2,j2⟩:=CB b i1 h1 hb j1
  obtain⟨x3,i3,h3,e3,r3,j3⟩:=CB b i2 h2' hb j2
  obtain⟨x4,i4,h4,e4,r4,j4⟩:=CB b i3 h3 hb j3
  unfold fH at e2 e3 e4
  have q1:=bM (x1*16777216) (by omega)
  have q2:=bM (x2*65536) (by omega)
  have q3:=bM (x1*16777216+x2*65536) (by omega)
  have q4:=bM (x3*256) (by omega)
  have q5:=bM (x1*16777216+x2*65536+x3*256) (by omega)
  have q6:=bM (x1*16777216+x2*65536+x3*256+x4) (by omega)
  refine⟨(x1*16777216+x2*65536+x3*256+x4).tmod n,i4,h4,?_,tm _ (by omega),j4⟩
  simp [func77,f77,h0,hn0,h2,e1,e2,e3,e4,q1,q2,q3,q4,q5,q6]
theorem LP {r:Int}(h:(33≤r∧r≤126)∨(160≤r∧r≤500)∨(19968≤r∧r≤22000)):bS r=true:=by
 have h1:gY r 0 1114111=true:=bA.2 (by omega)
 have h2:gY r 55296 57343=false:=oF (by rw [bA];omega)
 have h3:gY r 127 159=false:=oF (by rw [bA];omega)
 have h4:32≤r:=by omega
 simp [bS,lV,h1,h2,h3,h4]
theorem Ii (b:List UInt8)(i h:Int)(hb:b.length≤1048576)(hi:0≤i∧i≤b.length):∃x i' h',sW [.ref 0 0] [fH b i h] []=some ⟨vI x,[fH b i' h'],[]⟩∧bS x=true∧0≤i'∧i'≤b.length:=by
 obtain⟨k,i1,h1,e1,r1,j1⟩:=bD b i h 12 hb hi (by omega)
 unfold fH at e1
 generalize hE:sW [.ref 0 0] [fH b i h] []=R
 unfold sW fH at hE
 by_cases k9:k<9
 ·obtain⟨q,i2,h2,e2,r2,j2⟩:=bD b i1 h1 16 hb j1 (by omega)
  unfold fH at e2
  obtain⟨m,rfl⟩:=Int.eq_ofNat_of_zero_le r2.1
  have hm:m=0∨m=1∨m=2∨m=3∨m=4∨m=5∨m=6∨m=7∨m=8∨m=9∨m=10∨m=11∨m=12∨m=13∨m=14∨m=15:=by omega
  have hm2:(m:Int)<16:=by omega
  rcases hm with rfl|rfl|rfl|rfl|rfl|rfl|rfl|rfl|rfl|rfl|rfl|rfl|rfl|rfl|rfl|rfl<;>
   (simp [func81,f81,e1,k9,e2]at hE;exact⟨_,_,_,hE.symm,by decide,j2⟩)
 by_cases k10:k=9
 ·subst k10
  obtain⟨q,i2,h2,e2,r2,j2⟩:=bD b i1 h1 94 hb j1 (by omega)
  unfold fH at e2
  have w:=bM (33+q) (by omega)
  simp [func81,f81,e1,e2,w]at hE
  exact⟨_,_,_,hE.symm,LP (by omega),j2⟩
 by_cases k11:k=10
 ·subst k11
  obtain⟨q,i2,h2,e2,r2,j2⟩:=bD b i1 h1 300 hb j1 (by omega)
  unfold fH at e2
  have w:=bM (160+q) (by omega)
  simp [func81,f81,e1,e2,w]at hE
  exact⟨_,_,_,hE.symm,LP (by omega),j2⟩
 obtain⟨q,i2,h2,e2,r2,j2⟩:=bD b i1 h1 2000 hb j1 (by omega)
 unfold fH at e2
 have w:=bM (19968+q) (by omega)
 simp [func81,f81,e1,e2,k9,k10,k11,w]at hE
 exact⟨_,_,_,hE.symm,LP (by omega),j2⟩
theorem LQ (b:List UInt8)(i h n:Int)(hb:b.length≤1048576)(hi:0≤i∧i≤b.length)(hn:0≤n∧n≤1000):∃(l:List Int) (i' h':Int),sZ [.ref 0 0,vI n] [fH b i h] []=some ⟨.own 0,[fH b i' h'],[(0,ints l)]⟩∧l.all bS=true∧(l.length:Int)≤n∧0≤i'∧i'≤b.length:=by
 obtain⟨k,i1,h1,e1,r1,j1⟩:=bD b i h (n+1) hb hi (by omega)
 unfold fH at e1
 have w:=bM (n+1) (by omega)
 obtain⟨m,rfl⟩:=Int.eq_ofNat_of_zero_le r1.1
 generalize hE:sZ [.ref 0 0,vI n] [fH b i h] []=R
 unfold sZ fH at hE
 simp [func83,f83,w,e1]at hE
 generalize hL:uM _ _=L at hE
 obtain⟨⟨l,i2,h2⟩,⟨a1,a2,a3⟩,e⟩:=Ec hL (σ:=List Int×Int×Int) (fun j a=> .on ⟨[(6,V.v (.int .i64 ((m:Int)-j))),(5, .own 2000000000),(0, .ref 1000000000 0)],[(1000000000,[.aP (some 0) (nK b),vI a.2.1,vI a.2.2])],[(2000000000,ints a.1)],[]⟩) m (fun j a=>a.1.all bS=true∧a.1.length=j∧0≤a.2.1∧a.2.1≤b.length) ([],i1,h1) (by simp [bn]) ⟨rfl,rfl,j1⟩ (fun j a hj ⟨p1,p2,p3⟩=>by
  obtain⟨l,i2,h2⟩:=a
  simp only at p1 p2 p3
  obtain⟨x,i3,h3,e3,p4,j3⟩:=Ii b i2 h2 hb p3
  unfold fH at e3
  have g:(0:Int)<(m:Int)-j:=by omega
  have hw:=bM ((m:Int)-j-1) (by omega)
  have hw2:(m:Int)-j-1=(m:Int)-((j:Int)+1):=by omega
  rw [hw2]at hw
  refine⟨(l++ [x],i3,h3),⟨by simp [p1,p4],by simp [p2],j3⟩,?_⟩
  simp [hj,e3,hw2,hw,p2]
  simp (disch:=omega) only [eH]
  simp [hw2,hw,I8,bn])
 subst e
 simp at hE
 simp only at a1 a2 a3
 exact⟨l,i2,h2,hE.symm,a1,by omega,a3⟩
theorem su (l:List Int)(i:Nat)(x:Int):(ints l).set i [D.a (.int .i64 x)]=ints (l.set i x):=by
 show(l.map qZ.enc).set i (qZ.enc x)=(l.set i x).map qZ.enc
 rw [List.map_set]
theorem VP {p:Int→Bool}{l:List Int}{i:Nat}{x:Int}(h:l.all p=true)(hx:p x=true):(l.set i x).all p=true:=by
 refine List.all_eq_true.2 fun y hy=>?_
 rcases List.mem_or_eq_of_mem_set hy with h1|h1
 ·exact List.all_eq_true.1 h y h1
 ·rw [h1];exact hx
theorem lg {r:Int}(h:bS r=true):fP r=true:=by simp [fP,h]
theorem LU (b:List UInt8)(i h n:Int)(hb:b.length≤1048576)(hi:0≤i∧i≤b.length)(hn:0≤n∧n≤1000):∃(l:List Int) (i' h':Int),vY [.ref 0 0,vI n] [fH b i h] []=some ⟨.own 0,[fH b i' h'],[(0,ints l)]⟩∧l.all fP=true∧(l.length:Int)≤n∧0≤i'∧i'≤b.length:=by
 obtain⟨l0,i1,h1,e1,q1,q2,j1⟩:=LQ b i h n hb hi hn
 unfold fH at e1
 have q3:l0.all fP=true:=List.all_eq_true.2 fun x hx=>lg (List.all_eq_true.1 q1 x hx)
 generalize hE:vY [.ref 0 0,vI n] [fH b i h] []=R
 unfold vY fH at hE
 simp [func145,f145,e1]at hE
 generalize hL:uM _ _=L at hE
 obtain⟨⟨l,i2,h2⟩,⟨a1,a2,a3⟩,e⟩:=Ec hL (σ:=List Int×Int×Int) (fun j a=> .on ⟨[(13,V.v (.int .i64 ((j:Int)))),(12,V.v (.int .i64 ((l0.length:Int)))),(5, .own 2000000000),(0, .ref 1000000000 0)],[(1000000000,[.aP (some 0) (nK b),vI a.2.1,vI a.2.2])],[(2000000000,ints a.1)],[]⟩) l0.length (fun j a=>a.1.all fP=true∧a.1.length=l0.length∧0≤a.2.1∧a.2.1≤b.length) (l0,i1,h1) (by simp) ⟨q3,rfl,j1⟩ (fun j a hj ⟨p1,p2,p3⟩=>by
  obtain⟨l,i2,h2⟩:=a
  simp only at p1 p2 p3
  obtain⟨x,i3,h3,e3,p4,j3⟩:=bD b i2 h2 14 hb p3 (by omega)
  unfold fH at e3
  have hw:=bM ((j:Int)+1) (by omega)
  have hjl:j<l.length:=by omega
  by_cases x0:x=0
  ·subst x0
   refine⟨(l.set j 9,i3,h3),⟨VP p1 (by decide),by simp [p2],j3⟩,?_⟩
   simp [hj,hjl,hw,e3,su]
  by_cases x1:x=1
  ·subst x1
   refine⟨(l.set j 10,i3,h3),⟨VP p1 (by decide),by simp [p2],j3⟩,?_⟩
   simp [hj,hjl,hw,e3,su]
  by_cases x2:x=2
  ·subst x2
   obtain⟨z,i4,h4,e4,p5,j4⟩:=bD b i3 h3 26 hb j3 (by omega)
   unfold fH at e4
   have w:=bM (65+z) (by omega)
   refine⟨(l.set j (65+z),i4,h4),⟨VP p1 (lg (LP (by omega))),by simp [p2],j4⟩,?_⟩
   simp [hj,hjl,hw,e3,e4,w,su]
  refine⟨(l,i3,h3),⟨p1,p2,j3⟩,?_⟩
  simp [hj,hjl,hw,e3,x0,x1,x2])
 subst e
 simp at hE
 simp only at a1 a2 a3
 exact⟨l,i2,h2,hE.symm,a1,by omega,a3⟩
theorem CF (b:List UInt8)(i h:Int)(hb:b.length≤1048576)(hi:0≤i∧i≤b.length):∃(l:List Int) (a:Nat) (i' h':Int),Bo [.ref 0 0] [fH b i h] []=some ⟨.agg [.own 0,vI (a:Int)],[fH b i' h'],[(0,ints l)]⟩∧l.all fP=true∧l.length≤16∧a≤l.length∧0≤i'∧i'≤b.length:=by
 obtain⟨l,i1,h1,e1,q1,q2,j1⟩:=LU b i h 16 hb hi (by omega)
 obtain⟨x,i2,h2,e2,q3,j2⟩:=bD b i1 h1 ((l.length:Int)+1) hb j1 (by omega)
 obtain⟨a,rfl⟩:=Int.eq_ofNat_of_zero_le q3.1
 unfold fH at e1 e2
 have w:=bM ((l.length:Int)+1) (by omega)
 refine⟨l,a,i2,h2,?_,q1,by omega,by omega,j2⟩
 unfold Bo fH
 simp [func78,f78,e1,e2,w]
def dF (l:List Int):Bool:=decide (l.length≤400)&&l.all fP
def bN (t:List Int)(a:Int):Bool:=dF t&&gY a 0 t.length
def nE (t:List Int)(a:Int):Bool:=decide (t.length=0)&&(a==0)
theorem qI (l:List Int)(hl:l.length≤1000000000):nX [.aP (some 0) (ints l)] [] []=some ⟨V.v (.bool (dF l)),[],[]⟩:=by
 simp [nX,func119,f119]
 by_cases hn:l.length≤400
 ·rcases nJ fP l with h|⟨h,N,hN,h1,h2⟩
  ·rw [aJ (fun j=> .on ⟨[(7,V.v (.int .i64 ((j:Int)))),(6,V.v (.int .i64 ((l.length:Int)))),(5, .aP (some 0) (ints l))],[],[],[]⟩) l.length ?_ ?_]
   ·simp [dF,h,hn]
   ·simp
   ·intro j hj
    have hw:=bM (j+1) (by omega)
    have:=List.all_eq_true.1 h l[j] (List.getElem_mem hj)
    have h4:¬(400≤(j:Int)):=by omega
    simp [hj,hw,aO hj,sj,this,h4]
  ·rw [aJ (fun j=> .on ⟨[(7,V.v (.int .i64 ((j:Int)))),(6,V.v (.int .i64 ((l.length:Int)))),(5, .aP (some 0) (ints l))],[],[],[]⟩) N ?_ ?_]
   ·have h4:¬(400≤(N:Int)):=by omega
    simp [dF,h,hN,h1,aO hN,sj,h4]
   ·simp
   ·intro j hj
    have hj':j<l.length:=by omega
    have hw:=bM (j+1) (by omega)
    have h4:¬(400≤(j:Int)):=by omega
    simp [hj',hw,aO hj',sj,h2 j hj' hj,h4]
 ·rcases nJ fP (l.take 400)with h|⟨h,N,hN,h1,h2⟩
  ·obtain⟨N,hN⟩:∃N:Nat,N=400:=⟨_,rfl⟩
   rw [aJ (fun j=> .on ⟨[(7,V.v (.int .i64 ((j:Int)))),(6,V.v (.int .i64 ((l.length:Int)))),(5, .aP (some 0) (ints l))],[],[],[]⟩) N ?_ ?_]
   ·have h5:N<l.length:=by omega
    have h6:400≤(N:Int):=by omega
    simp [dF,hn,h5,aO h5,h6]
   ·simp
   ·intro j hj
    have hj':j<l.length:=by omega
    have hw:=bM (j+1) (by omega)
    have h3:fP l[j]=true:=by
     have:=List.all_eq_true.1 h ((l.take 400)[j]'(by simp;omega)) (List.getElem_mem _)
     simpa using this
    have h4:¬(400≤(j:Int)):=by omega
    simp [hj',hw,aO hj',sj,h3,h4]
  ·have hN':N<400∧N<l.length:=by simp at hN;omega
   rw [aJ (fun j=> .on ⟨[(7,V.v (.int .i64 ((j:Int)))),(6,V.v (.int .i64 ((l.length:Int)))),(5, .aP (some 0) (ints l))],[],[],[]⟩) N ?_ ?_]
   ·have h4:¬(400≤(N:Int)):=by omega
    have h5:fP l[N]=false:=by simpa using h1
    simp [dF,hn,hN'.2,h5,aO hN'.2,sj,h4]
   ·simp
   ·intro j hj
    have hj':j<l.length:=by omega
    have hw:=bM (j+1) (by omega)
    have h4:¬(400≤(j:Int)):=by omega
    have h3:fP l[j]=true:=by
     have:=h2 j (by simp;omega) hj
     simpa using this
    simp [hj',hw,aO hj',sj,h3,h4]
theorem zF (l:List Int)(hl:l.length≤1000000000):zh [.aP (some 0) (ints l)] [] []=some ⟨V.v (.bool (dF l)),[],[]⟩:=by
 unfold zh
 by_cases hn:l.length≤400
 ·have:(l.length:Int)≤400:=by omega
  cases h:l.all fP<;>simp [func215,f215,dF,hn,this,Ih l hl,h]
 ·have:¬(l.length:Int)≤400:=by omega
  simp [func215,f215,dF,hn,this]
theorem bQ (l:List Int)(a:Int)(hl:l.length≤1000000000):rZ [.agg [.aP (some 0) (ints l),vI a]] [] []=some ⟨V.v (.bool (bN l a)),[],[]⟩:=by
 unfold rZ
 cases h:dF l<;>simp [func41,f41,bN,qI l hl,dQ,h]
theorem dA (l:List Int)(a:Int)(hl:l.length≤1000000000):nW [.agg [.aP (some 0) (ints l),vI a]] [] []=some ⟨V.v (.bool (bN l a)),[],[]⟩:=by
 unfold nW
 by_cases hn:l.length≤400
 ·have:(l.length:Int)≤400:=by omega
  cases h:l.all fP<;>by_cases h1:0≤a<;>by_cases h2:a≤(l.length:Int)<;>simp [func134,f134,bN,dF,gY,hn,this,Ih l hl,h,h1,h2]
 ·have:¬(l.length:Int)≤400:=by omega
  simp [func134,f134,bN,dF,hn,this]
theorem aD (l:List Int)(a:Int):zq [.agg [.aP (some 0) (ints l),vI a]] [] []=some ⟨V.v (.bool (nE l a)),[],[]⟩:=by
 unfold zq
 by_cases h1:l.length=0<;>by_cases h2:a=0<;>simp [func138,f138,nE,h1,h2]
theorem bK (l:List Int)(a:Int):Ag [.agg [.aP (some 0) (ints l),vI a]] [] []=some ⟨V.v (.bool (nE l a)),[],[]⟩:=by
 unfold Ag
 by_cases h1:l.length=0<;>by_cases h2:a=0<;>simp [func47,f47,nE,h1,h2]
def atEnd (l:List Int)(a:Int):Bool:=decide (0<l.length)&&(a==(l.length:Int))
theorem vM (l:List Int)(a:Int):Bv [.agg [.aP (some 0) (ints l),vI a]] [] []=some ⟨V.v (.bool (atEnd l a)),[],[]⟩:=by
 unfold Bv
 by_cases h1:0<l.length<;>by_cases h2:a=(l.length:Int)<;>simp [func120,f120,atEnd,h1,h2]<;>omega
theorem VQ (l:List Int)(n:Int)(hl:l.length≤1000000000):Ak [.aP (some 0) (ints l),vI n] [] []=some ⟨V.v (.bool (!(l.all fun x=>x != n))),[],[]⟩:=by
 simp [Ak,func272,f272]
 rcases nJ (fun x=>x != n) l with h|⟨h,N,hN,h1,h2⟩
 ·rw [aJ (fun j=> .on ⟨[(9,V.v (.int .i64 ((j:Int)))),(8,V.v (.int .i64 ((l.length:Int)))),(7, .aP (some 0) (ints l)),(1,V.v (.int .i64 n))],[],[],[]⟩) l.length ?_ ?_]
  ·simp only [h];simp
  ·simp
  ·intro j hj
   have hw:=bM (j+1) (by omega)
   have:=List.all_eq_true.1 h l[j] (List.getElem_mem hj)
   simp at this
   simp [hj,hw,aO hj,this]
 ·rw [aJ (fun j=> .on ⟨[(9,V.v (.int .i64 ((j:Int)))),(8,V.v (.int .i64 ((l.length:Int)))),(7, .aP (some 0) (ints l)),(1,V.v (.int .i64 n))],[],[],[]⟩) N ?_ ?_]
  ·simp only [h]
   simp at h1
   simp [hN,h1,aO hN]
  ·simp
  ·intro j hj
   have hj':j<l.length:=by omega
   have hw:=bM (j+1) (by omega)
   have:=h2 j hj' hj
   simp at this
   simp [hj',hw,aO hj',this]
set_option maxRecDepth 100000
def qJ (p:eT):Bool:=decide (0<p.av.length)&&dF p.av
def eZ (l:List eT):Bool:=l.all qJ&&decide (l.length≤6)
def CG (x:iG):Bool:=bN x.av x.At
def jB (l:List iG):Bool:=l.all CG&&decide (l.length≤20)
theorem cK (l:List eT)(s:smL (aC l)=true):yB [.agg [.aP (some 0) (aC l)]] [] []=some ⟨V.v (.bool (eZ l)),[],[]⟩:=by
 have hb:l.length≤1000000000:=by simpa using O6 s
 have sm:∀j (h:j<l.length),l[j].av.length≤1000000000:=fun j h=>by
  have hs:=VN s (jq h)
  simp only [zD,FB,Yp,QI,Bool.and_true,Bool.true_and]at hs
  simpa using LM hs
 simp [yB,func45,f45]
 rcases nJ qJ l with h|⟨h,N,hN,h1,h2⟩
 ·rw [aJ (fun j=> .on ⟨[(8,V.v (.int .i64 ((j:Int)))),(7,V.v (.int .i64 ((l.length:Int)))),(6, .aP (some 0) (aC l)),(1, .ref 1 0)],[(1,[.aP (some 0) (aC l)])],[],[]⟩) l.length ?_ ?_]
  ·simp [eZ,h];omega
  ·simp
  ·intro j hj
   have hw:=bM (j+1) (by omega)
   have:=List.all_eq_true.1 h l[j] (List.getElem_mem hj)
   simp only [qJ,Bool.and_eq_true,decide_eq_true_eq]at this
   have h3:l[j].av≠ []:=fun e=>by simp [e]at this
   simp [hj,hw,jq hj,qI _ (sm j hj),this.2,h3]
 ·rw [aJ (fun j=> .on ⟨[(8,V.v (.int .i64 ((j:Int)))),(7,V.v (.int .i64 ((l.length:Int)))),(6, .aP (some 0) (aC l)),(1, .ref 1 0)],[(1,[.aP (some 0) (aC l)])],[],[]⟩) N ?_ ?_]
  ·by_cases h3:l[N].av= []
   ·simp [hN,jq hN,h3,eZ,h]
   ·have h4:dF l[N].av=false:=by
     simp only [qJ]at h1
     have h5:0<l[N].av.length:=List.length_pos_iff.2 h3
     simpa [h5] using h1
    simp [hN,jq hN,qI _ (sm N hN),h4,h3,eZ,h]
  ·simp
  ·intro j hj
   have hj':j<l.length:=by omega
   have hw:=bM (j+1) (by omega)
   have:=h2 j hj' hj
   simp only [qJ,Bool.and_eq_true,decide_eq_true_eq]at this
   have h3:l[j].av≠ []:=fun e=>by simp [e]at this
   simp [hj',hw,jq hj',qI _ (sm j hj'),this.2,h3]
theorem dK (l:List eT)(s:smL (aC l)=true):vZ [.agg [.aP (some 0) (aC l)]] [] []=some ⟨V.v (.bool (eZ l)),[],[]⟩:=by
 have hb:l.length≤1000000000:=by simpa using O6 s
 have sm:∀j (h:j<l.length),l[j].av.length≤1000000000:=fun j h=>by
  have hs:=VN s (jq h)
  simp only [zD,FB,Yp,QI,Bool.and_true,Bool.true_and]at hs
  simpa using LM hs
 simp [vZ,func136,f136]
 rcases nJ qJ l with h|⟨h,N,hN,h1,h2⟩
 ·rw [aJ (fun j=> .on ⟨[(8,V.v (.int .i64 ((j:Int)))),(7,V.v (.int .i64 ((l.length:Int)))),(6, .aP (some 0) (aC l)),(1, .ref 1 0)],[(1,[.aP (some 0) (aC l)])],[],[]⟩) l.length ?_ ?_]
  ·simp [eZ,h];omega
  ·simp
  ·intro j hj
   have hw:=bM (j+1) (by omega)
   have:=List.all_eq_true.1 h l[j] (List.getElem_mem hj)
   simp only [qJ,Bool.and_eq_true,decide_eq_true_eq]at this
   have h3:l[j].av≠ []:=fun e=>by simp [e]at this
   simp [hj,hw,jq hj,zF _ (sm j hj),this.2,h3]
 ·rw [aJ (fun j=> .on ⟨[(8,V.v (.int .i64 ((j:Int)))),(7,V.v (.int .i64 ((l.length:Int)))),(6, .aP (some 0) (aC l)),(1, .ref 1 0)],[(1,[.aP (some 0) (aC l)])],[],[]⟩) N ?_ ?_]
  ·by_cases h3:l[N].av= []
   ·simp [hN,jq hN,h3,eZ,h]
   ·have h4:dF l[N].av=false:=by
     simp only [qJ]at h1
     have h5:0<l[N].av.length:=List.length_pos_iff.2 h3
     simpa [h5] using h1
    simp [hN,jq hN,zF _ (sm N hN),h4,h3,eZ,h]
  ·simp
  ·intro j hj
   have hj':j<l.length:=by omega
   have hw:=bM (j+1) (by omega)
   have:=h2 j hj' hj
   simp only [qJ,Bool.and_eq_true,decide_eq_true_eq]at this
   have h3:l[j].av≠ []:=fun e=>by simp [e]at this
   simp [hj',hw,jq hj',zF _ (sm j hj'),this.2,h3]
theorem cO (l:List iG)(s:smL (aS l)=true):AL [.agg [.aP (some 0) (aS l)]] [] []=some ⟨V.v (.bool (jB l)),[],[]⟩:=by
 have hb:l.length≤1000000000:=by simpa using O6 s
 have sm:∀j (h:j<l.length),l[j].av.length≤1000000000:=fun j h=>by
  have hs:=VN s (iR h)
  simp only [zD,FB,Yp,QI,Bool.and_true,Bool.true_and]at hs
  simpa using LM hs
 simp [AL,func46,f46]
 rcases nJ CG l with h|⟨h,N,hN,h1,h2⟩
 ·rw [aJ (fun j=> .on ⟨[(8,V.v (.int .i64 ((j:Int)))),(7,V.v (.int .i64 ((l.length:Int)))),(6, .aP (some 0) (aS l)),(1, .ref 1 0)],[(1,[.aP (some 0) (aS l)])],[],[]⟩) l.length ?_ ?_]
  ·simp [jB,h];omega
  ·simp
  ·intro j hj
   have hw:=bM (j+1) (by omega)
   have:=List.all_eq_true.1 h l[j] (List.getElem_mem hj)
   simp only [CG]at this
   simp [hj,hw,iR hj,bQ _ _ (sm j hj),this]
 ·rw [aJ (fun j=> .on ⟨[(8,V.v (.int .i64 ((j:Int)))),(7,V.v (.int .i64 ((l.length:Int)))),(6, .aP (some 0) (aS l)),(1, .ref 1 0)],[(1,[.aP (some 0) (aS l)])],[],[]⟩) N ?_ ?_]
  ·simp only [CG]at h1
   simp [hN,iR hN,bQ _ _ (sm N hN),h1,jB,h]
  ·simp
  ·intro j hj
   have hj':j<l.length:=by omega
   have hw:=bM (j+1) (by omega)
   have:=h2 j hj' hj
   simp only [CG]at this
   simp [hj',hw,iR hj',bQ _ _ (sm j hj'),this]
theorem dL (l:List iG)(s:smL (aS l)=true):uG [.agg [.aP (some 0) (aS l)]] [] []=some ⟨V.v (.bool (jB l)),[],[]⟩:=by
 have hb:l.length≤1000000000:=by simpa using O6 s
 have sm:∀j (h:j<l.length),l[j].av.length≤1000000000:=fun j h=>by
  have hs:=VN s (iR h)
  simp only [zD,FB,Yp,QI,Bool.and_true,Bool.true_and]at hs
  simpa using LM hs
 simp [uG,func137,f137]
 rcases nJ CG l with h|⟨h,N,hN,h1,h2⟩
 ·rw [aJ (fun j=> .on ⟨[(8,V.v (.int .i64 ((j:Int)))),(7,V.v (.int .i64 ((l.length:Int)))),(6, .aP (some 0) (aS l)),(1, .ref 1 0)],[(1,[.aP (some 0) (aS l)])],[],[]⟩) l.length ?_ ?_]
  ·simp [jB,h];omega
  ·simp
  ·intro j hj
   have hw:=bM (j+1) (by omega)
   have:=List.all_eq_true.1 h l[j] (List.getElem_mem hj)
   simp only [CG]at this
   simp [hj,hw,iR hj,dA _ _ (sm j hj),this]
 ·rw [aJ (fun j=> .on ⟨[(8,V.v (.int .i64 ((j:Int)))),(7,V.v (.int .i64 ((l.length:Int)))),(6, .aP (some 0) (aS l)),(1, .ref 1 0)],[(1,[.aP (some 0) (aS l)])],[],[]⟩) N ?_ ?_]
  ·simp only [CG]at h1
   simp [hN,iR hN,dA _ _ (sm N hN),h1,jB,h]
  ·simp
  ·intro j hj
   have hj':j<l.length:=by omega
   have hw:=bM (j+1) (by omega)
   have:=h2 j hj' hj
   simp only [CG]at this
   simp [hj',hw,iR hj',dA _ _ (sm j hj'),this]
def opC (n:Int):Bool:=n==100||n==99||n==121
def wI (n:Int):Bool:=n==102||n==70||n==116||n==84||n==114
def eU (vi:Bool)(mode:Int)(lt:List Int)(la op uV wt:Int):Bool:=
 ((mode==0&& !vi)||((mode==1||mode==2)&&vi)||mode==3)&&(!(mode==2&&atEnd lt la)&&((mode==2||(op==0&&wt==0&&uV==0))&&((op != 0||uV==0)&&((op==0||opC op)&&(wt==0||wI wt)))))
def fu (mode:Int)(q:List Int)(hit:Int)(bt:List Int)(ba:Int):Bool:=mode==3||(decide (q.length=0)&&(hit==0)&&nE bt ba)
theorem Dm (r:Int):vB [vI r,V.v (.string (⟨#[100,99,121]⟩))] [] []=some ⟨V.v (.bool (opC r)),[],[]⟩:=by
 unfold opC
 unfold vB
 obtain⟨S,hS⟩:∃S:ByteArray,S=⟨#[100,99,121]⟩:=⟨_,rfl⟩
 have h0:S.size=3:=by rw [hS];rfl
 have ht:S.toList= [100,99,121]:=by rw [hS,ByteArray.toList_eq]
 have w1:=bM 100 (by omega)
 have w2:=bM 99 (by omega)
 have w3:=bM 121 (by omega)
 rw [←hS]
 simp [func121,f121]
 by_cases h1:100=r
 ·subst h1;rw [bL];simp [w1,w2,w3,h0,ht]
 by_cases h2:99=r
 ·subst h2;rw [bL];simp [w1,w2,w3,h0,ht];rw [bL];simp [w1,w2,w3,h0,ht]
 by_cases h3:121=r
 ·subst h3;rw [bL];simp [w1,w2,w3,h0,ht];rw [bL];simp [w1,w2,w3,h0,ht];rw [bL];simp [w1,w2,w3,h0,ht]
 have k1:¬r=100:=fun e=>h1 e.symm
 have k2:¬r=99:=fun e=>h2 e.symm
 have k3:¬r=121:=fun e=>h3 e.symm
 rw [bL];simp [w1,w2,w3,h0,ht,h1];rw [bL];simp [w1,w2,w3,h0,ht,h2];rw [bL];simp [w1,w2,w3,h0,ht,h3];rw [bL];simp [w1,w2,w3,h0,ht,k1,k2,k3]
theorem Ga (r:Int):vB [vI r,V.v (.string (⟨#[102,70,116,84,114]⟩))] [] []=some ⟨V.v (.bool (wI r)),[],[]⟩:=by
 unfold wI
 unfold vB
 obtain⟨S,hS⟩:∃S:ByteArray,S=⟨#[102,70,116,84,114]⟩:=⟨_,rfl⟩
 have h0:S.size=5:=by rw [hS];rfl
 have ht:S.toList= [102,70,116,84,114]:=by rw [hS,ByteArray.toList_eq]
 have w1:=bM 102 (by omega)
 have w2:=bM 70 (by omega)
 have w3:=bM 116 (by omega)
 have w4:=bM 84 (by omega)
 have w5:=bM 114 (by omega)
 rw [←hS]
 simp [func121,f121]
 by_cases h1:102=r
 ·subst h1;rw [bL];simp [w1,w2,w3,w4,w5,h0,ht]
 by_cases h2:70=r
 ·subst h2;rw [bL];simp [w1,w2,w3,w4,w5,h0,ht];rw [bL];simp [w1,w2,w3,w4,w5,h0,ht]
 by_cases h3:116=r
 ·subst h3;rw [bL];simp [w1,w2,w3,w4,w5,h0,ht];rw [bL];simp [w1,w2,w3,w4,w5,h0,ht];rw [bL];simp [w1,w2,w3,w4,w5,h0,ht]
 by_cases h4:84=r
 ·subst h4;rw [bL];simp [w1,w2,w3,w4,w5,h0,ht];rw [bL];simp [w1,w2,w3,w4,w5,h0,ht];rw [bL];simp [w1,w2,w3,w4,w5,h0,ht];rw [bL];simp [w1,w2,w3,w4,w5,h0,ht]
 by_cases h5:114=r
 ·subst h5;rw [bL];simp [w1,w2,w3,w4,w5,h0,ht];rw [bL];simp [w1,w2,w3,w4,w5,h0,ht];rw [bL];simp [w1,w2,w3,w4,w5,h0,ht];rw [bL];simp [w1,w2,w3,w4,w5,h0,ht];rw [bL];simp [w1,w2,w3,w4,w5,h0,ht]
 have k1:¬r=102:=fun e=>h1 e.symm
 have k2:¬r=70:=fun e=>h2 e.symm
 have k3:¬r=116:=fun e=>h3 e.symm
 have k4:¬r=84:=fun e=>h4 e.symm
 have k5:¬r=114:=fun e=>h5 e.symm
 rw [bL];simp [w1,w2,w3,w4,w5,h0,ht,h1];rw [bL];simp [w1,w2,w3,w4,w5,h0,ht,h2];rw [bL];simp [w1,w2,w3,w4,w5,h0,ht,h3];rw [bL];simp [w1,w2,w3,w4,w5,h0,ht,h4];rw [bL];simp [w1,w2,w3,w4,w5,h0,ht,h5];rw [bL];simp [w1,w2,w3,w4,w5,h0,ht,k1,k2,k3,k4,k5]
theorem Oh (l:List Int)(n:Int)(hl:l.length≤1000000000):wE [vI n, .aP (some 0) (ints l)] [] []=some ⟨V.v (.bool (!(l.all fun x=>x != n))),[],[]⟩:=by
 simp [wE,func214,f214,VQ l n hl]
theorem aV (n:Int):wE [vI n, .aP (some 0) [[D.a (.int .i64 0)],[D.a (.int .i64 100)],[D.a (.int .i64 99)],[D.a (.int .i64 121)]]] [] []=some ⟨V.v (.bool (n==0||opC n)),[],[]⟩:=by
 have:=Oh [0,100,99,121] n (by simp)
 rw [show ints [0,100,99,121]= [[D.a (.int .i64 0)],[D.a (.int .i64 100)],[D.a (.int .i64 99)],[D.a (.int .i64 121)]]from rfl]at this
 rw [this]
 congr 4
 simp only [opC]
 rw [Bool.eq_iff_iff]
 simp
 omega
theorem aL (n:Int):wE [vI n, .aP (some 0) [[D.a (.int .i64 0)],[D.a (.int .i64 102)],[D.a (.int .i64 70)],[D.a (.int .i64 116)],[D.a (.int .i64 84)],[D.a (.int .i64 114)]]] [] []=some ⟨V.v (.bool (n==0||wI n)),[],[]⟩:=by
 have:=Oh [0,102,70,116,84,114] n (by simp)
 rw [show ints [0,102,70,116,84,114]= [[D.a (.int .i64 0)],[D.a (.int .i64 102)],[D.a (.int .i64 70)],[D.a (.int .i64 116)],[D.a (.int .i64 84)],[D.a (.int .i64 114)]]from rfl]at this
 rw [this]
 congr 4
 simp only [wI]
 rw [Bool.eq_iff_iff]
 simp
 omega
theorem dx (vi:Bool)(mode:Int)(lt:List Int)(la cnt op uV wt fr fh last:Int)(rp:List eT)(ul:List iG)(zX:Int)(ot:List Int)(oa:Int)(q:List Int)(hit:Int)(bt:List Int)(ba:Int):Jg [.agg [V.v (.bool vi),vI mode, .aP (some 0) (ints lt),vI la,vI cnt,vI op,vI uV,vI wt,vI fr,vI fh,vI last, .aP (some 1) (aC rp), .aP (some 2) (aS ul),vI zX, .aP (some 3) (ints ot),vI oa, .aP (some 4) (ints q),vI hit, .aP (some 5) (ints bt),vI ba]] [] []=some ⟨V.v (.bool (eU vi mode lt la op uV wt)),[],[]⟩:=by
 unfold Jg
 by_cases m2:mode=2
 ·subst m2
  cases vi
  ·simp [func43,f43,eU]
  cases hA:atEnd lt la
  rotate_left
  ·simp [func43,f43,eU,vM,hA]
  by_cases o0:op=0
  ·subst o0
   by_cases c0:uV=0
   ·subst c0
    by_cases w0:wt=0
    ·subst w0;simp [func43,f43,eU,vM,hA]
    ·cases hW:wI wt<;>simp [func43,f43,eU,vM,hA,w0,Ga,hW]
   ·simp [func43,f43,eU,vM,hA,c0]
  ·by_cases w0:wt=0
   ·subst w0;cases hO:opC op<;>simp [func43,f43,eU,vM,hA,o0,Dm,hO]
   ·cases hO:opC op<;>cases hW:wI wt<;>simp [func43,f43,eU,vM,hA,o0,w0,Dm,Ga,hO,hW]
 by_cases ok:(mode=0∧vi=false)∨(mode=1∧vi=true)∨mode=3
 ·rcases Classical.em (op=0∧wt=0∧uV=0)with⟨rfl,rfl,rfl⟩|hn
  ·rcases ok with⟨rfl,rfl⟩|⟨rfl,rfl⟩|rfl<;>simp [func43,f43,eU]
  ·by_cases o0:op=0
   ·subst o0
    by_cases w0:wt=0
    ·subst w0
     have c0:¬uV=0:=fun e=>hn ⟨rfl,rfl,e⟩
     rcases ok with⟨rfl,rfl⟩|⟨rfl,rfl⟩|rfl<;>simp [func43,f43,eU,c0]
    ·rcases ok with⟨rfl,rfl⟩|⟨rfl,rfl⟩|rfl<;>simp [func43,f43,eU,w0]
   ·rcases ok with⟨rfl,rfl⟩|⟨rfl,rfl⟩|rfl<;>simp [func43,f43,eU,o0]
 ·by_cases m0:mode=0
  ·subst m0
   cases vi
   ·exact absurd (.inl ⟨rfl,rfl⟩) ok
   ·simp [func43,f43,eU]
  ·by_cases m1:mode=1
   ·subst m1
    cases vi
    ·simp [func43,f43,eU]
    ·exact absurd (.inr (.inl ⟨rfl,rfl⟩)) ok
   ·have m3:¬mode=3:=fun e=>ok (.inr (.inr e))
    simp [func43,f43,eU,m0,m1,m2,m3]
theorem Ao (a b:List Int)(i j k:Option Nat)(h:a.length+b.length≤2000):nC [.aP i (ints a), .aP j (ints b), .aP k []] [] []=some ⟨.own 0,[],[(0,ints (a++b))]⟩:=by
 have g1:a.length*8≤140737488355328:=by omega
 have g2:a.length≤4611686018427387904:=by omega
 have g3:(a.length+b.length)*8≤140737488355328:=by omega
 have g4:a.length+b.length≤4611686018427387904:=by omega
 have g5:wid 1 (ints a++ints b)=true:=by rw [←au];exact aeA _
 simp [nC,func113,f113,g1,g2,g3,g4,g5]
theorem kU (l:List Int)(i:Option Nat)(a:Int)(h:l.length≤2000):lN [.agg [.aP i (ints l),vI a]] [] []=some ⟨.agg [.own 0,vI a],[],[(0,ints l)]⟩:=by
 have g1:l.length*8≤140737488355328:=by omega
 have g2:l.length≤4611686018427387904:=by omega
 simp [lN,func115,f115,g1,g2]
theorem FC (l:List eT)(i:Option Nat)(h:l.length≤1000)(hp:∀p∈l,p.av.length≤2000):yt [.agg [.aP i (aC l)]] [] []=some ⟨.agg [.own 0],[],[(0,aC l)]⟩:=by
 simp [yt,func139,f139]
 rw [aJ (fun k=> .on ⟨[(10,V.v (.int .i64 ((k:Int)))),(9,V.v (.int .i64 ((l.length:Int)))),(8, .aP i (aC l)),(3, .ref 3 0),(2, .ref 2 0)],[(3,[.own 2000000000]),(2,[.own 2000000001])],[(2000000001,[]),(2000000000,aC (l.take k))],[]⟩) l.length ?_ ?_]
 ·simp
 ·simp [show aC []= []from rfl]
 ·intro k hk
  have hw:=bM ((k:Int)+1) (by omega)
  have hq:=hp l[k] (List.getElem_mem hk)
  have g1:l[k].av.length*8≤140737488355328:=by omega
  have g2:l[k].av.length≤4611686018427387904:=by omega
  have g3:min k l.length=k:=by omega
  have g4:(k+1)*24≤140737488355328:=by omega
  have g5:k≤4611686018427387903:=by omega
  have g6:aC (l.take (k+1))=aC (l.take k)++ [[.l (ints l[k].av)]]:=by rw [Ey,←List.take_succ_eq_append_getElem hk]
  simp [hk,hw,g1,g2,g3,g4,g5,g6]
theorem Kz (l:List eT)(h:eZ l=true):vZ [.agg [.aP (some 0) (aC l)]] [] []=some ⟨V.v (.bool true),[],[]⟩:=by
 have hs:smL (aC l)=true:=by
  simp only [eZ,Bool.and_eq_true,decide_eq_true_eq]at h
  refine aaK (by simp;omega) fun j r e=>?_
  have hj:j<l.length:=by have:=(List.getElem?_eq_some_iff.1 e).1;simpa using this
  rw [jq hj]at e
  injection e with e;subst e
  have:=List.all_eq_true.1 h.1 l[j] (List.getElem_mem hj)
  simp only [qJ,dF,Bool.and_eq_true,decide_eq_true_eq]at this
  simp only [zD,FB,QI,Bool.and_true]
  exact QJ (by omega)
 rw [dK l hs,h]
theorem Yr (l:List eT)(t:List Int)(how:Int)(hl:eZ l=true)(ht:dF t=true)(hh:0≤how∧how≤2):∃l',pK [.agg [.aP (some 0) (aC l)], .aP (some 1) (ints t),vI how] [] []=some ⟨.fK [.agg [.own 0],V.v (.bool true)],[],[(0,aC l')]⟩∧eZ l'=true:=by
 have hp:∀p∈l,0<p.av.length∧p.av.length≤400:=fun p h=>by
  simp only [eZ,Bool.and_eq_true]at hl
  have:=List.all_eq_true.1 hl.1 p h
  simp only [qJ,dF,Bool.and_eq_true,decide_eq_true_eq]at this
  exact⟨this.1,this.2.1⟩
 have hn:l.length≤6:=by simp only [eZ,Bool.and_eq_true,decide_eq_true_eq]at hl;exact hl.2
 have htl:t.length≤400:=by simp only [dF,Bool.and_eq_true,decide_eq_true_eq]at ht;exact ht.1
 have e1:=Kz l hl
 have e2:=zF t (by omega)
 rw [ht]at e2
 have e3:=FC l (some 0) (by omega) (fun p h=>by have:=(hp p h).2;omega)
 have q1:¬how<0:=by omega
 have q2:¬2<how:=by omega
 generalize hE:pK _ _ _=R
 unfold pK at hE
 by_cases h0:t= []
 ·subst h0
  simp only [show ints []= []from rfl]at hE e2
  simp [func146,f146,e1,e2,e3,q1,q2]at hE
  exact⟨l,hE.symm,hl⟩
 have g1:t.length*8≤140737488355328:=by omega
 have g2:t.length≤4611686018427387904:=by omega
 have hlen:0<t.length:=List.length_pos_iff.2 h0
 have fresh:(∃R',R=some R'∧R'=⟨.fK [.agg [.own 0],V.v (.bool true)],[],[(0,aC ((⟨t⟩::l).take 6))]⟩)→∃l',R=some ⟨.fK [.agg [.own 0],V.v (.bool true)],[],[(0,aC l')]⟩∧eZ l'=true:=by
  rintro ⟨_,rfl,rfl⟩
  refine⟨_,rfl,?_⟩
  simp only [eZ,Bool.and_eq_true,decide_eq_true_eq]at hl⊢
  refine⟨List.all_eq_true.2 fun p h=>?_,by simp;omega⟩
  rcases List.mem_cons.1 (List.mem_of_mem_take h)with rfl|h
  ·simp [qJ,ht,hlen]
  ·exact List.all_eq_true.1 hl.1 p h
 cases l with
 | nil=>
  simp only [show aC []= []from rfl]at hE e1 e3
  refine fresh ⟨_,?_,rfl⟩
  have e4:aC (List.take 6 [⟨t⟩])= [[.l (ints t)]]:=rfl
  rw [e4]
  have rf:dN ([]:List (List D))=true:=rfl
  by_cases h1:how=0
  ·subst h1
   simp [func146,f146,e1,e2,e3,q1,q2,h0,g1,g2,rf]at hE
   exact hE.symm
  ·simp [func146,f146,e1,e2,e3,q1,q2,h0,h1,g1,g2,rf]at hE
   exact hE.symm
 | cons p l=>
  have hpt:=hp p (by simp)
  have hll:l.length≤5:=by simpa using hn
  have rf:dN (aC (p::l))=false:=by simp [gN,dN,sF]
  have g3:(1+(l.length+1))*24≤140737488355328:=by omega
  have g4:1+(l.length+1)≤4611686018427387904:=by omega
  have q3:p.av≠ []:=fun e=>by rw [e]at hpt;simp at hpt
  have w1:=bM ((p.av.length:Int)+t.length) (by omega)
  by_cases h1:how=0
  ·subst h1
   refine fresh ⟨_,?_,rfl⟩
   by_cases h6:l.length=5
   ·simp [func146,f146,e1,e2,e3,q1,q2,h0,g1,g2,h6,rf]at hE
    exact hE.symm
   ·have h6i:¬(6:Int)<(l.length:Int)+1+1:=by omega
    have h6t:l.take 4=l:=List.take_of_length_le (by omega)
    simp [func146,f146,e1,e2,e3,q1,q2,h0,g1,g2,g3,g4,h6i,rf]at hE
    rw [show List.take 6 (⟨t⟩::p::l)=⟨t⟩::p::l.take 4 from rfl,h6t]
    exact hE.symm
  by_cases h7:p.av.length+t.length≤400
  ·have h7i:(p.av.length:Int)+t.length≤400:=by omega
   have j1:=Ao p.av t (some 0) (some 1) (some 2) (by omega)
   have j2:=Ao t p.av (some 0) (some 1) (some 2) (by omega)
   rw [gN]at e1 e3 hE
   have tt:t.all fP=true:=by simp only [dF,Bool.and_eq_true]at ht;exact ht.2
   have hlp:=hl
   simp only [eZ,Bool.and_eq_true,decide_eq_true_eq,List.all_cons]at hlp
   have pt:p.av.all fP=true:=by have:=hlp.1.1;simp only [qJ,dF,Bool.and_eq_true]at this;exact this.2.2
   have both:∀q:List Int,0<q.length∧q.length≤400→q.all fP=true→eZ (⟨q⟩::l)=true:=fun q h1 h2=>by
    simp only [eZ,Bool.and_eq_true,decide_eq_true_eq,List.all_cons]
    exact⟨⟨by simp [qJ,dF,h1.1,h1.2,h2],hlp.1.2⟩,hlp.2⟩
   by_cases h2:how=2
   ·subst h2
    simp [func146,f146,e1,e2,e3,h0,g1,g2,w1,h7i,j1,j2]at hE
    rw [←au]at hE
    exact⟨⟨t++p.av⟩::l,hE.symm,both (t++p.av) (by simp;omega) (by simp [tt,pt])⟩
   ·simp [func146,f146,e1,e2,e3,q1,q2,h0,h1,h2,g1,g2,w1,h7i,j1]at hE
    rw [←au]at hE
    exact⟨⟨p.av++t⟩::l,hE.symm,both (p.av++t) (by simp;omega) (by simp [tt,pt])⟩
  ·refine fresh ⟨_,?_,rfl⟩
   have h7i:¬(p.av.length:Int)+t.length≤400:=by omega
   by_cases h6:l.length=5
   ·simp [func146,f146,e1,e2,e3,q1,q2,h0,h1,g1,g2,w1,h7i,h6,rf]at hE
    exact hE.symm
   ·have h6i:¬(6:Int)<(l.length:Int)+1+1:=by omega
    have h6t:l.take 4=l:=List.take_of_length_le (by omega)
    simp [func146,f146,e1,e2,e3,q1,q2,h0,h1,g1,g2,g3,g4,w1,h7i,h6i,rf]at hE
    rw [show List.take 6 (⟨t⟩::p::l)=⟨t⟩::p::l.take 4 from rfl,h6t]
    exact hE.symm
theorem Yt (b:List UInt8)(i h:Int)(hb:b.length≤1048576)(hi:0≤i∧i≤b.length):∃(l:List eT) (i' h':Int),yu [.ref 0 0] [fH b i h] []=some ⟨.agg [.own 0],[fH b i' h'],[(0,aC l)]⟩∧eZ l=true∧0≤i'∧i'≤b.length:=by
 obtain⟨k,i1,h1,e1,r1,j1⟩:=bD b i h 8 hb hi (by omega)
 obtain⟨m,rfl⟩:=Int.eq_ofNat_of_zero_le r1.1
 unfold fH at e1
 generalize hE:yu _ _ _=R
 unfold yu fH at hE
 simp [func79,f79,e1]at hE
 generalize hL:uM _ _=L at hE
 obtain⟨⟨l,i2,h2⟩,⟨a1,a2⟩,e⟩:=Ec hL (σ:=List eT×Int×Int) (fun j a=> .on ⟨[(4,V.v (.int .i64 ((m:Int)-j))),(3, .ref 3 0),(2, .ref 2 0),(0, .ref 1000000000 0)],[(1000000000,[.aP (some 0) (nK b),vI a.2.1,vI a.2.2]),(3,[.own 2000000000]),(2,[.own 2000000001])],[(2000000001,[]),(2000000000,aC a.1)],[]⟩) m (fun j a=>eZ a.1=true∧0≤a.2.1∧a.2.1≤b.length) ([],i1,h1) (by simp [show aC []= []from rfl]) ⟨rfl,j1⟩ (fun j a hj ⟨p1,p3⟩=>by
  obtain⟨l,i2,h2⟩:=a
  simp only at p1 p3
  obtain⟨t,i3,h3,e3,q1,q2,j3⟩:=LU b i2 h2 5 hb p3 (by omega)
  obtain⟨x,i4,h4,e4,q3,j4⟩:=bD b i3 h3 3 hb j3 (by omega)
  have tx:dF t=true:=by simp only [dF,Bool.and_eq_true,decide_eq_true_eq];exact⟨by omega,q1⟩
  obtain⟨l',e5,q4⟩:=Yr l t x p1 tx (by omega)
  unfold fH at e3 e4
  have g:(0:Int)<(m:Int)-j:=by omega
  have hw2:(m:Int)-j-1=(m:Int)-((j:Int)+1):=by omega
  have hw:=bM ((m:Int)-((j:Int)+1)) (by omega)
  refine⟨(l',i4,h4),⟨q4,j4⟩,?_⟩
  simp [hj,e3,e4,e5,hw2,hw])
 subst e
 simp at hE
 simp only at a1 a2
 exact⟨l,i2,h2,hE.symm,a1,a2⟩
theorem tT (t:List Int)(a:Int)(h:bN t a=true):nW [.agg [.aP (some 0) (ints t),vI a]] [] []=some ⟨V.v (.bool true),[],[]⟩:=by
 have hl:t.length≤400:=by simp only [bN,dF,Bool.and_eq_true,decide_eq_true_eq]at h;exact h.1.1
 rw [dA t a (by omega),h]
theorem VR:nQ [.agg [.aP (some 0) []]] [] []=some ⟨.agg [.own 0],[],[(0,[])]⟩:=by
 simp [nQ,func140,f140]
 rw [bL]
 simp
theorem VT (t:List Int)(a:Int)(ht:bN t a=true):rz [.agg [.aP (some 0) []], .agg [.aP (some 1) (ints t),vI a]] [] []=some ⟨.fK [.agg [.own 0],V.v (.bool true)],[],[(0,aS [⟨t,a⟩])]⟩:=by
 have e1:uG [.agg [.aP (some 0) []]] [] []=some ⟨V.v (.bool true),[],[]⟩:=by
  have:=dL [] rfl
  exact this
 have e2:=tT t a ht
 have hl:t.length≤400:=by simp only [bN,dF,Bool.and_eq_true,decide_eq_true_eq]at ht;exact ht.1.1
 have e3:=kU t (some 0) a (by omega)
 have e4:=VR
 simp [rz,func80,f80,e1,e2,e3,e4]
 rfl
theorem Yu (vi:Bool):Ht [V.v (.bool vi)] [] []=some ⟨.agg [V.v (.bool vi),vI (if vi then 1 else 0), .own 0,vI 0,vI 0,vI 0,vI 0,vI 0,vI 0,vI 0,vI 0, .own 1, .own 2,vI 0, .own 3,vI 0, .own 4,vI 0, .own 5,vI 0],[],[(0,[]),(1,[]),(2,[]),(3,[]),(4,[]),(5,[])]⟩:=by
 unfold Ht
 cases vi<;>simp [func76,f76]
def OH (x:Int):UInt8:=UInt8.ofNat x.toNat
theorem u8_in (x:Int)(h:0≤x∧x≤255):IntKind.u8.wrap x=x:=by
 simp [IntKind.wrap,IntKind.bits,IntKind.signed];omega
theorem vN (x:Int)(h:0≤x∧x≤255):IntKind.u8.wrap x=((OH x).toNat:Int):=by
 rw [u8_in x h]
 unfold OH
 rw [UInt8.toNat_ofNat']
 omega
def bg (r:Int):List UInt8:=
 if lV r=false then []else if r<128 then [OH r]else if r<2048 then [OH (192+r / 64),OH (128+r%64)]
 else if r<65536 then [OH (224+r / 4096),OH (128+r / 64%64),OH (128+r%64)]
 else [OH (240+r / 262144),OH (128+r / 4096%64),OH (128+r / 64%64),OH (128+r%64)]
theorem FD {r:Int}(h:lV r=true):0≤r∧r≤1114111:=by
 simp only [lV,Bool.and_eq_true]at h
 exact MG h.1
theorem uW (l:List UInt8):nK l=l.map fun c=> [D.a (.int .u8 (c.toNat:Int))]:=rfl
theorem jI (r:Int):xC [vI r] [] []=some ⟨.own 0,[],[(0,nK (bg r))]⟩:=by
 unfold xC
 cases h1:lV r
 ·simp [func261,f261,AY,h1,bg,uW]
 obtain⟨a,b⟩:=FD h1
 have d1:=Int.tdiv_eq_ediv_of_nonneg a (b:=64)
 have d2:=Int.tdiv_eq_ediv_of_nonneg a (b:=4096)
 have d3:=Int.tdiv_eq_ediv_of_nonneg a (b:=262144)
 have m1:=Int.tmod_eq_emod_of_nonneg a (b:=64)
 have m2:=Int.tmod_eq_emod_of_nonneg (show 0≤r / 64 by omega) (b:=64)
 have m3:=Int.tmod_eq_emod_of_nonneg (show 0≤r / 4096 by omega) (b:=64)
 have w1:=bM (r / 64) (by omega)
 have w2:=bM (r / 4096) (by omega)
 have w3:=bM (r / 262144) (by omega)
 have v1:=bM (128+r%64) (by omega)
 have v2:=bM (128+r / 64%64) (by omega)
 have v3:=bM (128+r / 4096%64) (by omega)
 have u1:=vN (128+r%64) (by omega)
 have u2:=vN (128+r / 64%64) (by omega)
 have u3:=vN (128+r / 4096%64) (by omega)
 by_cases h2:r<128
 ·simp [func261,f261,AY,h1,bg,h2,uW,vN r (by omega)]
 by_cases h3:r<2048
 ·have x1:=bM (192+r / 64) (by omega)
  have x2:=vN (192+r / 64) (by omega)
  simp [func261,f261,AY,h1,bg,h2,h3,uW,d1,m1,w1,v1,u1,x1,x2]
 by_cases h4:r<65536
 ·have x1:=bM (224+r / 4096) (by omega)
  have x2:=vN (224+r / 4096) (by omega)
  simp [func261,f261,AY,h1,bg,h2,h3,h4,uW,d1,d2,m1,m2,w1,w2,v1,v2,u1,u2,x1,x2]
 have x1:=bM (240+r / 262144) (by omega)
 have x2:=vN (240+r / 262144) (by omega)
 simp [func261,f261,AY,h1,bg,h2,h3,h4,uW,d1,d2,d3,m1,m2,m3,w1,w2,w3,v1,v2,v3,u1,u2,u3,x1,x2]
theorem rG (r:Int):w9 [vI r] [] []=some ⟨.own 0,[],[(0,nK (bg r))]⟩:=by
 unfold w9
 cases h1:lV r
 ·simp [func230,f230,AX,h1,bg,uW]
 obtain⟨a,b⟩:=FD h1
 have d1:=Int.tdiv_eq_ediv_of_nonneg a (b:=64)
 have d2:=Int.tdiv_eq_ediv_of_nonneg a (b:=4096)
 have d3:=Int.tdiv_eq_ediv_of_nonneg a (b:=262144)
 have m1:=Int.tmod_eq_emod_of_nonneg a (b:=64)
 have m2:=Int.tmod_eq_emod_of_nonneg (show 0≤r / 64 by omega) (b:=64)
 have m3:=Int.tmod_eq_emod_of_nonneg (show 0≤r / 4096 by omega) (b:=64)
 have w1:=bM (r / 64) (by omega)
 have w2:=bM (r / 4096) (by omega)
 have w3:=bM (r / 262144) (by omega)
 have v1:=bM (128+r%64) (by omega)
 have v2:=bM (128+r / 64%64) (by omega)
 have v3:=bM (128+r / 4096%64) (by omega)
 have u1:=vN (128+r%64) (by omega)
 have u2:=vN (128+r / 64%64) (by omega)
 have u3:=vN (128+r / 4096%64) (by omega)
 by_cases h2:r<128
 ·simp [func230,f230,AX,h1,bg,h2,uW,vN r (by omega)]
 by_cases h3:r<2048
 ·have x1:=bM (192+r / 64) (by omega)
  have x2:=vN (192+r / 64) (by omega)
  simp [func230,f230,AX,h1,bg,h2,h3,uW,d1,m1,w1,v1,u1,x1,x2]
 by_cases h4:r<65536
 ·have x1:=bM (224+r / 4096) (by omega)
  have x2:=vN (224+r / 4096) (by omega)
  simp [func230,f230,AX,h1,bg,h2,h3,h4,uW,d1,d2,m1,m2,w1,w2,v1,v2,u1,u2,x1,x2]
 have x1:=bM (240+r / 262144) (by omega)
 have x2:=vN (240+r / 262144) (by omega)
 simp [func230,f230,AX,h1,bg,h2,h3,h4,uW,d1,d2,d3,m1,m2,m3,w1,w2,w3,v1,v2,v3,u1,u2,u3,x1,x2]
def bI (l:List Int):List UInt8:=l.flatMap bg
theorem Dn (r:Int):(bg r).length≤4:=by
 unfold bg
 split
 ·simp
 split
 ·simp
 split
 ·simp
 split<;>simp
theorem FE (l:List Int):(bI l).length≤4*l.length:=by
 induction l with
 | nil=>simp [bI]
 | cons r l ih=>
  have:=Dn r
  simp only [bI,List.flatMap_cons,List.length_append,List.length_cons]at ih⊢;omega
theorem zG {l:List Int}{j:Nat}(h:j<l.length):bI (l.take (j+1))=bI (l.take j)++bg l[j]:=by
 unfold bI
 rw [List.take_add_one,List.getElem?_eq_getElem h,List.flatMap_append];simp
theorem eG:∀(l:List UInt8),bG qY (nK l)=some l
 | []=>rfl
 | c::l=>by
  rw [show nK (c::l)= [D.a (.int .u8 (c.toNat:Int))]::nK l from rfl]
  have h:UInt8.ofNat ((c.toNat:Int)).toNat=c:=by simp
  simp only [bG,qY,aY,eG l,h]
theorem Ur (l:List Int)(hl:l.length≤1000000000):Ea [.aP (some 0) (ints l)] [] []=some ⟨V.v (.string (⟨(bI l).toArray⟩)),[],[]⟩:=by
 simp [Ea,func203,f203]
 rw [aJ (fun j=> .on ⟨[(9,V.v (.int .i64 ((j:Int)))),(8,V.v (.int .i64 ((l.length:Int)))),(7, .aP (some 0) (ints l)),(3, .own 2000000000)],[],[(2000000000,nK (bI (l.take j)))],[]⟩) l.length ?_ ?_]
 ·simp [eG]
 ·simp [bI,uW]
 ·intro j hj
  have hw:=bM (j+1) (by omega)
  have h1:(bI (l.take j)).length≤4000000000:=by
   have:=FE (l.take j)
   have e:(l.take j).length≤l.length:=by simp;omega
   omega
  have h2:=Dn l[j]
  have h3:=zG hj
  simp [hj,hw,aO hj,jI]
  simp (disch:=omega) only [eH]
  simp [hw,h3]
theorem Us (l:List Int)(hl:l.length≤1000000000):D7 [.aP (some 0) (ints l)] [] []=some ⟨V.v (.string (⟨(bI l).toArray⟩)),[],[]⟩:=by
 simp [D7,func174,f174]
 rw [aJ (fun j=> .on ⟨[(8,V.v (.int .i64 ((j:Int)))),(7,V.v (.int .i64 ((l.length:Int)))),(6, .aP (some 0) (ints l)),(3, .own 2000000000)],[],[(2000000000,nK (bI (l.take j)))],[]⟩) l.length ?_ ?_]
 ·simp [eG]
 ·simp [bI,uW]
 ·intro j hj
  have hw:=bM (j+1) (by omega)
  have h1:(bI (l.take j)).length≤4000000000:=by
   have:=FE (l.take j)
   have e:(l.take j).length≤l.length:=by simp;omega
   omega
  have h2:=Dn l[j]
  have h3:=zG hj
  simp [hj,hw,aO hj,rG]
  simp (disch:=omega) only [eH]
  simp [hw,h3]
theorem yX {x:Int}(h:0≤x∧x≤255):((OH x).toNat:Int)=x:=by
 rw [←vN x h,u8_in x h]
theorem ah0 (c:UInt8):OH (c.toNat:Int)=c:=by simp [OH]
def qx (b:List UInt8)(i:Nat):Int:=((b[i]?.getD 0).toNat:Int)
def val (b:List UInt8):Nat→Int
 | 1=>qx b 0
 | 2=>(qx b 0-192)*64+qx b 1-128
 | 3=>((qx b 0-224)*64+qx b 1-128)*64+qx b 2-128
 | 4=>(((qx b 0-240)*64+qx b 1-128)*64+qx b 2-128)*64+qx b 3-128
 | _=>0
def cls (c:Int):Nat:=if c<128 then 1 else if gY c 192 223 then 2 else if gY c 224 239 then 3 else if gY c 240 247 then 4 else 0
def dec:List UInt8→Option (Int×Nat)
 | []=>none
 | c::l=>if cls (qx (c::l) 0)≠0∧cls (qx (c::l) 0)≤(c::l).length∧bg (val (c::l) (cls (qx (c::l) 0)))=(c::l).take (cls (qx (c::l) 0))then some (val (c::l) (cls (qx (c::l) 0)),cls (qx (c::l) 0))else none
theorem LV (c:UInt8)(l:List UInt8):dec (c::l)=if cls (qx (c::l) 0)≠0∧cls (qx (c::l) 0)≤(c::l).length∧bg (val (c::l) (cls (qx (c::l) 0)))=(c::l).take (cls (qx (c::l) 0))then some (val (c::l) (cls (qx (c::l) 0)),cls (qx (c::l) 0))else none:=rfl
theorem uX {r:Int}(h:lV r=true):
  (0≤r∧r<128∧bg r= [OH r])∨(128≤r∧r<2048∧bg r= [OH (192+r / 64),OH (128+r%64)])∨
  (2048≤r∧r<65536∧bg r= [OH (224+r / 4096),OH (128+r / 64%64),OH (128+r%64)])∨
  (65536≤r∧r≤1114111∧bg r= [OH (240+r / 262144),OH (128+r / 4096%64),OH (128+r / 64%64),OH (128+r%64)]):=by
 obtain⟨a,b⟩:=FD h
 by_cases h1:r<128
 ·exact .inl ⟨a,h1,by simp [bg,h,h1]⟩
 by_cases h2:r<2048
 ·exact .inr (.inl ⟨by omega,h2,by simp [bg,h,h1,h2]⟩)
 by_cases h3:r<65536
 ·exact .inr (.inr (.inl ⟨by omega,h3,by simp [bg,h,h1,h2,h3]⟩))
 ·exact .inr (.inr (.inr ⟨by omega,b,by simp [bg,h,h1,h2,h3]⟩))
theorem Ij {r:Int}(h:lV r=true)(t:List UInt8):dec (bg r++t)=some (r,(bg r).length):=by
 rcases uX h with⟨a,b,e⟩|⟨a,b,e⟩|⟨a,b,e⟩|⟨a,b,e⟩
 ·have h0:=yX (x:=r) (by omega)
  have hc:cls r=1:=by simp [cls,b]
  rw [e]
  simp [dec,qx,h0,hc,val,e]
 ·have h0:=yX (x:=192+r / 64) (by omega)
  have h1:=yX (x:=128+r%64) (by omega)
  have hc:cls (192+r / 64)=2:=by
   have:¬192+r / 64<128:=by omega
   have i1:gY (192+r / 64) 192 223=true:=bA.2 (by omega)
   simp [cls,this,i1]
  have hv:(192+r / 64-192)*64+(128+r%64)-128=r:=by omega
  rw [e]
  simp [dec,qx,h0,h1,hc,val,hv,e]
 ·have h0:=yX (x:=224+r / 4096) (by omega)
  have h1:=yX (x:=128+r / 64%64) (by omega)
  have h2:=yX (x:=128+r%64) (by omega)
  have hc:cls (224+r / 4096)=3:=by
   have:¬224+r / 4096<128:=by omega
   have i1:gY (224+r / 4096) 192 223=false:=oF (by rw [bA];omega)
   have i2:gY (224+r / 4096) 224 239=true:=bA.2 (by omega)
   simp [cls,this,i1,i2]
  have hv:((224+r / 4096-224)*64+(128+r / 64%64)-128)*64+(128+r%64)-128=r:=by omega
  rw [e]
  simp [dec,qx,h0,h1,h2,hc,val,hv,e]
 ·have h0:=yX (x:=240+r / 262144) (by omega)
  have h1:=yX (x:=128+r / 4096%64) (by omega)
  have h2:=yX (x:=128+r / 64%64) (by omega)
  have h3:=yX (x:=128+r%64) (by omega)
  have hc:cls (240+r / 262144)=4:=by
   have:¬240+r / 262144<128:=by omega
   have i1:gY (240+r / 262144) 192 223=false:=oF (by rw [bA];omega)
   have i2:gY (240+r / 262144) 224 239=false:=oF (by rw [bA];omega)
   have i3:gY (240+r / 262144) 240 247=true:=bA.2 (by omega)
   simp [cls,this,i1,i2,i3]
  have hv:(((240+r / 262144-240)*64+(128+r / 4096%64)-128)*64+(128+r / 64%64)-128)*64+(128+r%64)-128=r:=by omega
  rw [e]
  simp [dec,qx,h0,h1,h2,h3,hc,val,hv,e]
theorem LW {r:Int}(h:bg r≠ []):lV r=true:=by
 cases e:lV r
 ·exact absurd (by simp [bg,e]) h
 ·rfl
theorem QL {b:List UInt8}{r:Int}{n:Nat}(h:dec b=some (r,n)):lV r=true∧bg r=b.take n∧n≤b.length∧n=(bg r).length∧1≤n:=by
 cases b with
 | nil=>cases h
 | cons c l=>
  rw [LV]at h
  by_cases hc:cls (qx (c::l) 0)≠0∧cls (qx (c::l) 0)≤(c::l).length∧bg (val (c::l) (cls (qx (c::l) 0)))=(c::l).take (cls (qx (c::l) 0))
  ·rw [if_pos hc]at h
   obtain⟨h1,h2,h3⟩:=hc
   simp only [Option.some.injEq,Prod.mk.injEq]at h
   obtain⟨e1,e2⟩:=h
   rw [e1,e2]at h3
   rw [e2]at h1 h2
   have hlen:(bg r).length=n:=by rw [h3];simp only [List.length_take];omega
   exact⟨LW (fun e=>by rw [e]at hlen;simp at hlen;omega),h3,h2,hlen.symm,by omega⟩
  ·rw [if_neg hc]at h;cases h
theorem ah1 {b:List UInt8}{n:Nat}(h1:1≤n)(h2:n≤b.length)(h3:bg (val b n)=b.take n):cls (qx b 0)=n∧dec b=some (val b n,n):=by
 have hn:b.take n≠ []:=fun e=>by
  have:(b.take n).length=0:=by rw [e];rfl
  simp only [List.length_take]at this
  omega
 have ok:=LW (r:=val b n) (by rw [h3];exact hn)
 have hd:=Ij ok (b.drop n)
 rw [h3,List.take_append_drop]at hd
 have hl:(b.take n).length=n:=by simp only [List.length_take];omega
 rw [hl]at hd
 refine⟨?_,hd⟩
 cases b with
 | nil=>cases hd
 | cons c l=>
  rw [LV]at hd
  by_cases hc:cls (qx (c::l) 0)≠0∧cls (qx (c::l) 0)≤(c::l).length∧bg (val (c::l) (cls (qx (c::l) 0)))=(c::l).take (cls (qx (c::l) 0))
  ·rw [if_pos hc]at hd
   simp only [Option.some.injEq,Prod.mk.injEq]at hd;exact hd.2
  ·rw [if_neg hc]at hd;cases hd
def Reads (b:List UInt8)(l:List Int)(rest:List UInt8):Prop:=b=bI l++rest∧(∀r∈l,lV r=true)∧dec rest=none
theorem LX:∀(n:Nat) (b:List UInt8),b.length≤n→∃l rest,Reads b l rest
 | 0,b,h=>⟨[],[],by cases b with
  | nil=>exact⟨rfl,by simp,rfl⟩
  | cons c l=>simp at h⟩
 | n+1,b,h=>by
  cases e:dec b with
  | none=>exact⟨[],b,rfl,by simp,e⟩
  | some x=>
   obtain⟨r,k⟩:=x
   obtain⟨a1,a2,a3,a4,a5⟩:=QL e
   obtain⟨l,rest,h1,h2,h3⟩:=LX n (b.drop k) (by simp only [List.length_drop];omega)
   refine⟨r::l,rest,?_,?_,h3⟩
   ·rw [bI,List.flatMap_cons,a2,List.append_assoc,←bI,←h1,List.take_append_drop]
   ·intro x hx
    rcases List.mem_cons.1 hx with rfl|hx
    ·exact a1
    ·exact h2 x hx
theorem Reads.at {b:List UInt8}{l:List Int}{rest:List UInt8}(h:Reads b l rest){j:Nat}(hj:j<l.length):
  (bI (l.take j)).length<b.length∧dec (b.drop (bI (l.take j)).length)=some (l[j],(bg l[j]).length)∧(bI (l.take j)).length+(bg l[j]).length=(bI (l.take (j+1))).length:=by
 obtain⟨h1,h2,h3⟩:=h
 have ok:=h2 l[j] (List.getElem_mem hj)
 have e:l=l.take j++l[j]::l.drop (j+1):=by
  rw [List.getElem_cons_drop,List.take_append_drop]
 have e2:bI l=bI (l.take j)++(bg l[j]++bI (l.drop (j+1))):=by
  conv=>lhs;rw [e]
  unfold bI
  rw [List.flatMap_append,List.flatMap_cons]
 have e3:b.drop (bI (l.take j)).length=bg l[j]++(bI (l.drop (j+1))++rest):=by
  rw [h1,e2,List.append_assoc,List.drop_left,List.append_assoc]
 have hpos:1≤(bg l[j]).length:=by
  rcases uX ok with⟨_,_,e⟩|⟨_,_,e⟩|⟨_,_,e⟩|⟨_,_,e⟩<;>rw [e]<;>simp
 refine⟨?_,?_,?_⟩
 ·rw [h1,e2];simp only [List.length_append];omega
 ·rw [e3];exact Ij ok _
 ·rw [zG hj,List.length_append]
theorem Reads.end {b:List UInt8}{l:List Int}{rest:List UInt8}(h:Reads b l rest):b.drop (bI l).length=rest∧(bI l).length+rest.length=b.length:=by
 obtain⟨h1,h2,h3⟩:=h
 subst h1
 exact⟨List.drop_left,by simp⟩
theorem Reads.len {b:List UInt8}{l:List Int}{rest:List UInt8}(h:Reads b l rest):l.length≤b.length:=by
 obtain⟨h1,h2,h3⟩:=h
 subst h1
 have:∀l:List Int,(∀r∈l,lV r=true)→l.length≤(bI l).length:=by
  intro l;induction l with
  | nil=>intro _;simp
  | cons r l ih=>
   intro hl
   have:=ih fun x hx=>hl x (List.mem_cons_of_mem _ hx)
   have hpos:1≤(bg r).length:=by
    rcases uX (hl r (List.mem_cons_self ..))with⟨_,_,e⟩|⟨_,_,e⟩|⟨_,_,e⟩|⟨_,_,e⟩<;>rw [e]<;>simp
   simp only [bI,List.flatMap_cons,List.length_append,List.length_cons]at this⊢;omega
 have:=this l h2
 simp only [List.length_append];omega
theorem jJ {b:List UInt8}{k i:Nat}(h:k+i<b.length):qx (b.drop k) i=(b[k+i].toNat:Int):=by
 unfold qx
 rw [List.getElem?_drop,List.getElem?_eq_getElem h];rfl
theorem lW {b:List UInt8}{k:Nat}(h:k<b.length):qx (b.drop k) 0=(b[k].toNat:Int):=jJ (i:=0) h
theorem ah2 {b:List UInt8}{k:Nat}(h:k<b.length):dec (b.drop k)=if cls (b[k].toNat:Int)≠0∧k+cls (b[k].toNat:Int)≤b.length∧bg (val (b.drop k) (cls (b[k].toNat:Int)))=(b.drop k).take (cls (b[k].toNat:Int))then some (val (b.drop k) (cls (b[k].toNat:Int)),cls (b[k].toNat:Int))else none:=by
 have e:b.drop k=b[k]::b.drop (k+1):=(List.drop_eq_getElem_cons h)
 have hn:=lW h
 rw [e]at hn⊢
 rw [LV,hn]
 have hl:(b[k]::b.drop (k+1)).length=b.length-k:=by rw [←e,List.length_drop]
 rw [hl]
 congr 1
 simp only [eq_iff_iff]
 constructor
 ·rintro ⟨a,b,c⟩;exact⟨a,by omega,c⟩
 ·rintro ⟨a,b,c⟩;exact⟨a,by omega,c⟩
theorem VU {b:List UInt8}{k:Nat}(h:k<b.length):(b.drop k).take 1= [b[k]]:=by
 rw [List.drop_eq_getElem_cons h];rfl
theorem Sd {b:List UInt8}{k:Nat}(h:k+1<b.length):(b.drop k).take 2= [b[k],b[k+1]]:=by
 rw [List.drop_eq_getElem_cons (by omega:k<b.length),List.take_succ_cons,VU h]
theorem Sg {b:List UInt8}{k:Nat}(h:k+2<b.length):(b.drop k).take 3= [b[k],b[k+1],b[k+2]]:=by
 rw [List.drop_eq_getElem_cons (by omega:k<b.length),List.take_succ_cons,Sd (by omega)]
theorem aaM {b:List UInt8}{k:Nat}(h:k+3<b.length):(b.drop k).take 4= [b[k],b[k+1],b[k+2],b[k+3]]:=by
 rw [List.drop_eq_getElem_cons (by omega:k<b.length),List.take_succ_cons,Sg (by omega)]
def vO:Option (Int×Nat)→Int
 | some x=>x.1
 | none=>0
def vP:Option (Int×Nat)→Int
 | some x=>x.2
 | none=>0
theorem Oi (b:List UInt8)(k:Nat)(hk:k<b.length)(hb:b.length≤1000000000):Cv [.aP (some 0) (nK b),vI (k:Int)] [] []=some ⟨.fK [vI (vO (dec (b.drop k))),vI (vP (dec (b.drop k)))],[],[]⟩:=by
 unfold Cv
 have hc:=b[k].toNat_lt
 have h1:¬((b.length:Int)≤k):=by omega
 have h0:¬((k:Int)<0):=by omega
 have w0:=bM (b[k].toNat:Int) (by omega)
 rw [ah2 hk]
 generalize hx:(b[k].toNat:Int)=x at w0
 have hx0:0≤x∧x≤255:=by omega
 have hxo:UInt8.ofNat x.toNat=b[k]:=by rw [←hx];simp
 by_cases c1:x<128
 ·have e1:cls x=1:=by simp [cls,c1]
  have hok:lV x=true:=by
   have i1:gY x 0 1114111=true:=bA.2 (by omega)
   have i2:gY x 55296 57343=false:=oF (by rw [bA];omega)
   simp [lV,i1,i2]
  have e2:val (b.drop k) 1=x:=by rw [val,lW hk,hx]
  have e3:bg x=(b.drop k).take 1:=by
   rw [VU hk];simp [bg,hok,c1];rw [←hx,ah0]
  have e4:k+1≤b.length:=hk
  simp [func276,f276,h0,h1,hk,dU hk,hx,w0,c1,e1,e2,e3,e4,vO,vP]
 by_cases c2:gY x 192 223=true
 ·have e1:cls x=2:=by simp [cls,c1,c2]
  obtain⟨a1,a2⟩:=MG c2
  have w1:=bM (x-192) (by omega)
  have w2:=bM ((b.length:Int)-2) (by omega)
  by_cases e4:k+2≤b.length
  ·have e5:¬((b.length:Int)-2<k):=by omega
   have w3:=bM ((k:Int)+1) (by omega)
   have w4:=bM ((k:Int)+2) (by omega)
   have f1:(0:Int)≤(k:Int)+1:=by omega
   have f2:(k:Int)+2≤b.length:=by omega
   have f3:((k:Int)+2).toNat=k+2:=by omega
   have f4:k+2-(k+1)=1:=by omega
   have f5:k+2-k=2:=by omega
   have f7:(k:Int)≤(k:Int)+2:=by omega
   have f8:(k:Int)+1≤(k:Int)+2:=by omega
   have g1:k+1<b.length:=by omega
   have r1:=b[k+1].toNat_lt
   have p1:=bM (b[k+1].toNat:Int) (by omega)
   have QM:=bM ((x-192)*64) (by omega)
   have QN:=bM ((x-192)*64+(b[k+1].toNat:Int)) (by omega)
   have QO:=bM ((x-192)*64+(b[k+1].toNat:Int)-128) (by omega)
   have v1:val (b.drop k) 2=(x-192)*64+(b[k+1].toNat:Int)-128:=by rw [val,lW hk,jJ g1,hx]
   have z0:bg ((x-192)*64+(b[k+1].toNat:Int)-128)= [b[k],b[k+1]]∨bg ((x-192)*64+(b[k+1].toNat:Int)-128)≠ [b[k],b[k+1]]:=Decidable.em _
   rcases z0 with z|z
   ·simp [func276,f276,h0,h1,hk,dU hk,hx,w0,c1,c2,e1,e4,e5,w1,w2,w3,w4,vO,vP,dQ,f1,f2,f3,f4,f5,f7,f8,VU (k:=k+1) g1,Sd g1,AA,Dz,bL,p1,QM,QN,QO,rG,eG,v1,z,hxo]
   ·simp [func276,f276,h0,h1,hk,dU hk,hx,w0,c1,c2,e1,e4,e5,w1,w2,w3,w4,vO,vP,dQ,f1,f2,f3,f4,f5,f7,f8,VU (k:=k+1) g1,Sd g1,AA,Dz,bL,p1,QM,QN,QO,rG,eG,v1,z,hxo]
  ·have e5:(b.length:Int)-2<k:=by omega
   simp [func276,f276,h0,h1,hk,dU hk,hx,w0,c1,c2,e1,e4,e5,w1,w2,vO,vP,dQ]
 by_cases c3:gY x 224 239=true
 ·have e1:cls x=3:=by simp [cls,c1,c2,c3]
  obtain⟨a1,a2⟩:=MG c3
  have w1:=bM (x-224) (by omega)
  have w2:=bM ((b.length:Int)-3) (by omega)
  by_cases e4:k+3≤b.length
  ·have e5:¬((b.length:Int)-3<k):=by omega
   have w3:=bM ((k:Int)+1) (by omega)
   have w4:=bM ((k:Int)+3) (by omega)
   have f1:(0:Int)≤(k:Int)+1:=by omega
   have f2:(k:Int)+3≤b.length:=by omega
   have f3:((k:Int)+3).toNat=k+3:=by omega
   have f4:k+3-(k+1)=2:=by omega
   have f5:k+3-k=3:=by omega
   have f7:(k:Int)≤(k:Int)+3:=by omega
   have f8:(k:Int)+1≤(k:Int)+3:=by omega
   have g1:k+1<b.length:=by omega
   have r1:=b[k+1].toNat_lt
   have p1:=bM (b[k+1].toNat:Int) (by omega)
   have g2:k+2<b.length:=by omega
   have r2:=b[k+2].toNat_lt
   have p2:=bM (b[k+2].toNat:Int) (by omega)
   have QM:=bM ((x-224)*64) (by omega)
   have QN:=bM ((x-224)*64+(b[k+1].toNat:Int)) (by omega)
   have QO:=bM ((x-224)*64+(b[k+1].toNat:Int)-128) (by omega)
   have q20:=bM (((x-224)*64+(b[k+1].toNat:Int)-128)*64) (by omega)
   have q21:=bM (((x-224)*64+(b[k+1].toNat:Int)-128)*64+(b[k+2].toNat:Int)) (by omega)
   have q22:=bM (((x-224)*64+(b[k+1].toNat:Int)-128)*64+(b[k+2].toNat:Int)-128) (by omega)
   have v1:val (b.drop k) 3=((x-224)*64+(b[k+1].toNat:Int)-128)*64+(b[k+2].toNat:Int)-128:=by rw [val,lW hk,jJ g1,jJ g2,hx]
   have z0:bg (((x-224)*64+(b[k+1].toNat:Int)-128)*64+(b[k+2].toNat:Int)-128)= [b[k],b[k+1],b[k+2]]∨bg (((x-224)*64+(b[k+1].toNat:Int)-128)*64+(b[k+2].toNat:Int)-128)≠ [b[k],b[k+1],b[k+2]]:=Decidable.em _
   rcases z0 with z|z
   ·simp [func276,f276,h0,h1,hk,dU hk,hx,w0,c1,c2,c3,e1,e4,e5,w1,w2,w3,w4,vO,vP,dQ,f1,f2,f3,f4,f5,f7,f8,Sd (k:=k+1) g2,Sg g2,AA,Dz,bL,p1,p2,QM,QN,QO,q20,q21,q22,rG,eG,v1,z,hxo]
   ·simp [func276,f276,h0,h1,hk,dU hk,hx,w0,c1,c2,c3,e1,e4,e5,w1,w2,w3,w4,vO,vP,dQ,f1,f2,f3,f4,f5,f7,f8,Sd (k:=k+1) g2,Sg g2,AA,Dz,bL,p1,p2,QM,QN,QO,q20,q21,q22,rG,eG,v1,z,hxo]
  ·have e5:(b.length:Int)-3<k:=by omega
   simp [func276,f276,h0,h1,hk,dU hk,hx,w0,c1,c2,c3,e1,e4,e5,w1,w2,vO,vP,dQ]
 by_cases c4:gY x 240 247=true
 ·have e1:cls x=4:=by simp [cls,c1,c2,c3,c4]
  obtain⟨a1,a2⟩:=MG c4
  have w1:=bM (x-240) (by omega)
  have w2:=bM ((b.length:Int)-4) (by omega)
  by_cases e4:k+4≤b.length
  ·have e5:¬((b.length:Int)-4<k):=by omega
   have w3:=bM ((k:Int)+1) (by omega)
   have w4:=bM ((k:Int)+4) (by omega)
   have f1:(0:Int)≤(k:Int)+1:=by omega
   have f2:(k:Int)+4≤b.length:=by omega
   have f3:((k:Int)+4).toNat=k+4:=by omega
   have f4:k+4-(k+1)=3:=by omega
   have f5:k+4-k=4:=by omega
   have f7:(k:Int)≤(k:Int)+4:=by omega
   have f8:(k:Int)+1≤(k:Int)+4:=by omega
   have g1:k+1<b.length:=by omega
   have r1:=b[k+1].toNat_lt
   have p1:=bM (b[k+1].toNat:Int) (by omega)
   have g2:k+2<b.length:=by omega
   have r2:=b[k+2].toNat_lt
   have p2:=bM (b[k+2].toNat:Int) (by omega)
   have g3:k+3<b.length:=by omega
   have r3:=b[k+3].toNat_lt
   have p3:=bM (b[k+3].toNat:Int) (by omega)
   have QM:=bM ((x-240)*64) (by omega)
   have QN:=bM ((x-240)*64+(b[k+1].toNat:Int)) (by omega)
   have QO:=bM ((x-240)*64+(b[k+1].toNat:Int)-128) (by omega)
   have q20:=bM (((x-240)*64+(b[k+1].toNat:Int)-128)*64) (by omega)
   have q21:=bM (((x-240)*64+(b[k+1].toNat:Int)-128)*64+(b[k+2].toNat:Int)) (by omega)
   have q22:=bM (((x-240)*64+(b[k+1].toNat:Int)-128)*64+(b[k+2].toNat:Int)-128) (by omega)
   have q30:=bM ((((x-240)*64+(b[k+1].toNat:Int)-128)*64+(b[k+2].toNat:Int)-128)*64) (by omega)
   have q31:=bM ((((x-240)*64+(b[k+1].toNat:Int)-128)*64+(b[k+2].toNat:Int)-128)*64+(b[k+3].toNat:Int)) (by omega)
   have q32:=bM ((((x-240)*64+(b[k+1].toNat:Int)-128)*64+(b[k+2].toNat:Int)-128)*64+(b[k+3].toNat:Int)-128) (by omega)
   have v1:val (b.drop k) 4=(((x-240)*64+(b[k+1].toNat:Int)-128)*64+(b[k+2].toNat:Int)-128)*64+(b[k+3].toNat:Int)-128:=by rw [val,lW hk,jJ g1,jJ g2,jJ g3,hx]
   have z0:bg ((((x-240)*64+(b[k+1].toNat:Int)-128)*64+(b[k+2].toNat:Int)-128)*64+(b[k+3].toNat:Int)-128)= [b[k],b[k+1],b[k+2],b[k+3]]∨bg ((((x-240)*64+(b[k+1].toNat:Int)-128)*64+(b[k+2].toNat:Int)-128)*64+(b[k+3].toNat:Int)-128)≠ [b[k],b[k+1],b[k+2],b[k+3]]:=Decidable.em _
   rcases z0 with z|z
   ·simp [func276,f276,h0,h1,hk,dU hk,hx,w0,c1,c2,c3,c4,e1,e4,e5,w1,w2,w3,w4,vO,vP,dQ,f1,f2,f3,f4,f5,f7,f8,Sg (k:=k+1) g3,aaM g3,AA,Dz,bL,p1,p2,p3,QM,QN,QO,q20,q21,q22,q30,q31,q32,rG,eG,v1,z,hxo]
   ·simp [func276,f276,h0,h1,hk,dU hk,hx,w0,c1,c2,c3,c4,e1,e4,e5,w1,w2,w3,w4,vO,vP,dQ,f1,f2,f3,f4,f5,f7,f8,Sg (k:=k+1) g3,aaM g3,AA,Dz,bL,p1,p2,p3,QM,QN,QO,q20,q21,q22,q30,q31,q32,rG,eG,v1,z,hxo]
  ·have e5:(b.length:Int)-4<k:=by omega
   simp [func276,f276,h0,h1,hk,dU hk,hx,w0,c1,c2,c3,c4,e1,e4,e5,w1,w2,vO,vP,dQ]
 have e1:cls x=0:=by simp [cls,c1,c2,c3,c4]
 simp [func276,f276,h0,h1,hk,dU hk,hx,w0,c1,c2,c3,c4,e1,vO,vP,dQ]
theorem acv {b:List UInt8}{r:Int}{n:Nat}(h:dec b=some (r,n)):r=val b n∧n≤4:=by
 cases b with
 | nil=>cases h
 | cons c l=>
  rw [LV]at h
  by_cases hc:cls (qx (c::l) 0)≠0∧cls (qx (c::l) 0)≤(c::l).length∧bg (val (c::l) (cls (qx (c::l) 0)))=(c::l).take (cls (qx (c::l) 0))
  ·rw [if_pos hc]at h
   simp only [Option.some.injEq,Prod.mk.injEq]at h
   refine⟨by rw [←h.1,h.2],?_⟩
   rw [←h.2]
   unfold cls
   split
   ·omega
   split
   ·omega
   split
   ·omega
   split<;>omega
  ·rw [if_neg hc]at h;cases h
theorem afJ (b:List UInt8):∃N,N≤4∧(∀j,j<N→j+1≤b.length∧bg (val b (j+1))≠b.take (j+1))∧((N<4∧N+1≤b.length∧bg (val b (N+1))=b.take (N+1)∧dec b=some (val b (N+1),N+1))∨((N=4∨b.length<N+1)∧dec b=none)):=by
 have step:∀n,n≤4→(∀j,j<n→j+1≤b.length∧bg (val b (j+1))≠b.take (j+1))→∃N,N≤4∧(∀j,j<N→j+1≤b.length∧bg (val b (j+1))≠b.take (j+1))∧((N<4∧N+1≤b.length∧bg (val b (N+1))=b.take (N+1)∧dec b=some (val b (N+1),N+1))∨((N=4∨b.length<N+1)∧dec b=none)):=by
  intro n
  induction h:4-n generalizing n with
  | zero=>
   intro hn hall
   refine⟨n,hn,hall, .inr ⟨.inl (by omega),?_⟩⟩
   cases e:dec b with
   | none=>rfl
   | some x=>
    obtain⟨r,m⟩:=x
    obtain⟨a1,a2,a3,a4,a5⟩:=QL e
    obtain⟨v1,v2⟩:=acv e
    have:=(hall (m-1) (by omega)).2
    rw [show m-1+1=m by omega,←v1]at this
    exact absurd a2 this
  | succ d ih=>
   intro hn hall
   by_cases hl:n+1≤b.length
   ·by_cases ht:bg (val b (n+1))=b.take (n+1)
    ·exact⟨n,hn,hall, .inl ⟨by omega,hl,ht,(ah1 (by omega) hl ht).2⟩⟩
    ·refine ih (n+1) (by omega) (by omega) fun j hj=>?_
     rcases Nat.lt_or_ge j n with h1|h1
     ·exact hall j h1
     ·obtain rfl:j=n:=by omega
      exact⟨hl,ht⟩
   ·refine⟨n,hn,hall, .inr ⟨.inr (by omega),?_⟩⟩
    cases e:dec b with
    | none=>rfl
    | some x=>
     obtain⟨r,m⟩:=x
     obtain⟨a1,a2,a3,a4,a5⟩:=QL e
     obtain⟨v1,v2⟩:=acv e
     have:=(hall (m-1) (by omega)).2
     rw [show m-1+1=m by omega,←v1]at this
     exact absurd a2 this
 exact step 0 (by omega) fun j hj=>by omega
theorem Oj (b:List UInt8)(k:Nat)(hk:k<b.length)(hb:b.length≤1000000000):Cx [.aP (some 0) (nK b),vI (k:Int)] [] []=some ⟨.fK [vI (vO (dec (b.drop k))),vI (vP (dec (b.drop k)))],[],[]⟩:=by
 unfold Cx
 have hc:=b[k].toNat_lt
 have h1:¬((b.length:Int)≤k):=by omega
 have h0:¬((k:Int)<0):=by omega
 have w0:=bM (b[k].toNat:Int) (by omega)
 have wl:=bM ((b.length:Int)-k) (by omega)
 generalize hx:(b[k].toNat:Int)=x at w0
 have hx0:0≤x∧x≤255:=by omega
 have hxo:UInt8.ofNat x.toNat=b[k]:=by rw [←hx];simp
 obtain⟨N,hN4,hbad,hend⟩:=afJ (b.drop k)
 rw [List.length_drop]at hend
 simp only [List.length_drop]at hbad
 simp [func291,f291,h0,h1]
 rw [aJ (fun j=> .on ⟨[(6,V.v (.int .i64 ((j:Int)+1))),(1,V.v (.int .i64 ((k:Int)))),(0, .aP (some 0) (nK b))],[],[],[]⟩) N ?_ ?_]
 ·rcases hend with⟨e1,e2,e3,e4⟩|⟨e1,e2⟩
  ·rw [e4]
   rcases(by omega:N=0∨N=1∨N=2∨N=3)with rfl|rfl|rfl|rfl
   ·have w4:=bM ((k:Int)+1) (by omega)
    have f2:(k:Int)+1≤b.length:=by omega
    have f9:(1:Int)≤(b.length:Int)-k:=by omega
    have f3:((k:Int)+1).toNat=k+1:=by omega
    have f5:k+1-k=1:=by omega
    have f7:(k:Int)≤(k:Int)+1:=by omega
    have v1:val (b.drop k) 1=x:=by rw [val,lW hk,hx]
    have z:bg (x)=(b.drop k).take 1:=by rw [←v1];exact e3
    rw [VU hk]at z
    simp [hk,dU hk,hx,w0,wl,bL,jI,eG,hxo,vO,vP,w4,f2,f9,f3,f5,f7,VU hk,v1,z]
   ·have w1:=bM (x-192) (by omega)
    have w4:=bM ((k:Int)+2) (by omega)
    have f2:(k:Int)+2≤b.length:=by omega
    have f9:(2:Int)≤(b.length:Int)-k:=by omega
    have f3:((k:Int)+2).toNat=k+2:=by omega
    have f5:k+2-k=2:=by omega
    have f7:(k:Int)≤(k:Int)+2:=by omega
    have g1:k+1<b.length:=by omega
    have r1:=b[k+1].toNat_lt
    have p1:=bM (b[k+1].toNat:Int) (by omega)
    have t1:=bM ((k:Int)+1) (by omega)
    have u1:((k:Int)+1).toNat=k+1:=by omega
    have y1:(k:Int)+1<b.length:=by omega
    have l1:(0:Int)≤(k:Int)+1:=by omega
    have QM:=bM ((x-192)*64) (by omega)
    have QN:=bM ((x-192)*64+(b[k+1].toNat:Int)) (by omega)
    have QO:=bM ((x-192)*64+(b[k+1].toNat:Int)-128) (by omega)
    have v1:val (b.drop k) 2=(x-192)*64+(b[k+1].toNat:Int)-128:=by rw [val,lW hk,jJ g1,hx]
    have z:bg ((x-192)*64+(b[k+1].toNat:Int)-128)=(b.drop k).take 2:=by rw [←v1];exact e3
    rw [Sd g1]at z
    simp [hk,dU hk,hx,w0,wl,bL,jI,eG,hxo,vO,vP,w1,w4,f2,f9,f3,f5,f7,p1,t1,u1,y1,l1,dU g1,QM,QN,QO,Sd g1,v1,z]
   ·have w1:=bM (x-224) (by omega)
    have w4:=bM ((k:Int)+3) (by omega)
    have f2:(k:Int)+3≤b.length:=by omega
    have f9:(3:Int)≤(b.length:Int)-k:=by omega
    have f3:((k:Int)+3).toNat=k+3:=by omega
    have f5:k+3-k=3:=by omega
    have f7:(k:Int)≤(k:Int)+3:=by omega
    have g1:k+1<b.length:=by omega
    have r1:=b[k+1].toNat_lt
    have p1:=bM (b[k+1].toNat:Int) (by omega)
    have t1:=bM ((k:Int)+1) (by omega)
    have u1:((k:Int)+1).toNat=k+1:=by omega
    have y1:(k:Int)+1<b.length:=by omega
    have l1:(0:Int)≤(k:Int)+1:=by omega
    have g2:k+2<b.length:=by omega
    have r2:=b[k+2].toNat_lt
    have p2:=bM (b[k+2].toNat:Int) (by omega)
    have t2:=bM ((k:Int)+2) (by omega)
    have u2:((k:Int)+2).toNat=k+2:=by omega
    have y2:(k:Int)+2<b.length:=by omega
    have l2:(0:Int)≤(k:Int)+2:=by omega
    have QM:=bM ((x-224)*64) (by omega)
    have QN:=bM ((x-224)*64+(b[k+1].toNat:Int)) (by omega)
    have QO:=bM ((x-224)*64+(b[k+1].toNat:Int)-128) (by omega)
    have q20:=bM (((x-224)*64+(b[k+1].toNat:Int)-128)*64) (by omega)
    have q21:=bM (((x-224)*64+(b[k+1].toNat:Int)-128)*64+(b[k+2].toNat:Int)) (by omega)
    have q22:=bM (((x-224)*64+(b[k+1].toNat:Int)-128)*64+(b[k+2].toNat:Int)-128) (by omega)
    have v1:val (b.drop k) 3=((x-224)*64+(b[k+1].toNat:Int)-128)*64+(b[k+2].toNat:Int)-128:=by rw [val,lW hk,jJ g1,jJ g2,hx]
    have z:bg (((x-224)*64+(b[k+1].toNat:Int)-128)*64+(b[k+2].toNat:Int)-128)=(b.drop k).take 3:=by rw [←v1];exact e3
    rw [Sg g2]at z
    simp [hk,dU hk,hx,w0,wl,bL,jI,eG,hxo,vO,vP,w1,w4,f2,f9,f3,f5,f7,p1,t1,u1,y1,l1,dU g1,p2,t2,u2,y2,l2,dU g2,QM,QN,QO,q20,q21,q22,Sg g2,v1,z]
   ·have w1:=bM (x-240) (by omega)
    have w4:=bM ((k:Int)+4) (by omega)
    have f2:(k:Int)+4≤b.length:=by omega
    have f9:(4:Int)≤(b.length:Int)-k:=by omega
    have f3:((k:Int)+4).toNat=k+4:=by omega
    have f5:k+4-k=4:=by omega
    have f7:(k:Int)≤(k:Int)+4:=by omega
    have g1:k+1<b.length:=by omega
    have r1:=b[k+1].toNat_lt
    have p1:=bM (b[k+1].toNat:Int) (by omega)
    have t1:=bM ((k:Int)+1) (by omega)
    have u1:((k:Int)+1).toNat=k+1:=by omega
    have y1:(k:Int)+1<b.length:=by omega
    have l1:(0:Int)≤(k:Int)+1:=by omega
    have g2:k+2<b.length:=by omega
    have r2:=b[k+2].toNat_lt
    have p2:=bM (b[k+2].toNat:Int) (by omega)
    have t2:=bM ((k:Int)+2) (by omega)
    have u2:((k:Int)+2).toNat=k+2:=by omega
    have y2:(k:Int)+2<b.length:=by omega
    have l2:(0:Int)≤(k:Int)+2:=by omega
    have g3:k+3<b.length:=by omega
    have r3:=b[k+3].toNat_lt
    have p3:=bM (b[k+3].toNat:Int) (by omega)
    have t3:=bM ((k:Int)+3) (by omega)
    have u3:((k:Int)+3).toNat=k+3:=by omega
    have y3:(k:Int)+3<b.length:=by omega
    have l3:(0:Int)≤(k:Int)+3:=by omega
    have QM:=bM ((x-240)*64) (by omega)
    have QN:=bM ((x-240)*64+(b[k+1].toNat:Int)) (by omega)
    have QO:=bM ((x-240)*64+(b[k+1].toNat:Int)-128) (by omega)
    have q20:=bM (((x-240)*64+(b[k+1].toNat:Int)-128)*64) (by omega)
    have q21:=bM (((x-240)*64+(b[k+1].toNat:Int)-128)*64+(b[k+2].toNat:Int)) (by omega)
    have q22:=bM (((x-240)*64+(b[k+1].toNat:Int)-128)*64+(b[k+2].toNat:Int)-128) (by omega)
    have q30:=bM ((((x-240)*64+(b[k+1].toNat:Int)-128)*64+(b[k+2].toNat:Int)-128)*64) (by omega)
    have q31:=bM ((((x-240)*64+(b[k+1].toNat:Int)-128)*64+(b[k+2].toNat:Int)-128)*64+(b[k+3].toNat:Int)) (by omega)
    have q32:=bM ((((x-240)*64+(b[k+1].toNat:Int)-128)*64+(b[k+2].toNat:Int)-128)*64+(b[k+3].toNat:Int)-128) (by omega)
    have v1:val (b.drop k) 4=(((x-240)*64+(b[k+1].toNat:Int)-128)*64+(b[k+2].toNat:Int)-128)*64+(b[k+3].toNat:Int)-128:=by rw [val,lW hk,jJ g1,jJ g2,jJ g3,hx]
    have z:bg ((((x-240)*64+(b[k+1].toNat:Int)-128)*64+(b[k+2].toNat:Int)-128)*64+(b[k+3].toNat:Int)-128)=(b.drop k).take 4:=by rw [←v1];exact e3
    rw [aaM g3]at z
    simp [hk,dU hk,hx,w0,wl,bL,jI,eG,hxo,vO,vP,w1,w4,f2,f9,f3,f5,f7,p1,t1,u1,y1,l1,dU g1,p2,t2,u2,y2,l2,dU g2,p3,t3,u3,y3,l3,dU g3,QM,QN,QO,q20,q21,q22,q30,q31,q32,aaM g3,v1,z]
  ·rw [e2]
   by_cases e5:N=4
   ·subst e5;simp [vO,vP]
   ·have e6:¬((N:Int)+1≤(b.length:Int)-k):=by omega
    have e7:(N:Int)+1≤4:=by omega
    simp [wl,e6,e7,vO,vP]
 ·simp
 ·intro j hj
  have hb2:=hbad j hj
  rcases(by omega:j=0∨j=1∨j=2∨j=3)with rfl|rfl|rfl|rfl
  ·have w4:=bM ((k:Int)+1) (by omega)
   have f2:(k:Int)+1≤b.length:=by omega
   have f9:(1:Int)≤(b.length:Int)-k:=by omega
   have f3:((k:Int)+1).toNat=k+1:=by omega
   have f5:k+1-k=1:=by omega
   have f7:(k:Int)≤(k:Int)+1:=by omega
   have v1:val (b.drop k) 1=x:=by rw [val,lW hk,hx]
   have z:bg (x)≠(b.drop k).take 1:=by rw [←v1];exact hb2.2
   rw [VU hk]at z
   by_cases hl:(bg (x)).length=1
   ·simp [hk,dU hk,hx,w0,wl,bL,jI,eG,hxo,vO,vP,w4,f2,f9,f3,f5,f7,VU hk,v1,z,hl]
   ·have hl':¬(((bg (x)).length:Int)=1):=by omega
    simp [hk,dU hk,hx,w0,wl,bL,jI,eG,hxo,vO,vP,w4,f2,f9,f3,f5,f7,VU hk,v1,z,hl,hl']
  ·have w1:=bM (x-192) (by omega)
   have w4:=bM ((k:Int)+2) (by omega)
   have f2:(k:Int)+2≤b.length:=by omega
   have f9:(2:Int)≤(b.length:Int)-k:=by omega
   have f3:((k:Int)+2).toNat=k+2:=by omega
   have f5:k+2-k=2:=by omega
   have f7:(k:Int)≤(k:Int)+2:=by omega
   have g1:k+1<b.length:=by omega
   have r1:=b[k+1].toNat_lt
   have p1:=bM (b[k+1].toNat:Int) (by omega)
   have t1:=bM ((k:Int)+1) (by omega)
   have u1:((k:Int)+1).toNat=k+1:=by omega
   have y1:(k:Int)+1<b.length:=by omega
   have l1:(0:Int)≤(k:Int)+1:=by omega
   have QM:=bM ((x-192)*64) (by omega)
   have QN:=bM ((x-192)*64+(b[k+1].toNat:Int)) (by omega)
   have QO:=bM ((x-192)*64+(b[k+1].toNat:Int)-128) (by omega)
   have v1:val (b.drop k) 2=(x-192)*64+(b[k+1].toNat:Int)-128:=by rw [val,lW hk,jJ g1,hx]
   have z:bg ((x-192)*64+(b[k+1].toNat:Int)-128)≠(b.drop k).take 2:=by rw [←v1];exact hb2.2
   rw [Sd g1]at z
   by_cases hl:(bg ((x-192)*64+(b[k+1].toNat:Int)-128)).length=2
   ·simp [hk,dU hk,hx,w0,wl,bL,jI,eG,hxo,vO,vP,w1,w4,f2,f9,f3,f5,f7,p1,t1,u1,y1,l1,dU g1,QM,QN,QO,Sd g1,v1,z,hl]
   ·have hl':¬(((bg ((x-192)*64+(b[k+1].toNat:Int)-128)).length:Int)=2):=by omega
    simp [hk,dU hk,hx,w0,wl,bL,jI,eG,hxo,vO,vP,w1,w4,f2,f9,f3,f5,f7,p1,t1,u1,y1,l1,dU g1,QM,QN,QO,Sd g1,v1,z,hl,hl']
  ·have w1:=bM (x-224) (by omega)
   have w4:=bM ((k:Int)+3) (by omega)
   have f2:(k:Int)+3≤b.length:=by omega
   have f9:(3:Int)≤(b.length:Int)-k:=by omega
   have f3:((k:Int)+3).toNat=k+3:=by omega
   have f5:k+3-k=3:=by omega
   have f7:(k:Int)≤(k:Int)+3:=by omega
   have g1:k+1<b.length:=by omega
   have r1:=b[k+1].toNat_lt
   have p1:=bM (b[k+1].toNat:Int) (by omega)
   have t1:=bM ((k:Int)+1) (by omega)
   have u1:((k:Int)+1).toNat=k+1:=by omega
   have y1:(k:Int)+1<b.length:=by omega
   have l1:(0:Int)≤(k:Int)+1:=by omega
   have g2:k+2<b.length:=by omega
   have r2:=b[k+2].toNat_lt
   have p2:=bM (b[k+2].toNat:Int) (by omega)
   have t2:=bM ((k:Int)+2) (by omega)
   have u2:((k:Int)+2).toNat=k+2:=by omega
   have y2:(k:Int)+2<b.length:=by omega
   have l2:(0:Int)≤(k:Int)+2:=by omega
   have QM:=bM ((x-224)*64) (by omega)
   have QN:=bM ((x-224)*64+(b[k+1].toNat:Int)) (by omega)
   have QO:=bM ((x-224)*64+(b[k+1].toNat:Int)-128) (by omega)
   have q20:=bM (((x-224)*64+(b[k+1].toNat:Int)-128)*64) (by omega)
   have q21:=bM (((x-224)*64+(b[k+1].toNat:Int)-128)*64+(b[k+2].toNat:Int)) (by omega)
   have q22:=bM (((x-224)*64+(b[k+1].toNat:Int)-128)*64+(b[k+2].toNat:Int)-128) (by omega)
   have v1:val (b.drop k) 3=((x-224)*64+(b[k+1].toNat:Int)-128)*64+(b[k+2].toNat:Int)-128:=by rw [val,lW hk,jJ g1,jJ g2,hx]
   have z:bg (((x-224)*64+(b[k+1].toNat:Int)-128)*64+(b[k+2].toNat:Int)-128)≠(b.drop k).take 3:=by rw [←v1];exact hb2.2
   rw [Sg g2]at z
   by_cases hl:(bg (((x-224)*64+(b[k+1].toNat:Int)-128)*64+(b[k+2].toNat:Int)-128)).length=3
   ·simp [hk,dU hk,hx,w0,wl,bL,jI,eG,hxo,vO,vP,w1,w4,f2,f9,f3,f5,f7,p1,t1,u1,y1,l1,dU g1,p2,t2,u2,y2,l2,dU g2,QM,QN,QO,q20,q21,q22,Sg g2,v1,z,hl]
   ·have hl':¬(((bg (((x-224)*64+(b[k+1].toNat:Int)-128)*64+(b[k+2].toNat:Int)-128)).length:Int)=3):=by omega
    simp [hk,dU hk,hx,w0,wl,bL,jI,eG,hxo,vO,vP,w1,w4,f2,f9,f3,f5,f7,p1,t1,u1,y1,l1,dU g1,p2,t2,u2,y2,l2,dU g2,QM,QN,QO,q20,q21,q22,Sg g2,v1,z,hl,hl']
  ·have w1:=bM (x-240) (by omega)
   have w4:=bM ((k:Int)+4) (by omega)
   have f2:(k:Int)+4≤b.length:=by omega
   have f9:(4:Int)≤(b.length:Int)-k:=by omega
   have f3:((k:Int)+4).toNat=k+4:=by omega
   have f5:k+4-k=4:=by omega
   have f7:(k:Int)≤(k:Int)+4:=by omega
   have g1:k+1<b.length:=by omega
   have r1:=b[k+1].toNat_lt
   have p1:=bM (b[k+1].toNat:Int) (by omega)
   have t1:=bM ((k:Int)+1) (by omega)
   have u1:((k:Int)+1).toNat=k+1:=by omega
   have y1:(k:Int)+1<b.length:=by omega
   have l1:(0:Int)≤(k:Int)+1:=by omega
   have g2:k+2<b.length:=by omega
   have r2:=b[k+2].toNat_lt
   have p2:=bM (b[k+2].toNat:Int) (by omega)
   have t2:=bM ((k:Int)+2) (by omega)
   have u2:((k:Int)+2).toNat=k+2:=by omega
   have y2:(k:Int)+2<b.length:=by omega
   have l2:(0:Int)≤(k:Int)+2:=by omega
   have g3:k+3<b.length:=by omega
   have r3:=b[k+3].toNat_lt
   have p3:=bM (b[k+3].toNat:Int) (by omega)
   have t3:=bM ((k:Int)+3) (by omega)
   have u3:((k:Int)+3).toNat=k+3:=by omega
   have y3:(k:Int)+3<b.length:=by omega
   have l3:(0:Int)≤(k:Int)+3:=by omega
   have QM:=bM ((x-240)*64) (by omega)
   have QN:=bM ((x-240)*64+(b[k+1].toNat:Int)) (by omega)
   have QO:=bM ((x-240)*64+(b[k+1].toNat:Int)-128) (by omega)
   have q20:=bM (((x-240)*64+(b[k+1].toNat:Int)-128)*64) (by omega)
   have q21:=bM (((x-240)*64+(b[k+1].toNat:Int)-128)*64+(b[k+2].toNat:Int)) (by omega)
   have q22:=bM (((x-240)*64+(b[k+1].toNat:Int)-128)*64+(b[k+2].toNat:Int)-128) (by omega)
   have q30:=bM ((((x-240)*64+(b[k+1].toNat:Int)-128)*64+(b[k+2].toNat:Int)-128)*64) (by omega)
   have q31:=bM ((((x-240)*64+(b[k+1].toNat:Int)-128)*64+(b[k+2].toNat:Int)-128)*64+(b[k+3].toNat:Int)) (by omega)
   have q32:=bM ((((x-240)*64+(b[k+1].toNat:Int)-128)*64+(b[k+2].toNat:Int)-128)*64+(b[k+3].toNat:Int)-128) (by omega)
   have v1:val (b.drop k) 4=(((x-240)*64+(b[k+1].toNat:Int)-128)*64+(b[k+2].toNat:Int)-128)*64+(b[k+3].toNat:Int)-128:=by rw [val,lW hk,jJ g1,jJ g2,jJ g3,hx]
   have z:bg ((((x-240)*64+(b[k+1].toNat:Int)-128)*64+(b[k+2].toNat:Int)-128)*64+(b[k+3].toNat:Int)-128)≠(b.drop k).take 4:=by rw [←v1];exact hb2.2
   rw [aaM g3]at z
   by_cases hl:(bg ((((x-240)*64+(b[k+1].toNat:Int)-128)*64+(b[k+2].toNat:Int)-128)*64+(b[k+3].toNat:Int)-128)).length=4
   ·simp [hk,dU hk,hx,w0,wl,bL,jI,eG,hxo,vO,vP,w1,w4,f2,f9,f3,f5,f7,p1,t1,u1,y1,l1,dU g1,p2,t2,u2,y2,l2,dU g2,p3,t3,u3,y3,l3,dU g3,QM,QN,QO,q20,q21,q22,q30,q31,q32,aaM g3,v1,z,hl]
   ·have hl':¬(((bg ((((x-240)*64+(b[k+1].toNat:Int)-128)*64+(b[k+2].toNat:Int)-128)*64+(b[k+3].toNat:Int)-128)).length:Int)=4):=by omega
    simp [hk,dU hk,hx,w0,wl,bL,jI,eG,hxo,vO,vP,w1,w4,f2,f9,f3,f5,f7,p1,t1,u1,y1,l1,dU g1,p2,t2,u2,y2,l2,dU g2,p3,t3,u3,y3,l3,dU g3,QM,QN,QO,q20,q21,q22,q30,q31,q32,aaM g3,v1,z,hl,hl']
theorem Ik (s:ByteArray):nV s=nK s.data.toList:=rfl
theorem KA {r:Int}(h:lV r=true):1≤(bg r).length:=by
 rcases uX h with⟨_,_,e⟩|⟨_,_,e⟩|⟨_,_,e⟩|⟨_,_,e⟩<;>rw [e]<;>simp
theorem KC (s:ByteArray)(l:List Int)(rest:List UInt8)(h:Reads s.data.toList l rest)(hs:s.size≤65536):yH [V.v (.string s)] [] []=some ⟨.fK [.own 0,V.v (.bool rest.isEmpty)],[],[(0,if rest.isEmpty then ints l else [])]⟩:=by
 unfold yH
 have h1:¬(65536<(s.size:Int)):=by omega
 have h2:s.size≤4611686018427387904:=by omega
 have hsz:s.data.toList.length=s.size:=by simp
 have hds:s.data.toList.length=s.data.size:=Array.length_toList
 have hl:=h.len
 simp [func234,f234,h1,h2,Ik]
 rw [aJ (fun j=> .on ⟨[(6,V.v (.int .i64 (((bI (l.take j)).length:Int)))),(5, .fz (nK s.data.toList)),(4, .own 2000001000)],[],[(2000001000,ints (l.take j))],[(13,[])]⟩) l.length ?_ ?_]
 ·obtain⟨e1,e2⟩:=h.end
  have e3:=h.2.2
  cases rest with
  | nil=>
   have e4:¬((bI l).length<s.size):=by rw [List.length_nil]at e2;omega
   simp [e4]
  | cons c rest=>
   have e4:(bI l).length<s.data.toList.length:=by rw [List.length_cons]at e2;omega
   have e5:(bI l).length<s.size:=by omega
   have e5b:(bI l).length<s.data.size:=by omega
   have e6:=Oi s.data.toList (bI l).length e4 (by omega)
   rw [e1,e3]at e6
   simp [e5,e5b,e6,vO,vP]
 ·simp [bI,bn]
 ·intro j hj
  obtain⟨a1,a2,a3⟩:=h.at hj
  have a4:(bI (l.take (j+1))).length≤65536:=by
   have:=zG hj
   have e:(bI (l.take (j+1))).length≤s.data.toList.length:=by
    conv=>rhs;rw [h.1]
    rw [List.length_append]
    have:l=l.take (j+1)++l.drop (j+1):=(List.take_append_drop _ _).symm
    conv=>rhs;rw [this]
    unfold bI
    rw [List.flatMap_append,List.length_append];omega
   omega
  have w1:=bM ((bI (l.take (j+1))).length:Int) (by omega)
  have e5:(bI (l.take j)).length<s.size:=by omega
  have e5b:(bI (l.take j)).length<s.data.size:=by omega
  have e6:=Oi s.data.toList _ a1 (by omega)
  rw [a2]at e6
  have e7:=KA (h.2.1 l[j] (List.getElem_mem hj))
  have e8:¬(bg l[j]= []):=fun e=>by rw [e]at e7;simp at e7
  have e9:((bI (l.take j)).length:Int)+((bg l[j]).length:Int)=((bI (l.take (j+1))).length:Int):=by omega
  have e10:(l.take j).length≤65536:=by simp;omega
  have e11:ints (l.take j)++ [[D.a (.int .i64 (l[j]))]]=ints (l.take (j+1)):=by rw [Tg,List.take_add_one,List.getElem?_eq_getElem hj];rfl
  simp [e5,e5b,e6,vO,vP,e8]
  simp (disch:=omega) only [eH]
  simp [e9,w1,e11]
theorem QS (s:ByteArray)(l:List Int)(rest:List UInt8)(h:Reads s.data.toList l rest)(hs:s.size≤65536):yM [V.v (.string s)] [] []=some ⟨.fK [.own 0,V.v (.bool rest.isEmpty)],[],[(0,if rest.isEmpty then ints l else [])]⟩:=by
 unfold yM
 have h1:¬(65536<(s.size:Int)):=by omega
 have h2:s.size≤4611686018427387904:=by omega
 have hsz:s.data.toList.length=s.size:=by simp
 have hds:s.data.toList.length=s.data.size:=Array.length_toList
 have hl:=h.len
 simp [func280,f280,h1,h2,Ik]
 rw [aJ (fun j=> .on ⟨[(6,V.v (.int .i64 (((bI (l.take j)).length:Int)))),(5, .own 2000001000),(4, .fz (nK s.data.toList))],[],[(2000001000,ints (l.take j))],[(13,[])]⟩) l.length ?_ ?_]
 ·obtain⟨e1,e2⟩:=h.end
  have e3:=h.2.2
  cases rest with
  | nil=>
   have e4:¬((bI l).length<s.size):=by rw [List.length_nil]at e2;omega
   simp [e4]
  | cons c rest=>
   have e4:(bI l).length<s.data.toList.length:=by rw [List.length_cons]at e2;omega
   have e5:(bI l).length<s.size:=by omega
   have e5b:(bI l).length<s.data.size:=by omega
   have e6:=Oj s.data.toList (bI l).length e4 (by omega)
   rw [e1,e3]at e6
   simp [e5,e5b,e6,vO,vP]
 ·simp [bI,bn]
 ·intro j hj
  obtain⟨a1,a2,a3⟩:=h.at hj
  have a4:(bI (l.take (j+1))).length≤65536:=by
   have:=zG hj
   have e:(bI (l.take (j+1))).length≤s.data.toList.length:=by
    conv=>rhs;rw [h.1]
    rw [List.length_append]
    have:l=l.take (j+1)++l.drop (j+1):=(List.take_append_drop _ _).symm
    conv=>rhs;rw [this]
    unfold bI
    rw [List.flatMap_append,List.length_append];omega
   omega
  have w1:=bM ((bI (l.take (j+1))).length:Int) (by omega)
  have e5:(bI (l.take j)).length<s.size:=by omega
  have e5b:(bI (l.take j)).length<s.data.size:=by omega
  have e6:=Oj s.data.toList _ a1 (by omega)
  rw [a2]at e6
  have e7:=KA (h.2.1 l[j] (List.getElem_mem hj))
  have e8:¬(bg l[j]= []):=fun e=>by rw [e]at e7;simp at e7
  have e9:((bI (l.take j)).length:Int)+((bg l[j]).length:Int)=((bI (l.take (j+1))).length:Int):=by omega
  have e10:(l.take j).length≤65536:=by simp;omega
  have e11:ints (l.take j)++ [[D.a (.int .i64 (l[j]))]]=ints (l.take (j+1)):=by rw [Tg,List.take_add_one,List.getElem?_eq_getElem hj];rfl
  simp [e5,e5b,e6,vO,vP,e8]
  simp (disch:=omega) only [eH]
  simp [e9,w1,e11]
structure gX (f:Int) (l:List ByteArray):Prop where
 first:1≤f∧f≤1000000000
 len:l.length≤60
 each:∀s∈l,1≤s.size∧s.size≤1000
def gF (f:Int)(l:List ByteArray):Int:=if l= []then 0 else f+l.length-1
theorem Ed (f:Int)(l:List ByteArray)(h:gX f l):yC [.agg [vI f, .aP (some 0) (strs l)]] [] []=some ⟨V.v (.bool true),[],[]⟩:=by
 have q1:gY f 1 1000000000=true:=bA.2 h.first
 have q2:¬(60:Int)<l.length:=by have:=h.len;omega
 have q3:=h.len
 simp [yC,func72,f72,dQ,q1,q2]
 rw [aJ (fun j=> .on ⟨[(18,V.v (.int .i64 ((j:Int)))),(17,V.v (.int .i64 ((l.length:Int)))),(16, .aP (some 0) (strs l))],[],[],[]⟩) l.length ?_ ?_]
 ·simp
 ·simp
 ·intro j hj
  have hw:=bM (j+1) (by omega)
  have e:=h.each l[j] (List.getElem_mem hj)
  have q4:gY (l[j].size:Int) 1 1000=true:=bA.2 (by omega)
  simp [hj,hw,dQ,q4]
theorem Ol (f:Int)(l:List ByteArray)(h:gX f l):zi [.agg [vI f, .aP (some 0) (strs l)]] [] []=some ⟨vI (gF f l),[],[]⟩:=by
 have e:=Ed f l h
 have h1:=h.first
 have h2:=h.len
 have w1:=bM (f+l.length) (by omega)
 have w2:=bM (f+l.length-1) (by omega)
 unfold zi gF
 by_cases hl:l= []
 ·subst hl
  simp only [show strs []= []from rfl]at e
  simp [func172,f172,e,show strs []= []from rfl]
 ·simp [func172,f172,e,hl,w1,w2]
theorem aaN (f:Int)(l:List ByteArray)(h:gX f l)(k:Nat)(hk:k<l.length):tF [.agg [vI f, .aP (some 0) (strs l)],vI (f+k)] [] []=some ⟨.fK [V.v (.string (l[k])),V.v (.bool true)],[],[]⟩:=by
 have e:=Ed f l h
 have h1:=h.first
 have h2:=h.len
 have w1:=bM (f+l.length) (by omega)
 have w2:=bM (f+l.length-1) (by omega)
 have w3:=bM (f+k-f) (by omega)
 have q:gY (f+k) f (f+l.length-1)=true:=bA.2 (by omega)
 have q2:f+(k:Int)-f=k:=by omega
 rw [q2]at w3
 simp [tF,func231,f231,e,dQ,w1,w2,q,q2,w3,hk]
theorem Si (f:Int)(l:List ByteArray)(h:gX f l)(n:Int)(hn:n<f∨f+l.length≤n):tF [.agg [vI f, .aP (some 0) (strs l)],vI n] [] []=some ⟨.fK [V.v (.string (⟨#[]⟩)),V.v (.bool false)],[],[]⟩:=by
 have e:=Ed f l h
 have h1:=h.first
 have h2:=h.len
 have w1:=bM (f+l.length) (by omega)
 have w2:=bM (f+l.length-1) (by omega)
 have q:gY n f (f+l.length-1)=false:=by
  cases e:gY n f (f+l.length-1)
  ·rfl
  ·have:=bA.1 e;omega
 simp [tF,func231,f231,e,dQ,w1,w2,q]
theorem oJ (f:Int)(l:List ByteArray)(h:gX f l):qE [.agg [vI f, .aP (some 0) (strs l)]] [] []=some ⟨V.v (.bool true),[],[]⟩:=by
 have q1:=h.first
 have q2:=h.len
 have q3:¬f<1:=by omega
 have q4:(l.length:Int)≤60:=by omega
 simp [qE,func70,f70]
 rw [aJ (fun j=> .on ⟨[(8,V.v (.int .i64 ((j:Int)))),(7,V.v (.int .i64 ((l.length:Int)))),(6, .aP (some 0) (strs l)),(1, .ref 1 0)],[(1,[vI f, .aP (some 0) (strs l)])],[],[]⟩) l.length ?_ ?_]
 ·simp [q1,q2,q4]
 ·simp
 ·intro j hj
  have hw:=bM (j+1) (by omega)
  have e:=h.each l[j] (List.getElem_mem hj)
  have q5:¬(l[j].size:Int)<1:=by omega
  have q6:¬(1000:Int)<l[j].size:=by omega
  simp [hj,hw,q5,q6]
def Cmd (s:ByteArray):Prop:= ∃t,Reads s.data.toList t []∧dF t=true∧1≤s.size∧s.size≤1000
theorem afK {s:ByteArray}(l:List Int)(h1:s.data.toList=bI l)(h2:l.all fP=true)(h3:1≤s.size∧s.size≤60)(h4:l.length≤60):Cmd s:=by
 refine⟨l,⟨by rw [List.append_nil];exact h1,fun r hr=>?_,rfl⟩,?_,h3.1,by omega⟩
 ·have:=List.all_eq_true.1 h2 r hr
  simp only [fP,Bool.or_eq_true,beq_iff_eq]at this
  rcases this with(h|h)|h
  ·simp only [bS,Bool.and_eq_true]at h;exact h.1.1
  ·subst h;decide
  ·subst h;decide
 ·simp only [dF,h2,Bool.and_true,decide_eq_true_eq];omega
def agT (s:ByteArray):List Int:=s.data.toList.map fun b=>(b.toNat:Int)
theorem agU {s:ByteArray}(h1:s.data.toList=bI (agT s))(h2:(agT s).all fP=true)(h3:1≤s.size∧s.size≤60):Cmd s:=
 afK (agT s) h1 h2 h3 (by unfold agT;rw [List.length_map,Array.length_toList];exact h3.2)
theorem Om (b:List UInt8)(i h:Int)(hb:b.length≤1048576)(hi:0≤i∧i≤b.length):∃(s:ByteArray) (i' h':Int),Bq [.ref 0 0] [fH b i h] []=some ⟨V.v (.string s),[fH b i' h'],[]⟩∧Cmd s∧0≤i'∧i'≤b.length:=by
 obtain⟨k,i1,h1,e1,r1,j1⟩:=bD b i h 12 hb hi (by omega)
 unfold fH at e1
 generalize hE:Bq [.ref 0 0] [fH b i h] []=R
 unfold Bq fH at hE
 have ko:k=0∨k=1∨k=2∨k=3∨k=4∨k=5∨k=6∨k=7∨k=8∨k=9∨k=10∨k=11:=by omega
 rcases ko with rfl|rfl|rfl|rfl|rfl|rfl|rfl|rfl|rfl|rfl|rfl|rfl<;>
  (simp [func85,f85,e1]at hE;first|exact⟨_,_,_,hE.symm,agU (by decide) (by decide) (by decide),j1⟩|exact⟨_,_,_,hE.symm,afK [101,99,104,111,32,233] (by decide) (by decide) (by decide) (by decide),j1⟩)
theorem QT (f:Int)(l:List ByteArray)(s:ByteArray)(h:gX f l)(hf:f≤1000)(hs:1≤s.size∧s.size≤1000):∃(f':Int) (l':List ByteArray),Br [.agg [vI f, .aP (some 0) (strs l)],V.v (.string s)] [] []=some ⟨.fK [.agg [vI f', .own 0],V.v (.bool true)],[],[(0,strs l')]⟩∧gX f' l'∧f'≤f+1∧∀x∈l',x∈l∨x=s:=by
 have h1:=h.first
 have h2:=h.len
 have e1:=oJ f l h
 have g1:l.length*16≤140737488355328:=by omega
 have g2:l.length≤4611686018427387904:=by omega
 have g3:(l.length+1)*16≤140737488355328:=by omega
 have g4:l.length≤4611686018427387903:=by omega
 have hsn:strs l++ [[.a (.string s)]]=strs (l++ [s]):=acO l s
 generalize hE:Br _ _ _=R
 unfold Br at hE
 by_cases hl:l.length=60
 ·have w:=bM (f+1) (by omega)
  have hh:gX (f+1) ((l++ [s]).drop 1):=⟨by omega,by simp;omega,fun x hx=>by
   rcases List.mem_append.1 (List.mem_of_mem_drop hx)with hx|hx
   ·exact h.each x hx
   ·rw [List.mem_singleton.1 hx];exact hs⟩
  have e2:=oJ _ _ hh
  have ht:((l++ [s]).drop 1).take 60=(l++ [s]).drop 1:=List.take_of_length_le (by simp;omega)
  simp [-Xd, -List.drop_one,func84,f84,e1,g1,g2,g3,g4,hl,w,hsn,ht,e2]at hE
  exact⟨f+1,(l++ [s]).drop 1,hE.symm,hh,by omega,fun x hx=>by
   rcases List.mem_append.1 (List.mem_of_mem_drop hx)with hx|hx
   ·exact .inl hx
   ·exact .inr (List.mem_singleton.1 hx)⟩
 ·have hh:gX f (l++ [s]):=⟨h1,by simp;omega,fun x hx=>by
   rcases List.mem_append.1 hx with hx|hx
   ·exact h.each x hx
   ·rw [List.mem_singleton.1 hx];exact hs⟩
  have e2:=oJ _ _ hh
  have q:¬(60:Int)<l.length+1:=by omega
  simp [-Xd,func84,f84,e1,e2,g1,g2,g3,g4,q,hsn]at hE
  exact⟨f,l++ [s],hE.symm,hh,by omega,fun x hx=>by
   rcases List.mem_append.1 hx with hx|hx
   ·exact .inl hx
   ·exact .inr (List.mem_singleton.1 hx)⟩
theorem Yv (b:List UInt8)(i h:Int)(hb:b.length≤1048576)(hi:0≤i∧i≤b.length):∃(f:Int) (l:List ByteArray) (i' h':Int),Bt [.ref 0 0] [fH b i h] []=some ⟨.agg [vI f, .own 0],[fH b i' h'],[(0,strs l)]⟩∧gX f l∧(∀s∈l,Cmd s)∧0≤i'∧i'≤b.length:=by
 obtain⟨x,i1,h1,e1,r1,j1⟩:=bD b i h 5 hb hi (by omega)
 obtain⟨y,i2,h2,e2,r2,j2⟩:=bD b i1 h1 8 hb j1 (by omega)
 obtain⟨z,i3,h3,e3,r3,j3⟩:=bD b i2 h2 12 hb j2 (by omega)
 unfold fH at e1 e2 e3
 have w1:=bM (1+x) (by omega)
 generalize hE:Bt _ _ _=R
 unfold Bt fH at hE
 by_cases hz:z=0
 ·subst hz
  obtain⟨v,i4,h4,e4,r4,j4⟩:=bD b i3 h3 4 hb j3 (by omega)
  unfold fH at e4
  obtain⟨m,hm⟩:=Int.eq_ofNat_of_zero_le (show 0≤59+v by omega)
  have w2:=bM (59+v) (by omega)
  rw [hm]at w2
  simp [func31,f31,e1,e2,e3,e4,w1,hm,w2]at hE
  generalize hL:uM _ _=L at hE
  obtain⟨⟨f,l,i6,h6⟩,⟨a1,a2,a3,a4⟩,e⟩:=Ec hL (σ:=Int×List ByteArray×Int×Int) (fun j a=> .on ⟨[(4,V.v (.int .i64 ((m:Int)-j))),(3, .ref 3 0),(2, .ref 2 0),(0, .ref 1000000000 0)],[(1000000000,[.aP (some 0) (nK b),vI a.2.2.1,vI a.2.2.2]),(3,[vI a.1, .own 2000000000]),(2,[vI 0, .own 2000000001])],[(2000000001,[]),(2000000000,strs a.2.1)],[]⟩) m (fun j a=>gX a.1 a.2.1∧(∀s∈a.2.1,Cmd s)∧(a.1≤5+j)∧0≤a.2.2.1∧a.2.2.1≤b.length) (1+x,[],i4,h4) (by simp [show strs []= []from rfl]) ⟨⟨by simp only;omega,by simp,fun s hs=>by cases hs⟩,fun s hs=>(by cases hs),by simp only;omega,j4⟩ (fun j a hj ⟨p1,p2,p3,p4⟩=>by
   obtain⟨f,l,i6,h6⟩:=a
   simp only at p1 p2 p3 p4
   obtain⟨s,i7,h7,d1,c1,j7⟩:=Om b i6 h6 hb p4
   obtain⟨t,_,_,c2,c3⟩:=id c1
   obtain⟨f',l',d2,q1,q2,q3⟩:=QT f l s p1 (by omega) ⟨c2,c3⟩
   unfold fH at d1
   have g:(0:Int)<(m:Int)-j:=by omega
   have hw2:(m:Int)-j-1=(m:Int)-((j:Int)+1):=by omega
   have hw:=bM ((m:Int)-((j:Int)+1)) (by omega)
   refine⟨(f',l',i7,h7),⟨q1,fun y hy=>(q3 y hy).elim (p2 y) (fun e=>e▸c1),by simp only;omega,j7⟩,?_⟩
   simp [hj,d1,d2,hw2,hw])
  subst e
  simp at hE
  simp only at a1 a2 a4
  exact⟨f,l,i6,h6,hE.symm,a1,a2,a4⟩
 ·obtain⟨m,hm⟩:=Int.eq_ofNat_of_zero_le (show 0≤y by omega)
  simp [func31,f31,e1,e2,e3,hz,w1,hm]at hE
  generalize hL:uM _ _=L at hE
  obtain⟨⟨f,l,i6,h6⟩,⟨a1,a2,a3,a4⟩,e⟩:=Ec hL (σ:=Int×List ByteArray×Int×Int) (fun j a=> .on ⟨[(4,V.v (.int .i64 ((m:Int)-j))),(3, .ref 3 0),(2, .ref 2 0),(0, .ref 1000000000 0)],[(1000000000,[.aP (some 0) (nK b),vI a.2.2.1,vI a.2.2.2]),(3,[vI a.1, .own 2000000000]),(2,[vI 0, .own 2000000001])],[(2000000001,[]),(2000000000,strs a.2.1)],[]⟩) m (fun j a=>gX a.1 a.2.1∧(∀s∈a.2.1,Cmd s)∧(a.1≤5+j)∧0≤a.2.2.1∧a.2.2.1≤b.length) (1+x,[],i3,h3) (by simp [show strs []= []from rfl]) ⟨⟨by simp only;omega,by simp,fun s hs=>by cases hs⟩,fun s hs=>(by cases hs),by simp only;omega,j3⟩ (fun j a hj ⟨p1,p2,p3,p4⟩=>by
   obtain⟨f,l,i6,h6⟩:=a
   simp only at p1 p2 p3 p4
   obtain⟨s,i7,h7,d1,c1,j7⟩:=Om b i6 h6 hb p4
   obtain⟨t,_,_,c2,c3⟩:=id c1
   obtain⟨f',l',d2,q1,q2,q3⟩:=QT f l s p1 (by omega) ⟨c2,c3⟩
   unfold fH at d1
   have g:(0:Int)<(m:Int)-j:=by omega
   have hw2:(m:Int)-j-1=(m:Int)-((j:Int)+1):=by omega
   have hw:=bM ((m:Int)-((j:Int)+1)) (by omega)
   refine⟨(f',l',i7,h7),⟨q1,fun y hy=>(q3 y hy).elim (p2 y) (fun e=>e▸c1),by simp only;omega,j7⟩,?_⟩
   simp [hj,d1,d2,hw2,hw])
  subst e
  simp at hE
  simp only at a1 a2 a4
  exact⟨f,l,i6,h6,hE.symm,a1,a2,a4⟩
end Go.Proofs.YtlpdjhiggpblcaaGreat
