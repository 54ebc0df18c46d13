/- Part 11 of a proof in several texts (an abstract evaluator, what the functions compute). -/
import Derived.Test.YtlpdjhiggpblcaaGreatPkFnEdOk10
open Go.Proofs.Tryz
namespace Go.Proofs.YtlpdjhiggpblcaaGreat
set_option linter.unusedSectionVars false
set_option linter.unusedSimpArgs false
set_option linter.unusedVariables false
open Go.RowKit
set_option maxHeartbeats 8000000
set_option maxRecDepth 10000
theorem Uw (t:List Int)(i:Option Nat)(a:Nat)(h:a≤t.length)(ht:t.length≤2000):AO [.aP i (ints t),vI (a:Int)] [] []=some ⟨vI (((iq t a:Nat):Int)),[],[]⟩:=by
 have hc:∀j (h:j<t.length),pQ [vI (t[j])] [] []=some ⟨vI (kV (t.getD j 0)),[],[]⟩:=fun j hj=>by rw [getD_at hj];exact FL _
 unfold iq
 generalize hcf:(fun j=>kV (t.getD j 0))=cf
 have QZ:∀j,kV (t.getD j 0)=cf j:=fun j=>by rw [←hcf]
 simp only [QZ]at hc⊢
 have m1:max 0 (min (a:Int) t.length)=a:=by omega
 obtain⟨k1,k2,k3⟩:=cB (fun j=>decide (¬cf (a+j)=1)) (t.length-a)
 generalize gK (fun j=>decide (¬cf (a+j)=1)) (t.length-a)=k at*
 obtain⟨n1,n2,n3⟩:=cB (fun j=>decide (cf (a+k+j)=1)) (t.length-(a+k))
 generalize gK (fun j=>decide (cf (a+k+j)=1)) (t.length-(a+k))=m at*
 have Gg:∀m n:Nat,0≤(m:Int)+n∧((m:Int)+n).toNat=m+n:=fun m n=>⟨by omega,by omega⟩
 have tn3:∀m n p:Nat,0≤(m:Int)+n+p∧((m:Int)+n+p).toNat=m+n+p:=fun m n p=>⟨by omega,by omega⟩
 simp [AO,func158,f158,fC,m1]
 rw [aJ (fun j=> .on ⟨[(1,V.v (.int .i64 (((a+j:Nat):Int)))),(0, .aP i (ints t))],[],[],[]⟩) k ?_ ?_]
 ·have st1:∀j,j<m→a+k+j<t.length∧cf (a+k+j)=1:=fun j hj=>⟨by omega,of_decide_eq_true (n2 j hj)⟩
  have hend:a+k=t.length∨(a+k<t.length∧cf (a+k)=1):=by
   rcases k3 with k3|k3
   ·exact .inl (by omega)
   ·by_cases q:a+k=t.length
    ·exact .inl q
    ·exact .inr ⟨by omega,by simpa using of_decide_eq_false k3⟩
  have hfin:a+k+m=t.length∨(a+k+m<t.length∧¬cf (a+k+m)=1):=by
   rcases n3 with n3|n3
   ·exact .inl (by omega)
   ·by_cases q:a+k+m=t.length
    ·exact .inl q
    ·exact .inr ⟨by omega,of_decide_eq_false n3⟩
  rcases hend with q|⟨q,q1⟩
  ·have q2:(a:Int)+k=t.length:=by omega
   have hm:m=0:=by omega
   subst hm
   simp [q,q2]
   rw [bL]
   simp
  ·have q2:(a:Int)+k<t.length:=by omega
   have e1:=hc (a+k) q
   rw [q1]at e1
   simp [q,q2,aO q,e1,Gg]
   rw [aJ (fun j=> .on ⟨[(1,V.v (.int .i64 (((a+k+j:Nat):Int)))),(0, .aP i (ints t))],[],[],[]⟩) m ?_ ?_]
   ·rcases hfin with r|⟨r,r1⟩
    ·have r2:(a:Int)+k+m=t.length:=by omega
     simp [r,r2]
    ·have r2:(a:Int)+k+m<t.length:=by omega
     have e2:=hc (a+k+m) r
     simp [r,r2,aO r,e2,r1,tn3]
   ·simp
   ·intro j hj
    obtain⟨s1,s2⟩:=st1 j hj
    have s3:(a:Int)+k+j<t.length:=by omega
    have e2:=hc (a+k+j) s1
    have hw:=bM ((a:Int)+k+(j+1)) (by omega)
    have hs:(a:Int)+k+j+1=(a:Int)+k+(j+1):=by omega
    simp [s1,s3,aO s1,e2,s2,hw,hs,Gg,tn3]
 ·simp
 ·intro j hj
  have s1:a+j<t.length:=by omega
  have s3:(a:Int)+j<t.length:=by omega
  have e2:=hc (a+j) s1
  have s2:¬cf (a+j)=1:=of_decide_eq_true (k2 j hj)
  have hw:=bM ((a:Int)+(j+1)) (by omega)
  have hs:(a:Int)+j+1=(a:Int)+(j+1):=by omega
  simp [s1,s3,aO s1,e2,s2,hw,hs,Gg,tn3]
theorem Oq (t:List Int)(i:Option Nat)(a:Nat)(h:a≤t.length)(ht:t.length≤2000):zk [.aP i (ints t),vI (a:Int)] [] []=some ⟨vI (((fq t a:Nat):Int)),[],[]⟩:=by
 have hc:∀j (h:j<t.length),pQ [vI (t[j])] [] []=some ⟨vI (kV (t.getD j 0)),[],[]⟩:=fun j hj=>by rw [getD_at hj];exact FL _
 unfold fq
 generalize hcf:(fun j=>kV (t.getD j 0))=cf
 have QZ:∀j,kV (t.getD j 0)=cf j:=fun j=>by rw [←hcf]
 simp only [QZ]at hc⊢
 have m1:max 0 (min (a:Int) t.length)=a:=by omega
 have idx:=L9 h ht
 obtain⟨k1,k2,k3⟩:=cB (fun j=>decide (¬cf (a-j-1)=1)) a
 generalize gK (fun j=>decide (¬cf (a-j-1)=1)) a=k at*
 obtain⟨n1,n2,n3⟩:=cB (fun j=>decide (cf (a-k-j-1)=1)) (a-k)
 generalize gK (fun j=>decide (cf (a-k-j-1)=1)) (a-k)=m at*
 simp [zk,func93,f93,fC,m1]
 rw [aJ (fun j=> .on ⟨[(1,V.v (.int .i64 (((a-j:Nat):Int)))),(0, .aP i (ints t))],[],[],[]⟩) k ?_ ?_]
 ·rcases k3 with k3|k3
  ·subst k3
   have hm:m=0:=by omega
   subst hm
   simp
   rw [bL]
   simp
  ·by_cases q0:k=a
   ·subst q0
    have hm:m=0:=by omega
    subst hm
    simp
    rw [bL]
    simp
   have q1:cf (a-k-1)=1:=by simpa using of_decide_eq_false k3
   have hpos:0<a-k:=by omega
   have hm2:∀j,j<m→cf (a-k-j-1)=1:=fun j hj=>of_decide_eq_true (n2 j hj)
   have hm3:m=a-k∨¬cf (a-k-m-1)=1:=n3.imp _root_.id of_decide_eq_false
   have hle:a-k≤a:=by omega
   generalize a-k=n at*
   obtain⟨i1,i2,i3,i4,i5,i6,i7,i8,i9⟩:=idx n hle hpos
   have e1:=hc (n-1) i1
   rw [q1]at e1
   simp [i1,i2,i3,i6,i7,i8,i9,hpos,aO i1,e1]
   rw [aJ (fun j=> .on ⟨[(1,V.v (.int .i64 (((n-j:Nat):Int)))),(0, .aP i (ints t))],[],[],[]⟩) m ?_ ?_]
   ·by_cases r:m=n
    ·subst r;simp
    ·have hp2:0<n-m:=by omega
     have r1:=hm3.resolve_left r
     have hle2:n-m≤a:=by omega
     generalize n-m=p at*
     obtain⟨i1,i2,i3,i4,i5,i6,i7,i8,i9⟩:=idx p hle2 hp2
     have e2:=hc (p-1) i1
     simp [i1,i2,i3,i6,i7,i8,i9,hp2,aO i1,e2,r1]
   ·simp
   ·intro j hj
    have hp2:0<n-j:=by omega
    have r1:=hm2 j hj
    have hle2:n-j≤a:=by omega
    have hs:n-(j+1)=n-j-1:=by omega
    rw [hs]
    generalize n-j=p at*
    obtain⟨i1,i2,i3,i4,i5,i6,i7,i8,i9⟩:=idx p hle2 hp2
    have e2:=hc (p-1) i1
    simp [i1,i2,i3,i4,i6,i7,i8,i9,hp2,aO i1,e2,r1]
 ·simp
 ·intro j hj
  have hp2:0<a-j:=by omega
  have r1:¬cf (a-j-1)=1:=of_decide_eq_true (k2 j hj)
  have hle2:a-j≤a:=by omega
  have hs:a-(j+1)=a-j-1:=by omega
  rw [hs]
  generalize a-j=p at*
  obtain⟨i1,i2,i3,i4,i5,i6,i7,i8,i9⟩:=idx p hle2 hp2
  have e2:=hc (p-1) i1
  simp [i1,i2,i3,i4,i6,i7,i8,i9,hp2,aO i1,e2,r1]
theorem wJ {t:List Int}{a:Nat}(h:a≤t.length):a≤iq t a∧iq t a≤t.length:=by
 unfold iq
 simp only
 obtain⟨k1,k2,k3⟩:=cB (fun j=>decide (¬kV (t.getD (a+j) 0)=1)) (t.length-a)
 generalize gK (fun j=>decide (¬kV (t.getD (a+j) 0)=1)) (t.length-a)=k at*
 have:=cB (fun j=>decide (kV (t.getD (a+k+j) 0)=1)) (t.length-(a+k))
 omega
theorem zH {t:List Int}{a:Nat}:fq t a≤a:=by unfold fq;simp only;omega
theorem O7 {t:List Int}{big:Bool}{a:Nat}(h:a≤t.length):a≤FK t big a∧FK t big a≤t.length:=by
 unfold FK
 simp only
 have hb:a≤(if a<t.length∧¬dw t big a=0 then xG t big a else a)∧(if a<t.length∧¬dw t big a=0 then xG t big a else a)≤t.length:=by
  split
  ·exact L8 h
  ·omega
 generalize (if a<t.length∧¬dw t big a=0 then xG t big a else a)=b at*
 have:=cB (fun j=>decide (dw t big (b+j)=0)) (t.length-b)
 omega
theorem AZ {t:List Int}{big:Bool}{a:Nat}:lG t big a≤a:=by unfold lG;simp only;omega
theorem Ma {t:List Int}{big:Bool}{a:Nat}:xH t big a≤t.length∧(0<t.length→xH t big a<t.length):=by
 unfold xH
 by_cases h0:t.length=0
 ·rw [if_pos h0];omega
 rw [if_neg h0]
 simp only
 generalize gK (fun j=>decide (dw t big (a+1+j)=0)) (t.length-(a+1))=k
 split
 ·omega
 ·have:=L8 (t:=t) (big:=big) (a:=a+1+k) (by omega)
  omega
theorem rY {f:Nat→Nat}{m:Nat}(h:∀a,a≤m→f a≤m):∀n a,a≤m→dD f n a≤m
 | 0,a,ha=>ha
 | n+1,a,ha=>rY h n (f a) (h a ha)
theorem Mc {f:Nat→Nat}{m:Nat}(h:∀a,a≤m→a≤f a∧f a≤m):∀n a,a≤m→a≤dD f n a∧dD f n a≤m
 | 0,a,ha=>⟨Nat.le_refl _,ha⟩
 | n+1,a,ha=>by
  have:=Mc h n (f a) (h a ha).2
  have:=h a ha
  show a≤dD f n (f a)∧dD f n (f a)≤m
  omega
theorem FN {f:Nat→Nat}(h:∀a,f a≤a):∀n a,dD f n a≤a
 | 0,a=>Nat.le_refl _
 | n+1,a=>by
  have:=FN h n (f a)
  have:=h a
  show dD f n (f a)≤a
  omega
def uJ (o:Option Nat):Int:=match o with
 | none=> -1
 | some p=>p
theorem VY (t:List Int)(i:Option Nat)(a:Nat)(r:Int)(h:a≤t.length)(ht:t.length≤2000):mO [.aP i (ints t),vI (a:Int),vI r,vI 0] [] []=some ⟨vI (uJ (jC t r 0 a)),[],[]⟩:=by
 have m1:max 0 (min (a:Int) t.length)=a:=by omega
 unfold jC
 rw [if_pos rfl]
 obtain⟨k1,k2,k3⟩:=cB (fun j=>decide (¬t.getD (a+1+j) 0=r)) (t.length-(a+1))
 generalize gK (fun j=>decide (¬t.getD (a+1+j) 0=r)) (t.length-(a+1))=k at*
 have w1:=bM ((a:Int)+1) (by omega)
 simp only
 simp [mO,func235,f235,fC,m1,w1]
 rw [aJ (fun j=> .on ⟨[(10,V.v (.int .i64 (((a+1+j:Nat):Int)))),(9,V.v (.int .i64 ((t.length:Int)))),(2,V.v (.int .i64 r)),(0, .aP i (ints t))],[],[],[]⟩) k ?_ ?_]
 ·by_cases q:a+1+k<t.length
  ·have q2:(a:Int)+1+k<t.length:=by omega
   have q3:0≤(a:Int)+1+k:=by omega
   have q4:((a:Int)+1+k).toNat=a+1+k:=by omega
   have h3:t[a+1+k]=r:=by
    have:=of_decide_eq_false (k3.resolve_left (by omega))
    rw [Classical.not_not,getD_at q]at this
    exact this
   rw [if_pos q]
   simp [q,q2,q3,q4,aO q,h3,uJ]
  ·have q2:¬(a:Int)+1+k<t.length:=by omega
   rw [if_neg q]
   simp [q2,uJ]
 ·simp
 ·intro j hj
  have q:a+1+j<t.length:=by omega
  have q2:(a:Int)+1+j<t.length:=by omega
  have q3:0≤(a:Int)+1+j:=by omega
  have q4:((a:Int)+1+j).toNat=a+1+j:=by omega
  have h3:¬t[a+1+j]=r:=by
   have:=of_decide_eq_true (k2 j hj)
   rwa [getD_at q]at this
  have hw:=bM ((a:Int)+1+(j+1)) (by omega)
  have hs:(a:Int)+1+j+1=(a:Int)+1+(j+1):=by omega
  simp [q,q2,q3,q4,aO q,h3,hw,hs]
theorem VZ (t:List Int)(i:Option Nat)(a:Nat)(r:Int)(h:a≤t.length)(ht:t.length≤2000):mO [.aP i (ints t),vI (a:Int),vI r,vI 1] [] []=some ⟨vI (uJ (jC t r 1 a)),[],[]⟩:=by
 have m1:max 0 (min (a:Int) t.length)=a:=by omega
 unfold jC
 rw [if_neg (by decide),if_pos rfl]
 obtain⟨k1,k2,k3⟩:=cB (fun j=>decide (¬t.getD (a-1-j) 0=r)) a
 generalize gK (fun j=>decide (¬t.getD (a-1-j) 0=r)) a=k at*
 have w1:=bM ((a:Int)-1) (by omega)
 simp only
 simp [mO,func235,f235,fC,m1,w1]
 rw [aJ (fun j=> .on ⟨[(11,V.v (.int .i64 ((a:Int)-1-j))),(2,V.v (.int .i64 r)),(0, .aP i (ints t))],[],[],[]⟩) k ?_ ?_]
 ·by_cases q:k<a
  ·have q1:a-1-k<t.length:=by omega
   have q2:(a:Int)-1-k<t.length:=by omega
   have q3:0≤(a:Int)-1-k:=by omega
   have q4:((a:Int)-1-k).toNat=a-1-k:=by omega
   have q5:((a-1-k:Nat):Int)=(a:Int)-1-k:=by omega
   have h3:t[a-1-k]=r:=by
    have:=of_decide_eq_false (k3.resolve_left (by omega))
    rw [Classical.not_not,getD_at q1]at this
    exact this
   rw [if_pos q]
   simp only [uJ,q5]
   generalize (a:Int)-1-k=x at*
   simp [q1,q2,q3,q4,aO q1,h3]
  ·have q2:¬0≤(a:Int)-1-k:=by omega
   rw [if_neg q]
   simp only [uJ]
   generalize (a:Int)-1-k=x at*
   simp [q2]
 ·simp
 ·intro j hj
  have q1:a-1-j<t.length:=by omega
  have q2:(a:Int)-1-j<t.length:=by omega
  have q3:0≤(a:Int)-1-j:=by omega
  have q4:((a:Int)-1-j).toNat=a-1-j:=by omega
  have h3:¬t[a-1-j]=r:=by
   have:=of_decide_eq_true (k2 j hj)
   rwa [getD_at q1]at this
  have hw:=bM ((a:Int)-1-j-1) (by omega)
  have hs:(a:Int)-1-((j+1:Nat):Int)=(a:Int)-1-j-1:=by omega
  simp only [hs]
  generalize (a:Int)-1-j=x at*
  simp [q1,q2,q3,q4,aO q1,h3,hw]
theorem V3 (t:List Int)(i:Option Nat)(a:Nat)(r:Int)(h:a≤t.length)(ht:t.length≤2000):mO [.aP i (ints t),vI (a:Int),vI r,vI 2] [] []=some ⟨vI (uJ (jC t r 2 a)),[],[]⟩:=by
 have m1:max 0 (min (a:Int) t.length)=a:=by omega
 unfold jC
 rw [if_neg (by decide),if_neg (by decide),if_pos rfl]
 obtain⟨k1,k2,k3⟩:=cB (fun j=>decide (¬t.getD (a+2+j) 0=r)) (t.length-(a+2))
 generalize gK (fun j=>decide (¬t.getD (a+2+j) 0=r)) (t.length-(a+2))=k at*
 have w1:=bM ((a:Int)+1) (by omega)
 simp only
 simp [mO,func235,f235,fC,m1,w1]
 rw [aJ (fun j=> .on ⟨[(12,V.v (.int .i64 (((a+1+j:Nat):Int)))),(9,V.v (.int .i64 ((t.length:Int)))),(2,V.v (.int .i64 r)),(0, .aP i (ints t))],[],[],[]⟩) k ?_ ?_]
 ·have w2:=bM ((a:Int)+1+k+1) (by omega)
  by_cases q:a+2+k<t.length
  ·have q0:a+1+k+1<t.length:=by omega
   have q2:(a:Int)+1+k+1<t.length:=by omega
   have q3:0≤(a:Int)+1+k+1:=by omega
   have q4:((a:Int)+1+k+1).toNat=a+1+k+1:=by omega
   have h3:t[a+1+k+1]=r:=by
    have:=of_decide_eq_false (k3.resolve_left (by omega))
    rw [Classical.not_not,show a+2+k=a+1+k+1 by omega,getD_at q0]at this
    exact this
   rw [if_pos q]
   simp [q0,q2,q3,q4,aO q0,h3,uJ,w2]
  ·have q2:¬(a:Int)+1+k+1<t.length:=by omega
   rw [if_neg q]
   simp [q2,uJ,w2]
 ·simp
 ·intro j hj
  have q0:a+1+j+1<t.length:=by omega
  have q2:(a:Int)+1+j+1<t.length:=by omega
  have q3:0≤(a:Int)+1+j+1:=by omega
  have q4:((a:Int)+1+j+1).toNat=a+1+j+1:=by omega
  have h3:¬t[a+1+j+1]=r:=by
   have:=of_decide_eq_true (k2 j hj)
   rwa [show a+2+j=a+1+j+1 by omega,getD_at q0]at this
  have hw:=bM ((a:Int)+1+j+1) (by omega)
  have hs:(a:Int)+1+(j+1)=(a:Int)+1+j+1:=by omega
  simp [q0,q2,q3,q4,aO q0,h3,hw,hs]
theorem V4 (t:List Int)(i:Option Nat)(a:Nat)(r:Int)(h:a≤t.length)(ht:t.length≤2000):mO [.aP i (ints t),vI (a:Int),vI r,vI 3] [] []=some ⟨vI (uJ (jC t r 3 a)),[],[]⟩:=by
 have m1:max 0 (min (a:Int) t.length)=a:=by omega
 unfold jC
 rw [if_neg (by decide),if_neg (by decide),if_neg (by decide),if_pos rfl]
 obtain⟨k1,k2,k3⟩:=cB (fun j=>decide (¬t.getD (a-2-j) 0=r)) (a-1)
 generalize gK (fun j=>decide (¬t.getD (a-2-j) 0=r)) (a-1)=k at*
 have w1:=bM ((a:Int)-1) (by omega)
 simp only
 simp [mO,func235,f235,fC,m1,w1]
 rw [aJ (fun j=> .on ⟨[(13,V.v (.int .i64 ((a:Int)-1-j))),(2,V.v (.int .i64 r)),(0, .aP i (ints t))],[],[],[]⟩) k ?_ ?_]
 ·have w2:=bM ((a:Int)-1-k-1) (by omega)
  by_cases q:k<a-1
  ·have q1:a-2-k<t.length:=by omega
   have q2:(a:Int)-1-k-1<t.length:=by omega
   have q3:0≤(a:Int)-1-k-1:=by omega
   have q6:1≤(a:Int)-1-k:=by omega
   have q4:((a:Int)-1-k-1).toNat=a-2-k:=by omega
   have q5:((a-1-k:Nat):Int)=(a:Int)-1-k:=by omega
   have h3:t[a-2-k]=r:=by
    have:=of_decide_eq_false (k3.resolve_left (by omega))
    rw [Classical.not_not,getD_at q1]at this
    exact this
   rw [if_pos q]
   simp only [uJ,q5]
   generalize (a:Int)-1-k=x at*
   simp [q1,q2,q3,q4,q6,aO q1,h3,w2]
  ·have q2:¬1≤(a:Int)-1-k:=by omega
   rw [if_neg q]
   simp only [uJ]
   generalize (a:Int)-1-k=x at*
   simp [q2]
 ·simp
 ·intro j hj
  have q1:a-2-j<t.length:=by omega
  have q2:(a:Int)-1-j-1<t.length:=by omega
  have q3:0≤(a:Int)-1-j-1:=by omega
  have q6:1≤(a:Int)-1-j:=by omega
  have q4:((a:Int)-1-j-1).toNat=a-2-j:=by omega
  have h3:¬t[a-2-j]=r:=by
   have:=of_decide_eq_true (k2 j hj)
   rwa [getD_at q1]at this
  have hw:=bM ((a:Int)-1-j-1) (by omega)
  have hs:(a:Int)-1-((j+1:Nat):Int)=(a:Int)-1-j-1:=by omega
  simp only [hs]
  generalize (a:Int)-1-j=x at*
  simp [q1,q2,q3,q4,q6,aO q1,h3,hw]
theorem Iu (t:List Int)(i:Option Nat)(a:Nat)(r how:Int)(h:a≤t.length)(ht:t.length≤2000)(hw:0≤how∧how≤3):mO [.aP i (ints t),vI (a:Int),vI r,vI how] [] []=some ⟨vI (uJ (jC t r how a)),[],[]⟩:=by
 rcases(by omega:how=0∨how=1∨how=2∨how=3)with rfl|rfl|rfl|rfl
 ·exact VY t i a r h ht
 ·exact VZ t i a r h ht
 ·exact V3 t i a r h ht
 ·exact V4 t i a r h ht
def vE (t:List Int)(a:Int)(r:List eT)(ul:List iG)(cnt op:Int):dB:= {u6 with Vi:=true,bV:=2,ak:=⟨t,a⟩,bH:=cnt,Op:=op,aI:=⟨r⟩,gH:=⟨ul⟩}
structure VI (t:List Int) (a:Int) (r:List eT) (ul:List iG):Prop where
 text:dF t=true
 at0:0≤a
 at_:(a<t.length)∨(t= []∧a=0)
 ring:eZ r=true
 undo:jB ul=true∧ul.length≤12
theorem VI.line {t:List Int}{a:Int}{r:List eT}{ul:List iG}(h:VI t a r ul):bN t a=true:=by
 have h0:=h.at0
 have:a≤t.length:=by rcases h.at_ with h|⟨h,h2⟩<;>omega
 unfold bN
 rw [h.text,bA.2 (by omega)];rfl
theorem VI.end_ {t:List Int}{a:Int}{r:List eT}{ul:List iG}(h:VI t a r ul):atEnd t a=false:=by
 rcases h.at_ with h|⟨h,h2⟩
 ·have:¬a=t.length:=by omega
  simp [atEnd,this]
 ·subst h;subst h2;rfl
theorem VI.ok {t:List Int}{a:Int}{r:List eT}{ul:List iG}(h:VI t a r ul)(cnt op:Int)(hc:0≤cnt∧cnt≤999)(ho:op=0∨op=100):(vE t a r ul cnt op).ok=true:=by
 have q1:=h.line
 have q2:gY cnt 0 999=true:=bA.2 hc
 have q3:eU true 2 t a op 0 0=true:=by
  have:=h.end_
  rcases ho with rfl|rfl<;>simp [eU,this]<;>decide
 have q4:=h.ring
 have q5:=h.undo.1
 simp only [dB.ok,fQ,vE,u6,q1,q2,q3,q4,q5]
 rfl
theorem VI.set {t:List Int}{a:Int}{r:List eT}{ul:List iG}(h:VI t a r ul)(cnt op:Int)(hc:0≤cnt∧cnt≤999)(ho:op=0∨op=100):akB (vE t a r ul cnt op):=
 ⟨Mq.of (h.ok cnt op hc ho),rfl,h.line,h.undo.1,by have:=h.undo.2;show ul.length≤19;omega⟩
section
variable {f:Int} {l:List ByteArray} (hh:gX f l) {t:List Int} {a:Int} {r:List eT} {ul:List iG} (h:VI t a r ul)
include hh h
end
theorem aaW (t u:List Int)(A:Nat)(hA:A≤t.length)(ht:dF t=true)(hu:u.all fP=true)(hl:t.length+u.length≤400):oq [.agg [.aP (some 0) (ints t),vI (A:Int)], .aP (some 1) (ints u)] [] []=some ⟨.fK [.agg [.own 0,vI (((A:Int)+u.length))],V.v (.bool true)],[],[(0,ints (t.take A++u++t.drop A))]⟩:=by
 have htt:t.all fP=true:=by simp only [dF,Bool.and_eq_true]at ht;exact ht.2
 have e1:=bQ t A (by omega)
 rw [show bN t A=true from by unfold bN;rw [ht,bA.2 (by omega)];rfl]at e1
 have e2:=lq (t.take A) (some 0) (by simp;omega)
 have hX:dF (t.take A++u++t.drop A)=true:=by
  simp only [dF,Bool.and_eq_true,decide_eq_true_eq]
  refine⟨by simp;omega,List.all_eq_true.2 fun x hx=>?_⟩
  rcases List.mem_append.1 hx with hx|hx
  ·rcases List.mem_append.1 hx with hx|hx
   ·exact List.all_eq_true.1 htt x (List.mem_of_mem_take hx)
   ·exact List.all_eq_true.1 hu x hx
  ·exact List.all_eq_true.1 htt x (List.mem_of_mem_drop hx)
 have hXl:(t.take A++u++t.drop A).length=t.length+u.length:=by simp;omega
 have e3:=bQ (t.take A++u++t.drop A) ((A:Int)+u.length) (by omega)
 rw [show bN (t.take A++u++t.drop A) ((A:Int)+u.length)=true from by unfold bN;rw [hX,bA.2 (by omega)];rfl]at e3
 have q0:min A t.length=A:=by omega
 have q1:¬(400:Int)<u.length:=by omega
 have q2:(A+u.length)*8≤140737488355328:=by omega
 have q3:A+u.length≤4611686018427387904:=by omega
 have q4:(A+u.length+(t.length-A))*8≤140737488355328:=by omega
 have q5:A+u.length+(t.length-A)≤4611686018427387904:=by omega
 have q6:(A:Int)≤t.length:=by omega
 have q7:(t.drop A).take (t.length-A)=t.drop A:=List.take_of_length_le (by simp)
 have q8:(A+(u.length+(t.length-A)))*8≤140737488355328:=by omega
 have q9:A+(u.length+(t.length-A))≤4611686018427387904:=by omega
 have w:=bM ((A:Int)+u.length) (by omega)
 generalize hE:oq _ _ _=R
 simp [oq, -au,←au, -List.append_assoc,func216,f216,e1,e2,e3,q0,q1,q2,q3,q4,q5,q6,q7,q8,q9,w,hA]at hE
 exact hE.symm
theorem M9 (e:dB)(a:Int):AQ [gL e,vI a] [] []=some ⟨.agg [V.v (.bool e.Vi),vI 1, .aP (some 0) (ints e.ak.av),vI a,vI e.bH,vI e.Op,vI e.bU,vI e.fT,vI e.eY,vI e.bT,vI e.iZ, .aP (some 1) (aC e.aI.aA), .aP (some 2) (aS e.gH.eX),vI e.kF, .aP (some 3) (ints e.iM.av),vI e.iM.At, .aP (some 4) (ints e.bP),vI e.nH, .aP (some 5) (ints e.dH.av),vI e.dH.At],[],[]⟩:=by
 simp [AQ,func236,f236]
structure fV (e:dB):Prop where
 line:bN e.ak.av e.ak.At=true
 own:bN e.iM.av e.iM.At=true
 back:bN e.dH.av e.dH.At=true
 cnt:0≤e.bH∧e.bH≤999
 uV:0≤e.bU∧e.bU≤999
 mode:(e.bV=0∧e.Vi=false)∨((e.bV=1∨e.bV=2)∧e.Vi=true)∨e.bV=3
 end_:¬(e.bV=2∧atEnd e.ak.av e.ak.At=true)
 cmd:e.bV=2∨(e.Op=0∧e.fT=0∧e.bU=0)
 opz:¬e.Op=0∨e.bU=0
 op:e.Op=0∨opC e.Op=true
 wait:e.fT=0∨wI e.fT=true
 find:dI e.eY e.bT=true
 last:0≤e.iZ∧e.iZ≤3
 ring:eZ e.aI.aA=true
 undo:jB e.gH.eX=true
 zX:0≤e.kF∧e.kF≤1000000060
 hit:0≤e.nH∧e.nH≤1000000060
 Na:¬e.kF=0∨nE e.iM.av e.iM.At=true
 ql:e.bP.length≤40
 qp:e.bP.all bS=true
 uj:e.bV=3∨(e.bP= []∧e.nH=0∧nE e.dH.av e.dH.At=true)
theorem fA {e:dB}:e.ok=true↔fV e:=by
 simp only [dB.ok,fQ,eU,fu,Bool.and_eq_true,Bool.or_eq_true,decide_eq_true_eq,Bool.not_eq_true',beq_iff_eq,bne_iff_ne,bA,List.length_eq_zero_iff,Bool.and_eq_false_iff,beq_eq_false_iff_ne,ne_eq]
 constructor
 ·rintro ⟨a1,a2,a3,a4,a5,⟨b1,b2,b3,b4,b5,b6⟩,a7,a8,a9,a10,a11,a12,a13,a14,a15,a16⟩
  refine⟨a1,a2,a3,a4,a5,?_,?_,?_,b4,b5,b6,a7,a8,a9,a10,a11,a12,a13,a14,a15,?_⟩
  ·rcases b1 with(h|h)|h
   ·exact .inl h
   ·exact .inr (.inl h)
   ·exact .inr (.inr h)
  ·rintro ⟨h1,h2⟩
   rcases b2 with h|h
   ·exact h h1
   ·rw [h]at h2;cases h2
  ·rcases b3 with h|⟨⟨h1,h2⟩,h3⟩
   ·exact .inl h
   ·exact .inr ⟨h1,h2,h3⟩
  ·rcases a16 with h|⟨⟨h1,h2⟩,h3⟩
   ·exact .inl h
   ·exact .inr ⟨h1,h2,h3⟩
 ·rintro ⟨a1,a2,a3,a4,a5,b1,b2,b3,b4,b5,b6,a7,a8,a9,a10,a11,a12,a13,a14,a15,a16⟩
  refine⟨a1,a2,a3,a4,a5,⟨?_,?_,?_,b4,b5,b6⟩,a7,a8,a9,a10,a11,a12,a13,a14,a15,?_⟩
  ·rcases b1 with h|h|h
   ·exact .inl (.inl h)
   ·exact .inl (.inr h)
   ·exact .inr h
  ·by_cases h:e.bV=2
   ·right
    cases he:atEnd e.ak.av e.ak.At
    ·rfl
    ·exact absurd ⟨h,he⟩ b2
   ·exact .inl h
  ·rcases b3 with h|⟨h1,h2,h3⟩
   ·exact .inl h
   ·exact .inr ⟨⟨h1,h2⟩,h3⟩
  ·rcases a16 with h|⟨h1,h2,h3⟩
   ·exact .inl h
   ·exact .inr ⟨⟨h1,h2⟩,h3⟩
theorem gq {t:List Int}{a:Int}(h1:t.length≤400)(h2:t.all fP=true)(h3:0≤a)(h4:a≤t.length):bN t a=true:=by
 simp only [bN,dF,Bool.and_eq_true,decide_eq_true_eq]
 exact⟨⟨h1,h2⟩,bA.2 ⟨h3,h4⟩⟩
theorem FP {mode:Int}{t:List Int}{a:Int}(h:bN t a=true):bN t (jl mode t a)=true∧¬(mode=2∧atEnd t (jl mode t a)=true):=by
 obtain⟨h1,h2,h3,h4⟩:=bX h
 unfold jl QU
 by_cases hm:mode=2
 ·rw [if_pos hm]
  cases he:atEnd t a
  ·rw [if_neg (by simp)]
   exact⟨h,fun e=>by rw [he]at e;cases e.2⟩
  ·rw [if_pos rfl]
   simp only [atEnd,Bool.and_eq_true,decide_eq_true_eq,beq_iff_eq]at he
   refine⟨gq h1 h2 (by omega) (by omega),fun e=>?_⟩
   have e:=e.2
   simp only [atEnd,Bool.and_eq_true,decide_eq_true_eq,beq_iff_eq]at e
   omega
 ·rw [if_neg hm]
  exact⟨h,fun e=>hm e.1⟩
theorem fV.aR {e:dB}(h:fV e):e.ak.At=(aR e:Int)∧aR e≤e.ak.av.length∧e.ak.av.length≤400∧e.ak.av.all fP=true:=by
 obtain⟨h1,h2,h3,h4⟩:=bX h.line
 unfold Proofs.YtlpdjhiggpblcaaGreat.aR
 exact⟨by omega,by omega,h1,h2⟩
theorem Jz:(0:Int)≤0∧(0:Int)≤999:=by omega
theorem z3:(0:Int)≤0∧(0:Int)≤3:=by omega
theorem z60:(0:Int)≤0∧(0:Int)≤1000000060:=by omega
theorem gy {c:Prop} [Decidable c]{a b:dB×Int}(ha:c→fV a.1)(hb:¬c→fV b.1):fV (if c then a else b).1:=by
 by_cases hc:c
 ·rw [if_pos hc];exact ha hc
 ·rw [if_neg hc];exact hb hc
theorem fV.idle {e:dB}(h:fV e)(last:Int)(hl:0≤last∧last≤3):fV (sK e last):=
 ⟨h.line,h.own,h.back,Jz,Jz,h.mode,h.end_, .inr ⟨rfl,rfl,rfl⟩, .inr rfl, .inl rfl, .inl rfl,h.find,hl,h.ring,h.undo,h.zX,h.hit,h.Na,h.ql,h.qp,h.uj⟩
theorem fV.zI {e:dB}(h:fV e):fV (dM e).1:=h.idle 0 (by omega)
theorem fV.set {e:dB}(h:fV e){t:List Int}{a:Int}(last:Int)(ht:bN t a=true)(hl:0≤last∧last≤3):fV (sO e t a last):=by
 obtain⟨c1,c2⟩:=FP (mode:=e.bV) ht
 exact⟨c1,h.own,h.back,Jz,Jz,h.mode,c2, .inr ⟨rfl,rfl,rfl⟩, .inr rfl, .inl rfl, .inl rfl,h.find,hl,h.ring,aaS (fA.2 h) t last,h.zX,h.hit,h.Na,h.ql,h.qp,h.uj⟩
theorem fV.put {e:dB}(h:fV e){t:List Int}{a:Int}(ht:bN t a=true):fV (vQ e t a).1:=h.set 0 ht (by omega)
theorem fV.Md {e:dB}(h:fV e){l:List eT}(hl:eZ l=true):fV {e with aI:=⟨l⟩}:=
 ⟨h.line,h.own,h.back,h.cnt,h.uV,h.mode,h.end_,h.cmd,h.opz,h.op,h.wait,h.find,h.last,hl,h.undo,h.zX,h.hit,h.Na,h.ql,h.qp,h.uj⟩
theorem fV.go {e:dB}(h:fV e)(a:Int):fV (yP e a).1:=by
 obtain⟨h1,h2,h3,h4⟩:=h.aR
 exact h.put (gq h3 h4 (by unfold QY;omega) (by unfold QY;omega))
theorem um {t:List Int}{a:Int}(h:bN t a=true){f u:Nat}(h1:f≤u)(h2:u≤t.length):bN (oD t f u) (cutAt a f u)=true∧(oD t f u).length=f+(t.length-u)∧bN (oD t f u) f=true:=by
 obtain⟨l1,l2,l3,l4⟩:=bX h
 have hl:(oD t f u).length=f+(t.length-u):=by unfold oD;simp;omega
 have hty:(oD t f u).all fP=true:=by
  refine List.all_eq_true.2 fun x hx=>?_
  rcases List.mem_append.1 hx with hx|hx
  ·exact List.all_eq_true.1 l2 x (List.mem_of_mem_take hx)
  ·exact List.all_eq_true.1 l2 x (List.mem_of_mem_drop hx)
 refine⟨gq (by omega) hty ?_ ?_,hl,gq (by omega) hty (by omega) (by omega)⟩
 ·unfold cutAt
  split
  ·omega
  ·split<;>omega
 ·unfold cutAt
  split
  ·omega
  ·split<;>omega
theorem Iw {t:List Int}{a:Int}(h:bN t a=true){f u:Nat}:dF ((t.drop f).take (u-f))=true:=by
 obtain⟨l1,l2,l3,l4⟩:=bX h
 simp only [dF,Bool.and_eq_true,decide_eq_true_eq]
 exact⟨by simp;omega,List.all_eq_true.2 fun x hx=>List.all_eq_true.1 l2 x (List.mem_of_mem_drop (List.mem_of_mem_take hx))⟩
theorem fV.cut {e:dB}(h:fV e){f u:Nat}(h2:u≤e.ak.av.length):fV (Dp e f u).1:=by
 unfold Dp
 (first|refine gy (fun _=>?_) (fun _=>?_)|split)
 ·rename_i h1;exact h.put (um h.line (by omega) h2).1
 ·exact h.zI
theorem fV.kill {e:dB}(h:fV e){f u:Nat}(how:Int)(h2:u≤e.ak.av.length):fV (lH e f u how).1:=by
 unfold lH
 (first|refine gy (fun _=>?_) (fun _=>?_)|split)
 ·rename_i h1
  exact(h.set 2 (um h.line (by omega) h2).1 (by omega)).Md (FI h.ring (Iw h.line) _)
 ·exact h.zI
theorem yY {t u:List Int}{a:Nat}(h1:t.length+u.length≤400)(h2:t.all fP=true)(h3:u.all fP=true)(h4:a≤t.length):(zR t a u).length=t.length+u.length∧∀b:Int,0≤b→b≤t.length+u.length→bN (zR t a u) b=true:=by
 have hl:(zR t a u).length=t.length+u.length:=by unfold zR;simp;omega
 refine⟨hl,fun b b1 b2=>gq (by omega) (List.all_eq_true.2 fun x hx=>?_) b1 (by omega)⟩
 rcases List.mem_append.1 hx with hx|hx
 ·rcases List.mem_append.1 hx with hx|hx
  ·exact List.all_eq_true.1 h2 x (List.mem_of_mem_take hx)
  ·exact List.all_eq_true.1 h3 x hx
 ·exact List.all_eq_true.1 h2 x (List.mem_of_mem_drop hx)
theorem fV.ins {e:dB}(h:fV e){u:List Int}(hu:u.all fP=true)(last:Int)(hl:0≤last∧last≤3):fV (Au e u last).1:=by
 obtain⟨h1,h2,h3,h4⟩:=h.aR
 unfold Au
 (first|refine gy (fun _=>?_) (fun _=>?_)|split)
 ·rename_i hc
  exact h.set last ((yY hc h4 hu h2).2 _ (by omega) (by omega)) hl
 ·exact h.zI
theorem xL {l:List eT}(h:eZ l=true):(bE l).all fP=true∧(bE l).length≤400:=by
 unfold bE
 cases l with
 | nil=>exact⟨rfl,by simp⟩
 | cons p l=>
  have:=(yO h).2 p (by simp)
  exact⟨this.2.2,this.2.1⟩
theorem Q0 {l:List eT}(h:eZ l=true):eZ (lC l)=true:=by
 cases l with
 | nil=>rfl
 | cons p l=>
  unfold lC
  simp only [eZ,List.all_cons,Bool.and_eq_true,decide_eq_true_eq,List.length_cons]at h
  simp only [eZ,List.drop_succ_cons,List.drop_zero,List.take_succ_cons,List.take_zero,List.all_append,List.all_cons,List.all_nil,Bool.and_true,Bool.and_eq_true,decide_eq_true_eq,List.length_append,List.length_cons,List.length_nil]
  exact⟨⟨h.1.2,h.1.1⟩,by omega⟩
theorem fV.akC {e:dB}(h:fV e):fV (BM e).1:=by
 unfold BM
 (first|refine gy (fun _=>?_) (fun _=>?_)|split)
 ·exact h.zI
 ·exact h.ins (xL h.ring).1 3 (by omega)
theorem fV.afO {e:dB}(h:fV e):fV (jO e).1:=by
 obtain⟨h1,h2,h3,h4⟩:=h.aR
 unfold jO
 (first|refine gy (fun _=>?_) (fun _=>?_)|split)
 ·rename_i hc
  obtain⟨hc1,hc2⟩:=hc
  simp only [Oo,Bool.and_eq_true,decide_eq_true_eq]at hc1
  obtain⟨q1,q2,q3⟩:=um h.line (show Proofs.YtlpdjhiggpblcaaGreat.aR e-(bE e.aI.aA).length≤Proofs.YtlpdjhiggpblcaaGreat.aR e by omega) h2
  obtain⟨-,c2, -, -⟩:=bX q1
  have hr:=Q0 h.ring
  refine(h.Md hr).set 3 ((yY hc2 c2 (xL hr).1 (by omega)).2 _ (by omega) (by omega)) (by omega)
 ·exact h.zI
theorem fV.case {e:dB}(h:fV e)(how:Int):fV (JQ e how).1:=by
 obtain⟨h1,h2,h3,h4⟩:=h.aR
 have:=wJ h2
 have hl:=tY e.ak.av (Proofs.YtlpdjhiggpblcaaGreat.aR e) how (iq e.ak.av (Proofs.YtlpdjhiggpblcaaGreat.aR e)-Proofs.YtlpdjhiggpblcaaGreat.aR e)
 exact h.put (gq (by omega) (Ar h4 _ _ _) (by omega) (by omega))
theorem fV.digit {e:dB}(h:fV e){r:Int}(hr:gY r 48 57=true):fV (Iq e r).1:=by
 have:=bA.1 hr
 have hc:=h.cnt
 exact⟨h.line,h.own,h.back,by show 0≤min (10*e.bH+r-48) 999∧min (10*e.bH+r-48) 999≤999;omega,h.uV,h.mode,h.end_,h.cmd,h.opz,h.op,h.wait,h.find,h.last,h.ring,h.undo,h.zX,h.hit,h.Na,h.ql,h.qp,h.uj⟩
theorem fV.meta_ {e:dB}(h:fV e)(r:Int):fV (zY e r).1:=by
 obtain⟨h1,h2,h3,h4⟩:=h.aR
 unfold zY
 (first|refine gy (fun _=>?_) (fun _=>?_)|split)
 ·exact h.digit (by assumption)
 (first|refine gy (fun _=>?_) (fun _=>?_)|split)
 ·exact h.go _
 (first|refine gy (fun _=>?_) (fun _=>?_)|split)
 ·exact h.go _
 (first|refine gy (fun _=>?_) (fun _=>?_)|split)
 ·exact h.kill _ (rY (fun a ha=>(wJ ha).2) _ _ h2)
 (first|refine gy (fun _=>?_) (fun _=>?_)|split)
 ·exact h.afO
 (first|refine gy (fun _=>?_) (fun _=>?_)|split)
 ·exact h.case _
 (first|refine gy (fun _=>?_) (fun _=>?_)|split)
 ·exact h.case _
 (first|refine gy (fun _=>?_) (fun _=>?_)|split)
 ·exact h.case _
 ·exact h.zI
theorem fV.swap {e:dB}(h:fV e):fV (Ir e).1:=by
 obtain⟨h1,h2,h3,h4⟩:=h.aR
 unfold Ir
 (first|refine gy (fun _=>?_) (fun _=>?_)|split)
 ·exact h.zI
 ·rename_i hc
  have hl:=KD e.ak.av (min (Proofs.YtlpdjhiggpblcaaGreat.aR e) (e.ak.av.length-1))
  exact h.put (gq (by omega) (FJ h4 (by omega)) (by omega) (by omega))
theorem fV.ahy {e:dB}(h:fV e):fV (mQ e).1:=by
 unfold mQ
 cases hu:e.gH.eX.getLast? with
 | none=>exact h.zI
 | some x=>
  obtain⟨u1,u2⟩:=rH h.undo
  have hx:=u2 x (List.mem_of_getLast? hu)
  obtain⟨c1,c2⟩:=FP (mode:=e.bV) hx
  refine⟨c1,h.own,h.back,Jz,Jz,h.mode,c2, .inr ⟨rfl,rfl,rfl⟩, .inr rfl, .inl rfl, .inl rfl,h.find,z3,h.ring,?_,h.zX,h.hit,h.Na,h.ql,h.qp,h.uj⟩
  exact VW (by simp;omega) fun p hp=>u2 p (List.dropLast_subset _ hp)
theorem fV.afP {e:dB}(h:fV e):fV (BL e).1:=
 ⟨h.line,h.own,h.line,Jz,Jz, .inr (.inr rfl),fun q=>absurd q.1 (by show ¬(3:Int)=2;decide), .inr ⟨rfl,rfl,rfl⟩, .inr rfl, .inl rfl, .inl rfl,h.find,z3,h.ring,h.undo,h.zX,z60,h.Na,by simp [BL,sK],rfl, .inl rfl⟩
theorem Jm {s:ByteArray}{t:List Int}(h:mP s=some t):dF t=true∧Reads s.data.toList t []:=by
 unfold mP at h
 split at h
 ·rename_i hc
  injection h with h
  subst h
  have:=uf s.data.toList
  rw [hc.1]at this
  exact⟨hc.2,this⟩
 ·cases h
theorem fV.step {e:dB}(h:fV e){f:Int}{l:List ByteArray}(hh:gX f l)(zM:Int):fV (jF e f l zM).1:=by
 unfold jF
 cases hs:qK e f l zM with
 | none=>exact h.zI
 | some x=>
  simp only
  have h1:=hh.first
  have h2:=hh.len
  unfold qK at hs
  (first|(rcases iE hs with⟨_,hs⟩|⟨_,hs⟩)|split at hs)
  ·rename_i hc
   injection hs with hs
   subst hs
   obtain⟨c1,c2⟩:=FP (mode:=e.bV) h.own
   exact⟨c1,rfl,h.back,Jz,Jz,h.mode,c2, .inr ⟨rfl,rfl,rfl⟩, .inr rfl, .inl rfl, .inl rfl,h.find,z3,h.ring,rfl,⟨by show(0:Int)≤0;omega,by show(0:Int)≤1000000060;omega⟩,h.hit, .inr rfl,h.ql,h.qp,h.uj⟩
  ·split at hs
   ·cases hs
   ·rename_i t ht
    injection hs with hs
    subst hs
    cases hg:p9 f l (Proofs.YtlpdjhiggpblcaaGreat.JO e f l+zM)with
    | none=>rw [hg]at ht;cases ht
    | some s=>
     rw [hg]at ht
     obtain⟨tok, -⟩:=Jm ht
     unfold p9 at hg
     split at hg
     ·rename_i hc
      have tl:=tok
      simp only [dF,Bool.and_eq_true,decide_eq_true_eq]at tl
      refine⟨?_,?_,h.back,Jz,Jz,h.mode,?_, .inr ⟨rfl,rfl,rfl⟩, .inr rfl, .inl rfl, .inl rfl,h.find,z3,h.ring,rfl,?_,h.hit, .inl ?_,h.ql,h.qp,h.uj⟩
      ·refine gq tl.1 tl.2 ?_ ?_
       ·show 0≤(if e.bV=2 then(0:Int)else t.length);split<;>omega
       ·show(if e.bV=2 then(0:Int)else t.length)≤t.length;split<;>omega
      ·show bN (if e.kF=0 then e.ak else e.iM).av (if e.kF=0 then e.ak else e.iM).At=true
       (first|refine gy (fun _=>?_) (fun _=>?_)|split)
       ·exact h.line
       ·exact h.own
      ·rintro ⟨q1,q2⟩
       have q1:e.bV=2:=q1
       have q2:atEnd t (if e.bV=2 then(0:Int)else t.length)=true:=q2
       rw [if_pos q1]at q2
       simp only [atEnd,Bool.and_eq_true,decide_eq_true_eq,beq_iff_eq]at q2
       omega
      ·show 0≤Proofs.YtlpdjhiggpblcaaGreat.JO e f l+zM∧Proofs.YtlpdjhiggpblcaaGreat.JO e f l+zM≤1000000060
       omega
      ·show ¬Proofs.YtlpdjhiggpblcaaGreat.JO e f l+zM=0
       omega
     ·cases hg
theorem fV.akD {e:dB}(h:fV e){f:Int}{l:List ByteArray}(hh:gX f l)(r:Int):fV (CO e f l r).1:=by
 obtain⟨h1,h2,h3,h4⟩:=h.aR
 unfold CO
 (first|refine gy (fun _=>?_) (fun _=>?_)|split)
 ·exact h.go _
 (first|refine gy (fun _=>?_) (fun _=>?_)|split)
 ·exact h.go _
 (first|refine gy (fun _=>?_) (fun _=>?_)|split)
 ·exact h.go _
 (first|refine gy (fun _=>?_) (fun _=>?_)|split)
 ·exact h.go _
 (first|refine gy (fun _=>?_) (fun _=>?_)|split)
 ·exact h.step hh _
 (first|refine gy (fun _=>?_) (fun _=>?_)|split)
 ·exact h.step hh _
 (first|refine gy (fun _=>?_) (fun _=>?_)|split)
 ·exact h.kill _ (Nat.le_refl _)
 (first|refine gy (fun _=>?_) (fun _=>?_)|split)
 ·exact h.akC
 (first|refine gy (fun _=>?_) (fun _=>?_)|split)
 ·exact h.swap
 (first|refine gy (fun _=>?_) (fun _=>?_)|split)
 ·exact h.ahy
 (first|refine gy (fun _=>?_) (fun _=>?_)|split)
 ·exact h.afP
 ·exact h.zI
theorem fV.adF {e:dB}(h:fV e){r:Int}{p:dB×Int}(hp:fZ e r=some p):fV p.1:=by
 obtain⟨h1,h2,h3,h4⟩:=h.aR
 have hd:fV (OI e).1:=h.cut (by omega)
 unfold fZ at hp
 (first|(rcases iE hp with⟨_,hp⟩|⟨_,hp⟩)|split at hp)
 ·injection hp with hp;subst hp;exact h
 (first|(rcases iE hp with⟨_,hp⟩|⟨_,hp⟩)|split at hp)
 ·injection hp with hp;subst hp;exact h
 (first|(rcases iE hp with⟨_,hp⟩|⟨_,hp⟩)|split at hp)
 ·injection hp with hp;subst hp
  (first|refine gy (fun _=>?_) (fun _=>?_)|split)
  ·exact h
  ·exact hd
 (first|(rcases iE hp with⟨_,hp⟩|⟨_,hp⟩)|split at hp)
 ·injection hp with hp;subst hp;exact h.kill _ h2
 (first|(rcases iE hp with⟨_,hp⟩|⟨_,hp⟩)|split at hp)
 ·injection hp with hp;subst hp;exact h.kill _ h2
 ·cases hp
theorem Iy {p:Int→Bool}{r:Int}(h:p r=true)(n:Nat):(List.replicate n r).all p=true:=List.all_eq_true.2 fun x hx=>by rw [List.eq_of_mem_replicate hx];exact h
theorem fV.plain {e:dB}(h:fV e){f:Int}{l:List ByteArray}(hh:gX f l){k r:Int}(hk:jh k r=true){p:dB×Int}(hp:lY e f l k r=some p):fV p.1:=by
 obtain⟨h1,h2,h3,h4⟩:=h.aR
 have hd:fV (OI e).1:=h.cut (by omega)
 unfold lY at hp
 (first|(rcases iE hp with⟨_,hp⟩|⟨_,hp⟩)|split at hp)
 ·injection hp with hp;subst hp
  rename_i hk1
  subst hk1
  exact h.ins (Iy (lg hk) _) 1 (by omega)
 (first|(rcases iE hp with⟨_,hp⟩|⟨_,hp⟩)|split at hp)
 ·injection hp with hp;subst hp;exact h.ins (Iy (by decide) _) 1 (by omega)
 (first|(rcases iE hp with⟨_,hp⟩|⟨_,hp⟩)|split at hp)
 ·injection hp with hp;subst hp;exact h
 (first|(rcases iE hp with⟨_,hp⟩|⟨_,hp⟩)|split at hp)
 ·exact h.adF hp
 (first|(rcases iE hp with⟨_,hp⟩|⟨_,hp⟩)|split at hp)
 ·injection hp with hp;subst hp;exact h.cut h2
 (first|(rcases iE hp with⟨_,hp⟩|⟨_,hp⟩)|split at hp)
 ·injection hp with hp;subst hp;exact hd
 (first|(rcases iE hp with⟨_,hp⟩|⟨_,hp⟩)|split at hp)
 ·injection hp with hp;subst hp;exact h.go _
 (first|(rcases iE hp with⟨_,hp⟩|⟨_,hp⟩)|split at hp)
 ·injection hp with hp;subst hp;exact h.go _
 (first|(rcases iE hp with⟨_,hp⟩|⟨_,hp⟩)|split at hp)
 ·injection hp with hp;subst hp;exact h.go _
 (first|(rcases iE hp with⟨_,hp⟩|⟨_,hp⟩)|split at hp)
 ·injection hp with hp;subst hp;exact h.go _
 (first|(rcases iE hp with⟨_,hp⟩|⟨_,hp⟩)|split at hp)
 ·injection hp with hp;subst hp;exact h.step hh _
 (first|(rcases iE hp with⟨_,hp⟩|⟨_,hp⟩)|split at hp)
 ·injection hp with hp;subst hp;exact h.step hh _
 ·cases hp
theorem fV.emacs {e:dB}(h:fV e){f:Int}{l:List ByteArray}(hh:gX f l){k r:Int}(hk:jh k r=true):fV (xI e f l k r).1:=by
 obtain⟨h1,h2,h3,h4⟩:=h.aR
 unfold xI
 cases hp:lY e f l k r with
 | some p=>exact h.plain hh hk hp
 | none=>
  simp only
  (first|refine gy (fun _=>?_) (fun _=>?_)|split)
  ·exact h.meta_ r
  (first|refine gy (fun _=>?_) (fun _=>?_)|split)
  ·exact h.kill _ h2
  (first|refine gy (fun _=>?_) (fun _=>?_)|split)
  ·exact h.akD hh r
  ·exact h.zI
abbrev kR (p:dB×Int):Ay:=⟨.fK [gO p.1,vI p.2],[],(hO p.1)⟩
abbrev Iz (p:dB×Int)(b:Bool):Ay:=⟨.fK [gO p.1,vI p.2,V.v (.bool b)],[],(hO p.1)⟩
section
variable (e:dB) (h:fV e)
include h
theorem mJ:kE [gL e] [] []=some (kR (dM e)):=LZ e (Mq.of (fA.2 h))
theorem IB (t:List Int)(a:Int)(ht:bN t a=true):vC [gL e, .agg [.aP (some 6) (ints t),vI a]] [] []=some (kR (vQ e t a)):=by
 obtain⟨h1,h2,h3,h4⟩:=bX ht
 exact ah3 e (fA.2 h) t a h1 ⟨h3,h4⟩
theorem ah5 (f u:Nat)(h1:f≤u)(h2:u≤e.ak.av.length):E9 [gL e,vI (f:Int),vI (u:Int)] [] []=some (kR (Dp e f u)):=by
 have e1:=BK e.ak.av e.ak.At h.line f u h1 h2
 have hgl:(((e.ak.av.drop f).take (u-f)).length:Int)=(u:Int)-f:=by simp;omega
 unfold Dp
 by_cases hfu:f<u
 ·rw [if_pos hfu]
  obtain⟨c1,c2,c3⟩:=um h.line h1 h2
  have e2:=IB e h _ _ c1
  unfold oD at e2⊢
  have hg:¬(((e.ak.av.drop f).take (u-f)).length:Int)=0:=by omega
  generalize (e.ak.av.drop f).take (u-f)=gone at*
  have hg0:¬gone= []:=fun q=>hg (by rw [q];rfl)
  generalize e.ak.av.take f++e.ak.av.drop u=X at*
  generalize vQ e X (cutAt e.ak.At f u)=p at*
  generalize hE:E9 _ _ _=R
  simp [E9, -au,func152,f152,e1,e2,hg,hg0]at hE
  exact hE.symm
 ·rw [if_neg hfu]
  have hfe:f=u:=by omega
  subst hfe
  have e2:=mJ e h
  have hz:(e.ak.av.drop f).take (f-f)= []:=by simp
  rw [hz]at e1
  simp only [bn]at e1
  generalize dM e=p at*
  generalize hE:E9 _ _ _=R
  simp [E9, -au,func152,f152,e1,e2]at hE
  exact hE.symm
theorem ag0 (f u:Nat)(how:Int)(hw:0≤how∧how≤2)(h1:f≤u)(h2:u≤e.ak.av.length):qA [gL e,vI (f:Int),vI (u:Int),vI how] [] []=some (kR (lH e f u how)):=by
 unfold lH
 by_cases hfu:f<u
 ·rw [if_pos hfu]
  exact agX e (fA.2 h) f u how hw hfu h2
 ·rw [if_neg hfu]
  have hfe:f=u:=by omega
  subst hfe
  exact aaV e (fA.2 h) f how h2
end
theorem Jo (n:Nat)(u:List Int):mH (n+1) u=mH n u++u:=by
 unfold mH
 rw [List.replicate_succ',List.flatten_append]
 simp
def rP (m n:Nat):Nat:=gK (fun j=>decide (m*j≤400)) n
theorem IC (m n:Nat)(hm:m≤400):rP m n≤n∧(m*n≤400→rP m n=n)∧(400<m*n→400<m*rP m n)∧m*rP m n≤800∧(∀j,j<rP m n→m*j≤400)∧(rP m n=n∨400<m*rP m n):=by
 obtain⟨h1,h2,h3⟩:=cB (fun j=>decide (m*j≤400)) n
 unfold rP
 generalize gK (fun j=>decide (m*j≤400)) n=k at*
 have h2:∀j,j<k→m*j≤400:=fun j hj=>of_decide_eq_true (h2 j hj)
 have h3:k=n∨¬m*k≤400:=h3.imp _root_.id of_decide_eq_false
 have hle:m*k≤m*n:=Nat.mul_le_mul_left m h1
 refine⟨h1,fun h=>?_,fun h=>?_,?_,h2,?_⟩
 ·rcases h3 with h3|h3
  ·exact h3
  ·omega
 ·rcases h3 with h3|h3
  ·rw [h3];exact h
  ·omega
 ·cases k with
  | zero=>rw [Nat.mul_zero];omega
  | succ k=>
   have:=h2 k (by omega)
   rw [Nat.mul_succ];omega
 ·rcases h3 with h3|h3
  ·exact .inl h3
  ·exact .inr (by omega)
theorem YC (u:List Int)(i:Option Nat)(n:Nat)(hu:u.length≤400)(hn:n≤999):D5 [.aP i (ints u),vI (n:Int)] [] []=some ⟨.own 0,[],[(0,ints (mH (rP u.length n) u))]⟩:=by
 obtain⟨k1,k2,k3,k4,k5,k6⟩:=IC u.length n hu
 generalize rP u.length n=k at*
 have hlen:∀j,(mH j u).length=u.length*j:=fun j=>by
  induction j with
  | zero=>rfl
  | succ j ih=>rw [Jo,List.length_append,ih,Nat.mul_succ]
 generalize hE:D5 _ _ _=R
 simp [D5,func150,f150]at hE
 rw [aJ (fun j=> .on ⟨[(6,V.v (.int .i64 ((j:Int)))),(5, .own 2000000000),(1,V.v (.int .i64 ((n:Int)))),(0, .aP i (ints u))],[],[(2000000000,ints (mH j u))],[]⟩) k ?_ ?_]at hE
 ·have hk:=hlen k
  rcases k6 with q|q
  ·subst q
   simp at hE
   exact hE.symm
  ·by_cases hkn:k<n
   ·have q2:¬(((mH k u).length:Nat):Int)≤400:=by omega
    simp [hkn,q2]at hE
    exact hE.symm
   ·simp [hkn]at hE
    exact hE.symm
 ·simp [mH,bn]
 ·intro j hj
  have q1:j<n:=by omega
  have q2:=k5 j hj
  have q3:(((mH j u).length:Nat):Int)≤400:=by rw [hlen];omega
  have q4:=hlen j
  have hw:=bM ((j:Int)+1) (by omega)
  have g1:((mH j u).length+u.length)*8≤140737488355328:=by omega
  have g2:(mH j u).length+u.length≤4611686018427387904:=by omega
  have g3:ints (mH (j+1) u)=ints (mH j u)++ints u:=by rw [Jo,au]
  simp [q1,q3,hw,g1,g2,g3]
theorem BO (t u:List Int)(a:Int)(h:bN t a=true)(hu:u.all fP=true)(hu2:u.length≤100000):oq [.agg [.aP (some 0) (ints t),vI a], .aP (some 1) (ints u)] [] []=
  some (if t.length+u.length≤400 then⟨.fK [.agg [.own 0,vI (a+u.length)],V.v (.bool true)],[],[(0,ints (zR t a.toNat u))]⟩else⟨.fK [.agg [.own 0,vI 0],V.v (.bool false)],[],[(0,[])]⟩):=by
 obtain⟨h1,h2,h3,h4⟩:=bX h
 obtain⟨A,hA⟩:=Int.eq_ofNat_of_zero_le h3
 subst hA
 have hA:A≤t.length:=by omega
 rw [Int.toNat_natCast]
 by_cases hc:t.length+u.length≤400
 ·rw [if_pos hc]
  exact aaW t u A hA (by simp only [dF,Bool.and_eq_true,decide_eq_true_eq];exact⟨h1,h2⟩) hu hc
 ·rw [if_neg hc]
  have e1:=bQ t A (by omega)
  rw [h]at e1
  by_cases hu4:400<u.length
  ·have ah6:(400:Int)<u.length:=by omega
   simp [oq,func216,f216,e1,hu4,ah6,bn]
  ·have ah6:¬(400:Int)<u.length:=by omega
   have e2:=lq (t.take A) (some 0) (by simp;omega)
   have hXl:(t.take A++u++t.drop A).length=t.length+u.length:=by simp;omega
   have e3:=bQ (t.take A++u++t.drop A) ((A:Int)+u.length) (by omega)
   rw [show bN (t.take A++u++t.drop A) ((A:Int)+u.length)=false from by unfold bN dF;rw [decide_eq_false (by omega)];rfl,List.append_assoc]at e3
   have q2:(A+u.length+(t.length-A))*8≤140737488355328:=by omega
   have q3:A+u.length+(t.length-A)≤4611686018427387904:=by omega
   have q4:(A+u.length)*8≤140737488355328:=by omega
   have q5:A+u.length≤4611686018427387904:=by omega
   have q6:min A t.length=A:=by omega
   have q7:(A:Int)≤t.length:=by omega
   have q8:(t.drop A).take (t.length-A)=t.drop A:=List.take_of_length_le (by simp)
   have w:=bM ((A:Int)+u.length) (by omega)
   have hX:ints (t.take A++u++t.drop A)=ints (t.take A)++ints u++ints (t.drop A):=by rw [au,au]
   generalize hE:oq _ _ _=R
   simp [oq, -au,←au,func216,f216,e1,e2,hu4,ah6,q2,q3,q4,q5,q6,q7,q8,hA,w,e3]at hE
   exact hE.symm
section
variable (e:dB) (h:fV e)
include h
theorem Nb (t:List Int)(a last:Int)(ht:bN t a=true):zP [gL e, .agg [.aP (some 6) (ints t),vI a],vI last] [] []=some ⟨(gO (sO e t a last)),[],(hO (sO e t a last))⟩:=by
 obtain⟨h1,h2,h3,h4⟩:=bX ht
 exact aaT e (fA.2 h) t a last h1 ⟨h3,h4⟩
theorem Ux (u:List Int)(last:Int)(hu:u.all fP=true)(hu2:u.length≤100000):wz [gL e, .aP (some 6) (ints u),vI last] [] []=some (kR (Au e u last)):=by
 obtain⟨h1,h2,h3,h4⟩:=h.aR
 have e1:=BO e.ak.av u e.ak.At h.line hu hu2
 have hn:e.ak.At.toNat=aR e:=rfl
 rw [hn]at e1
 unfold Au
 by_cases hc:e.ak.av.length+u.length≤400
 ·rw [if_pos hc]at e1⊢
  have e2:=Nb e h (zR e.ak.av (aR e) u) (e.ak.At+u.length) last ((yY hc h4 hu h2).2 _ (by omega) (by omega))
  generalize zR e.ak.av (aR e) u=X at*
  generalize sO e X (e.ak.At+u.length) last=p at*
  generalize hE:wz _ _ _=R
  simp [wz, -au,func149,f149,e1,e2]at hE
  exact hE.symm
 ·rw [if_neg hc]at e1⊢
  have e2:=mJ e h
  generalize dM e=p at*
  generalize hE:wz _ _ _=R
  simp [wz, -au,func149,f149,e1,e2]at hE
  exact hE.symm
end
theorem fV.typing {e:dB}(h:fV e)(hv:e.Vi=true)(hm:¬e.bV=3){t:List Int}{a:Int}(ht:bN t a=true):fV {sO e t a 0 with bV:=1,ak:=⟨t,a⟩}:=by
 have hs:=h.set 0 ht (by omega)
 have hsk:=h.uj.resolve_left hm
 exact⟨ht,h.own,h.back,Jz,Jz, .inr (.inl ⟨.inl rfl,hv⟩),fun q=>absurd q.1 (by show ¬(1:Int)=2;decide), .inr ⟨rfl,rfl,rfl⟩, .inr rfl, .inl rfl, .inl rfl,h.find,z3,h.ring,hs.undo,h.zX,h.hit,h.Na,h.ql,h.qp, .inr hsk⟩
theorem fV.vi2 {e:dB}(h:fV e)(hm:e.bV=2):e.Vi=true:=by
 rcases h.mode with h1|h1|h1
 ·omega
 ·exact h1.2
 ·omega
theorem fV.KE {e:dB}(h:fV e){a:Nat}(ha:a≤e.ak.av.length):bN e.ak.av (a:Int)=true:=by
 obtain⟨h1,h2,h3,h4⟩:=h.aR
 exact gq h3 h4 (by omega) (by omega)
theorem fV.o7 {e:dB}(h:fV e)(hm:e.bV=2){a:Nat}(ha:a≤e.ak.av.length):fV (Proofs.YtlpdjhiggpblcaaGreat.o7 e a):=
 h.typing (h.vi2 hm) (by omega) (h.KE ha)
theorem fV.change {e:dB}(h:fV e)(hm:e.bV=2)(op:Int){f u:Nat}(h1:f≤u)(h2:u≤e.ak.av.length):fV (gZ e op f u).1:=by
 have hr:=FI h.ring (Iw h.line (f:=f) (u:=u)) 0
 obtain⟨c1,c2,c3⟩:=um h.line h1 h2
 unfold gZ
 (first|refine gy (fun _=>?_) (fun _=>?_)|split)
 ·(first|refine gy (fun _=>?_) (fun _=>?_)|split)
  ·exact h.o7 hm (by omega)
  ·exact h.zI
 (first|refine gy (fun _=>?_) (fun _=>?_)|split)
 ·exact(h.Md hr).put (h.KE (by omega))
 (first|refine gy (fun _=>?_) (fun _=>?_)|split)
 ·exact(h.Md hr).typing (h.vi2 hm) (by show ¬e.bV=3;omega) c3
 ·exact(h.Md hr).put c3
theorem Nc {n a u:Nat}(incl:Bool)(h1:a≤n)(h2:u≤n):min a u≤xJ n a u incl∧xJ n a u incl≤n:=by
 unfold xJ
 (first|refine gy (fun _=>?_) (fun _=>?_)|split)
 ·rename_i hc
  have:=hc.2
  omega
 ·omega
theorem fV.move {e:dB}(h:fV e)(hm:e.bV=2){u:Nat}(incl:Bool)(ht:u≤e.ak.av.length):fV (qL e u incl).1:=by
 obtain⟨h1,h2,h3,h4⟩:=h.aR
 have:=Nc incl h2 ht
 unfold qL
 (first|refine gy (fun _=>?_) (fun _=>?_)|split)
 ·exact h.go _
 ·exact h.change hm _ this.1 this.2
theorem Ot {t:List Int}{r how:Int}{a p:Nat}(h:a≤t.length)(hp:jC t r how a=some p):p<t.length:=by
 unfold jC at hp
 (first|(rcases iE hp with⟨_,hp⟩|⟨_,hp⟩)|split at hp)
 ·simp only at hp
  (first|(rcases iE hp with⟨_,hp⟩|⟨_,hp⟩)|split at hp)
  ·injection hp with hp;omega
  ·cases hp
 (first|(rcases iE hp with⟨_,hp⟩|⟨_,hp⟩)|split at hp)
 ·simp only at hp
  (first|(rcases iE hp with⟨_,hp⟩|⟨_,hp⟩)|split at hp)
  ·injection hp with hp;omega
  ·cases hp
 (first|(rcases iE hp with⟨_,hp⟩|⟨_,hp⟩)|split at hp)
 ·simp only at hp
  (first|(rcases iE hp with⟨_,hp⟩|⟨_,hp⟩)|split at hp)
  ·injection hp with hp;omega
  ·cases hp
 (first|(rcases iE hp with⟨_,hp⟩|⟨_,hp⟩)|split at hp)
 ·simp only at hp
  (first|(rcases iE hp with⟨_,hp⟩|⟨_,hp⟩)|split at hp)
  ·injection hp with hp;omega
  ·cases hp
 ·cases hp
theorem Jp {t:List Int}{r how:Int}:∀(n a p:Nat),a≤t.length→tZ t r how n a=some p→p≤t.length
 | 0,a,p,h,hp=>by injection hp with hp;omega
 | n+1,a,p,h,hp=>by
  unfold tZ at hp
  split at hp
  ·cases hp
  ·rename_i q hq
   exact Jp n q p (Nat.le_of_lt (Ot h hq)) hp
theorem fV.aaX {e:dB}(h:fV e)(hm:e.bV=2)(r how:Int)(n:Nat):fV (nN e r how n).1:=by
 obtain⟨h1,h2,h3,h4⟩:=h.aR
 unfold nN
 cases hp:tZ e.ak.av r how n (Proofs.YtlpdjhiggpblcaaGreat.aR e)with
 | none=>exact h.zI
 | some p=>exact h.move hm _ (Jp n _ p h2 hp)
theorem Jq {t:List Int}(h:t.all fP=true){r:Int}(hr:fP r=true)(f:Nat):∀j,(qd t f r j).length=t.length∧(qd t f r j).all fP=true
 | 0=>⟨rfl,h⟩
 | j+1=>by
  have ih:=Jq h hr f j
  exact⟨by unfold qd;rw [List.length_set];exact ih.1,Ip ih.2 _ hr⟩
theorem afQ {r:Int}(h:fP r=true):fP (YA r)=true:=by
 unfold YA
 (first|refine gy (fun _=>?_) (fun _=>?_)|split)
 ·rename_i h1;have:=(Jl (r:=r) (by unfold isLet;rw [h1];rfl)).1;unfold upI at this;rw [if_pos h1]at this;exact this
 (first|refine gy (fun _=>?_) (fun _=>?_)|split)
 ·rename_i h1 h2
  have:=(Jl (r:=r) (by unfold isLet;rw [h2];simp)).2;unfold L6 at this;rw [if_pos h2]at this;exact this
 ·exact h
theorem Jr {t:List Int}(h:t.all fP=true)(f:Nat):∀j,f+j≤t.length→(rM t f j).length=t.length∧(rM t f j).all fP=true
 | 0,_=>⟨rfl,h⟩
 | j+1,hj=>by
  have ih:=Jr h f j (by omega)
  refine⟨by unfold rM;rw [List.length_set];exact ih.1,Ip ih.2 _ (afQ ?_)⟩
  have hl:f+j<(rM t f j).length:=by omega
  rw [getD_at hl]
  exact List.all_eq_true.1 ih.2 _ (List.getElem_mem hl)
theorem fV.gW {e:dB}(h:fV e):1≤Proofs.YtlpdjhiggpblcaaGreat.gW e∧Proofs.YtlpdjhiggpblcaaGreat.gW e≤999∧(Proofs.YtlpdjhiggpblcaaGreat.gW e:Int)=min (max e.bH 1*max e.bU 1) 999:=by
 have afR:1*1≤max e.bH 1*max e.bU 1:=Int.mul_le_mul (by omega) (by omega) (by omega) (by omega)
 unfold Proofs.YtlpdjhiggpblcaaGreat.gW
 omega
theorem Q5 (r:Int): -1≤iV r∧iV r≤3:=by
 unfold iV
 (repeat' (first|refine gy (fun _=>?_) (fun _=>?_)|split))
 all_goals omega
theorem Nf {fr:Int}(r:Int)(h:bS fr=true)(hr:0≤iV r):dI fr (iV r)=true:=by
 have:=Q5 r
 have h0:¬fr=0:=fun e=>by subst e;exact absurd h (by decide)
 unfold dI
 simp only [h,bA.2 (show 0≤iV r∧iV r≤3 by omega),Bool.and_true,Bool.or_eq_true,bne_iff_ne,ne_eq]
 exact .inr h0
theorem KF {r:Int}(h:wI r=true)(h2:¬r=114):0≤iV r:=by
 simp only [wI,Bool.or_eq_true,beq_iff_eq]at h
 unfold iV
 (repeat' (first|refine gy (fun _=>?_) (fun _=>?_)|split))
 all_goals omega
theorem fV.find' {e:dB}(h:fV e){r how:Int}(hf:dI r how=true):fV {e with eY:=r,bT:=how}:=
 ⟨h.line,h.own,h.back,h.cnt,h.uV,h.mode,h.end_,h.cmd,h.opz,h.op,h.wait,hf,h.last,h.ring,h.undo,h.zX,h.hit,h.Na,h.ql,h.qp,h.uj⟩
theorem fV.waited {e:dB}(h:fV e)(hm:e.bV=2)(hw:¬e.fT=0){k r:Int}(hk:jh k r=true){n:Nat}(hn:1≤n):fV (rO e k r n).1:=by
 obtain⟨h1,h2,h3,h4⟩:=h.aR
 unfold rO
 (first|refine gy (fun _=>?_) (fun _=>?_)|split)
 ·exact h.zI
 rename_i hk1
 have hk1:k=1:=Classical.not_not.1 hk1
 subst hk1
 have hp:bS r=true:=hk
 (first|refine gy (fun _=>?_) (fun _=>?_)|split)
 ·(first|refine gy (fun _=>?_) (fun _=>?_)|split)
  ·exact h.zI
  ·obtain⟨r1,r2⟩:=Jq h4 (lg hp) (Proofs.YtlpdjhiggpblcaaGreat.aR e) n
   exact h.put (gq (by omega) r2 (by omega) (by omega))
 (first|refine gy (fun _=>?_) (fun _=>?_)|split)
 ·exact h.zI
 ·rename_i hw2 _
  exact(h.find' (Nf e.fT hp (KF (h.wait.resolve_left hw) hw2))).aaX hm _ _ _
theorem zJ {t:List Int}{a n:Nat}{r:Int}{p:Nat×Bool}(h:a≤t.length)(hp:gM t a r n=some p):p.1≤t.length:=by
 unfold gM at hp
 (first|(rcases iE hp with⟨_,hp⟩|⟨_,hp⟩)|split at hp)
 ·injection hp with hp;subst hp;show a-n≤_;omega
 (first|(rcases iE hp with⟨_,hp⟩|⟨_,hp⟩)|split at hp)
 ·injection hp with hp;subst hp;show min (a+n) t.length≤_;omega
 (first|(rcases iE hp with⟨_,hp⟩|⟨_,hp⟩)|split at hp)
 ·injection hp with hp;subst hp;exact rY (fun a ha=>(O7 ha).2) _ _ h
 (first|(rcases iE hp with⟨_,hp⟩|⟨_,hp⟩)|split at hp)
 ·injection hp with hp;subst hp;exact rY (fun a ha=>Nat.le_trans AZ ha) _ _ h
 (first|(rcases iE hp with⟨_,hp⟩|⟨_,hp⟩)|split at hp)
 ·injection hp with hp;subst hp;exact rY (fun a ha=>Ma.1) _ _ h
 (first|(rcases iE hp with⟨_,hp⟩|⟨_,hp⟩)|split at hp)
 ·injection hp with hp;subst hp;exact Nat.zero_le _
 (first|(rcases iE hp with⟨_,hp⟩|⟨_,hp⟩)|split at hp)
 ·injection hp with hp;subst hp;exact(cB _ _).1
 (first|(rcases iE hp with⟨_,hp⟩|⟨_,hp⟩)|split at hp)
 ·injection hp with hp;subst hp;show t.length-1≤_;omega
 (first|(rcases iE hp with⟨_,hp⟩|⟨_,hp⟩)|split at hp)
 ·injection hp with hp;subst hp;show min (n-1) t.length≤_;omega
 ·cases hp
theorem fV.V5 {e:dB}(h:fV e)(hm:e.bV=2)(r:Int)(n:Nat):fV (jR e r n).1:=by
 obtain⟨h1,h2,h3,h4⟩:=h.aR
 unfold jR
 cases hp:gM e.ak.av (Proofs.YtlpdjhiggpblcaaGreat.aR e) r n with
 | none=>exact h.move hm _ (Nat.zero_le _)
 | some p=>exact h.move hm _ (zJ h2 hp)
theorem fV.special {e:dB}(h:fV e)(hm:e.bV=2){f:Int}{l:List ByteArray}(hh:gX f l)(k r:Int)(n:Nat):fV (qM e f l k r n).1:=by
 obtain⟨h1,h2,h3,h4⟩:=h.aR
 unfold qM
 (first|refine gy (fun _=>?_) (fun _=>?_)|split)
 ·exact h
 (first|refine gy (fun _=>?_) (fun _=>?_)|split)
 ·(first|refine gy (fun _=>?_) (fun _=>?_)|split)
  ·exact h.zI
  ·exact h.idle _ h.last
 (first|refine gy (fun _=>?_) (fun _=>?_)|split)
 ·exact h.step hh _
 (first|refine gy (fun _=>?_) (fun _=>?_)|split)
 ·exact h.step hh _
 (first|refine gy (fun _=>?_) (fun _=>?_)|split)
 ·exact h.V5 hm _ _
 (first|refine gy (fun _=>?_) (fun _=>?_)|split)
 ·exact h.V5 hm _ _
 (first|refine gy (fun _=>?_) (fun _=>?_)|split)
 ·exact h.V5 hm _ _
 (first|refine gy (fun _=>?_) (fun _=>?_)|split)
 ·exact h.V5 hm _ _
 (first|refine gy (fun _=>?_) (fun _=>?_)|split)
 ·exact h.change hm _ (by omega) (by omega)
 (first|refine gy (fun _=>?_) (fun _=>?_)|split)
 ·(first|refine gy (fun _=>?_) (fun _=>?_)|split)
  ·exact h
  (first|refine gy (fun _=>?_) (fun _=>?_)|split)
  ·exact h
  (first|refine gy (fun _=>?_) (fun _=>?_)|split)
  ·exact h
  (first|refine gy (fun _=>?_) (fun _=>?_)|split)
  ·exact h.afP
  ·exact h.zI
 ·exact h.zI
theorem Me {t:List Int}(h:t.all fP=true):∀n,(mH n t).length=t.length*n∧(mH n t).all fP=true
 | 0=>⟨rfl,rfl⟩
 | n+1=>by
  have ih:=Me h n
  have e:mH (n+1) t=t++mH n t:=by unfold mH;rw [List.replicate_succ,List.flatten_cons]
  rw [e]
  refine⟨by rw [List.length_append,ih.1,Nat.mul_succ];omega,?_⟩
  rw [List.all_append,h,ih.2];rfl
theorem fV.paste {e:dB}(h:fV e){a:Nat}(ha:a≤e.ak.av.length){n:Nat}(hn:1≤n):fV (uP e a n).1:=by
 obtain⟨h1,h2,h3,h4⟩:=h.aR
 unfold uP
 (first|refine gy (fun _=>?_) (fun _=>?_)|split)
 ·exact h.zI
 ·rename_i hc
  have hc1:¬bE e.aI.aA= []:=fun q=>hc (.inl q)
  have hc2:e.ak.av.length+(bE e.aI.aA).length*n≤400:=by
   rcases Nat.lt_or_ge 400 (e.ak.av.length+(bE e.aI.aA).length*n)with q|q
   ·exact absurd (.inr q) hc
   ·exact q
  obtain⟨r1,r2⟩:=Me (xL h.ring).1 n
  have hpos:1*1≤(bE e.aI.aA).length*n:=Nat.mul_le_mul (List.length_pos_iff.2 hc1) hn
  generalize (bE e.aI.aA).length*n=m at*
  exact h.put ((yY (by omega) h4 r2 ha).2 _ (by omega) (by omega))
theorem fV.afS {e:dB}(h:fV e)(n:Nat):fV (nY e n).1:=by
 obtain⟨h1,h2,h3,h4⟩:=h.aR
 unfold nY
 (first|refine gy (fun _=>?_) (fun _=>?_)|split)
 ·exact h.zI
 ·obtain⟨r1,r2⟩:=Jr h4 (Proofs.YtlpdjhiggpblcaaGreat.aR e) (min (Proofs.YtlpdjhiggpblcaaGreat.aR e+n) e.ak.av.length-Proofs.YtlpdjhiggpblcaaGreat.aR e) (by omega)
  exact h.put (gq (by omega) r2 (by omega) (by omega))
theorem fV.acy {e:dB}(h:fV e)(hm:e.bV=2){r:Int}(hr:wI r=true):fV {e with fT:=r}:=
 ⟨h.line,h.own,h.back,h.cnt,h.uV,h.mode,h.end_, .inl hm,h.opz,h.op, .inr hr,h.find,h.last,h.ring,h.undo,h.zX,h.hit,h.Na,h.ql,h.qp,h.uj⟩
theorem afT {r:Int}(h:0≤iV r):wI r=true:=by
 unfold iV at h
 simp only [wI,Bool.or_eq_true,beq_iff_eq]
 split at h
 ·simp [*]
 split at h
 ·simp [*]
 split at h
 ·simp [*]
 split at h
 ·simp [*]
 ·omega
theorem fV.begun {e:dB}(h:fV e)(hm:e.bV=2){r:Int}{n:Nat}{p:dB×Int}(hp:vR e r n=some p):fV p.1:=by
 unfold vR at hp
 (first|(rcases iE hp with⟨_,hp⟩|⟨_,hp⟩)|split at hp)
 ·rename_i hc
  injection hp with hp;subst hp
  refine h.digit (bA.2 ?_)
  rcases hc with hc|⟨hc, -⟩
  ·have:=bA.1 hc;omega
  ·omega
 (first|(rcases iE hp with⟨_,hp⟩|⟨_,hp⟩)|split at hp)
 ·rename_i hc
  injection hp with hp;subst hp
  exact h.acy hm (afT hc)
 (first|(rcases iE hp with⟨_,hp⟩|⟨_,hp⟩)|split at hp)
 ·injection hp with hp;subst hp
  (first|refine gy (fun _=>?_) (fun _=>?_)|split)
  ·exact h.zI
  ·exact h.aaX hm _ _ _
 (first|(rcases iE hp with⟨_,hp⟩|⟨_,hp⟩)|split at hp)
 ·injection hp with hp;subst hp
  (first|refine gy (fun _=>?_) (fun _=>?_)|split)
  ·exact h.zI
  ·exact h.aaX hm _ _ _
 (first|(rcases iE hp with⟨_,hp⟩|⟨_,hp⟩)|split at hp)
 ·rename_i hc
  injection hp with hp;subst hp
  have h0:¬r=0:=fun q=>by rw [q]at hc;exact absurd hc.2 (by decide)
  exact⟨h.line,h.own,h.back,Jz,h.cnt,h.mode,h.end_, .inl hm, .inl h0, .inr hc.2,h.wait,h.find,h.last,h.ring,h.undo,h.zX,h.hit,h.Na,h.ql,h.qp,h.uj⟩
 ·cases hp
theorem fV.begin {e:dB}(h:fV e)(hm:e.bV=2)(r:Int):fV (zS e r).1:=by
 obtain⟨h1,h2,h3,h4⟩:=h.aR
 unfold zS
 (first|refine gy (fun _=>?_) (fun _=>?_)|split)
 ·exact h.o7 hm h2
 (first|refine gy (fun _=>?_) (fun _=>?_)|split)
 ·exact h.o7 hm (cB _ _).1
 (first|refine gy (fun _=>?_) (fun _=>?_)|split)
 ·exact h.o7 hm (by omega)
 (first|refine gy (fun _=>?_) (fun _=>?_)|split)
 ·exact h.o7 hm (Nat.le_refl _)
 ·exact h.zI
theorem fV.ag1 {e:dB}(h:fV e)(hm:e.bV=2){f:Int}{l:List ByteArray}(hh:gX f l)(r:Int){n:Nat}(hn:1≤n):fV (rX e f l r n).1:=by
 obtain⟨h1,h2,h3,h4⟩:=h.aR
 unfold rX
 (first|refine gy (fun _=>?_) (fun _=>?_)|split)
 ·exact h.change hm _ (by omega) (by omega)
 (first|refine gy (fun _=>?_) (fun _=>?_)|split)
 ·exact h.change hm _ (by omega) (by omega)
 (first|refine gy (fun _=>?_) (fun _=>?_)|split)
 ·exact h.change hm _ (by omega) (by omega)
 (first|refine gy (fun _=>?_) (fun _=>?_)|split)
 ·exact h.change hm _ (by omega) (by omega)
 (first|refine gy (fun _=>?_) (fun _=>?_)|split)
 ·exact h.change hm _ (by omega) (by omega)
 (first|refine gy (fun _=>?_) (fun _=>?_)|split)
 ·exact h.change hm _ (by omega) (by omega)
 (first|refine gy (fun _=>?_) (fun _=>?_)|split)
 ·exact h.acy hm (by decide)
 (first|refine gy (fun _=>?_) (fun _=>?_)|split)
 ·exact h.paste (by omega) hn
 (first|refine gy (fun _=>?_) (fun _=>?_)|split)
 ·exact h.paste h2 hn
 (first|refine gy (fun _=>?_) (fun _=>?_)|split)
 ·exact h.afS _
 (first|refine gy (fun _=>?_) (fun _=>?_)|split)
 ·exact h.ahy
 (first|refine gy (fun _=>?_) (fun _=>?_)|split)
 ·exact h.step hh _
 (first|refine gy (fun _=>?_) (fun _=>?_)|split)
 ·exact h.step hh _
 (first|refine gy (fun _=>?_) (fun _=>?_)|split)
 ·exact h.afP
 ·exact h.begin hm r
theorem fV.command {e:dB}(h:fV e)(hm:e.bV=2){f:Int}{l:List ByteArray}(hh:gX f l)(r:Int){n:Nat}(hn:1≤n):fV (oz e f l r n).1:=by
 obtain⟨h1,h2,h3,h4⟩:=h.aR
 unfold oz
 cases hb:vR e r n with
 | some p=>exact h.begun hm hb
 | none=>
  simp only
  (first|refine gy (fun _=>?_) (fun _=>?_)|split)
  ·exact h.change hm _ (Nat.zero_le _) (Nat.le_refl _)
  cases hp:gM e.ak.av (Proofs.YtlpdjhiggpblcaaGreat.aR e) r n with
  | some p=>exact h.move hm _ (zJ h2 hp)
  | none=>
   simp only
   (first|refine gy (fun _=>?_) (fun _=>?_)|split)
   ·exact h.zI
   ·exact h.ag1 hm hh r hn
theorem fV.esc {e:dB}(h:fV e)(hm:e.bV=1):fV (agZ e).1:=by
 obtain⟨h1,h2,h3,h4⟩:=h.aR
 have hv:e.Vi=true:=by
  rcases h.mode with h1|h1|h1
  ·omega
  ·exact h1.2
  ·omega
 have hc:=h.cmd.resolve_left (by omega)
 have hs:=h.uj.resolve_left (by omega)
 refine⟨gq h3 h4 (by show 0≤max (e.ak.At-1) 0;omega) (by show max (e.ak.At-1) 0≤e.ak.av.length;omega),h.own,h.back,Jz,h.uV, .inr (.inl ⟨.inr rfl,hv⟩),?_, .inl rfl,h.opz,h.op,h.wait,h.find,z3,h.ring,h.undo,h.zX,h.hit,h.Na,h.ql,h.qp, .inr hs⟩
 rintro ⟨-,q⟩
 have q:atEnd e.ak.av (max (e.ak.At-1) 0)=true:=q
 simp only [atEnd,Bool.and_eq_true,decide_eq_true_eq,beq_iff_eq]at q
 omega
theorem fV.vi_ {e:dB}(h:fV e)(hm:e.bV=1∨e.bV=2){f:Int}{l:List ByteArray}(hh:gX f l){k r:Int}(hk:jh k r=true):fV (viE e f l k r).1:=by
 obtain⟨hn, -, -⟩:=h.gW
 unfold viE
 (first|refine gy (fun _=>?_) (fun _=>?_)|split)
 ·rename_i hm
  cases hp:lY e f l k r with
  | some p=>exact h.plain hh hk hp
  | none=>
   simp only
   (first|refine gy (fun _=>?_) (fun _=>?_)|split)
   ·exact h.esc hm
   ·exact h.zI
 rename_i hm1
 have hm2:e.bV=2:=hm.resolve_left hm1
 (first|refine gy (fun _=>?_) (fun _=>?_)|split)
 ·exact h.waited hm2 (by assumption) hk hn
 (first|refine gy (fun _=>?_) (fun _=>?_)|split)
 ·exact h.special hm2 hh _ _ _
 ·exact h.command hm2 hh _ hn
theorem fV.left {e:dB}(h:fV e):fV (xK e):=by
 obtain⟨h1,h2,h3,h4⟩:=h.aR
 unfold xK
 have hz:¬e.bV=2→e.Op=0∧e.fT=0∧e.bU=0:=fun q=>h.cmd.resolve_left q
 obtain⟨c1,c2⟩:=FP (mode:=if e.Vi=true then 2 else 0) h.line
 refine⟨c1,h.own,rfl,h.cnt,h.uV,?_,c2,?_,h.opz,h.op,h.wait,h.find,h.last,h.ring,h.undo,h.zX,⟨by show(0:Int)≤0;omega,by show(0:Int)≤1000000060;omega⟩,h.Na,Nat.zero_le _,rfl, .inr ⟨rfl,rfl,rfl⟩⟩
 ·show((if e.Vi=true then(2:Int)else 0)=0∧e.Vi=false)∨(((if e.Vi=true then(2:Int)else 0)=1∨(if e.Vi=true then(2:Int)else 0)=2)∧e.Vi=true)∨(if e.Vi=true then(2:Int)else 0)=3
  cases e.Vi
  ·exact .inl ⟨rfl,rfl⟩
  ·exact .inr (.inl ⟨.inr rfl,rfl⟩)
 ·show(if e.Vi=true then(2:Int)else 0)=2∨(e.Op=0∧e.fT=0∧e.bU=0)
  by_cases hv:e.Vi=true
  ·rw [if_pos hv];exact .inl rfl
  ·right
   apply hz
   intro hm
   exact hv (h.vi2 hm)
theorem CP (r:Int)(l:List Int):bI (r::l)=bg r++bI l:=by unfold bI;rw [List.flatMap_cons]
theorem FQ:∀(l t:List Int) (rest:List UInt8),(∀r∈l,lV r=true)→(∀r∈t,lV r=true)→bI t=bI l++rest→∃t2,t=l++t2∧bI t2=rest
 | [],t,rest,_,_,h=>⟨t,rfl,h⟩
 | r::l,[],rest,h1,_,h=>by
  have hp:=KA (h1 r (by simp))
  rw [CP]at h
  have:=congrArg List.length h
  simp [bI]at this
  omega
 | r::l,x::t,rest,h1,h2,h=>by
  rw [CP,CP,List.append_assoc]at h
  have d1:=Ij (h2 x (by simp)) (bI t)
  rw [h,Ij (h1 r (by simp))]at d1
  have hr:r=x:=congrArg Prod.fst (Option.some.inj d1)
  subst hr
  obtain⟨t2,e1,e2⟩:=FQ l t rest (fun y hy=>h1 y (by simp [hy])) (fun y hy=>h2 y (by simp [hy])) (List.append_cancel_left h)
  exact⟨t2,by rw [e1];rfl,e2⟩
theorem aaY {b:List UInt8}(h:rJ b= []):b=bI (nG b)∧∀r∈nG b,lV r=true:=by
 have:=uf b
 rw [h]at this
 exact⟨by have:=this.1;rwa [List.append_nil]at this,this.2.1⟩
theorem xM {b:List UInt8}{t:List Int}(h:Reads b t []):nG b=t∧rJ b= []:=by
 obtain⟨h1,h2, -⟩:=h
 rw [List.append_nil]at h1
 obtain⟨q1,q2,q3⟩:=uf b
 obtain⟨t2,e1,e2⟩:=FQ (nG b) t (rJ b) q2 h2 (by rw [←h1,←q1])
 cases t2 with
 | nil=>exact⟨by rw [e1,List.append_nil],e2.symm⟩
 | cons x t2=>
  exfalso
  rw [←e2,CP,Ij (h2 x (by rw [e1];simp))]at q3
  cases q3
theorem Q6 {b:List UInt8}{t:List Int}(h:Reads b t [])(i:Nat)(s:ByteArray)(hs:s.data.toList=b.take i):(sM s).length≤t.length:=by
 unfold sM
 (first|refine gy (fun _=>?_) (fun _=>?_)|split)
 ·rename_i hr
  obtain⟨q1,q2⟩:=aaY hr
  obtain⟨h1,h2, -⟩:=h
  rw [List.append_nil]at h1
  obtain⟨t2,e1, -⟩:=FQ (nG s.data.toList) t (b.drop i) q2 h2 (by rw [←q1,hs,←h1,List.take_append_drop])
  rw [e1,List.length_append]
  omega
 ·exact Nat.zero_le _
theorem IE {f:Int}{sub:List UInt8}{fr:Int}{l:List ByteArray}(hf:1≤f):∀n:Nat,iW f sub fr l n=0∨∃k:Nat,k<n∧iW f sub fr l n=f+k
 | 0=> .inl rfl
 | n+1=>by
  unfold iW
  (first|refine gy (fun _=>?_) (fun _=>?_)|split)
  ·exact .inr ⟨n,by omega,rfl⟩
  ·rcases IE hf n with h|⟨k,h1,h2⟩
   ·exact .inl h
   ·exact .inr ⟨k,by omega,h2⟩
theorem fV.shown {e x:dB}(h:fV e)(hm:e.bV=3){f:Int}{l:List ByteArray}(hh:gX f l){n:Int}{q:List Int}(hq:q.all bS=true)(hs:mI e f l n q=some x):fV x:=by
 have h1:=hh.first
 have h2:=hh.len
 unfold mI at hs
 split at hs
 ·rename_i JA
  split at hs
  ·cases hs
  rename_i s hg
  split at hs
  ·cases hs
  rename_i t ht
  split at hs
  ·rename_i hi
   injection hs with hs
   subst hs
   obtain⟨tok,tr⟩:=Jm ht
   have hn:f≤n∧n≤f+l.length-1:=by
    unfold p9 at hg
    split at hg
    ·assumption
    ·cases hg
   have hext:(s.extract 0 (Lib.index s.data.toList (bI q)).toNat).data.toList=s.data.toList.take (Lib.index s.data.toList (bI q)).toNat:=by
    simp [ByteArray.data_extract]
   have hle:=Q6 tr _ _ hext
   simp only [dF,Bool.and_eq_true,decide_eq_true_eq]at tok
   refine⟨gq tok.1 tok.2 (Int.natCast_nonneg _) (Int.ofNat_le.2 hle),?_,h.back,h.cnt,h.uV,h.mode,?_,h.cmd,h.opz,h.op,h.wait,h.find,h.last,h.ring,rfl,⟨by show 0≤n;omega,by show n≤1000000060;omega⟩,⟨by show 0≤n;omega,by show n≤1000000060;omega⟩, .inl (by show ¬n=0;omega),JA,hq, .inl hm⟩
   ·show bN (if e.kF=0 then e.dH else e.iM).av (if e.kF=0 then e.dH else e.iM).At=true
    (first|refine gy (fun _=>?_) (fun _=>?_)|split)
    ·exact h.back
    ·exact h.own
   ·rintro ⟨q1, -⟩
    have q1:e.bV=2:=q1
    omega
  ·cases hs
 ·cases hs
theorem fV.ajb {e:dB}(h:fV e)(hm:e.bV=3){f:Int}{l:List ByteArray}(hh:gX f l){q:List Int}(hq:q.all bS=true)(fr:Int):fV (BN e f l q fr).1:=by
 unfold BN
 cases hs:mI e f l (iW f (bI q) (if e.nH=0 then gF f l else fr) l l.length) q with
 | none=>exact h
 | some x=>exact h.shown hm hh hq hs
theorem fV.search {e:dB}(h:fV e)(hm:e.bV=3){f:Int}{l:List ByteArray}(hh:gX f l){k r:Int}(hk:jh k r=true):fV (sN e f l k r).1:=by
 have hz:=h.cmd.resolve_left (show ¬e.bV=2 by omega)
 unfold sN
 (first|refine gy (fun _=>?_) (fun _=>?_)|split)
 ·rename_i hk1
  subst hk1
  refine h.ajb hm hh ?_ _
  have hp:bS r=true:=hk
  rw [List.all_append,h.qp]
  simp [hp]
 (first|refine gy (fun _=>?_) (fun _=>?_)|split)
 ·(first|refine gy (fun _=>?_) (fun _=>?_)|split)
  ·exact h
  ·exact h.ajb hm hh h.qp _
 (first|refine gy (fun _=>?_) (fun _=>?_)|split)
 ·(first|refine gy (fun _=>?_) (fun _=>?_)|split)
  ·exact h
  ·refine⟨h.line,h.own,h.back,h.cnt,h.uV,h.mode,h.end_,h.cmd,h.opz,h.op,h.wait,h.find,h.last,h.ring,h.undo,h.zX,h.hit,h.Na,?_,List.all_eq_true.2 fun x hx=>List.all_eq_true.1 h.qp x (List.dropLast_subset _ hx), .inl hm⟩
   show e.bP.dropLast.length≤40
   rw [List.length_dropLast]
   have:=h.ql
   omega
 (first|refine gy (fun _=>?_) (fun _=>?_)|split)
 ·exact h.left
 (first|refine gy (fun _=>?_) (fun _=>?_)|split)
 ·refine fV.left (e:= {e with ak:=e.dH,kF:=0,iM:=⟨[],0⟩}) ?_
  refine⟨h.back,rfl,h.back,h.cnt,h.uV,h.mode,?_,h.cmd,h.opz,h.op,h.wait,h.find,h.last,h.ring,h.undo,⟨by show(0:Int)≤0;omega,by show(0:Int)≤1000000060;omega⟩,h.hit, .inr rfl,h.ql,h.qp, .inl hm⟩
  rintro ⟨q1, -⟩
  have q1:e.bV=2:=q1
  omega
 ·exact h.left
theorem fV.key {e:dB}(h:fV e){f:Int}{l:List ByteArray}(hh:gX f l){k r:Int}(hk:jh k r=true):fV (ug e f l k r).1:=by
 unfold ug
 (first|refine gy (fun _=>?_) (fun _=>?_)|split)
 ·exact h.emacs hh hk
 (first|refine gy (fun _=>?_) (fun _=>?_)|split)
 ·exact h.search (by assumption) hh hk
 ·refine h.vi_ ?_ hh hk
  rcases h.mode with h1|h1|h1
  ·omega
  ·exact h1.1
  ·omega
theorem IG (f:Int)(l:List ByteArray)(h:gX f l)(n:Int):tF [.agg [vI f, .aP (some 0) (strs l)],vI n] [] []=some (match p9 f l n with|some s=>⟨.fK [V.v (.string s),V.v (.bool true)],[],[]⟩|none=>⟨.fK [V.v (.string (⟨#[]⟩)),V.v (.bool false)],[],[]⟩):=by
 unfold p9
 by_cases hc:f≤n∧n≤f+l.length-1
 ·rw [if_pos hc]
  have hk:(n-f).toNat<l.length:=by omega
  rw [List.getElem?_eq_getElem hk]
  have e:=aaN f l h (n-f).toNat hk
  have:f+((n-f).toNat:Int)=n:=by omega
  rw [this]at e
  exact e
 ·rw [if_neg hc]
  exact Si f l h n (by omega)
theorem qg (s:ByteArray)(hs:s.size≤65536):wB [V.v (.string s)] [] []=some (match mP s with|some t=>⟨.fK [.agg [.own 0,vI (t.length:Int)],V.v (.bool true)],[],[(0,ints t)]⟩|none=>⟨.fK [.agg [.own 0,vI 0],V.v (.bool false)],[],[(0,[])]⟩):=by
 have hr:=uf s.data.toList
 unfold mP
 by_cases hc:rJ s.data.toList= []∧dF (nG s.data.toList)=true
 ·rw [if_pos hc]
  rw [hc.1]at hr
  exact adD s _ hr hc.2 hs
 ·rw [if_neg hc]
  have e1:=KC s _ _ hr hs
  generalize hE:wB _ _ _=R
  unfold wB at hE
  by_cases hz:rJ s.data.toList= []
  ·have ht:dF (nG s.data.toList)=false:=by
    cases q:dF (nG s.data.toList)
    ·rfl
    ·exact absurd ⟨hz,q⟩ hc
   have hlen:=hr.len
   have hsz:s.data.toList.length=s.size:=by rw [Array.length_toList];rfl
   have e2:=bQ (nG s.data.toList) (nG s.data.toList).length (by omega)
   rw [show bN (nG s.data.toList) (nG s.data.toList).length=false from by unfold bN;rw [ht];rfl]at e2
   rw [hz]at e1
   simp only [List.isEmpty_nil,if_true]at e1
   generalize nG s.data.toList=t at*
   simp [func232,f232,e1,e2]at hE
   exact hE.symm
  ·have hz':(rJ s.data.toList).isEmpty=false:=by simpa using hz
   rw [hz']at e1
   simp only [Bool.false_eq_true,if_false]at e1
   simp [func232,f232,e1]at hE
   exact hE.symm
abbrev sR (o:Option dB):Ay:=match o with
 | some x=>⟨.fK [gO x,V.v (.bool true)],[],(hO x)⟩
 | none=>⟨.fK [.agg [V.v (.bool false),vI 0, .own 0,vI 0,vI 0,vI 0,vI 0,vI 0,vI 0,vI 0,vI 0, .own 1, .own 2,vI 0, .own 3,vI 0, .own 4,vI 0, .own 5,vI 0],V.v (.bool false)],[],[(0,[]),(1,[]),(2,[]),(3,[]),(4,[]),(5,[])]⟩
theorem sw {f:Int}{l:List ByteArray}(h:gX f l){n:Int}{s:ByteArray}(hs:p9 f l n=some s):1≤s.size∧s.size≤1000:=by
 unfold p9 at hs
 split at hs
 ·obtain⟨hk,e⟩:=List.getElem?_eq_some_iff.1 hs
  exact h.each s (by rw [←e];exact List.getElem_mem hk)
 ·cases hs
theorem adG (t:List Int)(a mode:Int)(h:bN t a=true):kM [.agg [.aP (some 0) (ints t),vI a],vI mode] [] []=some ⟨.agg [.aP (some 0) (ints t),vI (jl mode t a)],[],[]⟩:=by
 obtain⟨h1,h2,h3,h4⟩:=bX h
 exact xF t a mode (by omega)
section
variable (e:dB) (h:fV e) {f:Int} {l:List ByteArray} (hh:gX f l)
include h hh
theorem adH (zM:Int)(hb:zM=1∨zM= -1):dO [gL e,aH f l,vI zM] [] []=some (sR (qK e f l zM)):=by
 have h1:=hh.first
 have h2:=hh.len
 have akE:=h.zX
 have e1:=Im e (fA.2 h)
 have e2:=yN e (Mq.of (fA.2 h)) 0
 have e3:=Ol f l hh
 have hlast:0≤gF f l∧gF f l≤1000000059:=by unfold gF;split<;>omega
 have e6:=ku e.ak.av (some 0) e.ak.At (by have:=(bX h.line).1;omega)
 have e7:=ku e.iM.av (some 0) e.iM.At (by have:=(bX h.own).1;omega)
 have e8:=adG e.iM.av e.iM.At e.bV h.own
 have hzl:=qg ⟨#[]⟩ (by decide)
 have hz:mP ⟨#[]⟩=some []:=by
  unfold mP
  obtain⟨q1,q2⟩:=xM reads_nil
  rw [q1,q2,if_pos ⟨rfl,by decide⟩]
 rw [hz]at hzl
 simp only [bn,List.length_nil,Int.natCast_zero]at hzl
 have hstep:JO e f l=if e.kF=0 then gF f l+1 else e.kF:=rfl
 unfold qK
 generalize gF f l=last at*
 have w1:=bM (last+1) (by omega)
 have w2:=bM (e.kF+1) (by omega)
 by_cases hc:zM=1∧¬e.kF=0∧e.kF=last
 ·rw [if_pos hc]
  obtain⟨rfl,c2,c3⟩:=hc
  subst c3
  generalize hE:dO _ _ _=R
  simp [dO,func218,f218,e1,e2,e3,e7,e8,c2,w1]at hE
  exact hE.symm
 ·rw [if_neg hc]
  have e4:=IG f l hh (JO e f l+zM)
  by_cases hn:e.kF=0
  ·rw [if_pos hn]at hstep
   rw [hstep]at e4⊢
   have w3:=bM (last+1+zM) (by omega)
   simp only [gL,gO,hO,hn]at e1 e2⊢
   rcases hb with rfl|rfl
   ·cases hg:p9 f l (last+1+1)with
    | none=>
     rw [hg]at e4
     simp only [Option.bind_none]
     generalize hE:dO _ _ _=R
     simp [dO,func218,f218,e1,e2,e3,w1,w2,w3,hn,e4,hzl]at hE
     exact hE.symm
    | some s=>
     rw [hg]at e4
     simp only [Option.bind_some]
     have e5:=qg s (by have:=(sw hh hg).2;omega)
     cases hl:mP s with
     | none=>
      rw [hl]at e5
      generalize hE:dO _ _ _=R
      simp [dO,func218,f218,e1,e2,e3,w1,w2,w3,hn,e4,e5]at hE
      exact hE.symm
     | some t=>
      rw [hl]at e5
      simp only [if_true]
      by_cases hm:e.bV=2
      ·simp only [gL,gO,hO,hm,if_true]at e1 e2⊢
       generalize hE:dO _ _ _=R
       simp [dO,func218,f218,e1,e2,e3,w1,w2,w3,hn,e4,e5,e6,hm]at hE
       exact hE.symm.trans (by rw [←hm];rfl)
      ·rw [if_neg hm]
       generalize hE:dO _ _ _=R
       simp [dO,func218,f218,e1,e2,e3,w1,w2,w3,hn,e4,e5,e6,hm]at hE
       exact hE.symm
   ·cases hg:p9 f l (last+1+ -1)with
    | none=>
     rw [hg]at e4
     simp only [Option.bind_none]
     generalize hE:dO _ _ _=R
     simp [dO,func218,f218,e1,e2,e3,w1,w2,w3,hn,e4,hzl]at hE
     exact hE.symm
    | some s=>
     rw [hg]at e4
     simp only [Option.bind_some]
     have e5:=qg s (by have:=(sw hh hg).2;omega)
     cases hl:mP s with
     | none=>
      rw [hl]at e5
      generalize hE:dO _ _ _=R
      simp [dO,func218,f218,e1,e2,e3,w1,w2,w3,hn,e4,e5]at hE
      exact hE.symm
     | some t=>
      rw [hl]at e5
      simp only [if_true]
      by_cases hm:e.bV=2
      ·simp only [gL,gO,hO,hm,if_true]at e1 e2⊢
       generalize hE:dO _ _ _=R
       simp [dO,func218,f218,e1,e2,e3,w1,w2,w3,hn,e4,e5,e6,hm]at hE
       exact hE.symm.trans (by rw [←hm];rfl)
      ·rw [if_neg hm]
       generalize hE:dO _ _ _=R
       simp [dO,func218,f218,e1,e2,e3,w1,w2,w3,hn,e4,e5,e6,hm]at hE
       exact hE.symm
  ·rw [if_neg hn]at hstep
   rw [hstep]at e4⊢
   have w3:=bM (e.kF+zM) (by omega)
   rcases hb with rfl|rfl
   ·have hne:¬e.kF=last:=fun q=>hc ⟨rfl,hn,q⟩
    cases hg:p9 f l (e.kF+1)with
    | none=>
     rw [hg]at e4
     simp only [Option.bind_none]
     generalize hE:dO _ _ _=R
     simp [dO,func218,f218,e1,e2,e3,w1,w2,w3,hn,hne,e4,hzl]at hE
     exact hE.symm
    | some s=>
     rw [hg]at e4
     simp only [Option.bind_some]
     have e5:=qg s (by have:=(sw hh hg).2;omega)
     cases hl:mP s with
     | none=>
      rw [hl]at e5
      generalize hE:dO _ _ _=R
      simp [dO,func218,f218,e1,e2,e3,w1,w2,w3,hn,hne,e4,e5]at hE
      exact hE.symm
     | some t=>
      rw [hl]at e5
      simp only [hn,if_false]
      by_cases hm:e.bV=2
      ·simp only [gL,gO,hO,hm,if_true]at e1 e2⊢
       generalize hE:dO _ _ _=R
       simp [dO,func218,f218,e1,e2,e3,w1,w2,w3,hn,hne,e4,e5,e6,hm]at hE
       exact hE.symm.trans (by rw [←hm];rfl)
      ·rw [if_neg hm]
       generalize hE:dO _ _ _=R
       simp [dO,func218,f218,e1,e2,e3,w1,w2,w3,hn,hne,e4,e5,e6,hm]at hE
       exact hE.symm
   ·cases hg:p9 f l (e.kF+ -1)with
    | none=>
     rw [hg]at e4
     simp only [Option.bind_none]
     generalize hE:dO _ _ _=R
     simp [dO,func218,f218,e1,e2,e3,w1,w2,w3,hn,e4,hzl]at hE
     exact hE.symm
    | some s=>
     rw [hg]at e4
     simp only [Option.bind_some]
     have e5:=qg s (by have:=(sw hh hg).2;omega)
     cases hl:mP s with
     | none=>
      rw [hl]at e5
      generalize hE:dO _ _ _=R
      simp [dO,func218,f218,e1,e2,e3,w1,w2,w3,hn,e4,e5]at hE
      exact hE.symm
     | some t=>
      rw [hl]at e5
      simp only [hn,if_false]
      by_cases hm:e.bV=2
      ·simp only [gL,gO,hO,hm,if_true]at e1 e2⊢
       generalize hE:dO _ _ _=R
       simp [dO,func218,f218,e1,e2,e3,w1,w2,w3,hn,e4,e5,e6,hm]at hE
       exact hE.symm.trans (by rw [←hm];rfl)
      ·rw [if_neg hm]
       generalize hE:dO _ _ _=R
       simp [dO,func218,f218,e1,e2,e3,w1,w2,w3,hn,e4,e5,e6,hm]at hE
       exact hE.symm
end
theorem aaZ (e:dB)(ok:e.ok=true)(f:Int)(l:List ByteArray)(h:gX f l)(k r:Int)(hk:Hy [aK k r] [] []=some ⟨V.v (.bool true),[],[]⟩):yD [gL e,aH f l,aK k r] [] []=some ⟨V.v (.bool true),[],[]⟩:=by
 have e1:=Im e ok
 have e2:=Ed f l h
 simp [yD,func88,f88,e1,e2,hk]
section
variable {f:Int} {l:List ByteArray} (hh:gX f l) (e e':dB) (ok:e.ok=true) (hm:e.bV=0) (act:Int)
include hh ok hm in
include hh ok hm in
include hh ok hm in
include hh ok hm in
end
theorem OJ (e:dB)(hb:Mq e)(r:Int)(h:¬r=99∧¬r=108∧¬r=100∧¬r=117∧¬r=119):iD [gL e,vI r] [] []=some ⟨.fK [.agg [V.v (.bool false),vI 0, .own 0,vI 0,vI 0,vI 0,vI 0,vI 0,vI 0,vI 0,vI 0, .own 1, .own 2,vI 0, .own 3,vI 0, .own 4,vI 0, .own 5,vI 0],vI 0,V.v (.bool false)],[],[(0,[]),(1,[]),(2,[]),(3,[]),(4,[]),(5,[])]⟩:=by
 obtain⟨h1,h2,h3,h4,h5⟩:=h
 have e1:=Ef e hb
 simp [iD,func151,f151,e1,h1,h2,h3,h4,h5,bn]
theorem Q7 (e e':dB)(hb:Mq e)(act:Int)(h:qA [gL e,vI 0,vI e.ak.At,vI 2] [] []=some ⟨.fK [.agg [V.v (.bool e'.Vi),vI e'.bV, .own 0,vI e'.ak.At,vI e'.bH,vI e'.Op,vI e'.bU,vI e'.fT,vI e'.eY,vI e'.bT,vI e'.iZ, .own 1, .own 2,vI e'.kF, .own 3,vI e'.iM.At, .own 4,vI e'.nH, .own 5,vI e'.dH.At],vI act],[],[(0,ints e'.ak.av),(1,aC e'.aI.aA),(2,aS e'.gH.eX),(3,ints e'.iM.av),(4,ints e'.bP),(5,ints e'.dH.av)]⟩):iD [gL e,vI 117] [] []=some ⟨.fK [.agg [V.v (.bool e'.Vi),vI e'.bV, .own 0,vI e'.ak.At,vI e'.bH,vI e'.Op,vI e'.bU,vI e'.fT,vI e'.eY,vI e'.bT,vI e'.iZ, .own 1, .own 2,vI e'.kF, .own 3,vI e'.iM.At, .own 4,vI e'.nH, .own 5,vI e'.dH.At],vI act,V.v (.bool true)],[],[(0,ints e'.ak.av),(1,aC e'.aI.aA),(2,aS e'.gH.eX),(3,ints e'.iM.av),(4,ints e'.bP),(5,ints e'.dH.av)]⟩:=by
 have e1:=Ef e hb
 simp [iD,func151,f151,e1,h]
theorem Q8 (e e':dB)(hb:Mq e)(act:Int)(b:Nat)(hv:nS [.aP (some 0) (ints e.ak.av),vI e.ak.At,V.v (.bool true)] [] []=some ⟨vI (b:Int),[],[]⟩)(h:qA [gL e,vI (b:Int),vI e.ak.At,vI 2] [] []=some ⟨.fK [.agg [V.v (.bool e'.Vi),vI e'.bV, .own 0,vI e'.ak.At,vI e'.bH,vI e'.Op,vI e'.bU,vI e'.fT,vI e'.eY,vI e'.bT,vI e'.iZ, .own 1, .own 2,vI e'.kF, .own 3,vI e'.iM.At, .own 4,vI e'.nH, .own 5,vI e'.dH.At],vI act],[],[(0,ints e'.ak.av),(1,aC e'.aI.aA),(2,aS e'.gH.eX),(3,ints e'.iM.av),(4,ints e'.bP),(5,ints e'.dH.av)]⟩):iD [gL e,vI 119] [] []=some ⟨.fK [.agg [V.v (.bool e'.Vi),vI e'.bV, .own 0,vI e'.ak.At,vI e'.bH,vI e'.Op,vI e'.bU,vI e'.fT,vI e'.eY,vI e'.bT,vI e'.iZ, .own 1, .own 2,vI e'.kF, .own 3,vI e'.iM.At, .own 4,vI e'.nH, .own 5,vI e'.dH.At],vI act,V.v (.bool true)],[],[(0,ints e'.ak.av),(1,aC e'.aI.aA),(2,aS e'.gH.eX),(3,ints e'.iM.av),(4,ints e'.bP),(5,ints e'.dH.av)]⟩:=by
 have e1:=Ef e hb
 simp [iD,func151,f151,e1,h,hv]
theorem JU (e e':dB)(f act r:Int)(ok:Bool)(l:List ByteArray)(h:iD [gL e,vI r] [] []=some ⟨.fK [.agg [V.v (.bool e'.Vi),vI e'.bV, .own 0,vI e'.ak.At,vI e'.bH,vI e'.Op,vI e'.bU,vI e'.fT,vI e'.eY,vI e'.bT,vI e'.iZ, .own 1, .own 2,vI e'.kF, .own 3,vI e'.iM.At, .own 4,vI e'.nH, .own 5,vI e'.dH.At],vI act,V.v (.bool ok)],[],[(0,ints e'.ak.av),(1,aC e'.aI.aA),(2,aS e'.gH.eX),(3,ints e'.iM.av),(4,ints e'.bP),(5,ints e'.dH.av)]⟩):eP [gL e,aH f l,aK 2 r] [] []=some ⟨.fK [.agg [V.v (.bool e'.Vi),vI e'.bV, .own 0,vI e'.ak.At,vI e'.bH,vI e'.Op,vI e'.bU,vI e'.fT,vI e'.eY,vI e'.bT,vI e'.iZ, .own 1, .own 2,vI e'.kF, .own 3,vI e'.iM.At, .own 4,vI e'.nH, .own 5,vI e'.dH.At],vI act,V.v (.bool ok)],[],[(0,ints e'.ak.av),(1,aC e'.aI.aA),(2,aS e'.gH.eX),(3,ints e'.iM.av),(4,ints e'.bP),(5,ints e'.dH.av)]⟩:=by
 simp [eP,func89,f89,h]
theorem Q9 (e e':dB)(f act:Int)(l:List ByteArray)(h:qA [gL e,vI e.ak.At,vI (e.ak.av.length:Int),vI 1] [] []=some ⟨.fK [.agg [V.v (.bool e'.Vi),vI e'.bV, .own 0,vI e'.ak.At,vI e'.bH,vI e'.Op,vI e'.bU,vI e'.fT,vI e'.eY,vI e'.bT,vI e'.iZ, .own 1, .own 2,vI e'.kF, .own 3,vI e'.iM.At, .own 4,vI e'.nH, .own 5,vI e'.dH.At],vI act],[],[(0,ints e'.ak.av),(1,aC e'.aI.aA),(2,aS e'.gH.eX),(3,ints e'.iM.av),(4,ints e'.bP),(5,ints e'.dH.av)]⟩):bR [gL e,aH f l,vI 107] [] []=some ⟨.fK [.agg [V.v (.bool e'.Vi),vI e'.bV, .own 0,vI e'.ak.At,vI e'.bH,vI e'.Op,vI e'.bU,vI e'.fT,vI e'.eY,vI e'.bT,vI e'.iZ, .own 1, .own 2,vI e'.kF, .own 3,vI e'.iM.At, .own 4,vI e'.nH, .own 5,vI e'.dH.At],vI act],[],[(0,ints e'.ak.av),(1,aC e'.aI.aA),(2,aS e'.gH.eX),(3,ints e'.iM.av),(4,ints e'.bP),(5,ints e'.dH.av)]⟩:=by
 simp [bR,func95,f95,h]
theorem Ra (e e':dB)(f act:Int)(l:List ByteArray)(u:List Int)(a:Int)(hs:oW [.agg [.aP (some 0) (ints e.ak.av),vI e.ak.At]] [] []=some ⟨.fK [.agg [.own 0,vI a],V.v (.bool true)],[],[(0,ints u)]⟩)(h:vC [gL e, .agg [.aP (some 6) (ints u),vI a]] [] []=some ⟨.fK [.agg [V.v (.bool e'.Vi),vI e'.bV, .own 0,vI e'.ak.At,vI e'.bH,vI e'.Op,vI e'.bU,vI e'.fT,vI e'.eY,vI e'.bT,vI e'.iZ, .own 1, .own 2,vI e'.kF, .own 3,vI e'.iM.At, .own 4,vI e'.nH, .own 5,vI e'.dH.At],vI act],[],[(0,ints e'.ak.av),(1,aC e'.aI.aA),(2,aS e'.gH.eX),(3,ints e'.iM.av),(4,ints e'.bP),(5,ints e'.dH.av)]⟩):bR [gL e,aH f l,vI 116] [] []=some ⟨.fK [.agg [V.v (.bool e'.Vi),vI e'.bV, .own 0,vI e'.ak.At,vI e'.bH,vI e'.Op,vI e'.bU,vI e'.fT,vI e'.eY,vI e'.bT,vI e'.iZ, .own 1, .own 2,vI e'.kF, .own 3,vI e'.iM.At, .own 4,vI e'.nH, .own 5,vI e'.dH.At],vI act],[],[(0,ints e'.ak.av),(1,aC e'.aI.aA),(2,aS e'.gH.eX),(3,ints e'.iM.av),(4,ints e'.bP),(5,ints e'.dH.av)]⟩:=by
 simp [bR,func95,f95,hs,h]
theorem Mf (e:dB)(hb:Mq e)(f:Int)(l:List ByteArray)(hs:oW [.agg [.aP (some 0) (ints e.ak.av),vI e.ak.At]] [] []=some ⟨.fK [.agg [.own 0,vI 0],V.v (.bool false)],[],[(0,[])]⟩):bR [gL e,aH f l,vI 116] [] []=some ⟨.fK [.agg [V.v (.bool e.Vi),vI e.bV, .own 0,vI e.ak.At,vI 0,vI 0,vI 0,vI 0,vI e.eY,vI e.bT,vI 0, .own 1, .own 2,vI e.kF, .own 3,vI e.iM.At, .own 4,vI e.nH, .own 5,vI e.dH.At],vI 1],[],(hO e)⟩:=by
 have e1:=LZ e hb
 simp [bR,func95,f95,hs,e1]
theorem Sm (e:dB)(f r k:Int)(l:List ByteArray)(h:k=3∨k=7∨k=15∨k=16):eP [gL e,aH f l,aK k r] [] []=some ⟨.fK [.agg [V.v (.bool false),vI 0, .own 0,vI 0,vI 0,vI 0,vI 0,vI 0,vI 0,vI 0,vI 0, .own 1, .own 2,vI 0, .own 3,vI 0, .own 4,vI 0, .own 5,vI 0],vI 0,V.v (.bool false)],[],[(0,[]),(1,[]),(2,[]),(3,[]),(4,[]),(5,[])]⟩:=by
 unfold eP
 rcases h with rfl|rfl|rfl|rfl<;>simp [func89,f89,bn]
abbrev kRo (o:Option (dB×Int)):Ay:=match o with
 | some p=>Iz p true
 | none=>Iz (u6,0) false
section
variable (e:dB) (h:fV e)
include h
theorem fJ:(gQ e:Int)=max e.bH 1∧1≤gQ e∧gQ e≤999:=by
 have:=h.cnt
 unfold gQ
 omega
theorem dY:jG [gL e] [] []=some ⟨gO e,[],hO e⟩:=Ef e (Mq.of (fA.2 h))
theorem V6 (f u:Int)(F U:Nat)(hf:f=F)(hu:u=U)(h1:F≤U)(h2:U≤e.ak.av.length):E9 [gL e,vI f,vI u] [] []=some (kR (Dp e F U)):=by
 subst hf;subst hu;exact ah5 e h F U h1 h2
theorem II (f u:Int)(F U:Nat)(how:Int)(hf:f=F)(hu:u=U)(hw:0≤how∧how≤2)(h1:F≤U)(h2:U≤e.ak.av.length):qA [gL e,vI f,vI u,vI how] [] []=some (kR (lH e F U how)):=by
 subst hf;subst hu;exact ag0 e h F U how hw h1 h2
theorem Sn (i:Option Nat)(big:Bool):nS [.aP i (ints e.ak.av),vI e.ak.At,V.v (.bool big)] [] []=some ⟨vI (((lG e.ak.av big (aR e):Nat):Int)),[],[]⟩:=by
 obtain⟨h1,h2,h3,h4⟩:=h.aR
 rw [h1]
 exact JR _ _ _ _ h2 (by omega)
theorem V7 (r:Int):iD [gL e,vI r] [] []=some (kRo (fZ e r)):=by
 obtain⟨h1,h2,h3,h4⟩:=h.aR
 obtain⟨n1,n2,n3⟩:=fJ e h
 have e0:=dY e h
 by_cases c1:r=99
 ·subst c1
  rw [show fZ e 99=some (e,3)from by simp [fZ]]
  simp [iD,func151,f151,e0]
 by_cases c2:r=108
 ·subst c2
  rw [show fZ e 108=some (e,5)from by simp [fZ]]
  simp [iD,func151,f151,e0]
 by_cases c3:r=100
 ·subst c3
  rw [show fZ e 100=some (if e.ak.av.length=0 then(e,4)else OI e)from by simp [fZ]]
  by_cases hz:e.ak.av.length=0
  ·rw [if_pos hz]
   have hz0:e.ak.av= []:=List.length_eq_zero_iff.1 hz
   have hz':¬0<e.ak.av.length:=by omega
   generalize hE:iD _ _ _=R
   simp [iD,func151,f151,e0,hz']at hE
   exact hE.symm
  ·rw [if_neg hz]
   have hz':0<e.ak.av.length:=by omega
   have e1:=V6 e h e.ak.At (min (e.ak.At+max e.bH 1) e.ak.av.length) (aR e) (min (aR e+gQ e) e.ak.av.length) h1 (by omega) (by omega) (by omega)
   have w:=bM (e.ak.At+max e.bH 1) (by omega)
   unfold OI
   generalize Dp e (aR e) (min (aR e+gQ e) e.ak.av.length)=p at*
   generalize hE:iD _ _ _=R
   simp [iD,func151,f151,e0,hz',e1,w]at hE
   exact hE.symm
 by_cases c4:r=117
 ·subst c4
  rw [show fZ e 117=some (lH e 0 (aR e) 2)from by simp [fZ]]
  have e1:=II e h 0 e.ak.At 0 (aR e) 2 rfl h1 (by omega) (by omega) h2
  exact Q7 e _ (Mq.of (fA.2 h)) _ e1
 by_cases c5:r=119
 ·subst c5
  rw [show fZ e 119=some (lH e (lG e.ak.av true (aR e)) (aR e) 2)from by simp [fZ]]
  have e2:=Sn e h (some 0) true
  have e1:=II e h _ e.ak.At (lG e.ak.av true (aR e)) (aR e) 2 rfl h1 (by omega) AZ h2
  exact Q8 e _ (Mq.of (fA.2 h)) _ _ e2 e1
 rw [show fZ e r=none from by simp [fZ,c1,c2,c3,c4,c5]]
 exact OJ e (Mq.of (fA.2 h)) r ⟨c1,c2,c3,c4,c5⟩
theorem yQ (a:Int):vC [gL e, .agg [.aP (some 6) (ints e.ak.av),vI (max 0 (min a e.ak.av.length))]] [] []=some (kR (yP e a)):=by
 obtain⟨h1,h2,h3,h4⟩:=h.aR
 exact IB e h _ _ (gq h3 h4 (by omega) (by omega))
variable {f:Int} {l:List ByteArray} (hh:gX f l)
include hh
theorem CQ (zM:Int)(hb:zM=1∨zM= -1):Ai [gL e,aH f l,vI zM] [] []=some (kR (jF e f l zM)):=by
 have e1:=adH e h hh zM hb
 have e2:=mJ e h
 unfold jF
 cases hs:qK e f l zM with
 | none=>
  rw [hs]at e1
  exact aaP e (Mq.of (fA.2 h)) f zM l e1
 | some x=>
  rw [hs]at e1
  exact aaO e x f zM l e1
theorem Mg (k r c:Int)(hk:(k=1∧c=r)∨(k=6∧c=9))(hc:fP c=true):eP [gL e,aH f l,aK k r] [] []=some (Iz (Au e (List.replicate (gQ e) c) 1) true):=by
 obtain⟨n1,n2,n3⟩:=fJ e h
 have e1:=YC [c] (some 0) (gQ e) (by simp) n3
 rw [n1]at e1
 obtain⟨k1,k2,k3,k4,k5,k6⟩:=IC 1 (gQ e) (by decide)
 have hrep:∀m,mH m [c]=List.replicate m c:=fun m=>by
  induction m with
  | zero=>rfl
  | succ m ih=>rw [Jo,ih,List.replicate_succ']
 simp only [List.length_singleton,hrep]at e1
 have e2:=Ux e h (List.replicate (rP 1 (gQ e)) c) 1 (Iy hc _) (by simp;omega)
 have hq:Au e (List.replicate (rP 1 (gQ e)) c) 1=Au e (List.replicate (gQ e) c) 1:=by
  by_cases hle:gQ e≤400
  ·rw [k2 (by omega)]
  ·have q1:=k3 (by omega)
   unfold Au
   rw [if_neg (by simp;omega),if_neg (by simp;omega)]
 rw [hq]at e2
 generalize Au e (List.replicate (gQ e) c) 1=p at*
 generalize List.replicate (rP 1 (gQ e)) c=q at*
 simp only [I8,bn]at e1
 generalize hE:eP _ _ _=R
 unfold eP at hE
 rcases hk with⟨rfl,rfl⟩|⟨rfl,rfl⟩
 ·simp [-au,func89,f89,e1,e2]at hE
  exact hE.symm
 ·simp [-au,func89,f89,e1,e2]at hE
  exact hE.symm
theorem aa0 (r:Int):eP [gL e,aH f l,aK 4 r] [] []=some (Iz ((e,2)) true):=by
 obtain⟨h1,h2,h3,h4⟩:=h.aR
 obtain⟨n1,n2,n3⟩:=fJ e h
 have e0:=dY e h
 clear hh h
 generalize hE:eP _ _ _=R
 simp [eP,func89,f89,e0]at hE
 exact hE.symm
theorem aa1 (r:Int):eP [gL e,aH f l,aK 5 r] [] []=some (Iz (Dp e (aR e-gQ e) (aR e)) true):=by
 obtain⟨h1,h2,h3,h4⟩:=h.aR
 obtain⟨n1,n2,n3⟩:=fJ e h
 have e1:=V6 e h (max (e.ak.At-max e.bH 1) 0) e.ak.At (aR e-gQ e) (aR e) (by omega) h1 (by omega) h2
 have w:=bM (e.ak.At-max e.bH 1) (by omega)
 generalize Dp e (aR e-gQ e) (aR e)=p at*
 clear hh h
 generalize hE:eP _ _ _=R
 simp [eP,func89,f89,e1,w]at hE
 exact hE.symm
theorem YD (r:Int):eP [gL e,aH f l,aK 14 r] [] []=some (Iz (OI e) true):=by
 obtain⟨h1,h2,h3,h4⟩:=h.aR
 obtain⟨n1,n2,n3⟩:=fJ e h
 have e1:=V6 e h e.ak.At (min (e.ak.At+max e.bH 1) e.ak.av.length) (aR e) (min (aR e+gQ e) e.ak.av.length) h1 (by omega) (by omega) (by omega)
 have w:=bM (e.ak.At+max e.bH 1) (by omega)
 unfold OI
 generalize Dp e (aR e) (min (aR e+gQ e) e.ak.av.length)=p at*
 clear hh h
 generalize hE:eP _ _ _=R
 simp [eP,func89,f89,e1,w]at hE
 exact hE.symm
theorem Ou (r:Int):eP [gL e,aH f l,aK 11 r] [] []=some (Iz (yP e (e.ak.At-gQ e)) true):=by
 obtain⟨h1,h2,h3,h4⟩:=h.aR
 obtain⟨n1,n2,n3⟩:=fJ e h
 rw [n1]
 have e1:=yQ e h (e.ak.At-max e.bH 1)
 have e2:=uY e.ak.av (some 0) e.ak.At (e.ak.At-max e.bH 1) (by omega)
 have w:=bM (e.ak.At-max e.bH 1) (by omega)
 generalize yP e (e.ak.At-max e.bH 1)=p at*
 clear hh h
 generalize hE:eP _ _ _=R
 simp [eP,func89,f89,e1,e2,w]at hE
 exact hE.symm
theorem Ov (r:Int):eP [gL e,aH f l,aK 10 r] [] []=some (Iz (yP e (e.ak.At+gQ e)) true):=by
 obtain⟨h1,h2,h3,h4⟩:=h.aR
 obtain⟨n1,n2,n3⟩:=fJ e h
 rw [n1]
 have e1:=yQ e h (e.ak.At+max e.bH 1)
 have e2:=uY e.ak.av (some 0) e.ak.At (e.ak.At+max e.bH 1) (by omega)
 have w:=bM (e.ak.At+max e.bH 1) (by omega)
 generalize yP e (e.ak.At+max e.bH 1)=p at*
 clear hh h
 generalize hE:eP _ _ _=R
 simp [eP,func89,f89,e1,e2,w]at hE
 exact hE.symm
theorem Ow (r:Int):eP [gL e,aH f l,aK 12 r] [] []=some (Iz (yP e 0) true):=by
 obtain⟨h1,h2,h3,h4⟩:=h.aR
 obtain⟨n1,n2,n3⟩:=fJ e h
 have e1:=yQ e h 0
 have e2:=uY e.ak.av (some 0) e.ak.At 0 (by omega)
 have m:max (0:Int) (min 0 e.ak.av.length)=0:=by omega
 rw [m]at e1 e2
 generalize yP e 0=p at*
 clear hh h
 generalize hE:eP _ _ _=R
 simp [eP,func89,f89,e1,e2]at hE
 exact hE.symm
theorem Ox (r:Int):eP [gL e,aH f l,aK 13 r] [] []=some (Iz (yP e e.ak.av.length) true):=by
 obtain⟨h1,h2,h3,h4⟩:=h.aR
 obtain⟨n1,n2,n3⟩:=fJ e h
 have e1:=yQ e h e.ak.av.length
 have e2:=uY e.ak.av (some 0) e.ak.At e.ak.av.length (by omega)
 have m:max (0:Int) (min e.ak.av.length e.ak.av.length)=e.ak.av.length:=by omega
 rw [m]at e1 e2
 generalize yP e e.ak.av.length=p at*
 clear hh h
 generalize hE:eP _ _ _=R
 simp [eP,func89,f89,e1,e2]at hE
 exact hE.symm
theorem Rb (r:Int):eP [gL e,aH f l,aK 8 r] [] []=some (Iz (jF e f l (-1)) true):=by
 obtain⟨h1,h2,h3,h4⟩:=h.aR
 obtain⟨n1,n2,n3⟩:=fJ e h
 have e1:=CQ e h hh (-1) (.inr rfl)
 generalize jF e f l (-1)=p at*
 clear hh h
 generalize hE:eP _ _ _=R
 simp [eP,func89,f89,e1]at hE
 exact hE.symm
theorem Rc (r:Int):eP [gL e,aH f l,aK 9 r] [] []=some (Iz (jF e f l 1) true):=by
 obtain⟨h1,h2,h3,h4⟩:=h.aR
 obtain⟨n1,n2,n3⟩:=fJ e h
 have e1:=CQ e h hh 1 (.inl rfl)
 generalize jF e f l 1=p at*
 clear hh h
 generalize hE:eP _ _ _=R
 simp [eP,func89,f89,e1]at hE
 exact hE.symm
theorem YE (k r:Int)(hk:jh k r=true):eP [gL e,aH f l,aK k r] [] []=some (kRo (lY e f l k r)):=by
 unfold lY
 by_cases c1:k=1
 ·rw [if_pos c1]
  have hp:bS r=true:=by subst c1;exact hk
  exact Mg e h hh k r r (.inl ⟨c1,rfl⟩) (lg hp)
 rw [if_neg c1]
 by_cases c6:k=6
 ·rw [if_pos c6]
  exact Mg e h hh k r 9 (.inr ⟨c6,rfl⟩) (by decide)
 rw [if_neg c6]
 by_cases c4:k=4
 ·rw [if_pos c4];subst c4;exact aa0 e h hh r
 rw [if_neg c4]
 by_cases c2:k=2
 ·rw [if_pos c2]
  subst c2
  have e1:=V7 e h r
  cases hp:fZ e r with
  | none=>
   rw [hp]at e1
   exact JU e u6 f 0 r false l e1
  | some p=>
   rw [hp]at e1
   exact JU e p.1 f p.2 r true l e1
 rw [if_neg c2]
 by_cases c5:k=5
 ·rw [if_pos c5];subst c5;exact aa1 e h hh r
 rw [if_neg c5]
 by_cases c14:k=14
 ·rw [if_pos c14];subst c14;exact YD e h hh r
 rw [if_neg c14]
 by_cases c11:k=11
 ·rw [if_pos c11];subst c11;exact Ou e h hh r
 rw [if_neg c11]
 by_cases c10:k=10
 ·rw [if_pos c10];subst c10;exact Ov e h hh r
 rw [if_neg c10]
 by_cases c12:k=12
 ·rw [if_pos c12];subst c12;exact Ow e h hh r
 rw [if_neg c12]
 by_cases c13:k=13
 ·rw [if_pos c13];subst c13;exact Ox e h hh r
 rw [if_neg c13]
 by_cases c8:k=8
 ·rw [if_pos c8];subst c8;exact Rb e h hh r
 rw [if_neg c8]
 by_cases c9:k=9
 ·rw [if_pos c9];subst c9;exact Rc e h hh r
 rw [if_neg c9]
 have hk':k=3∨k=7∨k=15∨k=16:=by
  unfold jh at hk
  rw [if_neg c1,if_neg c2]at hk
  by_cases c3:k=3
  ·exact .inl c3
  ·rw [if_neg c3,Bool.and_eq_true]at hk
   have:=bA.1 hk.1
   omega
 exact Sm e f r k l hk'
end
theorem KG (t:List Int)(n a:Nat)(ha:a≤t.length)(ht:t.length≤2000)(hn:n≤999):fU [vI (a:Int),vI (n:Int), .fn 156 [.ref 0 0]] [[.aP (some 0) (ints t)]] []=some ⟨vI (((dD (fq t) n a:Nat):Int)),[[.aP (some 0) (ints t)]],[]⟩:=by
 have e1:∀p:Nat,p≤t.length→lS [vI (p:Int), .ref 0 0] [[.aP (some 0) (ints t)]] []=some ⟨vI (((fq t p:Nat):Int)),[[.aP (some 0) (ints t)]],[]⟩:=fun p hp=>by
  have h:=Oq t (some 0) p hp ht
  simp [lS,func156,f156,h,show List.range' 0 1= [0]from rfl]
 have hle:∀j,dD (fq t) j a≤t.length:=fun j=>rY (fun a ha=>Nat.le_trans zH ha) j a ha
 generalize hE:fU _ _ _=R
 simp [fU,func91,f91]at hE
 rw [aJ (fun j=> .on ⟨[(8,V.v (.int .i64 ((j:Int)))),(7,V.v (.int .i64 ((n:Int)))),(2, .fn 156 [.ref 1000000000 0]),(0,V.v (.int .i64 (((dD (fq t) j a:Nat):Int))))],[(1000000000,[.aP (some 0) (ints t)])],[],[]⟩) n ?_ ?_]at hE
 ·simp [show List.range' 0 1= [0]from rfl]at hE
  exact hE.symm
 ·simp [dD]
 ·intro j hj
  have hw:=bM ((j:Int)+1) (by omega)
  have e2:=e1 _ (hle j)
  rw [p8]
  generalize dD (fq t) j a=p at*
  simp [hj,hw,e2,show List.range' 0 1= [0]from rfl]
theorem BP (t:List Int)(n a:Nat)(ha:a≤t.length)(ht:t.length≤2000)(hn:n≤999):fU [vI (a:Int),vI (n:Int), .fn 157 [.ref 0 0]] [[.aP (some 0) (ints t)]] []=some ⟨vI (((dD (iq t) n a:Nat):Int)),[[.aP (some 0) (ints t)]],[]⟩:=by
 have e1:∀p:Nat,p≤t.length→lT [vI (p:Int), .ref 0 0] [[.aP (some 0) (ints t)]] []=some ⟨vI (((iq t p:Nat):Int)),[[.aP (some 0) (ints t)]],[]⟩:=fun p hp=>by
  have h:=Uw t (some 0) p hp ht
  simp [lT,func157,f157,h,show List.range' 0 1= [0]from rfl]
 have hle:∀j,dD (iq t) j a≤t.length:=fun j=>rY (fun a ha=>(wJ ha).2) j a ha
 generalize hE:fU _ _ _=R
 simp [fU,func91,f91]at hE
 rw [aJ (fun j=> .on ⟨[(8,V.v (.int .i64 ((j:Int)))),(7,V.v (.int .i64 ((n:Int)))),(2, .fn 157 [.ref 1000000000 0]),(0,V.v (.int .i64 (((dD (iq t) j a:Nat):Int))))],[(1000000000,[.aP (some 0) (ints t)])],[],[]⟩) n ?_ ?_]at hE
 ·simp [show List.range' 0 1= [0]from rfl]at hE
  exact hE.symm
 ·simp [dD]
 ·intro j hj
  have hw:=bM ((j:Int)+1) (by omega)
  have e2:=e1 _ (hle j)
  rw [p8]
  generalize dD (iq t) j a=p at*
  simp [hj,hw,e2,show List.range' 0 1= [0]from rfl]
theorem Mh (t:List Int)(n a:Nat)(ha:a≤t.length)(ht:t.length≤2000)(hn:n≤999):fU [vI (a:Int),vI (n:Int), .fn 92 [.ref 0 0]] [[.aP (some 0) (ints t)]] []=some ⟨vI (((dD (fq t) n a:Nat):Int)),[[.aP (some 0) (ints t)]],[]⟩:=by
 have e1:∀p:Nat,p≤t.length→mY [vI (p:Int), .ref 0 0] [[.aP (some 0) (ints t)]] []=some ⟨vI (((fq t p:Nat):Int)),[[.aP (some 0) (ints t)]],[]⟩:=fun p hp=>by
  have h:=Oq t (some 0) p hp ht
  simp [mY,func92,f92,h,show List.range' 0 1= [0]from rfl]
 have hle:∀j,dD (fq t) j a≤t.length:=fun j=>rY (fun a ha=>Nat.le_trans zH ha) j a ha
 generalize hE:fU _ _ _=R
 simp [fU,func91,f91]at hE
 rw [aJ (fun j=> .on ⟨[(8,V.v (.int .i64 ((j:Int)))),(7,V.v (.int .i64 ((n:Int)))),(2, .fn 92 [.ref 1000000000 0]),(0,V.v (.int .i64 (((dD (fq t) j a:Nat):Int))))],[(1000000000,[.aP (some 0) (ints t)])],[],[]⟩) n ?_ ?_]at hE
 ·simp [show List.range' 0 1= [0]from rfl]at hE
  exact hE.symm
 ·simp [dD]
 ·intro j hj
  have hw:=bM ((j:Int)+1) (by omega)
  have e2:=e1 _ (hle j)
  rw [p8]
  generalize dD (fq t) j a=p at*
  simp [hj,hw,e2,show List.range' 0 1= [0]from rfl]
theorem CS (t:List Int)(big:Bool)(n a:Nat)(ha:a≤t.length)(ht:t.length≤2000)(hn:n≤999):fU [vI (a:Int),vI (n:Int), .fn 237 [.ref 0 0, .ref 1 0]] [[.aP (some 0) (ints t)],[V.v (.bool big)]] []=some ⟨vI (((dD (FK t big) n a:Nat):Int)),[[.aP (some 0) (ints t)],[V.v (.bool big)]],[]⟩:=by
 have e1:∀p:Nat,p≤t.length→mZ [vI (p:Int), .ref 0 0, .ref 1 0] [[.aP (some 0) (ints t)],[V.v (.bool big)]] []=some ⟨vI (((FK t big p:Nat):Int)),[[.aP (some 0) (ints t)],[V.v (.bool big)]],[]⟩:=fun p hp=>by
  have h:=YB t (some 0) p big hp ht
  simp [mZ,func237,f237,h,show List.range' 0 2= [0,1]from rfl]
 have hle:∀j,dD (FK t big) j a≤t.length:=fun j=>rY (fun a ha=>(O7 ha).2) j a ha
 generalize hE:fU _ _ _=R
 simp [fU,func91,f91]at hE
 rw [aJ (fun j=> .on ⟨[(8,V.v (.int .i64 ((j:Int)))),(7,V.v (.int .i64 ((n:Int)))),(2, .fn 237 [.ref 1000000000 0, .ref 1000000001 0]),(0,V.v (.int .i64 (((dD (FK t big) j a:Nat):Int))))],[(1000000001,[V.v (.bool big)]),(1000000000,[.aP (some 0) (ints t)])],[],[]⟩) n ?_ ?_]at hE
 ·simp [show List.range' 0 2= [0,1]from rfl]at hE
  exact hE.symm
 ·simp [dD]
 ·intro j hj
  have hw:=bM ((j:Int)+1) (by omega)
  have e2:=e1 _ (hle j)
  rw [p8]
  generalize dD (FK t big) j a=p at*
  simp [hj,hw,e2,show List.range' 0 2= [0,1]from rfl]
theorem CU (t:List Int)(big:Bool)(n a:Nat)(ha:a≤t.length)(ht:t.length≤2000)(hn:n≤999):fU [vI (a:Int),vI (n:Int), .fn 239 [.ref 0 0, .ref 1 0]] [[.aP (some 0) (ints t)],[V.v (.bool big)]] []=some ⟨vI (((dD (lG t big) n a:Nat):Int)),[[.aP (some 0) (ints t)],[V.v (.bool big)]],[]⟩:=by
 have e1:∀p:Nat,p≤t.length→ng [vI (p:Int), .ref 0 0, .ref 1 0] [[.aP (some 0) (ints t)],[V.v (.bool big)]] []=some ⟨vI (((lG t big p:Nat):Int)),[[.aP (some 0) (ints t)],[V.v (.bool big)]],[]⟩:=fun p hp=>by
  have h:=JR t (some 0) p big hp ht
  simp [ng,func239,f239,h,show List.range' 0 2= [0,1]from rfl]
 have hle:∀j,dD (lG t big) j a≤t.length:=fun j=>rY (fun a ha=>Nat.le_trans AZ ha) j a ha
 generalize hE:fU _ _ _=R
 simp [fU,func91,f91]at hE
 rw [aJ (fun j=> .on ⟨[(8,V.v (.int .i64 ((j:Int)))),(7,V.v (.int .i64 ((n:Int)))),(2, .fn 239 [.ref 1000000000 0, .ref 1000000001 0]),(0,V.v (.int .i64 (((dD (lG t big) j a:Nat):Int))))],[(1000000001,[V.v (.bool big)]),(1000000000,[.aP (some 0) (ints t)])],[],[]⟩) n ?_ ?_]at hE
 ·simp [show List.range' 0 2= [0,1]from rfl]at hE
  exact hE.symm
 ·simp [dD]
 ·intro j hj
  have hw:=bM ((j:Int)+1) (by omega)
  have e2:=e1 _ (hle j)
  rw [p8]
  generalize dD (lG t big) j a=p at*
  simp [hj,hw,e2,show List.range' 0 2= [0,1]from rfl]
theorem CV (t:List Int)(big:Bool)(n a:Nat)(ha:a≤t.length)(ht:t.length≤2000)(hn:n≤999):fU [vI (a:Int),vI (n:Int), .fn 240 [.ref 0 0, .ref 1 0]] [[.aP (some 0) (ints t)],[V.v (.bool big)]] []=some ⟨vI (((dD (xH t big) n a:Nat):Int)),[[.aP (some 0) (ints t)],[V.v (.bool big)]],[]⟩:=by
 have e1:∀p:Nat,p≤t.length→ni [vI (p:Int), .ref 0 0, .ref 1 0] [[.aP (some 0) (ints t)],[V.v (.bool big)]] []=some ⟨vI (((xH t big p:Nat):Int)),[[.aP (some 0) (ints t)],[V.v (.bool big)]],[]⟩:=fun p hp=>by
  have h:=VX t (some 0) p big hp ht
  simp [ni,func240,f240,h,show List.range' 0 2= [0,1]from rfl]
 have hle:∀j,dD (xH t big) j a≤t.length:=fun j=>rY (fun a ha=>Ma.1) j a ha
 generalize hE:fU _ _ _=R
 simp [fU,func91,f91]at hE
 rw [aJ (fun j=> .on ⟨[(8,V.v (.int .i64 ((j:Int)))),(7,V.v (.int .i64 ((n:Int)))),(2, .fn 240 [.ref 1000000000 0, .ref 1000000001 0]),(0,V.v (.int .i64 (((dD (xH t big) j a:Nat):Int))))],[(1000000001,[V.v (.bool big)]),(1000000000,[.aP (some 0) (ints t)])],[],[]⟩) n ?_ ?_]at hE
 ·simp [show List.range' 0 2= [0,1]from rfl]at hE
  exact hE.symm
 ·simp [dD]
 ·intro j hj
  have hw:=bM ((j:Int)+1) (by omega)
  have e2:=e1 _ (hle j)
  rw [p8]
  generalize dD (xH t big) j a=p at*
  simp [hj,hw,e2,show List.range' 0 2= [0,1]from rfl]
section
variable (e:dB) (h:fV e)
include h
theorem ag2:Fg [gL e] [] []=some (kR (BM e)):=by
 have e1:pR [.agg [.aP (some 0) (aC e.aI.aA)]] [] []=some ⟨.own 0,[],[(0,ints (bE e.aI.aA))]⟩:=FH e.aI.aA h.ring
 obtain⟨t1,t2⟩:=xL h.ring
 unfold BM
 by_cases hc:bE e.aI.aA= []
 ·rw [if_pos hc]
  have e2:=mJ e h
  rw [hc]at e1
  simp only [bn]at e1
  generalize dM e=p at*
  generalize hE:Fg _ _ _=R
  simp [Fg, -au,func167,f167,e1,e2]at hE
  exact hE.symm
 ·rw [if_neg hc]
  have e2:=Ux e h (bE e.aI.aA) 3 t1 (by omega)
  generalize Au e (bE e.aI.aA) 3=p at*
  generalize bE e.aI.aA=u at*
  generalize hE:Fg _ _ _=R
  simp [Fg, -au,func167,f167,e1,e2,hc]at hE
  exact hE.symm
theorem adI (i:Option Nat):AO [.aP i (ints e.ak.av),vI e.ak.At] [] []=some ⟨vI (((iq e.ak.av (aR e):Nat):Int)),[],[]⟩:=by
 obtain⟨h1,h2,h3,h4⟩:=h.aR
 rw [h1]
 exact Uw _ _ _ h2 (by omega)
theorem V8 (r how:Int)(hr:(r=117∧how=1)∨(r=108∧how=0)∨(r=99∧how=2)):fF [gL e,vI r] [] []=some (kR (JQ e how)):=by
 obtain⟨h1,h2,h3,h4⟩:=h.aR
 have hw:=wJ h2
 have e1:=adI e h (some 0)
 have e2:=Yy e.ak.av e.ak.At h.line (aR e) (iq e.ak.av (aR e)) hw.1 hw.2 how (by omega)
 rw [←h1]at e2
 have hl:=tY e.ak.av (aR e) how (iq e.ak.av (aR e)-aR e)
 have e3:=IB e h (jL e.ak.av (aR e) how (iq e.ak.av (aR e)-aR e)).1 (iq e.ak.av (aR e)) (gq (by omega) (Ar h4 _ _ _) (by omega) (by omega))
 unfold JQ
 generalize (jL e.ak.av (aR e) how (iq e.ak.av (aR e)-aR e)).1=u at*
 generalize iq e.ak.av (aR e)=b at*
 generalize vQ e u b=p at*
 have d1:gY 117 48 57=false:=by decide
 have d2:gY 99 48 57=false:=by decide
 have d3:gY 108 48 57=false:=by decide
 clear h h2 h3 h4 hw hl
 generalize hE:fF _ _ _=R
 unfold fF at hE
 rcases hr with⟨rfl,rfl⟩|⟨rfl,rfl⟩|⟨rfl,rfl⟩
 ·simp [func90,f90,lX,d1,e1,e2,e3]at hE
  exact hE.symm
 ·simp [func90,f90,lX,d3,e1,e2,e3]at hE
  exact hE.symm
 ·simp [func90,f90,lX,d2,e1,e2,e3]at hE
  exact hE.symm
theorem ag3:∀(f:Int) (l:List ByteArray),bR [gL e,aH f l,vI 116] [] []=some (kR (Ir e)):=fun f l=>by
 obtain⟨h1,h2,h3,h4⟩:=h.aR
 unfold Ir
 by_cases hc:e.ak.av.length<2∨e.ak.At=0
 ·rw [if_pos hc]
  exact Mf e (Mq.of (fA.2 h)) f l (QX _ _ h.line hc)
 ·rw [if_neg hc]
  have hl:=KD e.ak.av (min (aR e) (e.ak.av.length-1))
  have e1:=Yz e.ak.av e.ak.At h.line (by omega) (min (aR e) (e.ak.av.length-1)) (by omega) (by omega)
  have e2:=IB e h (swapAt e.ak.av (min (aR e) (e.ak.av.length-1))) ((min (aR e) (e.ak.av.length-1):Nat)+1) (gq (by omega) (FJ h4 (by omega)) (by omega) (by omega))
  exact Ra e _ f _ l _ _ e1 e2
theorem acz:yV [gL e] [] []=some (kR (mQ e)):=by
 unfold mQ
 by_cases h0:e.gH.eX= []
 ·have:e.gH.eX.getLast?=none:=by rw [h0];rfl
  rw [this]
  exact aaU e (fA.2 h) h0
 ·rw [List.getLast?_eq_some_getLast h0]
  exact agW e (fA.2 h) h0
theorem V9:Fh [gL e] [] []=some (kR (BL e)):=by
 have e1:=yN e (Mq.of (fA.2 h)) 0
 have e2:=ku e.ak.av (some 0) e.ak.At (by have:=(bX h.line).1;omega)
 generalize hE:Fh _ _ _=R
 simp [Fh,func170,f170,e1,e2]at hE
 exact hE.symm
theorem afU (r:Int)(hr:gY r 48 57=true):fF [gL e,vI r] [] []=some (kR (Iq e r)):=by
 have hr2:=bA.1 hr
 have hc:=h.cnt
 have e0:=dY e h
 have w1:=bM (10*e.bH) (by omega)
 have w2:=bM (10*e.bH+r) (by omega)
 have w3:=bM (10*e.bH+r-48) (by omega)
 unfold Iq
 generalize hE:fF _ _ _=R
 simp [fF,func90,f90,lX,hr,e0,w1,w2,w3]at hE
 exact hE.symm
theorem ag4 (r:Int)(hr:¬r=121):fF [gL e,vI r] [] []=some (kR (zY e r)):=by
 obtain⟨h1,h2,h3,h4⟩:=h.aR
 obtain⟨n1,n2,n3⟩:=fJ e h
 unfold zY
 by_cases cd:gY r 48 57=true
 ·rw [if_pos cd];exact afU e h r cd
 rw [if_neg cd]
 have cd:gY r 48 57=false:=by simpa using cd
 by_cases c1:r=98
 ·rw [if_pos c1]
  subst c1
  have e1:=KG e.ak.av (gQ e) (aR e) h2 (by omega) n3
  rw [n1,←h1]at e1
  have e2:=yQ e h (dD (fq e.ak.av) (gQ e) (aR e))
  have e3:=uY e.ak.av (some 0) e.ak.At (dD (fq e.ak.av) (gQ e) (aR e)) (by omega)
  generalize dD (fq e.ak.av) (gQ e) (aR e)=u at*
  generalize yP e u=p at*
  clear h h2 h3 h4
  generalize hE:fF _ _ _=R
  simp [fF,func90,f90,lX,cd,e1,e2,e3,show List.range' 0 1= [0]from rfl]at hE
  exact hE.symm
 rw [if_neg c1]
 by_cases c2:r=102
 ·rw [if_pos c2]
  subst c2
  have e1:=BP e.ak.av (gQ e) (aR e) h2 (by omega) n3
  rw [n1,←h1]at e1
  have e2:=yQ e h (dD (iq e.ak.av) (gQ e) (aR e))
  have e3:=uY e.ak.av (some 0) e.ak.At (dD (iq e.ak.av) (gQ e) (aR e)) (by omega)
  generalize dD (iq e.ak.av) (gQ e) (aR e)=u at*
  generalize yP e u=p at*
  clear h h2 h3 h4
  generalize hE:fF _ _ _=R
  simp [fF,func90,f90,lX,cd,e1,e2,e3,show List.range' 0 1= [0]from rfl]at hE
  exact hE.symm
 rw [if_neg c2]
 by_cases c3:r=100
 ·rw [if_pos c3]
  subst c3
  have e1:=BP e.ak.av (gQ e) (aR e) h2 (by omega) n3
  have hu:=Mc (fun a ha=>wJ (t:=e.ak.av) ha) (gQ e) (aR e) h2
  have e2:=II e h e.ak.At (dD (iq e.ak.av) (gQ e) (aR e)) (aR e) (dD (iq e.ak.av) (gQ e) (aR e)) 1 h1 rfl (by omega) hu.1 hu.2
  rw [n1,←h1]at e1
  generalize dD (iq e.ak.av) (gQ e) (aR e)=u at*
  generalize lH e (aR e) u 1=p at*
  clear h h2 h3 h4 hu
  generalize hE:fF _ _ _=R
  simp [fF,func90,f90,lX,cd,e1,e2,show List.range' 0 1= [0]from rfl]at hE
  exact hE.symm
 rw [if_neg c3,if_neg hr]
 by_cases c4:r=117
 ·rw [if_pos c4];exact V8 e h r 1 (.inl ⟨c4,rfl⟩)
 rw [if_neg c4]
 by_cases c5:r=108
 ·rw [if_pos c5];exact V8 e h r 0 (.inr (.inl ⟨c5,rfl⟩))
 rw [if_neg c5]
 by_cases c6:r=99
 ·rw [if_pos c6];exact V8 e h r 2 (.inr (.inr ⟨c6,rfl⟩))
 rw [if_neg c6]
 have e1:=mJ e h
 generalize dM e=p at*
 generalize hE:fF _ _ _=R
 simp [fF,func90,f90,lX,cd,e1,c1,c2,c3,c4,c5,c6,hr]at hE
 exact hE.symm
end
end Go.Proofs.YtlpdjhiggpblcaaGreat
