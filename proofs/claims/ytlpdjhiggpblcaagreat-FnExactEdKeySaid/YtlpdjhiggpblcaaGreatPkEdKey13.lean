/- Part 13 of a proof in several texts (an abstract evaluator, what the functions compute). -/
import Derived.Test.YtlpdjhiggpblcaaGreatPkEdKey12
import Derived.Test.YtlpdjhiggpblcaaGreatRows
import Derived.Test.YtlpdjhiggpblcaaGreatChecked
import Derived.ProofKit
import Derived.OpenShut
import Derived.Handy
import Derived.ShutString
import Derived.ChangeOld
import Derived.Deep.Slices
open Go.Proofs.Tryz
namespace Go.Proofs.YtlpdjhiggpblcaaGreat
set_option linter.unusedSectionVars false
set_option linter.unusedSimpArgs false
set_option linter.unusedVariables false
open Go.RowKit
set_option maxHeartbeats 8000000
set_option maxRecDepth 10000
section
variable (e:dF) (h:fV e) {f:Int} {l:List ByteArray} (hh:iQ f l)
include h hh
theorem UC (k:Int)(r:Int)(hk:k=3∨k=7∨k=15∨k=16):bn [gL e,aH f l,aK k r] [] []=some (kR (vC, -1)):=by
 have en:=iy e
 clear h hh
 simp only [kR,gL,gO,hO,vC,aZ,show aC []= []from rfl,show aG []= []from rfl]
 generalize hE:bn _ _ _=R
 unfold bn at hE
 rcases hk with rfl|rfl|rfl|rfl<;>(simp [-au,func188,f188,en]at hE;exact hE.symm)
theorem X4 (r:Int)(c1:¬r=99)(c2:¬r=108)(c3:¬r=100)(c4:¬r=117)(c5:¬r=119):bn [gL e,aH f l,aK 2 r] [] []=some (kR (vC, -1)):=by
 have en:=iy e
 clear h hh
 simp only [kR,gL,gO,hO,vC,aZ,show aC []= []from rfl,show aG []= []from rfl]
 generalize hE:bn _ _ _=R
 simp [bn, -au,func188,f188,en,c1,c2,c3,c4,c5]at hE
 exact hE.symm
theorem aaE (k r:Int)(hk:jk k r=true):bn [gL e,aH f l,aK k r] [] []=some (kR ((pO e f l k r).getD (vC, -1))):=by
 unfold pO
 by_cases c1:k=1
 ·rw [if_pos c1];subst c1
  exact ac5 e h hh r (om (by simpa [jk] using hk))
 rw [if_neg c1]
 by_cases c6:k=6
 ·rw [if_pos c6];subst c6;exact ac6 e h hh r
 rw [if_neg c6]
 by_cases c4:k=4
 ·rw [if_pos c4];subst c4;exact ac7 e h hh r
 rw [if_neg c4]
 by_cases c2:k=2
 ·rw [if_pos c2]
  subst c2
  unfold ig
  by_cases r1:r=99
  ·rw [if_pos r1];subst r1;exact aaD e h hh
  rw [if_neg r1]
  by_cases r2:r=108
  ·rw [if_pos r2];subst r2;exact XZ e h hh
  rw [if_neg r2]
  by_cases r3:r=100
  ·rw [if_pos r3]
   subst r3
   by_cases hz:e.ak.av.length=0
   ·rw [if_pos hz];exact Uz e h hh hz
   ·rw [if_neg hz];exact Uy e h hh hz
  rw [if_neg r3]
  by_cases r4:r=117
  ·rw [if_pos r4];subst r4;exact X0 e h hh
  rw [if_neg r4]
  by_cases r5:r=119
  ·rw [if_pos r5]
   subst r5
   obtain⟨h1,h2,h3,h4⟩:=h.aS
   have hv:=KN e.ak.av (some 0) (aS e) true h2 (by omega)
   rw [←h1]at hv
   exact X3 e h hh hv
  rw [if_neg r5]
  exact X4 e h hh r r1 r2 r3 r4 r5
 rw [if_neg c2]
 by_cases c5:k=5
 ·rw [if_pos c5];subst c5;exact ac8 e h hh r
 rw [if_neg c5]
 by_cases c14:k=14
 ·rw [if_pos c14];subst c14;exact aay e h hh r
 rw [if_neg c14]
 by_cases c11:k=11
 ·rw [if_pos c11];subst c11;exact aaz e h hh r
 rw [if_neg c11]
 by_cases c10:k=10
 ·rw [if_pos c10];subst c10;exact aaA e h hh r
 rw [if_neg c10]
 by_cases c12:k=12
 ·rw [if_pos c12];subst c12;exact aaB e h hh r
 rw [if_neg c12]
 by_cases c13:k=13
 ·rw [if_pos c13];subst c13;exact aaC e h hh r
 rw [if_neg c13]
 by_cases c8:k=8
 ·rw [if_pos c8];subst c8;exact ac9 e h hh r
 rw [if_neg c8]
 by_cases c9:k=9
 ·rw [if_pos c9];subst c9;exact ada e h hh r
 rw [if_neg c9]
 refine UC e h hh k r ?_
 by_cases c3:k=3
 ·exact .inl c3
 ·have hr:iq k 4 16=true:=by
   unfold jk at hk
   rw [if_neg c1,if_neg c2,if_neg c3,Bool.and_eq_true]at hk
   exact hk.1
  have:=bB.1 hr
  omega
end
def AOk (a:Int):Prop:=0≤a∧a≤5
theorem Nn:AOk 0:=⟨by decide,by decide⟩
theorem Np:AOk 1:=⟨by decide,by decide⟩
theorem Nq:AOk 2:=⟨by decide,by decide⟩
theorem Nr:AOk 3:=⟨by decide,by decide⟩
theorem Ns:AOk 4:=⟨by decide,by decide⟩
theorem Nt:AOk 5:=⟨by decide,by decide⟩
theorem ajq {c:Prop} [Decidable c]{a b:dF×Int}(ha:c→AOk a.2)(hb:¬c→AOk b.2):AOk (if c then a else b).2:=by
 by_cases hc:c
 ·rw [if_pos hc];exact ha hc
 ·rw [if_neg hc];exact hb hc
section
variable (e:dF) (f:Int) (l:List ByteArray) (k r:Int) (n:Nat)
theorem Tn (f u:Nat):AOk (Gm e f u).2:=by unfold Gm;(first|refine ajq (fun _=>?_) (fun _=>?_)|split)<;>(first|exact Nn|exact Np|exact Nq|exact Nr|exact Ns|exact Nt)
theorem Tp (f u:Nat)(how:Int):AOk (mq e f u how).2:=by unfold mq;(first|refine ajq (fun _=>?_) (fun _=>?_)|split)<;>(first|exact Nn|exact Np|exact Nq|exact Nr|exact Ns|exact Nt)
theorem aaF (u:List Int)(last:Int):AOk (Cy e u last).2:=by unfold Cy;(first|refine ajq (fun _=>?_) (fun _=>?_)|split)<;>(first|exact Nn|exact Np|exact Nq|exact Nr|exact Ns|exact Nt)
theorem Wq (b:Int):AOk (jP e f l b).2:=by
 unfold jP
 cases h:tQ e f l b with
 | none=>(first|exact Nn|exact Np|exact Nq|exact Nr|exact Ns|exact Nt)
 | some x=>
  unfold tQ at h
  split at h
  ·injection h with h;subst h;(first|exact Nn|exact Np|exact Nq|exact Nr|exact Ns|exact Nt)
  ·split at h
   ·cases h
   ·injection h with h;subst h;(first|exact Nn|exact Np|exact Nq|exact Nr|exact Ns|exact Nt)
theorem Tq {p:dF×Int}(hp:ig e r=some p):AOk p.2:=by
 unfold ig at hp
 (first|(rcases kW hp with⟨_,hp⟩|⟨_,hp⟩)|split at hp)
 ·injection hp with hp;subst hp;(first|exact Nn|exact Np|exact Nq|exact Nr|exact Ns|exact Nt)
 (first|(rcases kW hp with⟨_,hp⟩|⟨_,hp⟩)|split at hp)
 ·injection hp with hp;subst hp;(first|exact Nn|exact Np|exact Nq|exact Nr|exact Ns|exact Nt)
 (first|(rcases kW hp with⟨_,hp⟩|⟨_,hp⟩)|split at hp)
 ·injection hp with hp;subst hp
  (first|refine ajq (fun _=>?_) (fun _=>?_)|split)
  ·(first|exact Nn|exact Np|exact Nq|exact Nr|exact Ns|exact Nt)
  ·exact Tn _ _ _
 (first|(rcases kW hp with⟨_,hp⟩|⟨_,hp⟩)|split at hp)
 ·injection hp with hp;subst hp;exact Tp _ _ _ _
 (first|(rcases kW hp with⟨_,hp⟩|⟨_,hp⟩)|split at hp)
 ·injection hp with hp;subst hp;exact Tp _ _ _ _
 ·cases hp
theorem adb {p:dF×Int}(hp:pO e f l k r=some p):AOk p.2:=by
 unfold pO at hp
 (first|(rcases kW hp with⟨_,hp⟩|⟨_,hp⟩)|split at hp)
 ·injection hp with hp;subst hp;exact aaF _ _ _
 (first|(rcases kW hp with⟨_,hp⟩|⟨_,hp⟩)|split at hp)
 ·injection hp with hp;subst hp;exact aaF _ _ _
 (first|(rcases kW hp with⟨_,hp⟩|⟨_,hp⟩)|split at hp)
 ·injection hp with hp;subst hp;(first|exact Nn|exact Np|exact Nq|exact Nr|exact Ns|exact Nt)
 (first|(rcases kW hp with⟨_,hp⟩|⟨_,hp⟩)|split at hp)
 ·exact Tq e r hp
 (first|(rcases kW hp with⟨_,hp⟩|⟨_,hp⟩)|split at hp)
 ·injection hp with hp;subst hp;exact Tn _ _ _
 (first|(rcases kW hp with⟨_,hp⟩|⟨_,hp⟩)|split at hp)
 ·injection hp with hp;subst hp;exact Tn _ _ _
 (first|(rcases kW hp with⟨_,hp⟩|⟨_,hp⟩)|split at hp)
 ·injection hp with hp;subst hp;(first|exact Nn|exact Np|exact Nq|exact Nr|exact Ns|exact Nt)
 (first|(rcases kW hp with⟨_,hp⟩|⟨_,hp⟩)|split at hp)
 ·injection hp with hp;subst hp;(first|exact Nn|exact Np|exact Nq|exact Nr|exact Ns|exact Nt)
 (first|(rcases kW hp with⟨_,hp⟩|⟨_,hp⟩)|split at hp)
 ·injection hp with hp;subst hp;(first|exact Nn|exact Np|exact Nq|exact Nr|exact Ns|exact Nt)
 (first|(rcases kW hp with⟨_,hp⟩|⟨_,hp⟩)|split at hp)
 ·injection hp with hp;subst hp;(first|exact Nn|exact Np|exact Nq|exact Nr|exact Ns|exact Nt)
 (first|(rcases kW hp with⟨_,hp⟩|⟨_,hp⟩)|split at hp)
 ·injection hp with hp;subst hp;exact Wq _ _ _ _
 (first|(rcases kW hp with⟨_,hp⟩|⟨_,hp⟩)|split at hp)
 ·injection hp with hp;subst hp;exact Wq _ _ _ _
 ·cases hp
end
theorem rA (k r:Int):zJ [aK k r] [] []=some ⟨V.v (.bool (jk k r)),[],[]⟩:=by
 have ep:=aW r
 generalize hE:zJ _ _ _=R
 unfold zJ at hE
 unfold jk
 by_cases c1:k=1
 ·subst c1
  simp [func34,f34,ep]at hE
  rw [←hE]
  simp
 by_cases c2:k=2
 ·subst c2
  by_cases r1:r=95
  ·subst r1
   simp [func34,f34]at hE
   rw [←hE]
   simp
  by_cases r2:97≤r
  ·by_cases r3:r≤122
   ·have q:iq r 97 122=true:=bB.2 ⟨r2,r3⟩
    by_cases r4:r=104
    ·subst r4;simp [func34,f34]at hE;rw [←hE];simp
    by_cases r5:r=105
    ·subst r5;simp [func34,f34]at hE;rw [←hE];simp
    by_cases r6:r=106
    ·subst r6;simp [func34,f34]at hE;rw [←hE];simp
    by_cases r7:r=109
    ·subst r7;simp [func34,f34]at hE;rw [←hE];simp
    simp [func34,f34,r1,r2,r3,r4,r5,r6,r7]at hE
    rw [←hE]
    simp [q,r1,r4,r5,r6,r7]
   ·have q:iq r 97 122=false:=by cases q:iq r 97 122;rfl;exact absurd (bB.1 q).2 r3
    simp [func34,f34,r1,r2,r3]at hE
    rw [←hE]
    simp [q,r1]
  ·have q:iq r 97 122=false:=by cases q:iq r 97 122;rfl;exact absurd (bB.1 q).1 r2
   simp [func34,f34,r1,r2]at hE
   rw [←hE]
   simp [q,r1]
 by_cases c3:k=3
 ·subst c3
  by_cases r2:33≤r
  ·by_cases r3:r≤126
   ·have q:iq r 33 126=true:=bB.2 ⟨r2,r3⟩
    simp [func34,f34,r2,r3]at hE
    rw [←hE]
    simp [q]
   ·have q:iq r 33 126=false:=by cases q:iq r 33 126;rfl;exact absurd (bB.1 q).2 r3
    simp [func34,f34,r2,r3]at hE
    rw [←hE]
    simp [q]
  ·have q:iq r 33 126=false:=by cases q:iq r 33 126;rfl;exact absurd (bB.1 q).1 r2
   simp [func34,f34,r2]at hE
   rw [←hE]
   simp [q]
 by_cases r2:4≤k
 ·by_cases r3:k≤16
  ·have q:iq k 4 16=true:=bB.2 ⟨r2,r3⟩
   simp [func34,f34,c1,c2,c3,r2,r3]at hE
   rw [←hE]
   simp [q,c1,c2,c3]
   by_cases r0:r=0<;>simp [r0]
  ·have q:iq k 4 16=false:=by cases q:iq k 4 16;rfl;exact absurd (bB.1 q).2 r3
   simp [func34,f34,c1,c2,c3,r2,r3]at hE
   rw [←hE]
   simp [q,c1,c2,c3]
 ·have q:iq k 4 16=false:=by cases q:iq k 4 16;rfl;exact absurd (bB.1 q).1 r2
  simp [func34,f34,c1,c2,c3,r2]at hE
  rw [←hE]
  simp [q,c1,c2,c3]
section
variable (e:dF) (h:fV e)
include h
theorem ade:vR [gL e] [] []=some (kR (Jb e)):=by
 have e1:=Gv e.aL.aA h.ring
 obtain⟨t1,t2⟩:=xW h.ring
 unfold Jb
 by_cases hc:bE e.aL.aA= []
 ·rw [if_pos hc]
  have e2:=jB e h
  rw [hc]at e1
  simp only [aZ]at e1
  generalize dI e=p at*
  clear h
  generalize hE:vR _ _ _=R
  simp [vR, -au,func197,f197,e1,e2]at hE
  exact hE.symm
 ·rw [if_neg hc]
  have e2:=OP e h (bE e.aL.aA) 3 t1 (by omega) (by omega)
  have hc0:¬((bE e.aL.aA).length:Int)=0:=by have:=List.length_pos_iff.2 hc;omega
  generalize Cy e (bE e.aL.aA) 3=p at*
  generalize bE e.aL.aA=u at*
  clear h
  generalize hE:vR _ _ _=R
  simp [vR, -au,func197,f197,e1,e2,hc,hc0]at hE
  exact hE.symm
theorem Gx (hm:¬e.bQ=3):nu [gL e] [] []=some (kR (Cn e)):=by
 obtain⟨q1,q2, -⟩:=h.OI.resolve_left hm
 have e1:=gG e h
 have e2:=wh e
 have e3:=lK e.ak.av (some 0) e.ak.At (by have:=(bS h.line).1;omega)
 clear h
 generalize hE:nu _ _ _=R
 unfold nu at hE
 simp only [gL,gO,hO,q1,q2,aZ]at e1 e2 hE
 simp [-au,func200,f200,e1,e2,e3]at hE
 exact hE.symm
variable {f:Int} {l:List ByteArray} (hh:iQ f l)
include hh
theorem Js (k r:Int)(hk:jk k r=true)(hm:e.bQ=0∨e.bQ=1):qH [gL e,aH f l,aK k r] [] []=some (kRo (pO e f l k r)):=by
 have e1:=tZ e (fA.2 h)
 have e2:=uE f l hh
 have e3:=rA k r
 rw [hk]at e3
 have e4:=aaE e h hh k r hk
 cases hp:pO e f l k r with
 | none=>
  rw [hp]at e4
  simp only [Option.getD_none,kR,vC,aZ,show aC []= []from rfl,show aG []= []from rfl]at e4
  simp only [kRo,Ji,vC,aZ,show aC []= []from rfl,show aG []= []from rfl]
  clear h hh
  generalize hE:qH _ _ _=R
  unfold qH at hE
  rcases hm with hm|hm
  ·simp only [gL,gO,hO,hm]at e1 e4 hE
   simp [-au,func104,f104,e1,e2,e3,e4]at hE
   exact hE.symm
  ·simp only [gL,gO,hO,hm]at e1 e4 hE
   simp [-au,func104,f104,e1,e2,e3,e4]at hE
   exact hE.symm
 | some p=>
  rw [hp]at e4
  simp only [Option.getD_some]at e4
  have ha:¬p.2<0:=by
   have:=adb e f l k r hp
   unfold AOk at this
   omega
  clear h hh
  generalize hE:qH _ _ _=R
  unfold qH at hE
  rcases hm with hm|hm
  ·simp only [gL,gO,hO,hm]at e1 e4 hE
   simp [-au,func104,f104,e1,e2,e3,e4,ha]at hE
   exact hE.symm
  ·simp only [gL,gO,hO,hm]at e1 e4 hE
   simp [-au,func104,f104,e1,e2,e3,e4,ha]at hE
   exact hE.symm
end
theorem LB (t:List Int)(n a:Nat)(ha:a≤t.length)(ht:t.length≤2000)(hn:n≤999):fZ [vI (a:Int),vI (n:Int), .fn 156 [.ref 0 0]] [[.aM (some 0) (ints t)]] []=some ⟨vI (((dD (fE t) n a:Nat):Int)),[[.aM (some 0) (ints t)]],[]⟩:=by
 have e1:∀p:Nat,p≤t.length→lH [vI (p:Int), .ref 0 0] [[.aM (some 0) (ints t)]] []=some ⟨vI (((fE t p:Nat):Int)),[[.aM (some 0) (ints t)]],[]⟩:=fun p hp=>by
  have h:=Qa t (some 0) p hp ht
  simp [lH,func156,f156,h,show List.range' 0 1= [0]from rfl]
 have hle:∀j,dD (fE t) j a≤t.length:=fun j=>rO (fun a ha=>Nat.le_trans zZ ha) j a ha
 generalize hE:fZ _ _ _=R
 simp [fZ,func91,f91]at hE
 rw [aF (fun j=> .on ⟨[(8,V.v (.int .i64 ((j:Int)))),(7,V.v (.int .i64 ((n:Int)))),(2, .fn 156 [.ref 1000000000 0]),(0,V.v (.int .i64 (((dD (fE t) j a:Nat):Int))))],[(1000000000,[.aM (some 0) (ints t)])],[],[]⟩) n ?_ ?_]at hE
 ·simp [show List.range' 0 1= [0]from rfl]at hE
  exact hE.symm
 ·simp [dD]
 ·intro j hj
  have hw:=bM ((j:Int)+1) (by omega)
  have e2:=e1 _ (hle j)
  rw [pJ]
  generalize dD (fE t) j a=p at*
  simp [hj,hw,e2,show List.range' 0 1= [0]from rfl]
theorem Cu (t:List Int)(n a:Nat)(ha:a≤t.length)(ht:t.length≤2000)(hn:n≤999):fZ [vI (a:Int),vI (n:Int), .fn 157 [.ref 0 0]] [[.aM (some 0) (ints t)]] []=some ⟨vI (((dD (gZ t) n a:Nat):Int)),[[.aM (some 0) (ints t)]],[]⟩:=by
 have e1:∀p:Nat,p≤t.length→lI [vI (p:Int), .ref 0 0] [[.aM (some 0) (ints t)]] []=some ⟨vI (((gZ t p:Nat):Int)),[[.aM (some 0) (ints t)]],[]⟩:=fun p hp=>by
  have h:=Wo t (some 0) p hp ht
  simp [lI,func157,f157,h,show List.range' 0 1= [0]from rfl]
 have hle:∀j,dD (gZ t) j a≤t.length:=fun j=>rO (fun a ha=>(wT ha).2) j a ha
 generalize hE:fZ _ _ _=R
 simp [fZ,func91,f91]at hE
 rw [aF (fun j=> .on ⟨[(8,V.v (.int .i64 ((j:Int)))),(7,V.v (.int .i64 ((n:Int)))),(2, .fn 157 [.ref 1000000000 0]),(0,V.v (.int .i64 (((dD (gZ t) j a:Nat):Int))))],[(1000000000,[.aM (some 0) (ints t)])],[],[]⟩) n ?_ ?_]at hE
 ·simp [show List.range' 0 1= [0]from rfl]at hE
  exact hE.symm
 ·simp [dD]
 ·intro j hj
  have hw:=bM ((j:Int)+1) (by omega)
  have e2:=e1 _ (hle j)
  rw [pJ]
  generalize dD (gZ t) j a=p at*
  simp [hj,hw,e2,show List.range' 0 1= [0]from rfl]
theorem Nu (t:List Int)(n a:Nat)(ha:a≤t.length)(ht:t.length≤2000)(hn:n≤999):fZ [vI (a:Int),vI (n:Int), .fn 92 [.ref 0 0]] [[.aM (some 0) (ints t)]] []=some ⟨vI (((dD (fE t) n a:Nat):Int)),[[.aM (some 0) (ints t)]],[]⟩:=by
 have e1:∀p:Nat,p≤t.length→mJ [vI (p:Int), .ref 0 0] [[.aM (some 0) (ints t)]] []=some ⟨vI (((fE t p:Nat):Int)),[[.aM (some 0) (ints t)]],[]⟩:=fun p hp=>by
  have h:=Qa t (some 0) p hp ht
  simp [mJ,func92,f92,h,show List.range' 0 1= [0]from rfl]
 have hle:∀j,dD (fE t) j a≤t.length:=fun j=>rO (fun a ha=>Nat.le_trans zZ ha) j a ha
 generalize hE:fZ _ _ _=R
 simp [fZ,func91,f91]at hE
 rw [aF (fun j=> .on ⟨[(8,V.v (.int .i64 ((j:Int)))),(7,V.v (.int .i64 ((n:Int)))),(2, .fn 92 [.ref 1000000000 0]),(0,V.v (.int .i64 (((dD (fE t) j a:Nat):Int))))],[(1000000000,[.aM (some 0) (ints t)])],[],[]⟩) n ?_ ?_]at hE
 ·simp [show List.range' 0 1= [0]from rfl]at hE
  exact hE.symm
 ·simp [dD]
 ·intro j hj
  have hw:=bM ((j:Int)+1) (by omega)
  have e2:=e1 _ (hle j)
  rw [pJ]
  generalize dD (fE t) j a=p at*
  simp [hj,hw,e2,show List.range' 0 1= [0]from rfl]
theorem Dt (t:List Int)(big:Bool)(n a:Nat)(ha:a≤t.length)(ht:t.length≤2000)(hn:n≤999):fZ [vI (a:Int),vI (n:Int), .fn 237 [.ref 0 0, .ref 1 0]] [[.aM (some 0) (ints t)],[V.v (.bool big)]] []=some ⟨vI (((dD (Gl t big) n a:Nat):Int)),[[.aM (some 0) (ints t)],[V.v (.bool big)]],[]⟩:=by
 have e1:∀p:Nat,p≤t.length→mK [vI (p:Int), .ref 0 0, .ref 1 0] [[.aM (some 0) (ints t)],[V.v (.bool big)]] []=some ⟨vI (((Gl t big p:Nat):Int)),[[.aM (some 0) (ints t)],[V.v (.bool big)]],[]⟩:=fun p hp=>by
  have h:=aap t (some 0) p big hp ht
  simp [mK,func237,f237,h,show List.range' 0 2= [0,1]from rfl]
 have hle:∀j,dD (Gl t big) j a≤t.length:=fun j=>rO (fun a ha=>(QS ha).2) j a ha
 generalize hE:fZ _ _ _=R
 simp [fZ,func91,f91]at hE
 rw [aF (fun j=> .on ⟨[(8,V.v (.int .i64 ((j:Int)))),(7,V.v (.int .i64 ((n:Int)))),(2, .fn 237 [.ref 1000000000 0, .ref 1000000001 0]),(0,V.v (.int .i64 (((dD (Gl t big) j a:Nat):Int))))],[(1000000001,[V.v (.bool big)]),(1000000000,[.aM (some 0) (ints t)])],[],[]⟩) n ?_ ?_]at hE
 ·simp [show List.range' 0 2= [0,1]from rfl]at hE
  exact hE.symm
 ·simp [dD]
 ·intro j hj
  have hw:=bM ((j:Int)+1) (by omega)
  have e2:=e1 _ (hle j)
  rw [pJ]
  generalize dD (Gl t big) j a=p at*
  simp [hj,hw,e2,show List.range' 0 2= [0,1]from rfl]
theorem Du (t:List Int)(big:Bool)(n a:Nat)(ha:a≤t.length)(ht:t.length≤2000)(hn:n≤999):fZ [vI (a:Int),vI (n:Int), .fn 239 [.ref 0 0, .ref 1 0]] [[.aM (some 0) (ints t)],[V.v (.bool big)]] []=some ⟨vI (((dD (kV t big) n a:Nat):Int)),[[.aM (some 0) (ints t)],[V.v (.bool big)]],[]⟩:=by
 have e1:∀p:Nat,p≤t.length→mM [vI (p:Int), .ref 0 0, .ref 1 0] [[.aM (some 0) (ints t)],[V.v (.bool big)]] []=some ⟨vI (((kV t big p:Nat):Int)),[[.aM (some 0) (ints t)],[V.v (.bool big)]],[]⟩:=fun p hp=>by
  have h:=KM t (some 0) p big hp ht
  simp [mM,func239,f239,h,show List.range' 0 2= [0,1]from rfl]
 have hle:∀j,dD (kV t big) j a≤t.length:=fun j=>rO (fun a ha=>Nat.le_trans BH ha) j a ha
 generalize hE:fZ _ _ _=R
 simp [fZ,func91,f91]at hE
 rw [aF (fun j=> .on ⟨[(8,V.v (.int .i64 ((j:Int)))),(7,V.v (.int .i64 ((n:Int)))),(2, .fn 239 [.ref 1000000000 0, .ref 1000000001 0]),(0,V.v (.int .i64 (((dD (kV t big) j a:Nat):Int))))],[(1000000001,[V.v (.bool big)]),(1000000000,[.aM (some 0) (ints t)])],[],[]⟩) n ?_ ?_]at hE
 ·simp [show List.range' 0 2= [0,1]from rfl]at hE
  exact hE.symm
 ·simp [dD]
 ·intro j hj
  have hw:=bM ((j:Int)+1) (by omega)
  have e2:=e1 _ (hle j)
  rw [pJ]
  generalize dD (kV t big) j a=p at*
  simp [hj,hw,e2,show List.range' 0 2= [0,1]from rfl]
theorem Dv (t:List Int)(big:Bool)(n a:Nat)(ha:a≤t.length)(ht:t.length≤2000)(hn:n≤999):fZ [vI (a:Int),vI (n:Int), .fn 240 [.ref 0 0, .ref 1 0]] [[.aM (some 0) (ints t)],[V.v (.bool big)]] []=some ⟨vI (((dD (xQ t big) n a:Nat):Int)),[[.aM (some 0) (ints t)],[V.v (.bool big)]],[]⟩:=by
 have e1:∀p:Nat,p≤t.length→mO [vI (p:Int), .ref 0 0, .ref 1 0] [[.aM (some 0) (ints t)],[V.v (.bool big)]] []=some ⟨vI (((xQ t big p:Nat):Int)),[[.aM (some 0) (ints t)],[V.v (.bool big)]],[]⟩:=fun p hp=>by
  have h:=XO t (some 0) p big hp ht
  simp [mO,func240,f240,h,show List.range' 0 2= [0,1]from rfl]
 have hle:∀j,dD (xQ t big) j a≤t.length:=fun j=>rO (fun a ha=>Nf.1) j a ha
 generalize hE:fZ _ _ _=R
 simp [fZ,func91,f91]at hE
 rw [aF (fun j=> .on ⟨[(8,V.v (.int .i64 ((j:Int)))),(7,V.v (.int .i64 ((n:Int)))),(2, .fn 240 [.ref 1000000000 0, .ref 1000000001 0]),(0,V.v (.int .i64 (((dD (xQ t big) j a:Nat):Int))))],[(1000000001,[V.v (.bool big)]),(1000000000,[.aM (some 0) (ints t)])],[],[]⟩) n ?_ ?_]at hE
 ·simp [show List.range' 0 2= [0,1]from rfl]at hE
  exact hE.symm
 ·simp [dD]
 ·intro j hj
  have hw:=bM ((j:Int)+1) (by omega)
  have e2:=e1 _ (hle j)
  rw [pJ]
  generalize dD (xQ t big) j a=p at*
  simp [hj,hw,e2,show List.range' 0 2= [0,1]from rfl]
section
variable (e:dF) (h:fV e)
include h
theorem D5 (n:Nat)(hn:n≤1000):pz [gL e,vI (n:Int),V.v (.bool true)] [] []=some ⟨vI (((dD (gZ e.ak.av) n (aS e):Nat):Int)),[],[]⟩:=by
 obtain⟨h1,h2,h3,h4⟩:=h.aS
 have hu:=fun j=>Ng (fun a ha=>wT (t:=e.ak.av) ha) j (aS e) h2
 generalize hE:pz _ _ _=R
 simp [pz, -au,func107,f107]at hE
 rw [aF (fun j=> .on ⟨[(8,V.v (.int .i64 ((j:Int)))),(7,V.v (.int .i64 (((dD (gZ e.ak.av) j (aS e):Nat):Int)))),(3, .ref 3 0),(2,V.v (.bool true)),(1,V.v (.int .i64 ((n:Int))))],[(3,[V.v (.bool e.Vi),vI e.bQ, .aM (some 0) (ints e.ak.av),vI e.ak.At,vI e.bD,vI e.Op,vI e.bN,vI e.fC,vI e.dY,vI e.bL,vI e.iO, .aM (some 1) (aC e.aL.aA), .aM (some 2) (aG e.fD.bT),vI e.kr, .aM (some 3) (ints e.gX.av),vI e.gX.At, .aM (some 4) (ints e.bO),vI e.lV, .aM (some 5) (ints e.bX.av),vI e.bX.At])],[],[]⟩) n ?_ ?_]at hE
 ·simp at hE
  exact hE.symm
 ·simp [dD,←h1]
 ·intro j hj
  have hw:=bM ((j:Int)+1) (by omega)
  have e2:=afR e.ak.av (some 0) (dD (gZ e.ak.av) j (aS e)) (hu j).2 (by omega)
  rw [pJ]
  generalize dD (gZ e.ak.av) j (aS e)=a at*
  simp [hj,hw,e2]
theorem GQ (n:Nat)(hn:n≤1000):pz [gL e,vI (n:Int),V.v (.bool false)] [] []=some ⟨vI (((dD (fE e.ak.av) n (aS e):Nat):Int)),[],[]⟩:=by
 obtain⟨h1,h2,h3,h4⟩:=h.aS
 have hu:=fun j=>Gr (f:=fE e.ak.av) (fun _=>zZ) j (aS e)
 generalize hE:pz _ _ _=R
 simp [pz, -au,func107,f107]at hE
 rw [aF (fun j=> .on ⟨[(8,V.v (.int .i64 ((j:Int)))),(7,V.v (.int .i64 (((dD (fE e.ak.av) j (aS e):Nat):Int)))),(3, .ref 3 0),(2,V.v (.bool false)),(1,V.v (.int .i64 ((n:Int))))],[(3,[V.v (.bool e.Vi),vI e.bQ, .aM (some 0) (ints e.ak.av),vI e.ak.At,vI e.bD,vI e.Op,vI e.bN,vI e.fC,vI e.dY,vI e.bL,vI e.iO, .aM (some 1) (aC e.aL.aA), .aM (some 2) (aG e.fD.bT),vI e.kr, .aM (some 3) (ints e.gX.av),vI e.gX.At, .aM (some 4) (ints e.bO),vI e.lV, .aM (some 5) (ints e.bX.av),vI e.bX.At])],[],[]⟩) n ?_ ?_]at hE
 ·simp at hE
  exact hE.symm
 ·simp [dD,←h1]
 ·intro j hj
  have hw:=bM ((j:Int)+1) (by omega)
  have hle:=hu j
  have e2:=aaq e.ak.av (some 0) (dD (fE e.ak.av) j (aS e)) (by omega) (by omega)
  rw [pJ]
  generalize dD (fE e.ak.av) j (aS e)=a at*
  simp [hj,hw,e2]
end
theorem aaG (t:List Int)(a:Int)(h:bU t a=true)(f mQ:Nat)(h1:f≤mQ)(h2:mQ≤t.length)(how:Int)(hw:0≤how∧how≤2):zS [.agg [.aM (some 0) (ints t),vI a],vI (f:Int),vI (mQ:Int),vI how] [] []=some ⟨.fT [.agg [.own 0,vI (mQ:Int)],V.v (.bool true)],[],[(0,ints (jN t f how (mQ-f)).1)]⟩:=by
 have hl:=bS h
 have e1:=SY t a h f mQ
 rw [decide_eq_true ⟨by omega,by omega,by omega⟩]at e1
 have e2:=tY t [] [] (some 0) (some 1) (some 2) (by simp;omega)
 simp only [List.append_nil,aZ]at e2
 have q1:¬how<0:=by omega
 have q2:¬2<how:=by omega
 generalize hE:zS _ _ _=R
 simp [zS,func251,f251,e1,e2,q1,q2]at hE
 rw [aF (fun j=> .on ⟨[(12,V.v (.int .i64 (((f+j:Nat):Int)))),(11,V.v (.bool ((jN t f how j).2))),(10, .own 2000000000),(8, .ref 8 0),(3,V.v (.int .i64 how)),(2,V.v (.int .i64 ((mQ:Int))))],[(8,[.own 2000000001,vI 0])],[(2000000001,[]),(2000000000,ints (jN t f how j).1)],[]⟩) (mQ-f) ?_ ?_]at hE
 ·have q2:(f:Int)+((mQ-f:Nat):Int)=mQ:=by omega
  have q3:f+(mQ-f)=mQ:=by omega
  simp [q2,q3]at hE
  exact hE.symm
 ·simp [jN]
 ·intro j hj
  have hjl:f+j<(jN t f how j).1.length:=by rw [tL];omega
  have hq:f+j<mQ:=by omega
  have hq2:(f:Int)+j<mQ:=by omega
  have hjt:f+j<t.length:=by omega
  have hq3:(f:Int)+j<t.length:=by omega
  have hlen:=tL t f how j
  have hw1:=bM ((f:Int)+(j+1)) (by omega)
  have hs:(f:Int)+j+1=(f:Int)+(j+1):=by omega
  rw [jN]
  have hgd:(jN t f how j).1.getD (f+j) 0=(jN t f how j).1[f+j]:=by rw [List.getD_eq_getElem?_getD,List.getElem?_eq_getElem hjl];rfl
  rw [hgd]
  generalize hX:jN t f how j=X at*
  obtain⟨u,fst⟩:=X
  simp only at hjl hlen hgd⊢
  have hgu:=aQ hjl
  generalize hr:u[f+j]=r at*
  have hself:u.set (f+j) r=u:=by rw [←hr];exact List.set_getElem_self hjl
  have hset:∀x:Int,(ints u).set (f+j) [.a (.int .i64 x)]=ints (u.set (f+j) x):=fun x=>yZ u (f+j) x
  have Uv:0≤(f:Int)+j:=by omega
  have GX:((f:Int)+j).toNat=f+j:=by omega
  by_cases s1:97≤r
  ·by_cases s2:r≤122
   ·have c1:iq r 97 122=true:=bB.2 ⟨s1,s2⟩
    have c2:iq r 65 90=false:=by cases q:iq r 65 90;rfl;have:=bB.1 q;omega
    have g1:65≤r:=by omega
    have g2:¬r≤90:=by omega
    have w1:=bM (r-32) (by omega)
    have il:isLet r=true:=by unfold isLet;rw [c1];rfl
    have u1:upI r=r-32:=by unfold upI;rw [if_pos c1]
    have u2:Na r=r:=by unfold Na;rw [if_neg (by rw [c2];decide)]
    by_cases c3:how=1
    ·simp [hq,hq2,hq3,hjt,hlen,hgu,hr,Uv,GX,s1,s2,g1,g2,w1,il,u1,c3,hw1,hs,hset]
    ·by_cases c4:how=2
     ·cases fst
      ·simp [hq,hq2,hq3,hjt,hlen,hgu,hr,Uv,GX,s1,s2,g1,g2,w1,il,u2,c4,hw1,hs,hset,hself]
      ·simp [hq,hq2,hq3,hjt,hlen,hgu,hr,Uv,GX,s1,s2,g1,g2,w1,il,u1,c4,hw1,hs,hset]
     ·simp [hq,hq2,hq3,hjt,hlen,hgu,hr,Uv,GX,s1,s2,g1,g2,w1,il,u2,c3,c4,hw1,hs,hset,hself]
   ·have c1:iq r 97 122=false:=by cases q:iq r 97 122;rfl;have:=bB.1 q;omega
    have c2:iq r 65 90=false:=by cases q:iq r 65 90;rfl;have:=bB.1 q;omega
    have g1:65≤r:=by omega
    have g2:¬r≤90:=by omega
    have il:isLet r=false:=by unfold isLet;rw [c1,c2];rfl
    simp [hq,hq2,hq3,hjt,hlen,hgu,hr,Uv,GX,s1,s2,g1,g2,il,hw1,hs,hset]
  ·have c1:iq r 97 122=false:=by cases q:iq r 97 122;rfl;have:=bB.1 q;omega
   have u1:upI r=r:=by unfold upI;rw [if_neg (by rw [c1];decide)]
   by_cases g1:65≤r
   ·by_cases g2:r≤90
    ·have c2:iq r 65 90=true:=bB.2 ⟨g1,g2⟩
     have w1:=bM (r+32) (by omega)
     have il:isLet r=true:=by unfold isLet;rw [c1,c2];rfl
     have u2:Na r=r+32:=by unfold Na;rw [if_pos c2]
     by_cases c3:how=1
     ·simp [hq,hq2,hq3,hjt,hlen,hgu,hr,Uv,GX,s1,g1,g2,w1,il,u1,c3,hw1,hs,hset,hself]
     ·by_cases c4:how=2
      ·cases fst
       ·simp [hq,hq2,hq3,hjt,hlen,hgu,hr,Uv,GX,s1,g1,g2,w1,il,u2,c4,hw1,hs,hset]
       ·simp [hq,hq2,hq3,hjt,hlen,hgu,hr,Uv,GX,s1,g1,g2,w1,il,u1,c4,hw1,hs,hset,hself]
      ·simp [hq,hq2,hq3,hjt,hlen,hgu,hr,Uv,GX,s1,g1,g2,w1,il,u2,c3,c4,hw1,hs,hset]
    ·have c2:iq r 65 90=false:=by cases q:iq r 65 90;rfl;have:=bB.1 q;omega
     have il:isLet r=false:=by unfold isLet;rw [c1,c2];rfl
     simp [hq,hq2,hq3,hjt,hlen,hgu,hr,Uv,GX,s1,g1,g2,il,hw1,hs,hset]
   ·have c2:iq r 65 90=false:=by cases q:iq r 65 90;rfl;have:=bB.1 q;omega
    have il:isLet r=false:=by unfold isLet;rw [c1,c2];rfl
    simp [hq,hq2,hq3,hjt,hlen,hgu,hr,Uv,GX,s1,g1,il,hw1,hs,hset]
section
variable (e:dF) (h:fV e)
include h
theorem adf (how:Int)(hw:0≤how∧how≤2):Ch [gL e,vI how] [] []=some (kR (KJ e how)):=by
 obtain⟨h1,h2,h3,h4⟩:=h.aS
 have hwo:=wT h2
 have e1:=D5 e h 1 (by omega)
 have e2:=aaG e.ak.av e.ak.At h.line (aS e) (gZ e.ak.av (aS e)) hwo.1 hwo.2 how hw
 rw [←h1]at e2
 have hl:=tL e.ak.av (aS e) how (gZ e.ak.av (aS e)-aS e)
 have e3:=qC e h (jN e.ak.av (aS e) how (gZ e.ak.av (aS e)-aS e)).1 (gZ e.ak.av (aS e)) 0 (gD (by omega) (Bd h4 _ _ _) (by omega) (by omega)) (by omega)
 unfold KJ vY
 simp only [dD,Int.natCast_one]at e1
 generalize (jN e.ak.av (aS e) how (gZ e.ak.av (aS e)-aS e)).1=u at*
 generalize gZ e.ak.av (aS e)=b at*
 generalize sF e u b 0=p at*
 clear h h2 h3 h4 hwo hl
 generalize hE:Ch _ _ _=R
 simp [Ch, -au,func191,f191,e1,e2,e3]at hE
 exact hE.symm
end
theorem Tt (r:Int):IX [vI r] [] []=some ⟨vI (iZ r),[],[]⟩:=by
 unfold IX iZ
 by_cases c1:r=102
 ·subst c1;simp [func262,f262]
 by_cases c2:r=70
 ·subst c2;simp [func262,f262]
 by_cases c3:r=116
 ·subst c3;simp [func262,f262]
 by_cases c4:r=84
 ·subst c4;simp [func262,f262]
 simp [func262,f262,c1,c2,c3,c4]
theorem Ac (n:Nat)(h:1≤n∧n≤999):zV [vI (n:Int)] [] []=some ⟨vI (n:Int),[],[]⟩:=by
 have c1:¬(n:Int)<1:=by omega
 have c2:¬(999:Int)<n:=by omega
 simp [zV,func281,f281,c1,c2]
theorem adg (how:Int):F8 [vI how] [] []=some ⟨vI (uG how),[],[]⟩:=by
 unfold F8 uG
 by_cases c1:how=0
 ·subst c1;simp [func265,f265]
 by_cases c2:how=1
 ·subst c2;simp [func265,f265]
 by_cases c3:how=2
 ·subst c3;simp [func265,f265]
 simp [func265,f265,c1,c2,c3]
theorem ajr (t:List Int)(i:Option Nat)(a b:Nat)(w:Bool)(ha:a≤t.length)(hb:b≤t.length)(ht:t.length≤2000):MV [.aM i (ints t),vI (a:Int),vI (b:Int),V.v (.bool w)] [] []=some ⟨.fT [vI (((min a b:Nat):Int)),vI (((xR t.length a b w:Nat):Int))],[],[]⟩:=by
 have e1:=dw (a:Int) t.length (by omega)
 have e2:=dw (b:Int) t.length (by omega)
 rw [show max 0 (min (a:Int) t.length)=a by omega]at e1
 rw [show max 0 (min (b:Int) t.length)=b by omega]at e2
 unfold xR
 generalize hE:MV _ _ _=R
 unfold MV at hE
 by_cases hab:b<a
 ·have adh:(b:Int)<a:=by omega
  rw [show min a b=b by omega,show max a b=a by omega]
  cases w
  ·rw [if_neg (by simp)]
   simp [func286,f286,e1,e2,hab,adh]at hE
   exact hE.symm
  ·by_cases hc:a<t.length
   ·have hc2:(a:Int)<t.length:=by omega
    have w1:=bM ((a:Int)+1) (by omega)
    rw [if_pos ⟨rfl,hc⟩]
    simp [func286,f286,e1,e2,hab,adh,hc,hc2,w1]at hE
    exact hE.symm
   ·have hc2:¬(a:Int)<t.length:=by omega
    rw [if_neg (fun q=>hc q.2)]
    simp [func286,f286,e1,e2,hab,adh,hc,hc2]at hE
    exact hE.symm
 ·have adh:¬(b:Int)<a:=by omega
  rw [show min a b=a by omega,show max a b=b by omega]
  cases w
  ·rw [if_neg (by simp)]
   simp [func286,f286,e1,e2,hab,adh]at hE
   exact hE.symm
  ·by_cases hc:b<t.length
   ·have hc2:(b:Int)<t.length:=by omega
    have w1:=bM ((b:Int)+1) (by omega)
    rw [if_pos ⟨rfl,hc⟩]
    simp [func286,f286,e1,e2,hab,adh,hc,hc2,w1]at hE
    exact hE.symm
   ·have hc2:¬(b:Int)<t.length:=by omega
    rw [if_neg (fun q=>hc q.2)]
    simp [func286,f286,e1,e2,hab,adh,hc,hc2]at hE
    exact hE.symm
theorem Bg (e:dF)(h:fV e):xJ [gL e] [] []=some ⟨vI (((gW e:Nat):Int)),[],[]⟩:=by
 obtain⟨n1,n2,n3⟩:=h.gW
 have hc:=h.cnt
 have ho:=h.za
 have hmul:max e.bD 1*max e.bN 1≤999*999:=Int.mul_le_mul (by omega) (by omega) (by omega) (by omega)
 have ah2:0≤max e.bD 1*max e.bN 1:=Int.mul_nonneg (by omega) (by omega)
 have e1:=iy e
 generalize hE:xJ _ _ _=R
 unfold xJ at hE
 by_cases c:0<e.bN
 ·have hm:max e.bN 1=e.bN:=by omega
  rw [hm]at hmul ah2 n3
  have w:=bM (max e.bD 1*e.bN) (by omega)
  have e2:=dw (max e.bD 1*e.bN) 999 (by omega)
  rw [show max 0 (min (max e.bD 1*e.bN) 999)=((gW e:Nat):Int) by omega]at e2
  simp [func208,f208,e1,e2,c,w]at hE
  exact hE.symm
 ·have hm:max e.bN 1=1:=by omega
  rw [hm,Int.mul_one]at n3
  have e2:=dw (max e.bD 1) 999 (by omega)
  rw [show max 0 (min (max e.bD 1) 999)=((gW e:Nat):Int) by omega]at e2
  simp [func208,f208,e1,e2,c]at hE
  exact hE.symm
theorem Ws (t:List Int)(i:Option Nat)(a:Nat)(r how step look:Int)(ha:a≤t.length)(ht:t.length≤2000)(hst:(how=0∧step=1∧look=0)∨(how=1∧step= -1∧look=0)∨(how=2∧step=1∧look=1)∨(how=3∧step= -1∧look= -1))(N:Nat)(P:Nat→Int)(res:Int)
  (h0:P 0=a+step) (hs:∀j,j<N→P (j+1)=P j+step) (hb:∀j,j≤N→-2≤P j∧P j≤2001)
  (hr:∀j,j<N→0≤P j∧P j<t.length∧(P j+look<0∨(0≤P j+look∧t.length≤P j+look)∨∃(q:Nat) (hq:q<t.length),P j+look=q∧¬t[q]=r))
  (he:(res= -1∧(P N<0∨(0≤P N∧t.length≤P N)))∨(res=P N∧0≤P N∧P N<t.length∧∃(q:Nat) (hq:q<t.length),P N+look=q∧t[q]=r)):
  wM [.aM i (ints t),vI (a:Int),vI r,vI how] [] []=some ⟨vI res,[],[]⟩:=by
 have S9:=dw (a:Int) t.length (by omega)
 rw [show max 0 (min (a:Int) t.length)=a by omega]at S9
 have hstep:step=1∨step= -1:=by rcases hst with q|q|q|q<;>simp [q.2.1]
 have w0:IntKind.i64.wrap ((a:Int)+step)=a+step:=bM _ (by clear he hr hb hs h0;rcases hstep with rfl|rfl<;>omega)
 have st:∃w,wM [.aM i (ints t),vI (a:Int),vI r,vI how] [] []=w:=⟨_,rfl⟩
 obtain⟨R,hE⟩:=st
 rw [hE]
 unfold wM at hE
 rcases hst with⟨rfl,rfl,rfl⟩|⟨rfl,rfl,rfl⟩|⟨rfl,rfl,rfl⟩|⟨rfl,rfl,rfl⟩
 all_goals
  simp [func282,f282,S9,w0]at hE
  first
   | (rw [aF (fun j=> .on ⟨[(11,V.v (.int .i64 (P j))),(10,V.v (.int .i64 0)),(9,V.v (.int .i64 1)),(2,V.v (.int .i64 r)),(0, .aM i (ints t))],[],[],[]⟩) N ?_ ?_]at hE;rotate_left;(· (simp [h0];done)))
   | (rw [aF (fun j=> .on ⟨[(11,V.v (.int .i64 (P j))),(10,V.v (.int .i64 0)),(9,V.v (.int .i64 ((-1)))),(2,V.v (.int .i64 r)),(0, .aM i (ints t))],[],[],[]⟩) N ?_ ?_]at hE;rotate_left;(· (simp [h0];done)))
   | (rw [aF (fun j=> .on ⟨[(11,V.v (.int .i64 (P j))),(10,V.v (.int .i64 1)),(9,V.v (.int .i64 1)),(2,V.v (.int .i64 r)),(0, .aM i (ints t))],[],[],[]⟩) N ?_ ?_]at hE;rotate_left;(· (simp [h0];done)))
   | (rw [aF (fun j=> .on ⟨[(11,V.v (.int .i64 (P j))),(10,V.v (.int .i64 ((-1)))),(9,V.v (.int .i64 ((-1)))),(2,V.v (.int .i64 r)),(0, .aM i (ints t))],[],[],[]⟩) N ?_ ?_]at hE;rotate_left;(· (simp [h0];done)))
  ·intro j hj
   have b1:=hb j (by omega)
   have s1:=hs j hj
   obtain⟨r1,r2,r3⟩:=hr j hj
   rw [s1]
   generalize P j=x at*
   clear hb hs hr he s1
   have w3:=bM x (by omega)
   have w4:=bM (x+1) (by omega)
   have w5:=bM (x+ -1) (by omega)
   try simp only [Int.add_zero]at r3
   rcases r3 with q|⟨q0,q⟩|⟨k,hk,q0,q⟩
   ·have q':¬(0:Int)≤_:=Int.not_le.2 q
    first|(exfalso;omega)|simp [r1,r2,w3,w4,w5,q,q']
   ·have q':¬_<(t.length:Int):=Int.not_lt.2 q
    first|(exfalso;omega)|simp [r1,r2,w3,w4,w5,q0,q']
   ·have q1:(0:Int)≤k:=by omega
    have q2:(k:Int)<t.length:=by omega
    have w6:=bM (k:Int) (by omega)
    have w7:=bM ((k:Int)+1) (by omega)
    have w8:=bM ((k:Int)+ -1) (by omega)
    simp [r1,r2,w3,w4,w5,w6,w7,w8,q0,q1,q2,hk,aQ hk,q]
  ·have b1:=hb N (Nat.le_refl _)
   clear hb hs hr
   generalize P N=x at*
   clear h0
   have w3:=bM x (by omega)
   have w4:=bM (x+1) (by omega)
   have w5:=bM (x+ -1) (by omega)
   try simp only [Int.add_zero]at he
   rcases he with⟨rfl,q|⟨q0,q⟩⟩|⟨rfl,q1,q2,k,hk,q0,q⟩
   ·have q':¬0≤x:=Int.not_le.2 q
    simp [q']at hE
    exact hE.symm
   ·have q':¬x<(t.length:Int):=Int.not_lt.2 q
    simp [q0,q']at hE
    exact hE.symm
   ·have q3:(0:Int)≤k:=by omega
    have q4:(k:Int)<t.length:=by omega
    have w6:=bM (k:Int) (by omega)
    have w7:=bM ((k:Int)+1) (by omega)
    have w8:=bM ((k:Int)+ -1) (by omega)
    simp [q1,q2,q3,q4,w3,w4,w5,w6,w7,w8,q0,hk,aQ hk,q]at hE
    first
     | exact hE.symm
     | (rw [q0];exact hE.symm)
theorem Jt (t:List Int)(i:Option Nat)(a:Nat)(r how:Int)(h:a≤t.length)(ht:t.length≤2000)(hw:0≤how∧how≤3):wM [.aM i (ints t),vI (a:Int),vI r,vI how] [] []=some ⟨vI (uH (jA t r how a)),[],[]⟩:=by
 rcases(by omega:how=0∨how=1∨how=2∨how=3)with rfl|rfl|rfl|rfl
 ·unfold jA
  rw [if_pos rfl]
  obtain⟨k1,k2,k3⟩:=cK (fun j=>decide (¬t.getD (a+1+j) 0=r)) (t.length-(a+1))
  generalize gM (fun j=>decide (¬t.getD (a+1+j) 0=r)) (t.length-(a+1))=k at*
  simp only
  refine Ws t i a r 0 1 0 h ht (.inl ⟨rfl,rfl,rfl⟩) k (fun j=>(a:Int)+1+j) _ (by simp) (fun j _=>by omega) (fun j _=>by omega) (fun j hj=>⟨by omega,by omega, .inr (.inr ⟨a+1+j,by omega,by omega,?_⟩)⟩) ?_
  ·have:=of_decide_eq_true (k2 j hj)
   rwa [getD_at (by omega)]at this
  ·by_cases q:a+1+k<t.length
   ·rw [if_pos q]
    refine .inr ⟨by simp only [uH];omega,by omega,by omega,a+1+k,q,by omega,?_⟩
    have:=of_decide_eq_false (k3.resolve_left (by omega))
    rwa [Classical.not_not,getD_at q]at this
   ·rw [if_neg q]
    exact .inl ⟨rfl, .inr ⟨by omega,by omega⟩⟩
 ·unfold jA
  rw [if_neg (by decide),if_pos rfl]
  obtain⟨k1,k2,k3⟩:=cK (fun j=>decide (¬t.getD (a-1-j) 0=r)) a
  generalize gM (fun j=>decide (¬t.getD (a-1-j) 0=r)) a=k at*
  simp only
  refine Ws t i a r 1 (-1) 0 h ht (.inr (.inl ⟨rfl,rfl,rfl⟩)) k (fun j=>(a:Int)+ -1-j) _ (by simp) (fun j _=>by omega) (fun j _=>by omega) (fun j hj=>⟨by omega,by omega, .inr (.inr ⟨a-1-j,by omega,by omega,?_⟩)⟩) ?_
  ·have:=of_decide_eq_true (k2 j hj)
   rwa [getD_at (by omega)]at this
  ·by_cases q:k<a
   ·rw [if_pos q]
    refine .inr ⟨by simp only [uH];omega,by omega,by omega,a-1-k,by omega,by omega,?_⟩
    have:=of_decide_eq_false (k3.resolve_left (by omega))
    rwa [Classical.not_not,getD_at (by omega)]at this
   ·rw [if_neg q]
    exact .inl ⟨rfl, .inl (by omega)⟩
 ·unfold jA
  rw [if_neg (by decide),if_neg (by decide),if_pos rfl]
  obtain⟨k1,k2,k3⟩:=cK (fun j=>decide (¬t.getD (a+2+j) 0=r)) (t.length-(a+2))
  generalize gM (fun j=>decide (¬t.getD (a+2+j) 0=r)) (t.length-(a+2))=k at*
  simp only
  by_cases q:a+2+k<t.length
  ·rw [if_pos q]
   refine Ws t i a r 2 1 1 h ht (.inr (.inr (.inl ⟨rfl,rfl,rfl⟩))) k (fun j=>(a:Int)+1+j) _ (by simp) (fun j _=>by omega) (fun j _=>by omega) (fun j hj=>⟨by omega,by omega, .inr (.inr ⟨a+2+j,by omega,by omega,?_⟩)⟩) (.inr ⟨by simp only [uH];omega,by omega,by omega,a+2+k,q,by omega,?_⟩)
   ·have:=of_decide_eq_true (k2 j hj)
    rwa [getD_at (by omega)]at this
   ·have:=of_decide_eq_false (k3.resolve_left (by omega))
    rwa [Classical.not_not,getD_at q]at this
  ·rw [if_neg q]
   refine Ws t i a r 2 1 1 h ht (.inr (.inr (.inl ⟨rfl,rfl,rfl⟩))) (t.length-(a+1)) (fun j=>(a:Int)+1+j) _ (by simp) (fun j _=>by omega) (fun j _=>by omega) (fun j hj=>⟨by omega,by omega,?_⟩) (.inl ⟨rfl, .inr ⟨by omega,by omega⟩⟩)
   by_cases c:a+2+j<t.length
   ·refine .inr (.inr ⟨a+2+j,c,by omega,?_⟩)
    have:=of_decide_eq_true (k2 j (by omega))
    rwa [getD_at c]at this
   ·exact .inr (.inl ⟨by omega,by omega⟩)
 ·unfold jA
  rw [if_neg (by decide),if_neg (by decide),if_neg (by decide),if_pos rfl]
  obtain⟨k1,k2,k3⟩:=cK (fun j=>decide (¬t.getD (a-2-j) 0=r)) (a-1)
  generalize gM (fun j=>decide (¬t.getD (a-2-j) 0=r)) (a-1)=k at*
  simp only
  by_cases q:k<a-1
  ·rw [if_pos q]
   refine Ws t i a r 3 (-1) (-1) h ht (.inr (.inr (.inr ⟨rfl,rfl,rfl⟩))) k (fun j=>(a:Int)+ -1-j) _ (by simp) (fun j _=>by omega) (fun j _=>by omega) (fun j hj=>⟨by omega,by omega, .inr (.inr ⟨a-2-j,by omega,by omega,?_⟩)⟩) (.inr ⟨by simp only [uH];omega,by omega,by omega,a-2-k,by omega,by omega,?_⟩)
   ·have:=of_decide_eq_true (k2 j hj)
    rwa [getD_at (by omega)]at this
   ·have:=of_decide_eq_false (k3.resolve_left (by omega))
    rwa [Classical.not_not,getD_at (by omega)]at this
  ·rw [if_neg q]
   refine Ws t i a r 3 (-1) (-1) h ht (.inr (.inr (.inr ⟨rfl,rfl,rfl⟩))) a (fun j=>(a:Int)+ -1-j) _ (by simp) (fun j _=>by omega) (fun j _=>by omega) (fun j hj=>⟨by omega,by omega,?_⟩) (.inl ⟨rfl, .inl (by omega)⟩)
   by_cases c:j<a-1
   ·refine .inr (.inr ⟨a-2-j,by omega,by omega,?_⟩)
    have:=of_decide_eq_true (k2 j (by omega))
    rwa [getD_at (by omega)]at this
   ·exact .inl (by omega)
abbrev mR (o:Option (Nat×Bool)):Cw:=match o with
 | some p=>⟨.fT [vI (p.1:Int),V.v (.bool p.2),V.v (.bool true)],[],[]⟩
 | none=>⟨.fT [vI 0,V.v (.bool false),V.v (.bool false)],[],[]⟩
section
variable (t:List Int) (i:Option Nat) (a n:Nat) (ha:a≤t.length) (ht:t.length≤2000) (hn:1≤n∧n≤999)
include ha ht hn
theorem UD:aT [.aM i (ints t),vI (a:Int),vI 104,vI (n:Int)] [] []=some ⟨.fT [vI (((a-n:Nat):Int)),V.v (.bool false),V.v (.bool true)],[],[]⟩:=by
 have m1:max 0 (min (a:Int) t.length)=a:=by omega
 have m2:max 1 (min (n:Int) 999)=n:=by omega
 have w:=bM ((a:Int)-n) (by omega)
 have m3:max ((a:Int)-n) 0=((a-n:Nat):Int):=by omega
 generalize hE:aT _ _ _=R
 simp [aT,func183,f183,fF,eT,m1,m2,w,m3]at hE
 exact hE.symm
theorem Qt:aT [.aM i (ints t),vI (a:Int),vI 108,vI (n:Int)] [] []=some ⟨.fT [vI (((min (a+n) t.length:Nat):Int)),V.v (.bool false),V.v (.bool true)],[],[]⟩:=by
 have m1:max 0 (min (a:Int) t.length)=a:=by omega
 have m2:max 1 (min (n:Int) 999)=n:=by omega
 have w:=bM ((a:Int)+n) (by omega)
 have m3:min ((a:Int)+n) t.length=((min (a+n) t.length:Nat):Int):=by omega
 generalize hE:aT _ _ _=R
 simp [aT,func183,f183,fF,eT,m1,m2,w,m3]at hE
 exact hE.symm
theorem Tv:aT [.aM i (ints t),vI (a:Int),vI 32,vI (n:Int)] [] []=some ⟨.fT [vI (((min (a+n) t.length:Nat):Int)),V.v (.bool false),V.v (.bool true)],[],[]⟩:=by
 have m1:max 0 (min (a:Int) t.length)=a:=by omega
 have m2:max 1 (min (n:Int) 999)=n:=by omega
 have w:=bM ((a:Int)+n) (by omega)
 have m3:min ((a:Int)+n) t.length=((min (a+n) t.length:Nat):Int):=by omega
 generalize hE:aT _ _ _=R
 simp [aT,func183,f183,fF,eT,m1,m2,w,m3]at hE
 exact hE.symm
theorem Qu:aT [.aM i (ints t),vI (a:Int),vI 119,vI (n:Int)] [] []=some ⟨.fT [vI (((dD (Gl t false) n a:Nat):Int)),V.v (.bool false),V.v (.bool true)],[],[]⟩:=by
 have m1:max 0 (min (a:Int) t.length)=a:=by omega
 have m2:max 1 (min (n:Int) 999)=n:=by omega
 have e2:=Dt t false n a ha ht hn.2
 have q:iq 119 65 90=false:=by decide
 generalize hE:aT _ _ _=R
 simp [aT,func183,f183,fF,eT,m1,m2,q,e2]at hE
 exact hE.symm
theorem Tw:aT [.aM i (ints t),vI (a:Int),vI 87,vI (n:Int)] [] []=some ⟨.fT [vI (((dD (Gl t true) n a:Nat):Int)),V.v (.bool false),V.v (.bool true)],[],[]⟩:=by
 have m1:max 0 (min (a:Int) t.length)=a:=by omega
 have m2:max 1 (min (n:Int) 999)=n:=by omega
 have e2:=Dt t true n a ha ht hn.2
 have q:iq 87 65 90=true:=by decide
 generalize hE:aT _ _ _=R
 simp [aT,func183,f183,fF,eT,m1,m2,q,e2]at hE
 exact hE.symm
theorem Tx:aT [.aM i (ints t),vI (a:Int),vI 98,vI (n:Int)] [] []=some ⟨.fT [vI (((dD (kV t false) n a:Nat):Int)),V.v (.bool false),V.v (.bool true)],[],[]⟩:=by
 have m1:max 0 (min (a:Int) t.length)=a:=by omega
 have m2:max 1 (min (n:Int) 999)=n:=by omega
 have e2:=Du t false n a ha ht hn.2
 have q:iq 98 65 90=false:=by decide
 generalize hE:aT _ _ _=R
 simp [aT,func183,f183,fF,eT,m1,m2,q,e2]at hE
 exact hE.symm
theorem Tz:aT [.aM i (ints t),vI (a:Int),vI 66,vI (n:Int)] [] []=some ⟨.fT [vI (((dD (kV t true) n a:Nat):Int)),V.v (.bool false),V.v (.bool true)],[],[]⟩:=by
 have m1:max 0 (min (a:Int) t.length)=a:=by omega
 have m2:max 1 (min (n:Int) 999)=n:=by omega
 have e2:=Du t true n a ha ht hn.2
 have q:iq 66 65 90=true:=by decide
 generalize hE:aT _ _ _=R
 simp [aT,func183,f183,fF,eT,m1,m2,q,e2]at hE
 exact hE.symm
theorem Qv:aT [.aM i (ints t),vI (a:Int),vI 101,vI (n:Int)] [] []=some ⟨.fT [vI (((dD (xQ t false) n a:Nat):Int)),V.v (.bool (decide (0<t.length))),V.v (.bool true)],[],[]⟩:=by
 have m1:max 0 (min (a:Int) t.length)=a:=by omega
 have m2:max 1 (min (n:Int) 999)=n:=by omega
 have e2:=Dv t false n a ha ht hn.2
 have q:iq 101 65 90=false:=by decide
 generalize hE:aT _ _ _=R
 simp [aT,func183,f183,fF,eT,m1,m2,q,e2]at hE
 exact hE.symm
theorem TA:aT [.aM i (ints t),vI (a:Int),vI 69,vI (n:Int)] [] []=some ⟨.fT [vI (((dD (xQ t true) n a:Nat):Int)),V.v (.bool (decide (0<t.length))),V.v (.bool true)],[],[]⟩:=by
 have m1:max 0 (min (a:Int) t.length)=a:=by omega
 have m2:max 1 (min (n:Int) 999)=n:=by omega
 have e2:=Dv t true n a ha ht hn.2
 have q:iq 69 65 90=true:=by decide
 generalize hE:aT _ _ _=R
 simp [aT,func183,f183,fF,eT,m1,m2,q,e2]at hE
 exact hE.symm
theorem TB:aT [.aM i (ints t),vI (a:Int),vI 48,vI (n:Int)] [] []=some ⟨.fT [vI 0,V.v (.bool false),V.v (.bool true)],[],[]⟩:=by
 have m1:max 0 (min (a:Int) t.length)=a:=by omega
 have m2:max 1 (min (n:Int) 999)=n:=by omega
 generalize hE:aT _ _ _=R
 simp [aT,func183,f183,fF,eT,m1,m2]at hE
 exact hE.symm
theorem TD:aT [.aM i (ints t),vI (a:Int),vI 36,vI (n:Int)] [] []=some ⟨.fT [vI (((t.length-1:Nat):Int)),V.v (.bool (decide (0<t.length))),V.v (.bool true)],[],[]⟩:=by
 have m1:max 0 (min (a:Int) t.length)=a:=by omega
 have m2:max 1 (min (n:Int) 999)=n:=by omega
 have w:=bM ((t.length:Int)-1) (by omega)
 have m3:max ((t.length:Int)-1) 0=((t.length-1:Nat):Int):=by omega
 generalize hE:aT _ _ _=R
 simp [aT,func183,f183,fF,eT,m1,m2,w,m3]at hE
 exact hE.symm
theorem Qw:aT [.aM i (ints t),vI (a:Int),vI 124,vI (n:Int)] [] []=some ⟨.fT [vI (((min (n-1) t.length:Nat):Int)),V.v (.bool false),V.v (.bool true)],[],[]⟩:=by
 have m1:max 0 (min (a:Int) t.length)=a:=by omega
 have m2:max 1 (min (n:Int) 999)=n:=by omega
 have w:=bM ((n:Int)-1) (by omega)
 have m3:min ((n:Int)-1) t.length=((min (n-1) t.length:Nat):Int):=by omega
 generalize hE:aT _ _ _=R
 simp [aT,func183,f183,fF,eT,m1,m2,w,m3]at hE
 exact hE.symm
theorem Ju:aT [.aM i (ints t),vI (a:Int),vI 94,vI (n:Int)] [] []=some ⟨.fT [vI (((Ak t:Nat):Int)),V.v (.bool false),V.v (.bool true)],[],[]⟩:=by
 have m1:max 0 (min (a:Int) t.length)=a:=by omega
 have m2:max 1 (min (n:Int) 999)=n:=by omega
 have hc:∀j (h:j<t.length),o7 [vI (t[j])] [] []=some ⟨vI (kM (t.getD j 0)),[],[]⟩:=fun j hj=>by rw [getD_at hj];exact Gp _
 unfold Ak
 obtain⟨k1,k2,k3⟩:=cK (fun j=>decide (kM (t.getD j 0)=0)) t.length
 generalize gM (fun j=>decide (kM (t.getD j 0)=0)) t.length=k at*
 generalize hcf:(fun j=>kM (t.getD j 0))=cf
 have SV:∀j,kM (t.getD j 0)=cf j:=fun j=>by rw [←hcf]
 simp only [SV]at hc k2 k3
 generalize hE:aT _ _ _=R
 simp [aT,func183,f183,fF,eT,m1,m2]at hE
 rw [aF (fun j=> .on ⟨[(13,V.v (.int .i64 ((j:Int)))),(11,V.v (.int .i64 ((t.length:Int)))),(4, .ref 4 0)],[(4,[.aM i (ints t)])],[],[]⟩) k ?_ ?_]at hE
 ·rcases k3 with q|q
  ·subst q
   simp at hE
   exact hE.symm
  ·have q':¬cf k=0:=of_decide_eq_false q
   by_cases hk:k<t.length
   ·have e2:=hc k hk
    simp [hk,aQ hk,e2,q']at hE
    exact hE.symm
   ·have hke:k=t.length:=by omega
    subst hke
    simp at hE
    exact hE.symm
 ·simp
 ·intro j hj
  have h1:j<t.length:=by omega
  have e2:=hc j h1
  have q:cf j=0:=of_decide_eq_true (k2 j hj)
  have hw:=bM ((j:Int)+1) (by omega)
  simp [h1,aQ h1,e2,q,hw]
theorem OU (r:Int)(h:gN t a r n=none):aT [.aM i (ints t),vI (a:Int),vI r,vI (n:Int)] [] []=some ⟨.fT [vI 0,V.v (.bool false),V.v (.bool false)],[],[]⟩:=by
 have key:¬r=104∧¬r=108∧¬r=32∧¬r=119∧¬r=87∧¬r=98∧¬r=66∧¬r=101∧¬r=69∧¬r=48∧¬r=94∧¬r=36∧¬r=124:=by
  unfold gN at h
  refine⟨?_,?_,?_,?_,?_,?_,?_,?_,?_,?_,?_,?_,?_⟩<;>(rintro rfl;simp at h)
 obtain⟨c1,c2,c3,c4,c5,c6,c7,c8,c9,c10,c11,c12,c13⟩:=key
 have m1:max 0 (min (a:Int) t.length)=a:=by omega
 have m2:max 1 (min (n:Int) 999)=n:=by omega
 generalize hE:aT _ _ _=R
 simp [aT,func183,f183,fF,eT,m1,m2,c1,c2,c3,c4,c5,c6,c7,c8,c9,c10,c11,c12,c13]at hE
 exact hE.symm
theorem Qg (r:Int):aT [.aM i (ints t),vI (a:Int),vI r,vI (n:Int)] [] []=some (mR (gN t a r n)):=by
 by_cases h:gN t a r n=none
 ·rw [h];exact OU t i a n ha ht hn r h
 unfold gN at h⊢
 by_cases aaH:r=104
 ·rw [if_pos aaH];subst aaH;exact UD t i a n ha ht hn
 rw [if_neg aaH]at h⊢
 by_cases X5:r=108∨r=32
 ·rw [if_pos X5]
  rcases X5 with rfl|rfl
  ·exact Qt t i a n ha ht hn
  ·exact Tv t i a n ha ht hn
 rw [if_neg X5]at h⊢
 by_cases c119:r=119∨r=87
 ·rw [if_pos c119]
  rcases c119 with rfl|rfl
  ·exact Qu t i a n ha ht hn
  ·exact Tw t i a n ha ht hn
 rw [if_neg c119]at h⊢
 by_cases X6:r=98∨r=66
 ·rw [if_pos X6]
  rcases X6 with rfl|rfl
  ·exact Tx t i a n ha ht hn
  ·exact Tz t i a n ha ht hn
 rw [if_neg X6]at h⊢
 by_cases Gy:r=101∨r=69
 ·rw [if_pos Gy]
  rcases Gy with rfl|rfl
  ·exact Qv t i a n ha ht hn
  ·exact TA t i a n ha ht hn
 rw [if_neg Gy]at h⊢
 by_cases c48:r=48
 ·rw [if_pos c48];subst c48;exact TB t i a n ha ht hn
 rw [if_neg c48]at h⊢
 by_cases c94:r=94
 ·rw [if_pos c94];subst c94;exact Ju t i a n ha ht hn
 rw [if_neg c94]at h⊢
 by_cases c36:r=36
 ·rw [if_pos c36];subst c36;exact TD t i a n ha ht hn
 rw [if_neg c36]at h⊢
 by_cases c124:r=124
 ·rw [if_pos c124];subst c124;exact Qw t i a n ha ht hn
 rw [if_neg c124]at h⊢
 exact absurd rfl h
end
theorem TF (t:List Int)(r how:Int):∀(m a:Nat),a≤t.length→(∃p,tN t r how m a=some p∧∃xs:Nat→Nat,xs 0=a∧xs m=p∧(∀j,j<m→jA t r how (xs j)=some (xs (j+1)))∧∀j,j≤m→xs j≤t.length)∨(tN t r how m a=none∧∃(N:Nat) (xs:Nat→Nat),N<m∧xs 0=a∧(∀j,j<N→jA t r how (xs j)=some (xs (j+1)))∧(∀j,j≤N→xs j≤t.length)∧jA t r how (xs N)=none):=by
 intro m
 induction m with
 | zero=>intro a ha;exact .inl ⟨a,rfl,fun _=>a,rfl,rfl,fun j hj=>by omega,fun _ _=>ha⟩
 | succ m ih=>
  intro a ha
  unfold tN
  cases hf:jA t r how a with
  | none=>exact .inr ⟨rfl,0,fun _=>a,by omega,rfl,fun j hj=>by omega,fun _ _=>ha,hf⟩
  | some b=>
   have hb:=Qb ha hf
   rcases ih b (by omega)with⟨p,h1,xs,x0,xm,xs1,xs2⟩|⟨h1,N,xs,hN,x0,xs1,xs2,xs3⟩
   ·refine .inl ⟨p,h1,fun j=>match j with|0=>a|j+1=>xs j,rfl,xm,fun j hj=>?_,fun j hj=>?_⟩
    ·cases j with
     | zero=>show jA t r how a=some (xs 0);rw [x0];exact hf
     | succ j=>exact xs1 j (by omega)
    ·cases j with
     | zero=>exact ha
     | succ j=>exact xs2 j (by omega)
   ·refine .inr ⟨h1,N+1,fun j=>match j with|0=>a|j+1=>xs j,by omega,rfl,fun j hj=>?_,fun j hj=>?_,xs3⟩
    ·cases j with
     | zero=>show jA t r how a=some (xs 0);rw [x0];exact hf
     | succ j=>exact xs1 j (by omega)
    ·cases j with
     | zero=>exact ha
     | succ j=>exact xs2 j (by omega)
theorem Wt (t:List Int)(i:Option Nat)(a n:Nat)(r how:Int)(ha:a≤t.length)(ht:t.length≤2000)(hn:1≤n∧n≤999)(hw:0≤how∧how≤3):Bq [.aM i (ints t),vI (a:Int),vI r,vI how,vI (n:Int)] [] []=some ⟨.fT [vI (uH (tN t r how n a)),V.v (.bool ((tN t r how n a).isSome))],[],[]⟩:=by
 have m1:max 0 (min (a:Int) t.length)=a:=by omega
 have m2:max 1 (min (n:Int) 999)=n:=by omega
 generalize hE:Bq _ _ _=R
 simp [Bq,func178,f178,fF,m1,m2]at hE
 rcases TF t r how n a ha with⟨p,h1,xs,x0,xm,xs1,xs2⟩|⟨h1,N,xs,hN,x0,xs1,xs2,xs3⟩
 ·rw [aF (fun j=> .on ⟨[(19,V.v (.int .i64 ((j:Int)))),(18,V.v (.int .i64 ((n:Int)))),(3,V.v (.int .i64 how)),(2,V.v (.int .i64 r)),(1,V.v (.int .i64 ((xs j:Int)))),(0, .aM i (ints t))],[],[],[]⟩) n ?_ ?_]at hE
  ·rw [h1]
   simp [xm]at hE
   exact hE.symm
  ·simp [x0]
  ·intro j hj
   have e2:=Jf t (some 0) (xs j) r how (xs2 j (by omega)) ht hw
   rw [xs1 j hj]at e2
   simp only [uH]at e2
   have hw2:=bM ((j:Int)+1) (by omega)
   have hn0:¬(xs (j+1):Int)<0:=by omega
   simp [hj,e2,hw2,hn0]
 ·rw [aF (fun j=> .on ⟨[(19,V.v (.int .i64 ((j:Int)))),(18,V.v (.int .i64 ((n:Int)))),(3,V.v (.int .i64 how)),(2,V.v (.int .i64 r)),(1,V.v (.int .i64 ((xs j:Int)))),(0, .aM i (ints t))],[],[],[]⟩) N ?_ ?_]at hE
  ·rw [h1]
   have e2:=Jf t (some 0) (xs N) r how (xs2 N (by omega)) ht hw
   rw [xs3]at e2
   simp only [uH]at e2
   simp [hN,e2]at hE
   exact hE.symm
  ·simp [x0]
  ·intro j hj
   have e2:=Jf t (some 0) (xs j) r how (xs2 j (by omega)) ht hw
   rw [xs1 j hj]at e2
   simp only [uH]at e2
   have hw2:=bM ((j:Int)+1) (by omega)
   have hn0:¬(xs (j+1):Int)<0:=by omega
   have hjn:j<n:=by omega
   simp [hjn,e2,hw2,hn0]
theorem ah5 (t:List Int)(i:Option Nat)(a b:Nat)(w:Bool)(ha:a≤t.length)(hb:b≤t.length)(ht:t.length≤2000):MR [.aM i (ints t),vI (a:Int),vI (b:Int),V.v (.bool w)] [] []=some ⟨.fT [vI (((min a b:Nat):Int)),vI (((xR t.length a b w:Nat):Int))],[],[]⟩:=by
 have m1:max 0 (min (a:Int) t.length)=a:=by omega
 have m2:max 0 (min (b:Int) t.length)=b:=by omega
 have m3:min (a:Int) b=((min a b:Nat):Int):=by omega
 have m4:max (a:Int) b=((max a b:Nat):Int):=by omega
 unfold xR
 generalize hE:MR _ _ _=R
 unfold MR at hE
 cases w
 ·rw [if_neg (by simp)]
  simp [func242,f242,fF,m1,m2,m3,m4]at hE
  exact hE.symm
 ·by_cases hc:max a b<t.length
  ·have w1:=bM (((max a b:Nat):Int)+1) (by omega)
   have hci:((max a b:Nat):Int)<t.length:=by omega
   rw [if_pos ⟨rfl,hc⟩]
   generalize max a b=M at*
   generalize min a b=m at*
   simp [func242,f242,fF,m1,m2,m3,m4,w1,hc,hci]at hE
   exact hE.symm
  ·have hci:¬((max a b:Nat):Int)<t.length:=by omega
   rw [if_neg (fun q=>hc q.2)]
   generalize max a b=M at*
   generalize min a b=m at*
   simp [func242,f242,fF,m1,m2,m3,m4,hc,hci]at hE
   exact hE.symm
theorem Wu (r:Int):IQ [vI r] [] []=some ⟨vI (iZ r),[],[]⟩:=by
 unfold IQ iZ
 by_cases c1:r=102
 ·subst c1;simp [func177,f177]
 by_cases c2:r=70
 ·subst c2;simp [func177,f177]
 by_cases c3:r=116
 ·subst c3;simp [func177,f177]
 by_cases c4:r=84
 ·subst c4;simp [func177,f177]
 simp [func177,f177,c1,c2,c3,c4]
theorem adi (t:List Int)(i:Option Nat)(a:Nat)(ha:a≤t.length)(ht:t.length≤2000)(r:Int)(f:Nat→Nat)
  (hr:(r=119∧f=Gl t false)∨(r=87∧f=Gl t true)∨(r=98∧f=kV t false)∨(r=66∧f=kV t true)∨(r=101∧f=xQ t false)∨(r=69∧f=xQ t true)):
  Cj [.aM i (ints t),vI (a:Int),vI r] [] []=some ⟨vI (((f a:Nat):Int)),[],[]⟩:=by
 have e1:=fun b=>aas t (some 0) a b ha ht
 have e2:=fun b=>KN t (some 0) a b ha ht
 have e3:=fun b=>XU t (some 0) a b ha ht
 unfold Cj
 rcases hr with⟨rfl,rfl⟩|⟨rfl,rfl⟩|⟨rfl,rfl⟩|⟨rfl,rfl⟩|⟨rfl,rfl⟩|⟨rfl,rfl⟩
 all_goals simp [func283,f283,e1,e2,e3]
section
variable (t:List Int) (i:Option Nat) (a n:Nat) (ha:a≤t.length) (ht:t.length≤2000) (hn:1≤n∧n≤999)
include ha ht hn
theorem nP (r:Int)(f:Nat→Nat)(w:Bool)(hf:∀a,a≤t.length→f a≤t.length)
  (hr:(r=119∧f=Gl t false)∨(r=87∧f=Gl t true)∨(r=98∧f=kV t false)∨(r=66∧f=kV t true)∨(r=101∧f=xQ t false)∨(r=69∧f=xQ t true)) (hw:w=(decide (r=101∨r=69)&&decide (0<t.length))):
  je [.aM i (ints t),vI (a:Int),vI r,vI (n:Int)] [] []=some ⟨.fT [vI (((dD f n a:Nat):Int)),V.v (.bool w),V.v (.bool true)],[],[]⟩:=by
 have e0:=dw (a:Int) t.length (by omega)
 rw [show max 0 (min (a:Int) t.length)=a by omega]at e0
 have e1:=Ac n hn
 have e2:∀a,a≤t.length→Cj [.aM (some 0) (ints t),vI (a:Int),vI r] [] []=some ⟨vI (((f a:Nat):Int)),[],[]⟩:=fun a ha=>adi t (some 0) a ha ht r f hr
 have hq:r=119∨r=87∨r=98∨r=66∨r=101∨r=69:=by
  rcases hr with h|h|h|h|h|h<;>simp [h.1]
 have hle:=rO hf
 clear hr
 generalize hE:je _ _ _=R
 unfold je at hE
 rcases hq with rfl|rfl|rfl|rfl|rfl|rfl
 all_goals
  simp [func266,f266,e0,e1]at hE
  first
   | (rw [aF (fun j=> .on ⟨[(12,V.v (.int .i64 ((j:Int)))),(3,V.v (.int .i64 ((n:Int)))),(2,V.v (.int .i64 119)),(1,V.v (.int .i64 (((dD f j a:Nat):Int)))),(0, .aM i (ints t))],[],[],[]⟩) n ?_ ?_]at hE;rotate_left;(· (simp [dD];done)))
   | (rw [aF (fun j=> .on ⟨[(12,V.v (.int .i64 ((j:Int)))),(3,V.v (.int .i64 ((n:Int)))),(2,V.v (.int .i64 87)),(1,V.v (.int .i64 (((dD f j a:Nat):Int)))),(0, .aM i (ints t))],[],[],[]⟩) n ?_ ?_]at hE;rotate_left;(· (simp [dD];done)))
   | (rw [aF (fun j=> .on ⟨[(12,V.v (.int .i64 ((j:Int)))),(3,V.v (.int .i64 ((n:Int)))),(2,V.v (.int .i64 98)),(1,V.v (.int .i64 (((dD f j a:Nat):Int)))),(0, .aM i (ints t))],[],[],[]⟩) n ?_ ?_]at hE;rotate_left;(· (simp [dD];done)))
   | (rw [aF (fun j=> .on ⟨[(12,V.v (.int .i64 ((j:Int)))),(3,V.v (.int .i64 ((n:Int)))),(2,V.v (.int .i64 66)),(1,V.v (.int .i64 (((dD f j a:Nat):Int)))),(0, .aM i (ints t))],[],[],[]⟩) n ?_ ?_]at hE;rotate_left;(· (simp [dD];done)))
   | (rw [aF (fun j=> .on ⟨[(12,V.v (.int .i64 ((j:Int)))),(3,V.v (.int .i64 ((n:Int)))),(2,V.v (.int .i64 101)),(1,V.v (.int .i64 (((dD f j a:Nat):Int)))),(0, .aM i (ints t))],[],[],[]⟩) n ?_ ?_]at hE;rotate_left;(· (simp [dD];done)))
   | (rw [aF (fun j=> .on ⟨[(12,V.v (.int .i64 ((j:Int)))),(3,V.v (.int .i64 ((n:Int)))),(2,V.v (.int .i64 69)),(1,V.v (.int .i64 (((dD f j a:Nat):Int)))),(0, .aM i (ints t))],[],[],[]⟩) n ?_ ?_]at hE;rotate_left;(· (simp [dD];done)))
  ·intro j hj
   have h2:=e2 _ (hle j a ha)
   have hw2:=bM ((j:Int)+1) (by omega)
   rw [pJ]
   generalize dD f j a=p at*
   simp [hj,h2,hw2]
  ·subst hw
   by_cases h0:0<t.length
   ·simp [h0]at hE
    simp [h0]
    exact hE.symm
   ·simp [h0]at hE
    simp [h0]
    exact hE.symm
theorem oM (r:Int)(x:Int)(w:Bool)(h:(r=104∧x=((a-n:Nat):Int)∧w=false)∨((r=108∨r=32)∧x=((min (a+n) t.length:Nat):Int)∧w=false)∨(r=48∧x=0∧w=false)∨(r=36∧x=((t.length-1:Nat):Int)∧w=decide (0<t.length))∨(r=124∧x=((min (n-1) t.length:Nat):Int)∧w=false)):
  je [.aM i (ints t),vI (a:Int),vI r,vI (n:Int)] [] []=some ⟨.fT [vI x,V.v (.bool w),V.v (.bool true)],[],[]⟩:=by
 have e0:=dw (a:Int) t.length (by omega)
 rw [show max 0 (min (a:Int) t.length)=a by omega]at e0
 have e1:=Ac n hn
 have w1:=bM ((a:Int)-n) (by omega)
 have w2:=bM ((a:Int)+n) (by omega)
 have w3:=bM ((t.length:Int)-1) (by omega)
 have w4:=bM ((n:Int)-1) (by omega)
 have f1:=dw ((a:Int)-n) t.length (by omega)
 rw [show max 0 (min ((a:Int)-n) t.length)=((a-n:Nat):Int) by omega]at f1
 have f2:=dw ((a:Int)+n) t.length (by omega)
 rw [show max 0 (min ((a:Int)+n) t.length)=((min (a+n) t.length:Nat):Int) by omega]at f2
 have f3:=dw ((t.length:Int)-1) t.length (by omega)
 rw [show max 0 (min ((t.length:Int)-1) t.length)=((t.length-1:Nat):Int) by omega]at f3
 have f4:=dw ((n:Int)-1) t.length (by omega)
 rw [show max 0 (min ((n:Int)-1) t.length)=((min (n-1) t.length:Nat):Int) by omega]at f4
 generalize ((a-n:Nat):Int)=y1 at*
 generalize ((min (a+n) t.length:Nat):Int)=y2 at*
 generalize ((t.length-1:Nat):Int)=y3 at*
 generalize ((min (n-1) t.length:Nat):Int)=y4 at*
 generalize hE:je _ _ _=R
 unfold je at hE
 rcases h with⟨rfl,rfl,rfl⟩|⟨rfl|rfl,rfl,rfl⟩|⟨rfl,rfl,rfl⟩|⟨rfl,rfl,rfl⟩|⟨rfl,rfl,rfl⟩
 all_goals
  simp [func266,f266,e0,e1,w1,w2,w3,w4,f1,f2,f3,f4]at hE
  exact hE.symm
theorem TG:je [.aM i (ints t),vI (a:Int),vI 94,vI (n:Int)] [] []=some ⟨.fT [vI (((Ak t:Nat):Int)),V.v (.bool false),V.v (.bool true)],[],[]⟩:=by
 have e0:=dw (a:Int) t.length (by omega)
 rw [show max 0 (min (a:Int) t.length)=a by omega]at e0
 have e1:=Ac n hn
 have hc:∀j (h:j<t.length),kK [vI (t[j])] [] []=some ⟨vI (kM (t.getD j 0)),[],[]⟩:=fun j hj=>by rw [getD_at hj];exact Gt _
 unfold Ak
 obtain⟨k1,k2,k3⟩:=cK (fun j=>decide (kM (t.getD j 0)=0)) t.length
 generalize gM (fun j=>decide (kM (t.getD j 0)=0)) t.length=k at*
 generalize hcf:(fun j=>kM (t.getD j 0))=cf
 have SV:∀j,kM (t.getD j 0)=cf j:=fun j=>by rw [←hcf]
 simp only [SV]at hc k2 k3
 generalize hE:je _ _ _=R
 simp [je,func266,f266,e0,e1]at hE
 rw [aF (fun j=> .on ⟨[(11,V.v (.int .i64 ((j:Int)))),(0, .aM i (ints t))],[],[],[]⟩) k ?_ ?_]at hE
 ·rcases k3 with q|q
  ·subst q
   simp at hE
   exact hE.symm
  ·have q':¬cf k=0:=of_decide_eq_false q
   by_cases hk:k<t.length
   ·have e2:=hc k hk
    simp [hk,aQ hk,e2,q']at hE
    exact hE.symm
   ·have hke:k=t.length:=by omega
    subst hke
    simp at hE
    exact hE.symm
 ·simp
 ·intro j hj
  have h1:j<t.length:=by omega
  have e2:=hc j h1
  have q:cf j=0:=of_decide_eq_true (k2 j hj)
  have hw:=bM ((j:Int)+1) (by omega)
  simp [h1,aQ h1,e2,q,hw]
theorem Dw (r:Int):je [.aM i (ints t),vI (a:Int),vI r,vI (n:Int)] [] []=some (mR (gN t a r n)):=by
 unfold gN
 by_cases aaH:r=104
 ·rw [if_pos aaH];exact oM t i a n ha ht hn _ _ _ (.inl ⟨aaH,rfl,rfl⟩)
 rw [if_neg aaH]
 by_cases X5:r=108∨r=32
 ·rw [if_pos X5];exact oM t i a n ha ht hn _ _ _ (.inr (.inl ⟨X5,rfl,rfl⟩))
 rw [if_neg X5]
 by_cases c119:r=119∨r=87
 ·rw [if_pos c119]
  rcases c119 with rfl|rfl
  ·exact nP t i a n ha ht hn 119 _ _ (fun a ha=>(QS ha).2) (.inl ⟨rfl,rfl⟩) (by simp)
  ·exact nP t i a n ha ht hn 87 _ _ (fun a ha=>(QS ha).2) (.inr (.inl ⟨rfl,rfl⟩)) (by simp)
 rw [if_neg c119]
 by_cases X6:r=98∨r=66
 ·rw [if_pos X6]
  rcases X6 with rfl|rfl
  ·exact nP t i a n ha ht hn 98 _ _ (fun a ha=>Nat.le_trans BH ha) (.inr (.inr (.inl ⟨rfl,rfl⟩))) (by simp)
  ·exact nP t i a n ha ht hn 66 _ _ (fun a ha=>Nat.le_trans BH ha) (.inr (.inr (.inr (.inl ⟨rfl,rfl⟩)))) (by simp)
 rw [if_neg X6]
 by_cases Gy:r=101∨r=69
 ·rw [if_pos Gy]
  rcases Gy with rfl|rfl
  ·exact nP t i a n ha ht hn 101 _ _ (fun a ha=>Nf.1) (.inr (.inr (.inr (.inr (.inl ⟨rfl,rfl⟩))))) (by simp)
  ·exact nP t i a n ha ht hn 69 _ _ (fun a ha=>Nf.1) (.inr (.inr (.inr (.inr (.inr ⟨rfl,rfl⟩))))) (by simp)
 rw [if_neg Gy]
 by_cases c48:r=48
 ·rw [if_pos c48];exact oM t i a n ha ht hn _ _ _ (.inr (.inr (.inl ⟨c48,rfl,rfl⟩)))
 rw [if_neg c48]
 by_cases c94:r=94
 ·rw [if_pos c94];subst c94;exact TG t i a n ha ht hn
 rw [if_neg c94]
 by_cases c36:r=36
 ·rw [if_pos c36];exact oM t i a n ha ht hn _ _ _ (.inr (.inr (.inr (.inl ⟨c36,rfl,rfl⟩))))
 rw [if_neg c36]
 by_cases c124:r=124
 ·rw [if_pos c124];exact oM t i a n ha ht hn _ _ _ (.inr (.inr (.inr (.inr ⟨c124,rfl,rfl⟩))))
 rw [if_neg c124]
 have e0:=dw (a:Int) t.length (by omega)
 rw [show max 0 (min (a:Int) t.length)=a by omega]at e0
 have e1:=Ac n hn
 have c1:¬r=108:=fun q=>X5 (.inl q)
 have c2:¬r=32:=fun q=>X5 (.inr q)
 have c3:¬r=119:=fun q=>c119 (.inl q)
 have c4:¬r=87:=fun q=>c119 (.inr q)
 have c5:¬r=98:=fun q=>X6 (.inl q)
 have c6:¬r=66:=fun q=>X6 (.inr q)
 have c7:¬r=101:=fun q=>Gy (.inl q)
 have c8:¬r=69:=fun q=>Gy (.inr q)
 generalize hE:je _ _ _=R
 simp [je,func266,f266,e0,e1,aaH,c1,c2,c3,c4,c5,c6,c7,c8,c48,c94,c36,c124]at hE
 exact hE.symm
end
theorem Wv (t:List Int)(i:Option Nat)(a n:Nat)(r how:Int)(ha:a≤t.length)(ht:t.length≤2000)(hn:1≤n∧n≤999)(hw:0≤how∧how≤3):Bu [.aM i (ints t),vI (a:Int),vI r,vI how,vI (n:Int)] [] []=some ⟨.fT [vI (uH (tN t r how n a)),V.v (.bool ((tN t r how n a).isSome))],[],[]⟩:=by
 have e0:=dw (a:Int) t.length (by omega)
 rw [show max 0 (min (a:Int) t.length)=a by omega]at e0
 have e1:=Ac n hn
 generalize hE:Bu _ _ _=R
 simp [Bu,func263,f263,e0,e1]at hE
 rcases TF t r how n a ha with⟨p,h1,xs,x0,xm,xs1,xs2⟩|⟨h1,N,xs,hN,x0,xs1,xs2,xs3⟩
 ·rw [aF (fun j=> .on ⟨[(12,V.v (.int .i64 ((j:Int)))),(4,V.v (.int .i64 ((n:Int)))),(3,V.v (.int .i64 how)),(2,V.v (.int .i64 r)),(1,V.v (.int .i64 ((xs j:Int)))),(0, .aM i (ints t))],[],[],[]⟩) n ?_ ?_]at hE
  ·rw [h1]
   simp [xm,e1]at hE
   exact hE.symm
  ·simp [x0]
  ·intro j hj
   have e2:=Jt t (some 0) (xs j) r how (xs2 j (by omega)) ht hw
   rw [xs1 j hj]at e2
   simp only [uH]at e2
   have hw2:=bM ((j:Int)+1) (by omega)
   have hn0:¬(xs (j+1):Int)<0:=by omega
   simp [e1,hj,e2,hw2,hn0]
 ·rw [aF (fun j=> .on ⟨[(12,V.v (.int .i64 ((j:Int)))),(4,V.v (.int .i64 ((n:Int)))),(3,V.v (.int .i64 how)),(2,V.v (.int .i64 r)),(1,V.v (.int .i64 ((xs j:Int)))),(0, .aM i (ints t))],[],[],[]⟩) N ?_ ?_]at hE
  ·rw [h1]
   have e2:=Jt t (some 0) (xs N) r how (xs2 N (by omega)) ht hw
   rw [xs3]at e2
   simp only [uH]at e2
   simp [e1,hN,e2]at hE
   exact hE.symm
  ·simp [x0]
  ·intro j hj
   have e2:=Jt t (some 0) (xs j) r how (xs2 j (by omega)) ht hw
   rw [xs1 j hj]at e2
   simp only [uH]at e2
   have hw2:=bM ((j:Int)+1) (by omega)
   have hn0:¬(xs (j+1):Int)<0:=by omega
   have hjn:j<n:=by omega
   simp [e1,hjn,e2,hw2,hn0]
section
variable (e:dF) (h:fV e)
include h
theorem adj (r:Int)(hy:eU [gL e] [] []=some (kR (mU e))):jg [gL e,vI r] [] []=some (kR (GN e r)):=by
 obtain⟨h1,h2,h3,h4⟩:=h.aS
 obtain⟨n1,n2,n3⟩:=fM e h
 have en:=iy e
 unfold GN
 by_cases cd:iq r 48 57=true
 ·rw [if_pos cd]
  have hr2:=bB.1 cd
  have hc:=h.cnt
  have e0:=gG e h
  have w1:=bM (e.bD*10) (by omega)
  have w2:=bM (e.bD*10+r) (by omega)
  have w3:=bM (e.bD*10+r-48) (by omega)
  have e1:=dw (e.bD*10+r-48) 999 (by omega)
  rw [show max 0 (min (e.bD*10+r-48) 999)=min (10*e.bD+r-48) 999 by omega]at e1
  unfold Jc
  clear h
  generalize hE:jg _ _ _=R
  simp [jg, -au,func105,f105,e0,e1,w1,w2,w3,hr2.1,hr2.2]at hE
  exact hE.symm
 rw [if_neg cd]
 have cd:iq r 48 57=false:=by simpa using cd
 have nd:¬48≤r∨(48≤r∧¬r≤57):=J7 cd
 by_cases c1:r=98
 ·rw [if_pos c1]
  subst c1
  have e1:=GQ e h (gQ e) (by omega)
  rw [n1]at e1
  have e2:=qD e h (dD (fE e.ak.av) (gQ e) (aS e))
  generalize dD (fE e.ak.av) (gQ e) (aS e)=u at*
  generalize zf e u=p at*
  clear h
  generalize hE:jg _ _ _=R
  simp [jg, -au,func105,f105,en,e1,e2]at hE
  exact hE.symm
 rw [if_neg c1]
 by_cases c2:r=102
 ·rw [if_pos c2]
  subst c2
  have e1:=D5 e h (gQ e) (by omega)
  rw [n1]at e1
  have e2:=qD e h (dD (gZ e.ak.av) (gQ e) (aS e))
  generalize dD (gZ e.ak.av) (gQ e) (aS e)=u at*
  generalize zf e u=p at*
  clear h
  generalize hE:jg _ _ _=R
  simp [jg, -au,func105,f105,en,e1,e2]at hE
  exact hE.symm
 rw [if_neg c2]
 by_cases c3:r=100
 ·rw [if_pos c3]
  subst c3
  have e1:=D5 e h (gQ e) (by omega)
  rw [n1]at e1
  have hu:=Ng (fun a ha=>wT (t:=e.ak.av) ha) (gQ e) (aS e) h2
  have e2:=Ct e h e.ak.At (dD (gZ e.ak.av) (gQ e) (aS e)) 1 (aS e) (dD (gZ e.ak.av) (gQ e) (aS e)) (by omega) (by omega) hu.1 (by omega)
  generalize dD (gZ e.ak.av) (gQ e) (aS e)=u at*
  generalize mq e (aS e) u 1=p at*
  clear h
  generalize hE:jg _ _ _=R
  simp [jg, -au,func105,f105,en,e1,e2]at hE
  exact hE.symm
 rw [if_neg c3]
 by_cases c4:r=121
 ·rw [if_pos c4]
  subst c4
  generalize mU e=p at*
  clear h
  generalize hE:jg _ _ _=R
  simp [jg, -au,func105,f105,en,hy]at hE
  exact hE.symm
 rw [if_neg c4]
 have cs:∀(r how:Int),(r=117∧how=1)∨(r=108∧how=0)∨(r=99∧how=2)→jg [gL e,vI r] [] []=some (kR (KJ e how)):=fun r how hr=>by
  have e1:=adf e h how (by omega)
  generalize KJ e how=p at*
  clear h
  generalize hE:jg _ _ _=R
  unfold jg at hE
  rcases hr with⟨rfl,rfl⟩|⟨rfl,rfl⟩|⟨rfl,rfl⟩<;>(simp [-au,func105,f105,en,e1]at hE;exact hE.symm)
 by_cases c5:r=117
 ·rw [if_pos c5];exact cs r 1 (.inl ⟨c5,rfl⟩)
 rw [if_neg c5]
 by_cases c6:r=108
 ·rw [if_pos c6];exact cs r 0 (.inr (.inl ⟨c6,rfl⟩))
 rw [if_neg c6]
 by_cases c7:r=99
 ·rw [if_pos c7];exact cs r 2 (.inr (.inr ⟨c7,rfl⟩))
 rw [if_neg c7]
 have e1:=jB e h
 generalize dI e=p at*
 clear h
 generalize hE:jg _ _ _=R
 unfold jg at hE
 rcases nd with d1|⟨d1,d2⟩
 ·simp [-au,func105,f105,en,e1,d1,c1,c2,c3,c4,c5,c6,c7]at hE
  exact hE.symm
 ·simp [-au,func105,f105,en,e1,d1,d2,c1,c2,c3,c4,c5,c6,c7]at hE
  exact hE.symm
end
section
variable (e:dF) (h:fV e) {f:Int} {l:List ByteArray} (hh:iQ f l)
include h hh
theorem adk:bY [gL e,aH f l,vI 97] [] []=some (kR (zf e 0)):=by
 obtain⟨h1,h2,h3,h4⟩:=h.aS
 obtain⟨n1,n2,n3⟩:=fM e h
 have en:=iy e
 have e1:=qD e h 0
 generalize zf e 0=p at*
 clear h hh
 generalize hE:bY _ _ _=R
 simp [bY, -au,func109,f109,en,e1]at hE
 exact hE.symm
theorem aaI:bY [gL e,aH f l,vI 101] [] []=some (kR (zf e e.ak.av.length)):=by
 obtain⟨h1,h2,h3,h4⟩:=h.aS
 obtain⟨n1,n2,n3⟩:=fM e h
 have en:=iy e
 have e1:=qD e h e.ak.av.length
 generalize zf e e.ak.av.length=p at*
 clear h hh
 generalize hE:bY _ _ _=R
 simp [bY, -au,func109,f109,en,e1]at hE
 exact hE.symm
theorem adl:bY [gL e,aH f l,vI 98] [] []=some (kR (zf e (e.ak.At-gQ e))):=by
 obtain⟨h1,h2,h3,h4⟩:=h.aS
 obtain⟨n1,n2,n3⟩:=fM e h
 have en:=iy e
 rw [n1]
 have e1:=qD e h (e.ak.At-max e.bD 1)
 have w1:=bM (e.ak.At-max e.bD 1) (by omega)
 generalize zf e (e.ak.At-max e.bD 1)=p at*
 clear h hh
 generalize hE:bY _ _ _=R
 simp [bY, -au,func109,f109,en,e1,w1]at hE
 exact hE.symm
theorem aaJ:bY [gL e,aH f l,vI 102] [] []=some (kR (zf e (e.ak.At+gQ e))):=by
 obtain⟨h1,h2,h3,h4⟩:=h.aS
 obtain⟨n1,n2,n3⟩:=fM e h
 have en:=iy e
 rw [n1]
 have e1:=qD e h (e.ak.At+max e.bD 1)
 have w1:=bM (e.ak.At+max e.bD 1) (by omega)
 generalize zf e (e.ak.At+max e.bD 1)=p at*
 clear h hh
 generalize hE:bY _ _ _=R
 simp [bY, -au,func109,f109,en,e1,w1]at hE
 exact hE.symm
theorem aaK:bY [gL e,aH f l,vI 112] [] []=some (kR (jP e f l (-1))):=by
 obtain⟨h1,h2,h3,h4⟩:=h.aS
 obtain⟨n1,n2,n3⟩:=fM e h
 have en:=iy e
 have e1:=uf e h hh (-1) (.inr rfl)
 generalize jP e f l (-1)=p at*
 clear h hh
 generalize hE:bY _ _ _=R
 simp [bY, -au,func109,f109,en,e1]at hE
 exact hE.symm
theorem aaL:bY [gL e,aH f l,vI 110] [] []=some (kR (jP e f l 1)):=by
 obtain⟨h1,h2,h3,h4⟩:=h.aS
 obtain⟨n1,n2,n3⟩:=fM e h
 have en:=iy e
 have e1:=uf e h hh 1 (.inl rfl)
 generalize jP e f l 1=p at*
 clear h hh
 generalize hE:bY _ _ _=R
 simp [bY, -au,func109,f109,en,e1]at hE
 exact hE.symm
theorem aaM:bY [gL e,aH f l,vI 107] [] []=some (kR (mq e (aS e) e.ak.av.length 1)):=by
 obtain⟨h1,h2,h3,h4⟩:=h.aS
 obtain⟨n1,n2,n3⟩:=fM e h
 have en:=iy e
 have e1:=Ct e h e.ak.At e.ak.av.length 1 (aS e) e.ak.av.length (by omega) (by omega) (by omega) (by omega)
 generalize mq e (aS e) e.ak.av.length 1=p at*
 clear h hh
 generalize hE:bY _ _ _=R
 simp [bY, -au,func109,f109,en,e1]at hE
 exact hE.symm
theorem aaN:bY [gL e,aH f l,vI 121] [] []=some (kR (Jb e)):=by
 obtain⟨h1,h2,h3,h4⟩:=h.aS
 obtain⟨n1,n2,n3⟩:=fM e h
 have en:=iy e
 have e1:=ade e h
 generalize Jb e=p at*
 clear h hh
 generalize hE:bY _ _ _=R
 simp [bY, -au,func109,f109,en,e1]at hE
 exact hE.symm
theorem adn (hu:iM [gL e] [] []=some (kR (nK e))):bY [gL e,aH f l,vI 95] [] []=some (kR (nK e)):=by
 obtain⟨h1,h2,h3,h4⟩:=h.aS
 obtain⟨n1,n2,n3⟩:=fM e h
 have en:=iy e
 generalize nK e=p at*
 clear h hh
 generalize hE:bY _ _ _=R
 simp [bY, -au,func109,f109,en,hu]at hE
 exact hE.symm
theorem aaO (hm:¬e.bQ=3):bY [gL e,aH f l,vI 114] [] []=some (kR (Cn e)):=by
 obtain⟨h1,h2,h3,h4⟩:=h.aS
 obtain⟨n1,n2,n3⟩:=fM e h
 have en:=iy e
 have e1:=Gx e h hm
 generalize Cn e=p at*
 clear h hh
 generalize hE:bY _ _ _=R
 simp [bY, -au,func109,f109,en,e1]at hE
 exact hE.symm
end
theorem TH (t:List Int)(a:Int)(h:bU t a=true)(h2:t.length<2∨a=0):tq [.agg [.aM (some 0) (ints t),vI a]] [] []=some ⟨.fT [.agg [.own 0,vI 0],V.v (.bool false)],[],[(0,[])]⟩:=by
 have e1:=vT t a h
 unfold tq
 by_cases c:t.length<2
 ·have l2:(t.length:Int)<2:=by omega
  simp [func198,f198,e1,l2]
 ·have l2:¬(t.length:Int)<2:=by omega
  have a0:a=0:=h2.resolve_left c
  subst a0
  simp [func198,f198,e1,l2]
section
variable (e:dF) (h:fV e) {f:Int} {l:List ByteArray} (hh:iQ f l)
include h hh
theorem aaP:bY [gL e,aH f l,vI 116] [] []=some (kR (SS e)):=by
 obtain⟨h1,h2,h3,h4⟩:=h.aS
 have en:=iy e
 unfold SS
 by_cases hc:e.ak.av.length<2∨e.ak.At=0
 ·rw [if_pos hc]
  have e1:=TH _ _ h.line hc
  have e2:=Bf e h [] 0 0 rfl (by omega)
  simp only [aZ]at e2
  generalize dI e=p at*
  clear h hh
  generalize hE:bY _ _ _=R
  simp [bY, -au,func109,f109,en,e1,e2]at hE
  exact hE.symm
 ·rw [if_neg hc]
  have hl:=Lu e.ak.av (min (aS e) (e.ak.av.length-1))
  have e1:=aat e.ak.av e.ak.At h.line (by omega) (min (aS e) (e.ak.av.length-1)) (by omega) (by omega)
  have e2:=qC e h (swapAt e.ak.av (min (aS e) (e.ak.av.length-1))) ((min (aS e) (e.ak.av.length-1):Nat)+1) 0 (gD (by omega) (Gj h4 (by omega)) (by omega) (by omega)) (by omega)
  unfold vY
  generalize swapAt e.ak.av (min (aS e) (e.ak.av.length-1))=u at*
  generalize ((min (aS e) (e.ak.av.length-1):Nat):Int)+1=b at*
  generalize sF e u b 0=p at*
  clear h hh
  generalize hE:bY _ _ _=R
  simp [bY, -au,func109,f109,en,e1,e2]at hE
  exact hE.symm
theorem ado (r:Int)(hm:¬e.bQ=3)(hu:r=95→iM [gL e] [] []=some (kR (nK e))):bY [gL e,aH f l,vI r] [] []=some (kR (KL e f l r)):=by
 unfold KL
 by_cases c97:r=97
 ·rw [if_pos c97];subst c97;exact adk e h hh
 rw [if_neg c97]
 by_cases Gy:r=101
 ·rw [if_pos Gy];subst Gy;exact aaI e h hh
 rw [if_neg Gy]
 by_cases X6:r=98
 ·rw [if_pos X6];subst X6;exact adl e h hh
 rw [if_neg X6]
 by_cases X7:r=102
 ·rw [if_pos X7];subst X7;exact aaJ e h hh
 rw [if_neg X7]
 by_cases Kr:r=112
 ·rw [if_pos Kr];subst Kr;exact aaK e h hh
 rw [if_neg Kr]
 by_cases X8:r=110
 ·rw [if_pos X8];subst X8;exact aaL e h hh
 rw [if_neg X8]
 by_cases c107:r=107
 ·rw [if_pos c107];subst c107;exact aaM e h hh
 rw [if_neg c107]
 by_cases X9:r=121
 ·rw [if_pos X9];subst X9;exact aaN e h hh
 rw [if_neg X9]
 by_cases c116:r=116
 ·rw [if_pos c116];subst c116;exact aaP e h hh
 rw [if_neg c116]
 by_cases c95:r=95
 ·rw [if_pos c95];subst c95;exact adn e h hh (hu rfl)
 rw [if_neg c95]
 by_cases Kt:r=114
 ·rw [if_pos Kt];subst Kt;exact aaO e h hh hm
 rw [if_neg Kt]
 have en:=iy e
 have e1:=jB e h
 generalize dI e=p at*
 clear h hh
 generalize hE:bY _ _ _=R
 simp [bY, -au,func109,f109,en,e1,c97,Gy,X6,X7,Kr,X8,c107,X9,c116,c95,Kt]at hE
 exact hE.symm
end
section
variable (e:dF) (h:fV e) {f:Int} {l:List ByteArray} (hh:iQ f l)
include h hh
theorem aaQ (k r:Int)(hk:jk k r=true)(hm:e.bQ=0)(hy:eU [gL e] [] []=some (kR (mU e)))(hu:k=2→r=95→iM [gL e] [] []=some (kR (nK e))):iH [gL e,aH f l,aK k r] [] []=some (kR (DY e f l k r)):=by
 obtain⟨h1,h2,h3,h4⟩:=h.aS
 obtain⟨n1,n2,n3⟩:=fM e h
 have ea:=tZ e (fA.2 h)
 have eb:=uE f l hh
 have ec:=rA k r
 rw [hk]at ec
 have e2:=Js e h hh k r hk (.inl hm)
 have en:=iy e
 unfold DY
 cases hp:pO e f l k r with
 | some p=>
  rw [hp]at e2
  simp only
  clear h hh
  generalize hE:iH _ _ _=R
  unfold iH at hE
  simp only [gL,gO,hO,hm]at ea e2 hE
  simp [-au,func38,f38,ea,eb,ec,e2]at hE
  exact hE.symm
 | none=>
  rw [hp]at e2
  simp only [kRo,Ji,vC,aZ,show aC []= []from rfl,show aG []= []from rfl]at e2
  simp only
  by_cases c3:k=3
  ·rw [if_pos c3]
   subst c3
   have e3:=adj e h r hy
   generalize GN e r=p at*
   clear h hh
   generalize hE:iH _ _ _=R
   unfold iH at hE
   simp only [gL,gO,hO,hm]at ea e2 e3 hE
   simp [-au,func38,f38,ea,eb,ec,e2,e3]at hE
   exact hE.symm
  rw [if_neg c3]
  by_cases c15:k=15
  ·rw [if_pos c15]
   subst c15
   have e3:=GQ e h (gQ e) (by omega)
   rw [n1]at e3
   have hd:=Gr (f:=fE e.ak.av) (fun _=>zZ) (gQ e) (aS e)
   have e4:=Ct e h (dD (fE e.ak.av) (gQ e) (aS e)) e.ak.At 2 (dD (fE e.ak.av) (gQ e) (aS e)) (aS e) (by omega) (by omega) hd (by omega)
   generalize mq e (dD (fE e.ak.av) (gQ e) (aS e)) (aS e) 2=p at*
   generalize dD (fE e.ak.av) (gQ e) (aS e)=u at*
   clear h hh
   generalize hE:iH _ _ _=R
   unfold iH at hE
   simp only [gL,gO,hO,hm]at ea e2 e3 e4 en hE
   simp [-au,func38,f38,ea,eb,ec,e2,e3,e4,en]at hE
   exact hE.symm
  rw [if_neg c15]
  by_cases c2:k=2
  ·rw [if_pos c2]
   subst c2
   have e3:=ado e h hh r (by omega) (hu rfl)
   generalize KL e f l r=p at*
   clear h hh
   generalize hE:iH _ _ _=R
   unfold iH at hE
   simp only [gL,gO,hO,hm]at ea e2 e3 hE
   simp [-au,func38,f38,ea,eb,ec,e2,e3]at hE
   exact hE.symm
  rw [if_neg c2]
  have e3:=jB e h
  generalize dI e=p at*
  clear h hh
  generalize hE:iH _ _ _=R
  unfold iH at hE
  simp only [gL,gO,hO,hm]at ea e2 e3 hE
  simp [-au,func38,f38,ea,eb,ec,e2,e3,c2,c3,c15]at hE
  exact hE.symm
end
section
variable (e:dF) (h:fV e) (hm:e.bQ=2)
include h hm
theorem afW (f u:Nat)(h1:f≤u)(h2:u≤e.ak.av.length):EA [gL e,vI (f:Int),vI (u:Int)] [] []=some ⟨V.v (.bool true),[],[]⟩:=by
 have e3:=Cq e.ak.av e.ak.At h.line f u h1 h2
 generalize hE:EA _ _ _=R
 simp [EA, -au,func269,f269,e3]at hE
 exact hE.symm
theorem xY (a:Nat)(ha:a≤e.ak.av.length):lX [gL e,vI (a:Int)] [] []=some (kR (oL e a,0)):=by
 obtain⟨h1,h2,h3,h4⟩:=h.aS
 have e1:=qD e h a
 have e2:=dw (a:Int) e.ak.av.length (by omega)
 have hq:max 0 (min (a:Int) e.ak.av.length)=a:=by omega
 rw [hq]at e2
 unfold zf vY SQ at e1
 rw [hq]at e1
 unfold Proofs.YtlpdjhiggpblcaaGreat.oL
 simp only [sF,sj]at e1⊢
 generalize rZ e e.ak.av 0=ul at*
 generalize jl e.bQ e.ak.av a=ia at*
 clear h
 generalize hE:lX _ _ _=R
 simp [lX, -au,func270,f270,e1,e2]at hE
 exact hE.symm
end
section
variable (e:dF) (h:fV e) (hm:e.bQ=2)
include h hm
theorem uI (op:Int)(hop:opC op=true)(f u:Nat)(h1:f≤u)(h2:u≤e.ak.av.length):iY [gL e,vI op,vI (f:Int),vI (u:Int)] [] []=some (kR (iR e op f u)):=by
 obtain⟨a1,a2,a3,a4⟩:=h.aS
 have ea:=tZ e (fA.2 h)
 have ec:=afW e h hm f u h1 h2
 have hq:op=100∨op=99∨op=121:=by simp only [opC,Bool.or_eq_true,beq_iff_eq]at hop;omega
 unfold iR
 by_cases hfu:f=u
 ·rw [if_pos hfu]
  subst hfu
  by_cases hc:op=99
  ·rw [if_pos hc]
   subst hc
   have e1:=xY e h hm f h2
   generalize oL e f=p at*
   clear h
   generalize hE:iY _ _ _=R
   unfold iY at hE
   simp only [gL,gO,hO,hm]at ea ec e1 hE
   simp [-au,func207,f207,ea,ec,e1]at hE
   exact hE.symm
  ·rw [if_neg hc]
   have e1:=jB e h
   generalize dI e=p at*
   clear h
   generalize hE:iY _ _ _=R
   unfold iY at hE
   simp only [gL,gO,hO,hm]at ea ec e1 hE
   rcases hq with rfl|rfl|rfl
   ·simp [-au,func207,f207,ea,ec,e1]at hE
    exact hE.symm
   ·exact absurd rfl hc
   ·simp [-au,func207,f207,ea,ec,e1]at hE
    exact hE.symm
 rw [if_neg hfu]
 have hfi:¬(f:Int)=u:=by omega
 have e1:=Cq e.ak.av e.ak.At h.line f u h1 h2
 obtain⟨c1,c2,c3⟩:=tX h.line h1 h2
 have hgo:=Jg h.line (f:=f) (u:=u)
 have e2:=gG e h
 have e3:=Ta e.aL.aA ((e.ak.av.drop f).take (u-f)) 0 h.ring hgo (by omega)
 have hr:=Gi h.ring hgo 0
 have h':=h.Nh hr
 by_cases hy:op=121
 ·rw [if_pos hy]
  subst hy
  have e4:=qD _ h' f
  unfold zf at e4
  rw [show SQ (f:Int) e.ak.av.length=f from by unfold SQ;omega]at e4
  generalize (e.ak.av.drop f).take (u-f)=gone at*
  generalize nV e.aL.aA gone 0=rg at*
  generalize vY {e with aL:=⟨rg⟩} e.ak.av f=p at*
  generalize e.ak.av.take f++e.ak.av.drop u=X at*
  clear h h' hr hgo
  generalize hE:iY _ _ _=R
  unfold iY at hE
  simp only [gL,gO,hO,hm]at ea ec e2 e4 hE
  simp [-au,func207,f207,ea,ec,e1,e2,e3,e4,hfi]at hE
  exact hE.symm
 rw [if_neg hy]
 unfold nW at c1 c3⊢
 have e4:=OJ (e.ak.av.take f++e.ak.av.drop u) (cutAt e.ak.At f u) f c1
 rw [show max 0 (min (f:Int) (e.ak.av.take f++e.ak.av.drop u).length)=f by have:=(bS c3).2.2.2;omega]at e4
 have e5:=qC _ h' (e.ak.av.take f++e.ak.av.drop u) f 0 c3 (by omega)
 generalize (e.ak.av.drop f).take (u-f)=gone at*
 generalize nV e.aL.aA gone 0=rg at*
 generalize e.ak.av.take f++e.ak.av.drop u=X at*
 unfold vY
 simp only [sF,sj]at e5⊢
 generalize rZ {e with aL:=⟨rg⟩} X 0=ul at*
 generalize jl e.bQ X f=ia at*
 clear h h' hr hgo
 generalize hE:iY _ _ _=R
 unfold iY at hE
 by_cases hc:op=99
 ·rw [if_pos hc]
  subst hc
  simp only [gL,gO,hO,hm]at ea ec e2 e5 hE
  simp [-au,func207,f207,ea,ec,e1,e2,e3,e4,e5,hfi]at hE
  exact hE.symm
 ·rw [if_neg hc]
  have anj:op=100:=by omega
  subst anj
  simp only [gL,gO,hO,hm]at ea ec e2 e5 hE
  simp [-au,func207,f207,ea,ec,e1,e2,e3,e4,e5,hfi]at hE
  simp only [kR,gL,gO,hO,hm]
  exact hE.symm
end
section
variable (e:dF) (h:fV e)
include h
theorem ajs:FT [gL e] [] []=some (kR (Jb e)):=by
 have e1:o8 [.agg [.aM (some 0) (aC e.aL.aA)]] [] []=some ⟨.own 0,[],[(0,ints (bE e.aL.aA))]⟩:=Gh e.aL.aA h.ring
 obtain⟨t1,t2⟩:=xW h.ring
 unfold Jb
 by_cases hc:bE e.aL.aA= []
 ·rw [if_pos hc]
  have e2:=l5 e h
  rw [hc]at e1
  simp only [aZ]at e1
  generalize dI e=p at*
  generalize hE:FT _ _ _=R
  simp [FT, -au,func167,f167,e1,e2]at hE
  exact hE.symm
 ·rw [if_neg hc]
  have e2:=Wp e h (bE e.aL.aA) 3 t1 (by omega)
  generalize Cy e (bE e.aL.aA) 3=p at*
  generalize bE e.aL.aA=u at*
  generalize hE:FT _ _ _=R
  simp [FT, -au,func167,f167,e1,e2,hc]at hE
  exact hE.symm
theorem afX (i:Option Nat):Bp [.aM i (ints e.ak.av),vI e.ak.At] [] []=some ⟨vI (((gZ e.ak.av (aS e):Nat):Int)),[],[]⟩:=by
 obtain⟨h1,h2,h3,h4⟩:=h.aS
 rw [h1]
 exact Wo _ _ _ h2 (by omega)
theorem Ya (r how:Int)(hr:(r=117∧how=1)∨(r=108∧how=0)∨(r=99∧how=2)):fG [gL e,vI r] [] []=some (kR (KJ e how)):=by
 obtain⟨h1,h2,h3,h4⟩:=h.aS
 have hw:=wT h2
 have e1:=afX e h (some 0)
 have e2:=aam e.ak.av e.ak.At h.line (aS e) (gZ e.ak.av (aS e)) hw.1 hw.2 how (by omega)
 rw [←h1]at e2
 have hl:=tL e.ak.av (aS e) how (gZ e.ak.av (aS e)-aS e)
 have e3:=Jj e h (jN e.ak.av (aS e) how (gZ e.ak.av (aS e)-aS e)).1 (gZ e.ak.av (aS e)) (gD (by omega) (Bd h4 _ _ _) (by omega) (by omega))
 unfold KJ
 generalize (jN e.ak.av (aS e) how (gZ e.ak.av (aS e)-aS e)).1=u at*
 generalize gZ e.ak.av (aS e)=b at*
 generalize vY e u b=p at*
 have d1:iq 117 48 57=false:=by decide
 have d2:iq 99 48 57=false:=by decide
 have d3:iq 108 48 57=false:=by decide
 clear h h2 h3 h4 hw hl
 generalize hE:fG _ _ _=R
 unfold fG at hE
 rcases hr with⟨rfl,rfl⟩|⟨rfl,rfl⟩|⟨rfl,rfl⟩
 ·simp [func90,f90,lN,d1,e1,e2,e3]at hE
  exact hE.symm
 ·simp [func90,f90,lN,d3,e1,e2,e3]at hE
  exact hE.symm
 ·simp [func90,f90,lN,d2,e1,e2,e3]at hE
  exact hE.symm
theorem ajt:∀(f:Int) (l:List ByteArray),bR [gL e,aH f l,vI 116] [] []=some (kR (SS e)):=fun f l=>by
 obtain⟨h1,h2,h3,h4⟩:=h.aS
 unfold SS
 by_cases hc:e.ak.av.length<2∨e.ak.At=0
 ·rw [if_pos hc]
  exact Nk e (NM.of (fA.2 h)) f l (SN _ _ h.line hc)
 ·rw [if_neg hc]
  have hl:=Lu e.ak.av (min (aS e) (e.ak.av.length-1))
  have e1:=aan e.ak.av e.ak.At h.line (by omega) (min (aS e) (e.ak.av.length-1)) (by omega) (by omega)
  have e2:=Jj e h (swapAt e.ak.av (min (aS e) (e.ak.av.length-1))) ((min (aS e) (e.ak.av.length-1):Nat)+1) (gD (by omega) (Gj h4 (by omega)) (by omega) (by omega))
  exact Ti e _ f _ l _ _ e1 e2
theorem aeH:zo [gL e] [] []=some (kR (nK e)):=by
 unfold nK
 by_cases h0:e.fD.bT= []
 ·have:e.fD.bT.getLast?=none:=by rw [h0];rfl
  rw [this]
  exact acU e (fA.2 h) h0
 ·rw [List.getLast?_eq_some_getLast h0]
  exact ajk e (fA.2 h) h0
theorem Yb:FU [gL e] [] []=some (kR (Cn e)):=by
 have e1:=ze e (NM.of (fA.2 h)) 0
 have e2:=j4 e.ak.av (some 0) e.ak.At (by have:=(bS h.line).1;omega)
 generalize hE:FU _ _ _=R
 simp [FU,func170,f170,e1,e2]at hE
 exact hE.symm
theorem ah6 (r:Int)(hr:iq r 48 57=true):fG [gL e,vI r] [] []=some (kR (Jc e r)):=by
 have hr2:=bB.1 hr
 have hc:=h.cnt
 have e0:=eP e h
 have w1:=bM (10*e.bD) (by omega)
 have w2:=bM (10*e.bD+r) (by omega)
 have w3:=bM (10*e.bD+r-48) (by omega)
 unfold Jc
 generalize hE:fG _ _ _=R
 simp [fG,func90,f90,lN,hr,e0,w1,w2,w3]at hE
 exact hE.symm
theorem aju (r:Int)(hr:¬r=121):fG [gL e,vI r] [] []=some (kR (GN e r)):=by
 obtain⟨h1,h2,h3,h4⟩:=h.aS
 obtain⟨n1,n2,n3⟩:=fM e h
 unfold GN
 by_cases cd:iq r 48 57=true
 ·rw [if_pos cd];exact ah6 e h r cd
 rw [if_neg cd]
 have cd:iq r 48 57=false:=by simpa using cd
 by_cases c1:r=98
 ·rw [if_pos c1]
  subst c1
  have e1:=LB e.ak.av (gQ e) (aS e) h2 (by omega) n3
  rw [n1,←h1]at e1
  have e2:=zh e h (dD (fE e.ak.av) (gQ e) (aS e))
  have e3:=vo e.ak.av (some 0) e.ak.At (dD (fE e.ak.av) (gQ e) (aS e)) (by omega)
  generalize dD (fE e.ak.av) (gQ e) (aS e)=u at*
  generalize zf e u=p at*
  clear h h2 h3 h4
  generalize hE:fG _ _ _=R
  simp [fG,func90,f90,lN,cd,e1,e2,e3,show List.range' 0 1= [0]from rfl]at hE
  exact hE.symm
 rw [if_neg c1]
 by_cases c2:r=102
 ·rw [if_pos c2]
  subst c2
  have e1:=Cu e.ak.av (gQ e) (aS e) h2 (by omega) n3
  rw [n1,←h1]at e1
  have e2:=zh e h (dD (gZ e.ak.av) (gQ e) (aS e))
  have e3:=vo e.ak.av (some 0) e.ak.At (dD (gZ e.ak.av) (gQ e) (aS e)) (by omega)
  generalize dD (gZ e.ak.av) (gQ e) (aS e)=u at*
  generalize zf e u=p at*
  clear h h2 h3 h4
  generalize hE:fG _ _ _=R
  simp [fG,func90,f90,lN,cd,e1,e2,e3,show List.range' 0 1= [0]from rfl]at hE
  exact hE.symm
 rw [if_neg c2]
 by_cases c3:r=100
 ·rw [if_pos c3]
  subst c3
  have e1:=Cu e.ak.av (gQ e) (aS e) h2 (by omega) n3
  have hu:=Ng (fun a ha=>wT (t:=e.ak.av) ha) (gQ e) (aS e) h2
  have e2:=Jr e h e.ak.At (dD (gZ e.ak.av) (gQ e) (aS e)) (aS e) (dD (gZ e.ak.av) (gQ e) (aS e)) 1 h1 rfl (by omega) hu.1 hu.2
  rw [n1,←h1]at e1
  generalize dD (gZ e.ak.av) (gQ e) (aS e)=u at*
  generalize mq e (aS e) u 1=p at*
  clear h h2 h3 h4 hu
  generalize hE:fG _ _ _=R
  simp [fG,func90,f90,lN,cd,e1,e2,show List.range' 0 1= [0]from rfl]at hE
  exact hE.symm
 rw [if_neg c3,if_neg hr]
 by_cases c4:r=117
 ·rw [if_pos c4];exact Ya e h r 1 (.inl ⟨c4,rfl⟩)
 rw [if_neg c4]
 by_cases c5:r=108
 ·rw [if_pos c5];exact Ya e h r 0 (.inr (.inl ⟨c5,rfl⟩))
 rw [if_neg c5]
 by_cases c6:r=99
 ·rw [if_pos c6];exact Ya e h r 2 (.inr (.inr ⟨c6,rfl⟩))
 rw [if_neg c6]
 have e1:=l5 e h
 generalize dI e=p at*
 generalize hE:fG _ _ _=R
 simp [fG,func90,f90,lN,cd,e1,c1,c2,c3,c4,c5,c6,hr]at hE
 exact hE.symm
end
theorem EK (t:List Int)(i:Option Nat)(a:Int)(b:Nat)(h:t.length≤1000000)(hb:b≤t.length):qQ [.agg [.aM i (ints t),vI a],vI (b:Int)] [] []=some ⟨.agg [.own 0,vI (b:Int)],[],[(0,ints t)]⟩:=by
 have e1:=vo t i a b h
 rw [show max 0 (min (b:Int) t.length)=b from by omega]at e1
 exact e1
section
variable (e:dF) (h:fV e) (hm:e.bQ=2)
include h hm
theorem uJ (op:Int)(hop:opC op=true)(f u:Nat)(h1:f≤u)(h2:u≤e.ak.av.length):lJ [gL e,vI op,vI (f:Int),vI (u:Int)] [] []=some (kR (iR e op f u)):=by
 obtain⟨a1,a2,a3,a4⟩:=h.aS
 unfold iR
 by_cases hfu:f=u
 ·rw [if_pos hfu]
  subst hfu
  by_cases hc:op=99
  ·rw [if_pos hc]
   subst hc
   have e1:=EK e.ak.av (some 0) e.ak.At f (by omega) h2
   have e2:=OM e h e.ak.av f 0 (h.Lx h2)
   have e3:=OG (sF e e.ak.av f 0) f
   unfold Proofs.YtlpdjhiggpblcaaGreat.oL
   simp only [sF,sj]at e2 e3⊢
   generalize rZ e e.ak.av 0=ul at*
   generalize jl e.bQ e.ak.av f=ia at*
   clear h
   generalize hE:lJ _ _ _=R
   simp [lJ, -au,func181,f181,e1,e2,e3]at hE
   exact hE.symm
  ·rw [if_neg hc]
   have e1:=l5 e h
   generalize dI e=p at*
   generalize hE:lJ _ _ _=R
   simp [lJ, -au,func181,f181,e1,hc]at hE
   exact hE.symm
 rw [if_neg hfu]
 have hfi:¬(f:Int)=u:=by omega
 have e1:=Cm e.ak.av e.ak.At h.line f u (by omega) h2
 obtain⟨c1,c2,c3⟩:=tX h.line h1 h2
 have hgo:=Jg h.line (f:=f) (u:=u)
 have e2:=eP e h
 have e3:=SK e.aL.aA ((e.ak.av.drop f).take (u-f)) 0 h.ring hgo (by omega)
 have hr:=Gi h.ring hgo 0
 have h':=h.Nh hr
 have hcl:=(bS c3).1
 unfold nW at c3 hcl⊢
 by_cases hy:op=121
 ·rw [if_pos hy]
  subst hy
  have e4:=EK e.ak.av (some 0) e.ak.At f (by omega) (by omega)
  have e5:=Jj _ h' e.ak.av f (h.Lx (by omega))
  generalize (e.ak.av.drop f).take (u-f)=gone at*
  generalize nV e.aL.aA gone 0=rg at*
  generalize vY {e with aL:=⟨rg⟩} e.ak.av f=p at*
  generalize e.ak.av.take f++e.ak.av.drop u=X at*
  clear h h' hr hgo
  generalize hE:lJ _ _ _=R
  simp [lJ, -au,func181,f181,e1,e2,e3,e4,e5,hfi]at hE
  exact hE.symm
 rw [if_neg hy]
 have e4:=EK (e.ak.av.take f++e.ak.av.drop u) (some 0) (cutAt e.ak.At f u) f (by omega) (by have:=(bS c3).2.2.2;omega)
 by_cases hc:op=99
 ·rw [if_pos hc]
  subst hc
  have e5:=OM _ h' (e.ak.av.take f++e.ak.av.drop u) f 0 c3
  generalize (e.ak.av.drop f).take (u-f)=gone at*
  generalize nV e.aL.aA gone 0=rg at*
  generalize e.ak.av.take f++e.ak.av.drop u=X at*
  have e6:=OG (sF {e with aL:=⟨rg⟩} X f 0) f
  simp only [sF,sj]at e5 e6⊢
  generalize rZ {e with aL:=⟨rg⟩} X 0=ul at*
  generalize jl e.bQ X f=ia at*
  clear h h' hr hgo
  generalize hE:lJ _ _ _=R
  simp [lJ, -au,func181,f181,e1,e2,e3,e4,e5,e6,hfi]at hE
  exact hE.symm
 ·rw [if_neg hc]
  have e5:=OM _ h' (e.ak.av.take f++e.ak.av.drop u) f 0 c3
  unfold vY
  generalize (e.ak.av.drop f).take (u-f)=gone at*
  generalize nV e.aL.aA gone 0=rg at*
  generalize e.ak.av.take f++e.ak.av.drop u=X at*
  generalize sF {e with aL:=⟨rg⟩} X f 0=p at*
  clear h h' hr hgo
  generalize hE:lJ _ _ _=R
  simp [lJ, -au,func181,f181,e1,e2,e3,e4,e5,hfi,hy,hc]at hE
  exact hE.symm
theorem QT (u:Nat)(w:Bool)(hu:u≤e.ak.av.length):AV [gL e,vI (u:Int),V.v (.bool w)] [] []=some (kR (tT e u w)):=by
 obtain⟨a1,a2,a3,a4⟩:=h.aS
 unfold tT
 by_cases hc:e.Op=0
 ·rw [if_pos hc]
  have e1:=vo e.ak.av (some 0) e.ak.At u (by omega)
  have e2:=zh e h u
  generalize zf e u=p at*
  clear h
  generalize hE:AV _ _ _=R
  unfold AV at hE
  simp only [gL,gO,hO,hc]at e2 hE
  simp [-au,func184,f184,e1,e2]at hE
  exact hE.symm
 ·rw [if_neg hc]
  have hop:opC e.Op=true:=h.op.resolve_left hc
  have e1:=ah5 e.ak.av (some 0) (aS e) u w a2 hu (by omega)
  rw [←a1]at e1
  obtain⟨s1,s2⟩:=OQ w a2 hu
  have e2:=uJ e h hm e.Op hop (min (aS e) u) (xR e.ak.av.length (aS e) u w) s1 s2
  generalize iR e e.Op (min (aS e) u) (xR e.ak.av.length (aS e) u w)=p at*
  generalize min (aS e) u=m at*
  generalize xR e.ak.av.length (aS e) u w=m2 at*
  clear h
  generalize hE:AV _ _ _=R
  simp [AV, -au,func184,f184,e1,e2,hc]at hE
  exact hE.symm
theorem OV (r how:Int)(n:Nat)(hw:0≤how∧how≤3)(hn:1≤n∧n≤999):wJ [gL e,vI r,vI how,vI (n:Int)] [] []=some (kR (qZ e r how n)):=by
 obtain⟨a1,a2,a3,a4⟩:=h.aS
 have e1:=Wt e.ak.av (some 0) (aS e) n r how a2 (by omega) hn hw
 rw [←a1]at e1
 unfold qZ
 cases hf:tN e.ak.av r how n (aS e)with
 | none=>
  rw [hf]at e1
  have e2:=l5 e h
  show _=some (kR (dI e))
  generalize dI e=p at*
  clear h
  simp only [uH,Option.isSome_none]at e1
  generalize hE:wJ _ _ _=R
  simp [wJ, -au,func179,f179,e1,e2]at hE
  exact hE.symm
 | some u=>
  rw [hf]at e1
  have hu:=Ka n (aS e) u a2 hf
  have e2:=QT e h hm u (decide (how=0∨how=2)) hu
  show _=some (kR (tT e u (decide (how=0∨how=2))))
  generalize tT e u (decide (how=0∨how=2))=p at*
  clear h
  simp only [uH,Option.isSome_some]at e1
  have hq:how=0∨how=1∨how=2∨how=3:=by omega
  generalize hE:wJ _ _ _=R
  unfold wJ at hE
  rcases hq with rfl|rfl|rfl|rfl
  all_goals (simp at e2;simp [-au,func179,f179,e1,e2]at hE;exact hE.symm)
theorem EL (r:Int)(n:Nat)(hn:1≤n∧n≤999):yT [gL e,vI r,vI (n:Int)] [] []=some (kR (lY e r n)):=by
 obtain⟨a1,a2,a3,a4⟩:=h.aS
 have e1:=Qg e.ak.av (some 0) (aS e) n a2 (by omega) hn r
 rw [←a1]at e1
 unfold lY
 cases hf:gN e.ak.av (aS e) r n with
 | none=>
  rw [hf]at e1
  have e2:=QT e h hm 0 false (by omega)
  show _=some (kR (tT e 0 false))
  generalize tT e 0 false=p at*
  clear h
  simp only [mR]at e1
  simp only [Int.natCast_zero]at e2
  generalize hE:yT _ _ _=R
  simp [yT, -au,func180,f180,e1,e2]at hE
  exact hE.symm
 | some q=>
  rw [hf]at e1
  have hu:=Ab a2 hf
  have e2:=QT e h hm q.1 q.2 hu
  show _=some (kR (tT e q.1 q.2))
  generalize tT e q.1 q.2=p at*
  clear h
  simp only [mR]at e1
  generalize hE:yT _ _ _=R
  simp [yT, -au,func180,f180,e1,e2]at hE
  exact hE.symm
end
section
variable (e:dF) (h:fV e) (hm:e.bQ=2)
include h hm
theorem aaR (r:Int)(n:Nat)(hn:1≤n∧n≤999)(hw:e.fC=114)(hr:iB r=true)(hl:aS e+n≤e.ak.av.length):mP [gL e,aK 1 r,vI (n:Int)] [] []=some (kR (vY e (pQ e.ak.av (aS e) r n) (aS e+n-1:Nat))):=by
 obtain⟨a1,a2,a3,a4⟩:=h.aS
 have hrs:=Kc a4 hr (aS e)
 have w1:=bM (e.ak.At+n) (by omega)
 have w2:=bM (e.ak.At+n-1) (by omega)
 have e1:=EK e.ak.av (some 0) e.ak.At (aS e+n-1) (by omega) (by omega)
 have hq:(((aS e+n-1:Nat)):Int)=e.ak.At+n-1:=by omega
 rw [hq]at e1
 have hgt:¬(e.ak.av.length:Int)<e.ak.At+n:=by omega
 have e2:=Jj e h (pQ e.ak.av (aS e) r n) (e.ak.At+n-1) (gD (by have:=(hrs n).1;omega) (hrs n).2 (by omega) (by have:=(hrs n).1;omega))
 rw [hq]
 generalize vY e (pQ e.ak.av (aS e) r n) (e.ak.At+n-1)=p at*
 generalize hE:mP _ _ _=R
 unfold mP at hE
 simp only [gL,gO,hO,hw]at e2 hE
 simp [-au,func101,f101,e1,w1,w2,hgt]at hE
 rw [aF (fun j=> .on ⟨[(10,V.v (.int .i64 (e.ak.At+(j:Int)))),(9, .ref 9 0),(8,V.v (.int .i64 e.ak.At)),(6, .ref 6 0),(4, .ref 4 0),(3, .ref 3 0),(2,V.v (.int .i64 ((n:Int))))],
   [(9,[.own 2000000000,vI (e.ak.At+n-1)]),(6,[V.v (.bool false),vI 0, .own 2000000001,vI 0,vI 0,vI 0,vI 0,vI 0,vI 0,vI 0,vI 0, .own 2000000002, .own 2000000003,vI 0, .own 2000000004,vI 0, .own 2000000005,vI 0, .own 2000000006,vI 0]),(4,[vI 1,vI r]),(3,[V.v (.bool e.Vi),vI e.bQ, .aM (some 0) (ints e.ak.av),vI e.ak.At,vI e.bD,vI e.Op,vI e.bN,vI 114,vI e.dY,vI e.bL,vI e.iO, .aM (some 1) (aC e.aL.aA), .aM (some 2) (aG e.fD.bT),vI e.kr, .aM (some 3) (ints e.gX.av),vI e.gX.At, .aM (some 4) (ints e.bO),vI e.lV, .aM (some 5) (ints e.bX.av),vI e.bX.At])],
   [(2000000006,[]),(2000000005,[]),(2000000004,[]),(2000000003,[]),(2000000002,[]),(2000000001,[]),(2000000000,ints (pQ e.ak.av (aS e) r j))],[]⟩) n ?_ ?_]at hE
 ·simp [-au,w1,e2]at hE
  exact hE.symm
 ·simp [pQ]
 ·intro j hj
  have hlen:=(hrs j).1
  have k1:0≤e.ak.At+(j:Int):=by omega
  have k2:(e.ak.At+(j:Int)).toNat=aS e+j:=by omega
  have k3:e.ak.At+(j:Int)<e.ak.av.length:=by omega
  have k4:aS e+j<e.ak.av.length:=by omega
  have w3:=bM (e.ak.At+((j:Int)+1)) (by omega)
  have k5:e.ak.At+(j:Int)+1=e.ak.At+((j:Int)+1):=by omega
  have hset:∀x:Int,(ints (pQ e.ak.av (aS e) r j)).set (aS e+j) [.a (.int .i64 x)]=ints ((pQ e.ak.av (aS e) r j).set (aS e+j) x):=fun x=>yZ _ _ x
  rw [pQ]
  simp [-au,hj,w1,w3,k1,k2,k3,k4,k5,hlen,hset]
theorem aaS (n:Nat)(hn:1≤n∧n≤999):sW [gL e,vI (n:Int)] [] []=some (kR (uF e n)):=by
 obtain⟨a1,a2,a3,a4⟩:=h.aS
 unfold uF
 by_cases hz:e.ak.av.length=0
 ·rw [if_pos hz]
  have e1:=l5 e h
  have hz':e.ak.av= []:=List.length_eq_zero_iff.1 hz
  generalize dI e=p at*
  clear h
  generalize hE:sW _ _ _=R
  unfold sW at hE
  simp only [gL,gO,hO,hz',aZ]at e1 hE
  simp [-au,func186,f186,e1]at hE
  exact hE.symm
 rw [if_neg hz]
 have hz':¬e.ak.av= []:=fun q=>hz (by rw [q];rfl)
 have w1:=bM (e.ak.At+n) (by omega)
 have e1:=vo e.ak.av (some 0) e.ak.At (e.ak.At+n) (by omega)
 have hq:max 0 (min (e.ak.At+n) e.ak.av.length)=((min (aS e+n) e.ak.av.length:Nat):Int):=by omega
 rw [hq]at e1
 have hB1:min (aS e+n) e.ak.av.length≤e.ak.av.length:=by omega
 have hB2:aS e≤min (aS e+n) e.ak.av.length:=by omega
 generalize min (aS e+n) e.ak.av.length=b at*
 have hfs:=fun j (hj:aS e+j≤e.ak.av.length)=>Ke a4 (aS e) j hj
 have hfb:=hfs (b-aS e) (by omega)
 have e2:=Jj e h (ru e.ak.av (aS e) (b-aS e)) b (gD (by omega) hfb.2 (by omega) (by omega))
 generalize vY e (ru e.ak.av (aS e) (b-aS e)) b=p at*
 generalize hE:sW _ _ _=R
 simp [sW, -au,func186,f186,e1,w1,hz']at hE
 rw [aF (fun j=> .on ⟨[(8,V.v (.int .i64 (e.ak.At+(j:Int)))),(7, .ref 7 0),(4, .ref 4 0),(2, .ref 2 0)],
   [(7,[.own 2000000000,vI (b:Int)]),(4,[V.v (.bool false),vI 0, .own 2000000001,vI 0,vI 0,vI 0,vI 0,vI 0,vI 0,vI 0,vI 0, .own 2000000002, .own 2000000003,vI 0, .own 2000000004,vI 0, .own 2000000005,vI 0, .own 2000000006,vI 0]),(2,[V.v (.bool e.Vi),vI e.bQ, .aM (some 0) (ints e.ak.av),vI e.ak.At,vI e.bD,vI e.Op,vI e.bN,vI e.fC,vI e.dY,vI e.bL,vI e.iO, .aM (some 1) (aC e.aL.aA), .aM (some 2) (aG e.fD.bT),vI e.kr, .aM (some 3) (ints e.gX.av),vI e.gX.At, .aM (some 4) (ints e.bO),vI e.lV, .aM (some 5) (ints e.bX.av),vI e.bX.At])],
   [(2000000006,[]),(2000000005,[]),(2000000004,[]),(2000000003,[]),(2000000002,[]),(2000000001,[]),(2000000000,ints (ru e.ak.av (aS e) j))],[]⟩) (b-aS e) ?_ ?_]at hE
 ·have hc:¬e.ak.At+((b-aS e:Nat):Int)<b:=by omega
  simp [-au,hc,e2]at hE
  exact hE.symm
 ·simp [ru]
 ·intro j hj
  have hlen:=(hfs j (by omega)).1
  have k1:0≤e.ak.At+(j:Int):=by omega
  have k2:(e.ak.At+(j:Int)).toNat=aS e+j:=by omega
  have k3:e.ak.At+(j:Int)<e.ak.av.length:=by omega
  have k4:aS e+j<e.ak.av.length:=by omega
  have k6:e.ak.At+(j:Int)<b:=by omega
  have w3:=bM (e.ak.At+((j:Int)+1)) (by omega)
  have k5:e.ak.At+(j:Int)+1=e.ak.At+((j:Int)+1):=by omega
  rw [ru]
  generalize hX:ru e.ak.av (aS e) j=X at*
  have hjl:aS e+j<X.length:=by omega
  have hgd:X.getD (aS e+j) 0=X[aS e+j]:=by rw [List.getD_eq_getElem?_getD,List.getElem?_eq_getElem hjl];rfl
  rw [hgd]
  have hgu:=aQ hjl
  have hset:∀x:Int,(ints X).set (aS e+j) [.a (.int .i64 x)]=ints (X.set (aS e+j) x):=fun x=>yZ _ _ x
  generalize hr:X[aS e+j]=r at*
  unfold aao
  by_cases c1:iq r 97 122=true
  ·have u1:upI r=r-32:=by unfold upI;rw [if_pos c1]
   simp [-au,k1,k2,k3,k4,k5,k6,w3,hlen,hset,hgu,hr,fK,tJ,tK,c1,u1]
  ·by_cases c2:iq r 65 90=true
   ·have u1:Na r=r+32:=by unfold Na;rw [if_pos c2]
    simp [-au,k1,k2,k3,k4,k5,k6,w3,hlen,hset,hgu,hr,fK,tJ,tK,c1,c2,u1]
   ·have u1:Na r=r:=by unfold Na;rw [if_neg c2]
    simp [-au,k1,k2,k3,k4,k5,k6,w3,hlen,hset,hgu,hr,fK,tJ,tK,c1,c2,u1]
end
theorem Nv (l:List dL):aC (kS l)=(aC l).drop 1++(aC l).take 1:=by
 cases l with
 | nil=>rfl
 | cons p l=>rw [iI];unfold kS;simp [E5,List.drop_succ_cons]
theorem aaT (l:List dL)(h:iG l=true):zM [.agg [.aM (some 0) (aC l)]] [] []=some ⟨.agg [.own 0],[],[(0,aC (kS l))]⟩:=by
 obtain⟨hl,hp⟩:=wS h
 have e1:=cO l (EI h)
 rw [h]at e1
 have e3:=I8 l (some 0) (by omega) (fun p hq=>by have:=(hp p hq).2.1;omega)
 have hrow:∀r∈aC l,∃q,r= [D.l q]:=fun r hr=>by
  obtain⟨i,hi⟩:=List.getElem?_of_mem hr
  have hlt:i<l.length:=by have:=(List.getElem?_eq_some_iff.1 hi).1;simpa using this
  rw [dX hlt]at hi
  injection hi with hi
  exact⟨_,hi.symm⟩
 unfold zM
 simp only
 rw [if_pos ⟨e1,e3,hrow,by simp;omega⟩,Nv]
section
variable (e:dF) (h:fV e)
include h
theorem aaU:jr [gL e] [] []=some (kR (mU e)):=by
 obtain⟨h1,h2,h3,h4⟩:=h.aS
 have e1:o8 [.agg [.aM (some 0) (aC e.aL.aA)]] [] []=some ⟨.own 0,[],[(0,ints (bE e.aL.aA))]⟩:=Gh e.aL.aA h.ring
 have hr:=SX h.ring
 have e2:=aaT e.aL.aA h.ring
 have e3:o8 [.agg [.aM (some 0) (aC (kS e.aL.aA))]] [] []=some ⟨.own 0,[],[(0,ints (bE (kS e.aL.aA)))]⟩:=Gh _ hr
 have e4:=l5 e h
 have e5:=eP e h
 obtain⟨t1,t2⟩:=xW h.ring
 obtain⟨t3,t4⟩:=xW hr
 have w:=bM (e.ak.At-(bE e.aL.aA).length) (by omega)
 have hlen:=h.line
 unfold mU
 by_cases hc:P9 e=true
 ·obtain⟨c1,c2,c3,c4⟩:e.iO=3∧¬bE e.aL.aA= []∧(bE e.aL.aA).length≤aS e∧(e.ak.av.drop (aS e-(bE e.aL.aA).length)).take (bE e.aL.aA).length=bE e.aL.aA:=by
   simpa [P9] using hc
  obtain⟨q1,q2,q3⟩:=tX h.line (show aS e-(bE e.aL.aA).length≤aS e by omega) h2
  have e6:=Cm e.ak.av e.ak.At h.line (aS e-(bE e.aL.aA).length) (aS e) (by omega) h2
  have hca:cutAt e.ak.At ((aS e-(bE e.aL.aA).length:Nat):Int) (aS e:Int)=((aS e-(bE e.aL.aA).length:Nat):Int):=by
   unfold cutAt;rw [if_pos (by omega)];omega
  rw [hca]at e6 q1
  have e7:=Cr (nW e.ak.av (aS e-(bE e.aL.aA).length) (aS e)) (bE (kS e.aL.aA)) ((aS e-(bE e.aL.aA).length:Nat):Int) q1 t3 (by omega)
  rw [Int.toNat_natCast]at e7
  have hsame:=Dp (bE e.aL.aA) (bE e.aL.aA) (by omega) (by omega)
  rw [decide_eq_true rfl]at hsame
  have hF:((aS e-(bE e.aL.aA).length:Nat):Int)=e.ak.At-(bE e.aL.aA).length:=by omega
  have k1:(e.ak.At-((bE e.aL.aA).length:Int)).toNat=aS e-(bE e.aL.aA).length:=by omega
  have k2:e.ak.At.toNat=aS e:=rfl
  have k3:aS e-(aS e-(bE e.aL.aA).length)=(bE e.aL.aA).length:=by omega
  have k4:0≤e.ak.At-((bE e.aL.aA).length:Int):=by omega
  have k5:e.ak.At-((bE e.aL.aA).length:Int)≤e.ak.At:=by omega
  have k6:e.ak.At≤e.ak.av.length:=by omega
  have k7:¬e.ak.At-((bE e.aL.aA).length:Int)<0:=by omega
  have k8:¬((bE e.aL.aA).length:Int)=0:=by have:=List.length_pos_iff.2 c2;omega
  have k9:0≤e.ak.At:=by omega
  have kA:((bE e.aL.aA).length:Int)≤e.ak.At:=by omega
  rw [hF,←h1]at e6
  by_cases hl:(nW e.ak.av (aS e-(bE e.aL.aA).length) (aS e)).length+(bE (kS e.aL.aA)).length≤400
  ·rw [if_pos ⟨hc,hl⟩]
   rw [if_pos hl]at e7
   obtain⟨-,z2, -, -⟩:=bS q1
   have e8:=OM {e with aL:=⟨kS e.aL.aA⟩} (h.Nh hr) (Al (nW e.ak.av (aS e-(bE e.aL.aA).length) (aS e)) (aS e-(bE e.aL.aA).length) (bE (kS e.aL.aA))) (((aS e-(bE e.aL.aA).length:Nat):Int)+(bE (kS e.aL.aA)).length) 3 ((zx hl z2 t3 (by omega)).2 _ (by omega) (by omega))
   generalize Al (nW e.ak.av (aS e-(bE e.aL.aA).length) (aS e)) (aS e-(bE e.aL.aA).length) (bE (kS e.aL.aA))=Y at*
   unfold nW at e7
   rw [hF]at e7 e8
   generalize hX:e.ak.av.take (aS e-(bE e.aL.aA).length)++e.ak.av.drop (aS e)=X at*
   rw [hF]
   generalize sF {e with aL:=⟨kS e.aL.aA⟩} Y (e.ak.At-(bE e.aL.aA).length+(bE (kS e.aL.aA)).length) 3=p at*
   generalize bE (kS e.aL.aA)=tn at*
   generalize bE e.aL.aA=tp at*
   generalize kS e.aL.aA=tr at*
   clear h hlen
   generalize hE:jr _ _ _=R
   unfold jr at hE
   simp only [gL,gO,hO,c1]at e4 e5 e8 hE
   simp [-au,func160,f160,e1,e2,e3,e5,e6,e7,e8,hsame,w,k1,k2,k3,k4,k5,k6,k7,k8,k9,kA,c2,c4]at hE
   exact hE.symm
  ·rw [if_neg (fun q=>hl q.2)]
   rw [if_neg hl]at e7
   unfold nW at e7
   rw [hF]at e7
   generalize hX:e.ak.av.take (aS e-(bE e.aL.aA).length)++e.ak.av.drop (aS e)=X at*
   generalize dI e=p at*
   generalize bE (kS e.aL.aA)=tn at*
   generalize bE e.aL.aA=tp at*
   generalize kS e.aL.aA=tr at*
   clear h hlen
   generalize hE:jr _ _ _=R
   unfold jr at hE
   simp only [gL,gO,hO,c1]at e4 e5 hE
   simp [-au,func160,f160,e1,e2,e3,e4,e6,e7,hsame,w,k1,k2,k3,k4,k5,k6,k7,k8,k9,kA,c2,c4]at hE
   exact hE.symm
 ·rw [if_neg (fun q=>hc q.1)]
  generalize dI e=p at*
  have hc':¬(e.iO=3∧¬bE e.aL.aA= []∧(bE e.aL.aA).length≤aS e∧(e.ak.av.drop (aS e-(bE e.aL.aA).length)).take (bE e.aL.aA).length=bE e.aL.aA):=fun q=>hc (by simpa [P9] using q)
  by_cases c1:e.iO=3
  ·by_cases c2:bE e.aL.aA= []
   ·rw [c2]at e1
    simp only [aZ]at e1
    have w0:=bM e.ak.At (by omega)
    generalize hE:jr _ _ _=R
    unfold jr at hE
    simp only [gL,gO,hO,c1]at e4 hE
    simp [-au,func160,f160,e1,e4,w0]at hE
    exact hE.symm
   ·have k8:¬((bE e.aL.aA).length:Int)=0:=by have:=List.length_pos_iff.2 c2;omega
    by_cases c3:(bE e.aL.aA).length≤aS e
    ·have c4:¬(e.ak.av.drop (aS e-(bE e.aL.aA).length)).take (bE e.aL.aA).length=bE e.aL.aA:=fun q=>hc' ⟨c1,c2,c3,q⟩
     have hsame:=Dp ((e.ak.av.drop (aS e-(bE e.aL.aA).length)).take (bE e.aL.aA).length) (bE e.aL.aA) (by simp;omega) (by omega)
     rw [decide_eq_false c4]at hsame
     have k1:(e.ak.At-((bE e.aL.aA).length:Int)).toNat=aS e-(bE e.aL.aA).length:=by omega
     have k2:e.ak.At.toNat=aS e:=rfl
     have k3:aS e-(aS e-(bE e.aL.aA).length)=(bE e.aL.aA).length:=by omega
     have k4:0≤e.ak.At-((bE e.aL.aA).length:Int):=by omega
     have k5:e.ak.At-((bE e.aL.aA).length:Int)≤e.ak.At:=by omega
     have k6:e.ak.At≤e.ak.av.length:=by omega
     have k7:¬e.ak.At-((bE e.aL.aA).length:Int)<0:=by omega
     have k9:0≤e.ak.At:=by omega
     have kA:((bE e.aL.aA).length:Int)≤e.ak.At:=by omega
     generalize bE e.aL.aA=tp at*
     generalize hE:jr _ _ _=R
     unfold jr at hE
     simp only [gL,gO,hO,c1]at e4 hE
     simp [-au,func160,f160,e1,e4,hsame,w,k1,k2,k3,k4,k5,k6,k7,k8,k9,kA,c2]at hE
     exact hE.symm
    ·have k7:e.ak.At-((bE e.aL.aA).length:Int)<0:=by omega
     generalize bE e.aL.aA=tp at*
     generalize hE:jr _ _ _=R
     unfold jr at hE
     simp only [gL,gO,hO,c1]at e4 hE
     simp [-au,func160,f160,e1,e4,w,k7,k8,c2]at hE
     exact hE.symm
  ·generalize bE e.aL.aA=tp at*
   generalize hE:jr _ _ _=R
   simp [jr, -au,func160,f160,e1,e4,w,c1]at hE
   exact hE.symm
theorem afY:fG [gL e,vI 121] [] []=some (kR (mU e)):=by
 have e1:=aaU e h
 have d1:iq 121 48 57=false:=by decide
 generalize mU e=p at*
 clear h
 generalize hE:fG _ _ _=R
 simp [fG,func90,f90,lN,d1,e1]at hE
 exact hE.symm
theorem aaV (r:Int):fG [gL e,vI r] [] []=some (kR (GN e r)):=by
 by_cases hr:r=121
 ·subst hr
  have d1:¬iq 121 48 57=true:=by decide
  rw [show GN e 121=mU e from by unfold GN;rw [if_neg d1];rfl]
  exact afY e h
 ·exact aju e h r hr
end
noncomputable def jE:aN:=aJ prog [(10,false,QM),(11,false,EB),(12,false,QN),(13,false,JZ),(14,false,MZ),(8,false,iU),(7,false,j3),(15,false,QO),(16,false,J4),(17,true,wR),(18,true,Dh),(19,false,BD)] ⟨[],[],[(8,[],[(11,[9])]),(11,[],[(9,[7])]),(14,[],[]),(16,[],[]),(31,[],[(11,[9])])],[]⟩ 4
theorem Qx:aD prog 4 jE:=sound _ (ah ajh (ah afE (ah aji (ah afH (ah ahR (ah ahQ (ah ahL (ah ajj (ah afK (ah afL (ah aad (ah afM ay)))))))))))) ach func4 (aV (by kernel_rfl))
open Go.ChangeShapes Go.WideShapes Go.ChangeAt Go.RowKit Go.Deep
theorem Yc:ownKnob prog.godebug=none:=by kernel_rfl
theorem Gz:laidOutB prog=true:=by kernel_rfl
end Go.Proofs.YtlpdjhiggpblcaaGreat
