/- Part 14 of a proof in several texts (an abstract evaluator, what the functions compute). -/
import Derived.Test.YtlpdjhiggpblcaaGreatPkFnEdOk13
import Derived.Lib.IndexBytes
open Go.Proofs.Tryz
namespace Go.Proofs.YtlpdjhiggpblcaaGreat
set_option linter.unusedSectionVars false
set_option linter.unusedSimpArgs false
set_option linter.unusedVariables false
open Go.RowKit
set_option maxHeartbeats 8000000
set_option maxRecDepth 10000
theorem o9 (k r:Int):wW [aK k r] [] []=some ⟨V.v (.bool (jh k r)),[],[]⟩:=by
 have ep:=aZ r
 generalize hE:wW _ _ _=R
 unfold wW at hE
 unfold jh
 by_cases c1:k=1
 ·subst c1
  simp [func34,f34,ep]at hE
  rw [←hE]
  simp
 by_cases c2:k=2
 ·subst c2
  by_cases r1:r=95
  ·subst r1
   simp [func34,f34]at hE
   rw [←hE]
   simp
  by_cases r2:97≤r
  ·by_cases r3:r≤122
   ·have q:gY r 97 122=true:=bA.2 ⟨r2,r3⟩
    by_cases r4:r=104
    ·subst r4;simp [func34,f34]at hE;rw [←hE];simp
    by_cases r5:r=105
    ·subst r5;simp [func34,f34]at hE;rw [←hE];simp
    by_cases r6:r=106
    ·subst r6;simp [func34,f34]at hE;rw [←hE];simp
    by_cases r7:r=109
    ·subst r7;simp [func34,f34]at hE;rw [←hE];simp
    simp [func34,f34,r1,r2,r3,r4,r5,r6,r7]at hE
    rw [←hE]
    simp [q,r1,r4,r5,r6,r7]
   ·have q:gY r 97 122=false:=by cases q:gY r 97 122;rfl;exact absurd (bA.1 q).2 r3
    simp [func34,f34,r1,r2,r3]at hE
    rw [←hE]
    simp [q,r1]
  ·have q:gY r 97 122=false:=by cases q:gY r 97 122;rfl;exact absurd (bA.1 q).1 r2
   simp [func34,f34,r1,r2]at hE
   rw [←hE]
   simp [q,r1]
 by_cases c3:k=3
 ·subst c3
  by_cases r2:33≤r
  ·by_cases r3:r≤126
   ·have q:gY r 33 126=true:=bA.2 ⟨r2,r3⟩
    simp [func34,f34,r2,r3]at hE
    rw [←hE]
    simp [q]
   ·have q:gY r 33 126=false:=by cases q:gY r 33 126;rfl;exact absurd (bA.1 q).2 r3
    simp [func34,f34,r2,r3]at hE
    rw [←hE]
    simp [q]
  ·have q:gY r 33 126=false:=by cases q:gY r 33 126;rfl;exact absurd (bA.1 q).1 r2
   simp [func34,f34,r2]at hE
   rw [←hE]
   simp [q]
 by_cases r2:4≤k
 ·by_cases r3:k≤16
  ·have q:gY k 4 16=true:=bA.2 ⟨r2,r3⟩
   simp [func34,f34,c1,c2,c3,r2,r3]at hE
   rw [←hE]
   simp [q,c1,c2,c3]
   by_cases r0:r=0<;>simp [r0]
  ·have q:gY k 4 16=false:=by cases q:gY k 4 16;rfl;exact absurd (bA.1 q).2 r3
   simp [func34,f34,c1,c2,c3,r2,r3]at hE
   rw [←hE]
   simp [q,c1,c2,c3]
 ·have q:gY k 4 16=false:=by cases q:gY k 4 16;rfl;exact absurd (bA.1 q).1 r2
  simp [func34,f34,c1,c2,c3,r2]at hE
  rw [←hE]
  simp [q,c1,c2,c3]
section
variable (e:dB) (h:fV e)
include h
theorem aby:vL [gL e] [] []=some (kR (BM e)):=by
 have e1:=FV e.aI.aA h.ring
 obtain⟨t1,t2⟩:=xL h.ring
 unfold BM
 by_cases hc:bE e.aI.aA= []
 ·rw [if_pos hc]
  have e2:=jD e h
  rw [hc]at e1
  simp only [bn]at e1
  generalize dM e=p at*
  clear h
  generalize hE:vL _ _ _=R
  simp [vL, -au,func197,f197,e1,e2]at hE
  exact hE.symm
 ·rw [if_neg hc]
  have e2:=Nl e h (bE e.aI.aA) 3 t1 (by omega) (by omega)
  have hc0:¬((bE e.aI.aA).length:Int)=0:=by have:=List.length_pos_iff.2 hc;omega
  generalize Au e (bE e.aI.aA) 3=p at*
  generalize bE e.aI.aA=u at*
  clear h
  generalize hE:vL _ _ _=R
  simp [vL, -au,func197,f197,e1,e2,hc,hc0]at hE
  exact hE.symm
theorem FX (hm:¬e.bV=3):nM [gL e] [] []=some (kR (BL e)):=by
 obtain⟨q1,q2, -⟩:=h.uj.resolve_left hm
 have e1:=gB e h
 have e2:=vS e
 have e3:=kU e.ak.av (some 0) e.ak.At (by have:=(bX h.line).1;omega)
 clear h
 generalize hE:nM _ _ _=R
 unfold nM at hE
 simp only [gL,gO,hO,q1,q2,bn]at e1 e2 hE
 simp [-au,func200,f200,e1,e2,e3]at hE
 exact hE.symm
variable {f:Int} {l:List ByteArray} (hh:gX f l)
include hh
theorem IV (k r:Int)(hk:jh k r=true)(hm:e.bV=0∨e.bV=1):qU [gL e,aH f l,aK k r] [] []=some (kRo (lY e f l k r)):=by
 have e1:=uq e (fA.2 h)
 have e2:=oJ f l hh
 have e3:=o9 k r
 rw [hk]at e3
 have e4:=Y8 e h hh k r hk
 cases hp:lY e f l k r with
 | none=>
  rw [hp]at e4
  simp only [Option.getD_none,kR,u6,bn,show aC []= []from rfl,show aS []= []from rfl]at e4
  simp only [kRo,Iz,u6,bn,show aC []= []from rfl,show aS []= []from rfl]
  clear h hh
  generalize hE:qU _ _ _=R
  unfold qU at hE
  rcases hm with hm|hm
  ·simp only [gL,gO,hO,hm]at e1 e4 hE
   simp [-au,func104,f104,e1,e2,e3,e4]at hE
   exact hE.symm
  ·simp only [gL,gO,hO,hm]at e1 e4 hE
   simp [-au,func104,f104,e1,e2,e3,e4]at hE
   exact hE.symm
 | some p=>
  rw [hp]at e4
  simp only [Option.getD_some]at e4
  have ha:¬p.2<0:=by
   have:=KJ e f l k r hp
   unfold FW at this
   omega
  clear h hh
  generalize hE:qU _ _ _=R
  unfold qU at hE
  rcases hm with hm|hm
  ·simp only [gL,gO,hO,hm]at e1 e4 hE
   simp [-au,func104,f104,e1,e2,e3,e4,ha]at hE
   exact hE.symm
  ·simp only [gL,gO,hO,hm]at e1 e4 hE
   simp [-au,func104,f104,e1,e2,e3,e4,ha]at hE
   exact hE.symm
end
section
variable (e:dB) (h:fV e)
include h
theorem Dr (n:Nat)(hn:n≤1000):pW [gL e,vI (n:Int),V.v (.bool true)] [] []=some ⟨vI (((dD (iq e.ak.av) n (aR e):Nat):Int)),[],[]⟩:=by
 obtain⟨h1,h2,h3,h4⟩:=h.aR
 have hu:=fun j=>Mc (fun a ha=>wJ (t:=e.ak.av) ha) j (aR e) h2
 generalize hE:pW _ _ _=R
 simp [pW, -au,func107,f107]at hE
 rw [aJ (fun j=> .on ⟨[(8,V.v (.int .i64 ((j:Int)))),(7,V.v (.int .i64 (((dD (iq e.ak.av) j (aR e):Nat):Int)))),(3, .ref 3 0),(2,V.v (.bool true)),(1,V.v (.int .i64 ((n:Int))))],[(3,[V.v (.bool e.Vi),vI e.bV, .aP (some 0) (ints e.ak.av),vI e.ak.At,vI e.bH,vI e.Op,vI e.bU,vI e.fT,vI e.eY,vI e.bT,vI e.iZ, .aP (some 1) (aC e.aI.aA), .aP (some 2) (aS e.gH.eX),vI e.kF, .aP (some 3) (ints e.iM.av),vI e.iM.At, .aP (some 4) (ints e.bP),vI e.nH, .aP (some 5) (ints e.dH.av),vI e.dH.At])],[],[]⟩) n ?_ ?_]at hE
 ·simp at hE
  exact hE.symm
 ·simp [dD,←h1]
 ·intro j hj
  have hw:=bM ((j:Int)+1) (by omega)
  have e2:=ad2 e.ak.av (some 0) (dD (iq e.ak.av) j (aR e)) (hu j).2 (by omega)
  rw [p8]
  generalize dD (iq e.ak.av) j (aR e)=a at*
  simp [hj,hw,e2]
theorem Gb (n:Nat)(hn:n≤1000):pW [gL e,vI (n:Int),V.v (.bool false)] [] []=some ⟨vI (((dD (fq e.ak.av) n (aR e):Nat):Int)),[],[]⟩:=by
 obtain⟨h1,h2,h3,h4⟩:=h.aR
 have hu:=fun j=>FN (f:=fq e.ak.av) (fun _=>zH) j (aR e)
 generalize hE:pW _ _ _=R
 simp [pW, -au,func107,f107]at hE
 rw [aJ (fun j=> .on ⟨[(8,V.v (.int .i64 ((j:Int)))),(7,V.v (.int .i64 (((dD (fq e.ak.av) j (aR e):Nat):Int)))),(3, .ref 3 0),(2,V.v (.bool false)),(1,V.v (.int .i64 ((n:Int))))],[(3,[V.v (.bool e.Vi),vI e.bV, .aP (some 0) (ints e.ak.av),vI e.ak.At,vI e.bH,vI e.Op,vI e.bU,vI e.fT,vI e.eY,vI e.bT,vI e.iZ, .aP (some 1) (aC e.aI.aA), .aP (some 2) (aS e.gH.eX),vI e.kF, .aP (some 3) (ints e.iM.av),vI e.iM.At, .aP (some 4) (ints e.bP),vI e.nH, .aP (some 5) (ints e.dH.av),vI e.dH.At])],[],[]⟩) n ?_ ?_]at hE
 ·simp at hE
  exact hE.symm
 ·simp [dD,←h1]
 ·intro j hj
  have hw:=bM ((j:Int)+1) (by omega)
  have hle:=hu j
  have e2:=YW e.ak.av (some 0) (dD (fq e.ak.av) j (aR e)) (by omega) (by omega)
  rw [p8]
  generalize dD (fq e.ak.av) j (aR e)=a at*
  simp [hj,hw,e2]
end
theorem Zb (t:List Int)(a:Int)(h:bN t a=true)(f nu:Nat)(h1:f≤nu)(h2:nu≤t.length)(how:Int)(hw:0≤how∧how≤2):zy [.agg [.aP (some 0) (ints t),vI a],vI (f:Int),vI (nu:Int),vI how] [] []=some ⟨.fK [.agg [.own 0,vI (nu:Int)],V.v (.bool true)],[],[(0,ints (jL t f how (nu-f)).1)]⟩:=by
 have hl:=bX h
 have e1:=Rx t a h f nu
 rw [decide_eq_true ⟨by omega,by omega,by omega⟩]at e1
 have e2:=uo t [] [] (some 0) (some 1) (some 2) (by simp;omega)
 simp only [List.append_nil,bn]at e2
 have q1:¬how<0:=by omega
 have q2:¬2<how:=by omega
 generalize hE:zy _ _ _=R
 simp [zy,func251,f251,e1,e2,q1,q2]at hE
 rw [aJ (fun j=> .on ⟨[(12,V.v (.int .i64 (((f+j:Nat):Int)))),(11,V.v (.bool ((jL t f how j).2))),(10, .own 2000000000),(8, .ref 8 0),(3,V.v (.int .i64 how)),(2,V.v (.int .i64 ((nu:Int))))],[(8,[.own 2000000001,vI 0])],[(2000000001,[]),(2000000000,ints (jL t f how j).1)],[]⟩) (nu-f) ?_ ?_]at hE
 ·have q2:(f:Int)+((nu-f:Nat):Int)=nu:=by omega
  have q3:f+(nu-f)=nu:=by omega
  simp [q2,q3]at hE
  exact hE.symm
 ·simp [jL]
 ·intro j hj
  have hjl:f+j<(jL t f how j).1.length:=by rw [tY];omega
  have hq:f+j<nu:=by omega
  have hq2:(f:Int)+j<nu:=by omega
  have hjt:f+j<t.length:=by omega
  have hq3:(f:Int)+j<t.length:=by omega
  have hlen:=tY t f how j
  have hw1:=bM ((f:Int)+(j+1)) (by omega)
  have hs:(f:Int)+j+1=(f:Int)+(j+1):=by omega
  rw [jL]
  have hgd:(jL t f how j).1.getD (f+j) 0=(jL t f how j).1[f+j]:=by rw [List.getD_eq_getElem?_getD,List.getElem?_eq_getElem hjl];rfl
  rw [hgd]
  generalize hX:jL t f how j=X at*
  obtain⟨u,fst⟩:=X
  simp only at hjl hlen hgd⊢
  have hgu:=aO hjl
  generalize hr:u[f+j]=r at*
  have hself:u.set (f+j) r=u:=by rw [←hr];exact List.set_getElem_self hjl
  have hset:∀x:Int,(ints u).set (f+j) [.a (.int .i64 x)]=ints (u.set (f+j) x):=fun x=>su u (f+j) x
  have Sl:0≤(f:Int)+j:=by omega
  have Gg:((f:Int)+j).toNat=f+j:=by omega
  by_cases s1:97≤r
  ·by_cases s2:r≤122
   ·have c1:gY r 97 122=true:=bA.2 ⟨s1,s2⟩
    have c2:gY r 65 90=false:=by cases q:gY r 65 90;rfl;have:=bA.1 q;omega
    have g1:65≤r:=by omega
    have g2:¬r≤90:=by omega
    have w1:=bM (r-32) (by omega)
    have il:isLet r=true:=by unfold isLet;rw [c1];rfl
    have u1:upI r=r-32:=by unfold upI;rw [if_pos c1]
    have u2:L6 r=r:=by unfold L6;rw [if_neg (by rw [c2];decide)]
    by_cases c3:how=1
    ·simp [hq,hq2,hq3,hjt,hlen,hgu,hr,Sl,Gg,s1,s2,g1,g2,w1,il,u1,c3,hw1,hs,hset]
    ·by_cases c4:how=2
     ·cases fst
      ·simp [hq,hq2,hq3,hjt,hlen,hgu,hr,Sl,Gg,s1,s2,g1,g2,w1,il,u2,c4,hw1,hs,hset,hself]
      ·simp [hq,hq2,hq3,hjt,hlen,hgu,hr,Sl,Gg,s1,s2,g1,g2,w1,il,u1,c4,hw1,hs,hset]
     ·simp [hq,hq2,hq3,hjt,hlen,hgu,hr,Sl,Gg,s1,s2,g1,g2,w1,il,u2,c3,c4,hw1,hs,hset,hself]
   ·have c1:gY r 97 122=false:=by cases q:gY r 97 122;rfl;have:=bA.1 q;omega
    have c2:gY r 65 90=false:=by cases q:gY r 65 90;rfl;have:=bA.1 q;omega
    have g1:65≤r:=by omega
    have g2:¬r≤90:=by omega
    have il:isLet r=false:=by unfold isLet;rw [c1,c2];rfl
    simp [hq,hq2,hq3,hjt,hlen,hgu,hr,Sl,Gg,s1,s2,g1,g2,il,hw1,hs,hset]
  ·have c1:gY r 97 122=false:=by cases q:gY r 97 122;rfl;have:=bA.1 q;omega
   have u1:upI r=r:=by unfold upI;rw [if_neg (by rw [c1];decide)]
   by_cases g1:65≤r
   ·by_cases g2:r≤90
    ·have c2:gY r 65 90=true:=bA.2 ⟨g1,g2⟩
     have w1:=bM (r+32) (by omega)
     have il:isLet r=true:=by unfold isLet;rw [c1,c2];rfl
     have u2:L6 r=r+32:=by unfold L6;rw [if_pos c2]
     by_cases c3:how=1
     ·simp [hq,hq2,hq3,hjt,hlen,hgu,hr,Sl,Gg,s1,g1,g2,w1,il,u1,c3,hw1,hs,hset,hself]
     ·by_cases c4:how=2
      ·cases fst
       ·simp [hq,hq2,hq3,hjt,hlen,hgu,hr,Sl,Gg,s1,g1,g2,w1,il,u2,c4,hw1,hs,hset]
       ·simp [hq,hq2,hq3,hjt,hlen,hgu,hr,Sl,Gg,s1,g1,g2,w1,il,u1,c4,hw1,hs,hset,hself]
      ·simp [hq,hq2,hq3,hjt,hlen,hgu,hr,Sl,Gg,s1,g1,g2,w1,il,u2,c3,c4,hw1,hs,hset]
    ·have c2:gY r 65 90=false:=by cases q:gY r 65 90;rfl;have:=bA.1 q;omega
     have il:isLet r=false:=by unfold isLet;rw [c1,c2];rfl
     simp [hq,hq2,hq3,hjt,hlen,hgu,hr,Sl,Gg,s1,g1,g2,il,hw1,hs,hset]
   ·have c2:gY r 65 90=false:=by cases q:gY r 65 90;rfl;have:=bA.1 q;omega
    have il:isLet r=false:=by unfold isLet;rw [c1,c2];rfl
    simp [hq,hq2,hq3,hjt,hlen,hgu,hr,Sl,Gg,s1,g1,il,hw1,hs,hset]
section
variable (e:dB) (h:fV e)
include h
theorem abz (how:Int)(hw:0≤how∧how≤2):BH [gL e,vI how] [] []=some (kR (JQ e how)):=by
 obtain⟨h1,h2,h3,h4⟩:=h.aR
 have hwo:=wJ h2
 have e1:=Dr e h 1 (by omega)
 have e2:=Zb e.ak.av e.ak.At h.line (aR e) (iq e.ak.av (aR e)) hwo.1 hwo.2 how hw
 rw [←h1]at e2
 have hl:=tY e.ak.av (aR e) how (iq e.ak.av (aR e)-aR e)
 have e3:=qO e h (jL e.ak.av (aR e) how (iq e.ak.av (aR e)-aR e)).1 (iq e.ak.av (aR e)) 0 (gq (by omega) (Ar h4 _ _ _) (by omega) (by omega)) (by omega)
 unfold JQ vQ
 simp only [dD,Int.natCast_one]at e1
 generalize (jL e.ak.av (aR e) how (iq e.ak.av (aR e)-aR e)).1=u at*
 generalize iq e.ak.av (aR e)=b at*
 generalize sO e u b 0=p at*
 clear h h2 h3 h4 hwo hl
 generalize hE:BH _ _ _=R
 simp [BH, -au,func191,f191,e1,e2,e3]at hE
 exact hE.symm
end
theorem RH (r:Int):Ic [vI r] [] []=some ⟨vI (iV r),[],[]⟩:=by
 unfold Ic iV
 by_cases c1:r=102
 ·subst c1;simp [func262,f262]
 by_cases c2:r=70
 ·subst c2;simp [func262,f262]
 by_cases c3:r=116
 ·subst c3;simp [func262,f262]
 by_cases c4:r=84
 ·subst c4;simp [func262,f262]
 simp [func262,f262,c1,c2,c3,c4]
theorem zK (n:Nat)(h:1≤n∧n≤999):zC [vI (n:Int)] [] []=some ⟨vI (n:Int),[],[]⟩:=by
 have c1:¬(n:Int)<1:=by omega
 have c2:¬(999:Int)<n:=by omega
 simp [zC,func281,f281,c1,c2]
theorem abA (how:Int):Fz [vI how] [] []=some ⟨vI (uI how),[],[]⟩:=by
 unfold Fz uI
 by_cases c1:how=0
 ·subst c1;simp [func265,f265]
 by_cases c2:how=1
 ·subst c2;simp [func265,f265]
 by_cases c3:how=2
 ·subst c3;simp [func265,f265]
 simp [func265,f265,c1,c2,c3]
theorem ag7 (t:List Int)(i:Option Nat)(a b:Nat)(w:Bool)(ha:a≤t.length)(hb:b≤t.length)(ht:t.length≤2000):LH [.aP i (ints t),vI (a:Int),vI (b:Int),V.v (.bool w)] [] []=some ⟨.fK [vI (((min a b:Nat):Int)),vI (((xJ t.length a b w:Nat):Int))],[],[]⟩:=by
 have e1:=dh (a:Int) t.length (by omega)
 have e2:=dh (b:Int) t.length (by omega)
 rw [show max 0 (min (a:Int) t.length)=a by omega]at e1
 rw [show max 0 (min (b:Int) t.length)=b by omega]at e2
 unfold xJ
 generalize hE:LH _ _ _=R
 unfold LH at hE
 by_cases hab:b<a
 ·have abB:(b:Int)<a:=by omega
  rw [show min a b=b by omega,show max a b=a by omega]
  cases w
  ·rw [if_neg (by simp)]
   simp [func286,f286,e1,e2,hab,abB]at hE
   exact hE.symm
  ·by_cases hc:a<t.length
   ·have hc2:(a:Int)<t.length:=by omega
    have w1:=bM ((a:Int)+1) (by omega)
    rw [if_pos ⟨rfl,hc⟩]
    simp [func286,f286,e1,e2,hab,abB,hc,hc2,w1]at hE
    exact hE.symm
   ·have hc2:¬(a:Int)<t.length:=by omega
    rw [if_neg (fun q=>hc q.2)]
    simp [func286,f286,e1,e2,hab,abB,hc,hc2]at hE
    exact hE.symm
 ·have abB:¬(b:Int)<a:=by omega
  rw [show min a b=a by omega,show max a b=b by omega]
  cases w
  ·rw [if_neg (by simp)]
   simp [func286,f286,e1,e2,hab,abB]at hE
   exact hE.symm
  ·by_cases hc:b<t.length
   ·have hc2:(b:Int)<t.length:=by omega
    have w1:=bM ((b:Int)+1) (by omega)
    rw [if_pos ⟨rfl,hc⟩]
    simp [func286,f286,e1,e2,hab,abB,hc,hc2,w1]at hE
    exact hE.symm
   ·have hc2:¬(b:Int)<t.length:=by omega
    rw [if_neg (fun q=>hc q.2)]
    simp [func286,f286,e1,e2,hab,abB,hc,hc2]at hE
    exact hE.symm
theorem Aw (e:dB)(h:fV e):xD [gL e] [] []=some ⟨vI (((gW e:Nat):Int)),[],[]⟩:=by
 obtain⟨n1,n2,n3⟩:=h.gW
 have hc:=h.cnt
 have ho:=h.uV
 have hmul:max e.bH 1*max e.bU 1≤999*999:=Int.mul_le_mul (by omega) (by omega) (by omega) (by omega)
 have afR:0≤max e.bH 1*max e.bU 1:=Int.mul_nonneg (by omega) (by omega)
 have e1:=iy e
 generalize hE:xD _ _ _=R
 unfold xD at hE
 by_cases c:0<e.bU
 ·have hm:max e.bU 1=e.bU:=by omega
  rw [hm]at hmul afR n3
  have w:=bM (max e.bH 1*e.bU) (by omega)
  have e2:=dh (max e.bH 1*e.bU) 999 (by omega)
  rw [show max 0 (min (max e.bH 1*e.bU) 999)=((gW e:Nat):Int) by omega]at e2
  simp [func208,f208,e1,e2,c,w]at hE
  exact hE.symm
 ·have hm:max e.bU 1=1:=by omega
  rw [hm,Int.mul_one]at n3
  have e2:=dh (max e.bH 1) 999 (by omega)
  rw [show max 0 (min (max e.bH 1) 999)=((gW e:Nat):Int) by omega]at e2
  simp [func208,f208,e1,e2,c]at hE
  exact hE.symm
theorem UF (t:List Int)(i:Option Nat)(a:Nat)(r how step look:Int)(ha:a≤t.length)(ht:t.length≤2000)(hst:(how=0∧step=1∧look=0)∨(how=1∧step= -1∧look=0)∨(how=2∧step=1∧look=1)∨(how=3∧step= -1∧look= -1))(N:Nat)(P:Nat→Int)(res:Int)
  (h0:P 0=a+step) (hs:∀j,j<N→P (j+1)=P j+step) (hb:∀j,j≤N→-2≤P j∧P j≤2001)
  (hr:∀j,j<N→0≤P j∧P j<t.length∧(P j+look<0∨(0≤P j+look∧t.length≤P j+look)∨∃(q:Nat) (hq:q<t.length),P j+look=q∧¬t[q]=r))
  (he:(res= -1∧(P N<0∨(0≤P N∧t.length≤P N)))∨(res=P N∧0≤P N∧P N<t.length∧∃(q:Nat) (hq:q<t.length),P N+look=q∧t[q]=r)):
  wG [.aP i (ints t),vI (a:Int),vI r,vI how] [] []=some ⟨vI res,[],[]⟩:=by
 have Ry:=dh (a:Int) t.length (by omega)
 rw [show max 0 (min (a:Int) t.length)=a by omega]at Ry
 have hstep:step=1∨step= -1:=by rcases hst with q|q|q|q<;>simp [q.2.1]
 have w0:IntKind.i64.wrap ((a:Int)+step)=a+step:=bM _ (by clear he hr hb hs h0;rcases hstep with rfl|rfl<;>omega)
 have st:∃w,wG [.aP i (ints t),vI (a:Int),vI r,vI how] [] []=w:=⟨_,rfl⟩
 obtain⟨R,hE⟩:=st
 rw [hE]
 unfold wG at hE
 rcases hst with⟨rfl,rfl,rfl⟩|⟨rfl,rfl,rfl⟩|⟨rfl,rfl,rfl⟩|⟨rfl,rfl,rfl⟩
 all_goals
  simp [func282,f282,Ry,w0]at hE
  first
   | (rw [aJ (fun j=> .on ⟨[(11,V.v (.int .i64 (P j))),(10,V.v (.int .i64 0)),(9,V.v (.int .i64 1)),(2,V.v (.int .i64 r)),(0, .aP i (ints t))],[],[],[]⟩) N ?_ ?_]at hE;rotate_left;(· (simp [h0];done)))
   | (rw [aJ (fun j=> .on ⟨[(11,V.v (.int .i64 (P j))),(10,V.v (.int .i64 0)),(9,V.v (.int .i64 ((-1)))),(2,V.v (.int .i64 r)),(0, .aP i (ints t))],[],[],[]⟩) N ?_ ?_]at hE;rotate_left;(· (simp [h0];done)))
   | (rw [aJ (fun j=> .on ⟨[(11,V.v (.int .i64 (P j))),(10,V.v (.int .i64 1)),(9,V.v (.int .i64 1)),(2,V.v (.int .i64 r)),(0, .aP i (ints t))],[],[],[]⟩) N ?_ ?_]at hE;rotate_left;(· (simp [h0];done)))
   | (rw [aJ (fun j=> .on ⟨[(11,V.v (.int .i64 (P j))),(10,V.v (.int .i64 ((-1)))),(9,V.v (.int .i64 ((-1)))),(2,V.v (.int .i64 r)),(0, .aP i (ints t))],[],[],[]⟩) N ?_ ?_]at hE;rotate_left;(· (simp [h0];done)))
  ·intro j hj
   have b1:=hb j (by omega)
   have s1:=hs j hj
   obtain⟨r1,r2,r3⟩:=hr j hj
   rw [s1]
   generalize P j=x at*
   clear hb hs hr he s1
   have w3:=bM x (by omega)
   have w4:=bM (x+1) (by omega)
   have w5:=bM (x+ -1) (by omega)
   try simp only [Int.add_zero]at r3
   rcases r3 with q|⟨q0,q⟩|⟨k,hk,q0,q⟩
   ·have q':¬(0:Int)≤_:=Int.not_le.2 q
    first|(exfalso;omega)|simp [r1,r2,w3,w4,w5,q,q']
   ·have q':¬_<(t.length:Int):=Int.not_lt.2 q
    first|(exfalso;omega)|simp [r1,r2,w3,w4,w5,q0,q']
   ·have q1:(0:Int)≤k:=by omega
    have q2:(k:Int)<t.length:=by omega
    have w6:=bM (k:Int) (by omega)
    have w7:=bM ((k:Int)+1) (by omega)
    have w8:=bM ((k:Int)+ -1) (by omega)
    simp [r1,r2,w3,w4,w5,w6,w7,w8,q0,q1,q2,hk,aO hk,q]
  ·have b1:=hb N (Nat.le_refl _)
   clear hb hs hr
   generalize P N=x at*
   clear h0
   have w3:=bM x (by omega)
   have w4:=bM (x+1) (by omega)
   have w5:=bM (x+ -1) (by omega)
   try simp only [Int.add_zero]at he
   rcases he with⟨rfl,q|⟨q0,q⟩⟩|⟨rfl,q1,q2,k,hk,q0,q⟩
   ·have q':¬0≤x:=Int.not_le.2 q
    simp [q']at hE
    exact hE.symm
   ·have q':¬x<(t.length:Int):=Int.not_lt.2 q
    simp [q0,q']at hE
    exact hE.symm
   ·have q3:(0:Int)≤k:=by omega
    have q4:(k:Int)<t.length:=by omega
    have w6:=bM (k:Int) (by omega)
    have w7:=bM ((k:Int)+1) (by omega)
    have w8:=bM ((k:Int)+ -1) (by omega)
    simp [q1,q2,q3,q4,w3,w4,w5,w6,w7,w8,q0,hk,aO hk,q]at hE
    first
     | exact hE.symm
     | (rw [q0];exact hE.symm)
theorem IW (t:List Int)(i:Option Nat)(a:Nat)(r how:Int)(h:a≤t.length)(ht:t.length≤2000)(hw:0≤how∧how≤3):wG [.aP i (ints t),vI (a:Int),vI r,vI how] [] []=some ⟨vI (uJ (jC t r how a)),[],[]⟩:=by
 rcases(by omega:how=0∨how=1∨how=2∨how=3)with rfl|rfl|rfl|rfl
 ·unfold jC
  rw [if_pos rfl]
  obtain⟨k1,k2,k3⟩:=cB (fun j=>decide (¬t.getD (a+1+j) 0=r)) (t.length-(a+1))
  generalize gK (fun j=>decide (¬t.getD (a+1+j) 0=r)) (t.length-(a+1))=k at*
  simp only
  refine UF t i a r 0 1 0 h ht (.inl ⟨rfl,rfl,rfl⟩) k (fun j=>(a:Int)+1+j) _ (by simp) (fun j _=>by omega) (fun j _=>by omega) (fun j hj=>⟨by omega,by omega, .inr (.inr ⟨a+1+j,by omega,by omega,?_⟩)⟩) ?_
  ·have:=of_decide_eq_true (k2 j hj)
   rwa [getD_at (by omega)]at this
  ·by_cases q:a+1+k<t.length
   ·rw [if_pos q]
    refine .inr ⟨by simp only [uJ];omega,by omega,by omega,a+1+k,q,by omega,?_⟩
    have:=of_decide_eq_false (k3.resolve_left (by omega))
    rwa [Classical.not_not,getD_at q]at this
   ·rw [if_neg q]
    exact .inl ⟨rfl, .inr ⟨by omega,by omega⟩⟩
 ·unfold jC
  rw [if_neg (by decide),if_pos rfl]
  obtain⟨k1,k2,k3⟩:=cB (fun j=>decide (¬t.getD (a-1-j) 0=r)) a
  generalize gK (fun j=>decide (¬t.getD (a-1-j) 0=r)) a=k at*
  simp only
  refine UF t i a r 1 (-1) 0 h ht (.inr (.inl ⟨rfl,rfl,rfl⟩)) k (fun j=>(a:Int)+ -1-j) _ (by simp) (fun j _=>by omega) (fun j _=>by omega) (fun j hj=>⟨by omega,by omega, .inr (.inr ⟨a-1-j,by omega,by omega,?_⟩)⟩) ?_
  ·have:=of_decide_eq_true (k2 j hj)
   rwa [getD_at (by omega)]at this
  ·by_cases q:k<a
   ·rw [if_pos q]
    refine .inr ⟨by simp only [uJ];omega,by omega,by omega,a-1-k,by omega,by omega,?_⟩
    have:=of_decide_eq_false (k3.resolve_left (by omega))
    rwa [Classical.not_not,getD_at (by omega)]at this
   ·rw [if_neg q]
    exact .inl ⟨rfl, .inl (by omega)⟩
 ·unfold jC
  rw [if_neg (by decide),if_neg (by decide),if_pos rfl]
  obtain⟨k1,k2,k3⟩:=cB (fun j=>decide (¬t.getD (a+2+j) 0=r)) (t.length-(a+2))
  generalize gK (fun j=>decide (¬t.getD (a+2+j) 0=r)) (t.length-(a+2))=k at*
  simp only
  by_cases q:a+2+k<t.length
  ·rw [if_pos q]
   refine UF t i a r 2 1 1 h ht (.inr (.inr (.inl ⟨rfl,rfl,rfl⟩))) k (fun j=>(a:Int)+1+j) _ (by simp) (fun j _=>by omega) (fun j _=>by omega) (fun j hj=>⟨by omega,by omega, .inr (.inr ⟨a+2+j,by omega,by omega,?_⟩)⟩) (.inr ⟨by simp only [uJ];omega,by omega,by omega,a+2+k,q,by omega,?_⟩)
   ·have:=of_decide_eq_true (k2 j hj)
    rwa [getD_at (by omega)]at this
   ·have:=of_decide_eq_false (k3.resolve_left (by omega))
    rwa [Classical.not_not,getD_at q]at this
  ·rw [if_neg q]
   refine UF t i a r 2 1 1 h ht (.inr (.inr (.inl ⟨rfl,rfl,rfl⟩))) (t.length-(a+1)) (fun j=>(a:Int)+1+j) _ (by simp) (fun j _=>by omega) (fun j _=>by omega) (fun j hj=>⟨by omega,by omega,?_⟩) (.inl ⟨rfl, .inr ⟨by omega,by omega⟩⟩)
   by_cases c:a+2+j<t.length
   ·refine .inr (.inr ⟨a+2+j,c,by omega,?_⟩)
    have:=of_decide_eq_true (k2 j (by omega))
    rwa [getD_at c]at this
   ·exact .inr (.inl ⟨by omega,by omega⟩)
 ·unfold jC
  rw [if_neg (by decide),if_neg (by decide),if_neg (by decide),if_pos rfl]
  obtain⟨k1,k2,k3⟩:=cB (fun j=>decide (¬t.getD (a-2-j) 0=r)) (a-1)
  generalize gK (fun j=>decide (¬t.getD (a-2-j) 0=r)) (a-1)=k at*
  simp only
  by_cases q:k<a-1
  ·rw [if_pos q]
   refine UF t i a r 3 (-1) (-1) h ht (.inr (.inr (.inr ⟨rfl,rfl,rfl⟩))) k (fun j=>(a:Int)+ -1-j) _ (by simp) (fun j _=>by omega) (fun j _=>by omega) (fun j hj=>⟨by omega,by omega, .inr (.inr ⟨a-2-j,by omega,by omega,?_⟩)⟩) (.inr ⟨by simp only [uJ];omega,by omega,by omega,a-2-k,by omega,by omega,?_⟩)
   ·have:=of_decide_eq_true (k2 j hj)
    rwa [getD_at (by omega)]at this
   ·have:=of_decide_eq_false (k3.resolve_left (by omega))
    rwa [Classical.not_not,getD_at (by omega)]at this
  ·rw [if_neg q]
   refine UF t i a r 3 (-1) (-1) h ht (.inr (.inr (.inr ⟨rfl,rfl,rfl⟩))) a (fun j=>(a:Int)+ -1-j) _ (by simp) (fun j _=>by omega) (fun j _=>by omega) (fun j hj=>⟨by omega,by omega,?_⟩) (.inl ⟨rfl, .inl (by omega)⟩)
   by_cases c:j<a-1
   ·refine .inr (.inr ⟨a-2-j,by omega,by omega,?_⟩)
    have:=of_decide_eq_true (k2 j (by omega))
    rwa [getD_at (by omega)]at this
   ·exact .inl (by omega)
theorem abC (t:List Int)(i:Option Nat)(a:Nat)(ha:a≤t.length)(ht:t.length≤2000)(r:Int)(f:Nat→Nat)
  (hr:(r=119∧f=FK t false)∨(r=87∧f=FK t true)∨(r=98∧f=lG t false)∨(r=66∧f=lG t true)∨(r=101∧f=xH t false)∨(r=69∧f=xH t true)):
  BJ [.aP i (ints t),vI (a:Int),vI r] [] []=some ⟨vI (((f a:Nat):Int)),[],[]⟩:=by
 have e1:=fun b=>YZ t (some 0) a b ha ht
 have e2:=fun b=>JX t (some 0) a b ha ht
 have e3:=fun b=>WB t (some 0) a b ha ht
 unfold BJ
 rcases hr with⟨rfl,rfl⟩|⟨rfl,rfl⟩|⟨rfl,rfl⟩|⟨rfl,rfl⟩|⟨rfl,rfl⟩|⟨rfl,rfl⟩
 all_goals simp [func283,f283,e1,e2,e3]
section
variable (t:List Int) (i:Option Nat) (a n:Nat) (ha:a≤t.length) (ht:t.length≤2000) (hn:1≤n∧n≤999)
include ha ht hn
theorem nZ (r:Int)(f:Nat→Nat)(w:Bool)(hf:∀a,a≤t.length→f a≤t.length)
  (hr:(r=119∧f=FK t false)∨(r=87∧f=FK t true)∨(r=98∧f=lG t false)∨(r=66∧f=lG t true)∨(r=101∧f=xH t false)∨(r=69∧f=xH t true)) (hw:w=(decide (r=101∨r=69)&&decide (0<t.length))):
  iY [.aP i (ints t),vI (a:Int),vI r,vI (n:Int)] [] []=some ⟨.fK [vI (((dD f n a:Nat):Int)),V.v (.bool w),V.v (.bool true)],[],[]⟩:=by
 have e0:=dh (a:Int) t.length (by omega)
 rw [show max 0 (min (a:Int) t.length)=a by omega]at e0
 have e1:=zK n hn
 have e2:∀a,a≤t.length→BJ [.aP (some 0) (ints t),vI (a:Int),vI r] [] []=some ⟨vI (((f a:Nat):Int)),[],[]⟩:=fun a ha=>abC t (some 0) a ha ht r f hr
 have hq:r=119∨r=87∨r=98∨r=66∨r=101∨r=69:=by
  rcases hr with h|h|h|h|h|h<;>simp [h.1]
 have hle:=rY hf
 clear hr
 generalize hE:iY _ _ _=R
 unfold iY at hE
 rcases hq with rfl|rfl|rfl|rfl|rfl|rfl
 all_goals
  simp [func266,f266,e0,e1]at hE
  first
   | (rw [aJ (fun j=> .on ⟨[(12,V.v (.int .i64 ((j:Int)))),(3,V.v (.int .i64 ((n:Int)))),(2,V.v (.int .i64 119)),(1,V.v (.int .i64 (((dD f j a:Nat):Int)))),(0, .aP i (ints t))],[],[],[]⟩) n ?_ ?_]at hE;rotate_left;(· (simp [dD];done)))
   | (rw [aJ (fun j=> .on ⟨[(12,V.v (.int .i64 ((j:Int)))),(3,V.v (.int .i64 ((n:Int)))),(2,V.v (.int .i64 87)),(1,V.v (.int .i64 (((dD f j a:Nat):Int)))),(0, .aP i (ints t))],[],[],[]⟩) n ?_ ?_]at hE;rotate_left;(· (simp [dD];done)))
   | (rw [aJ (fun j=> .on ⟨[(12,V.v (.int .i64 ((j:Int)))),(3,V.v (.int .i64 ((n:Int)))),(2,V.v (.int .i64 98)),(1,V.v (.int .i64 (((dD f j a:Nat):Int)))),(0, .aP i (ints t))],[],[],[]⟩) n ?_ ?_]at hE;rotate_left;(· (simp [dD];done)))
   | (rw [aJ (fun j=> .on ⟨[(12,V.v (.int .i64 ((j:Int)))),(3,V.v (.int .i64 ((n:Int)))),(2,V.v (.int .i64 66)),(1,V.v (.int .i64 (((dD f j a:Nat):Int)))),(0, .aP i (ints t))],[],[],[]⟩) n ?_ ?_]at hE;rotate_left;(· (simp [dD];done)))
   | (rw [aJ (fun j=> .on ⟨[(12,V.v (.int .i64 ((j:Int)))),(3,V.v (.int .i64 ((n:Int)))),(2,V.v (.int .i64 101)),(1,V.v (.int .i64 (((dD f j a:Nat):Int)))),(0, .aP i (ints t))],[],[],[]⟩) n ?_ ?_]at hE;rotate_left;(· (simp [dD];done)))
   | (rw [aJ (fun j=> .on ⟨[(12,V.v (.int .i64 ((j:Int)))),(3,V.v (.int .i64 ((n:Int)))),(2,V.v (.int .i64 69)),(1,V.v (.int .i64 (((dD f j a:Nat):Int)))),(0, .aP i (ints t))],[],[],[]⟩) n ?_ ?_]at hE;rotate_left;(· (simp [dD];done)))
  ·intro j hj
   have h2:=e2 _ (hle j a ha)
   have hw2:=bM ((j:Int)+1) (by omega)
   rw [p8]
   generalize dD f j a=p at*
   simp [hj,h2,hw2]
  ·subst hw
   by_cases h0:0<t.length
   ·simp [h0]at hE
    simp [h0]
    exact hE.symm
   ·simp [h0]at hE
    simp [h0]
    exact hE.symm
theorem pq (r:Int)(x:Int)(w:Bool)(h:(r=104∧x=((a-n:Nat):Int)∧w=false)∨((r=108∨r=32)∧x=((min (a+n) t.length:Nat):Int)∧w=false)∨(r=48∧x=0∧w=false)∨(r=36∧x=((t.length-1:Nat):Int)∧w=decide (0<t.length))∨(r=124∧x=((min (n-1) t.length:Nat):Int)∧w=false)):
  iY [.aP i (ints t),vI (a:Int),vI r,vI (n:Int)] [] []=some ⟨.fK [vI x,V.v (.bool w),V.v (.bool true)],[],[]⟩:=by
 have e0:=dh (a:Int) t.length (by omega)
 rw [show max 0 (min (a:Int) t.length)=a by omega]at e0
 have e1:=zK n hn
 have w1:=bM ((a:Int)-n) (by omega)
 have w2:=bM ((a:Int)+n) (by omega)
 have w3:=bM ((t.length:Int)-1) (by omega)
 have w4:=bM ((n:Int)-1) (by omega)
 have f1:=dh ((a:Int)-n) t.length (by omega)
 rw [show max 0 (min ((a:Int)-n) t.length)=((a-n:Nat):Int) by omega]at f1
 have f2:=dh ((a:Int)+n) t.length (by omega)
 rw [show max 0 (min ((a:Int)+n) t.length)=((min (a+n) t.length:Nat):Int) by omega]at f2
 have f3:=dh ((t.length:Int)-1) t.length (by omega)
 rw [show max 0 (min ((t.length:Int)-1) t.length)=((t.length-1:Nat):Int) by omega]at f3
 have f4:=dh ((n:Int)-1) t.length (by omega)
 rw [show max 0 (min ((n:Int)-1) t.length)=((min (n-1) t.length:Nat):Int) by omega]at f4
 generalize ((a-n:Nat):Int)=y1 at*
 generalize ((min (a+n) t.length:Nat):Int)=y2 at*
 generalize ((t.length-1:Nat):Int)=y3 at*
 generalize ((min (n-1) t.length:Nat):Int)=y4 at*
 generalize hE:iY _ _ _=R
 unfold iY at hE
 rcases h with⟨rfl,rfl,rfl⟩|⟨rfl|rfl,rfl,rfl⟩|⟨rfl,rfl,rfl⟩|⟨rfl,rfl,rfl⟩|⟨rfl,rfl,rfl⟩
 all_goals
  simp [func266,f266,e0,e1,w1,w2,w3,w4,f1,f2,f3,f4]at hE
  exact hE.symm
theorem RI:iY [.aP i (ints t),vI (a:Int),vI 94,vI (n:Int)] [] []=some ⟨.fK [vI (((zQ t:Nat):Int)),V.v (.bool false),V.v (.bool true)],[],[]⟩:=by
 have e0:=dh (a:Int) t.length (by omega)
 rw [show max 0 (min (a:Int) t.length)=a by omega]at e0
 have e1:=zK n hn
 have hc:∀j (h:j<t.length),kP [vI (t[j])] [] []=some ⟨vI (kV (t.getD j 0)),[],[]⟩:=fun j hj=>by rw [getD_at hj];exact FT _
 unfold zQ
 obtain⟨k1,k2,k3⟩:=cB (fun j=>decide (kV (t.getD j 0)=0)) t.length
 generalize gK (fun j=>decide (kV (t.getD j 0)=0)) t.length=k at*
 generalize hcf:(fun j=>kV (t.getD j 0))=cf
 have QZ:∀j,kV (t.getD j 0)=cf j:=fun j=>by rw [←hcf]
 simp only [QZ]at hc k2 k3
 generalize hE:iY _ _ _=R
 simp [iY,func266,f266,e0,e1]at hE
 rw [aJ (fun j=> .on ⟨[(11,V.v (.int .i64 ((j:Int)))),(0, .aP i (ints t))],[],[],[]⟩) k ?_ ?_]at hE
 ·rcases k3 with q|q
  ·subst q
   simp at hE
   exact hE.symm
  ·have q':¬cf k=0:=of_decide_eq_false q
   by_cases hk:k<t.length
   ·have e2:=hc k hk
    simp [hk,aO hk,e2,q']at hE
    exact hE.symm
   ·have hke:k=t.length:=by omega
    subst hke
    simp at hE
    exact hE.symm
 ·simp
 ·intro j hj
  have h1:j<t.length:=by omega
  have e2:=hc j h1
  have q:cf j=0:=of_decide_eq_true (k2 j hj)
  have hw:=bM ((j:Int)+1) (by omega)
  simp [h1,aO h1,e2,q,hw]
theorem CX (r:Int):iY [.aP i (ints t),vI (a:Int),vI r,vI (n:Int)] [] []=some (mR (gM t a r n)):=by
 unfold gM
 by_cases YS:r=104
 ·rw [if_pos YS];exact pq t i a n ha ht hn _ _ _ (.inl ⟨YS,rfl,rfl⟩)
 rw [if_neg YS]
 by_cases Wo:r=108∨r=32
 ·rw [if_pos Wo];exact pq t i a n ha ht hn _ _ _ (.inr (.inl ⟨Wo,rfl,rfl⟩))
 rw [if_neg Wo]
 by_cases c119:r=119∨r=87
 ·rw [if_pos c119]
  rcases c119 with rfl|rfl
  ·exact nZ t i a n ha ht hn 119 _ _ (fun a ha=>(O7 ha).2) (.inl ⟨rfl,rfl⟩) (by simp)
  ·exact nZ t i a n ha ht hn 87 _ _ (fun a ha=>(O7 ha).2) (.inr (.inl ⟨rfl,rfl⟩)) (by simp)
 rw [if_neg c119]
 by_cases Wi:r=98∨r=66
 ·rw [if_pos Wi]
  rcases Wi with rfl|rfl
  ·exact nZ t i a n ha ht hn 98 _ _ (fun a ha=>Nat.le_trans AZ ha) (.inr (.inr (.inl ⟨rfl,rfl⟩))) (by simp)
  ·exact nZ t i a n ha ht hn 66 _ _ (fun a ha=>Nat.le_trans AZ ha) (.inr (.inr (.inr (.inl ⟨rfl,rfl⟩)))) (by simp)
 rw [if_neg Wi]
 by_cases FR:r=101∨r=69
 ·rw [if_pos FR]
  rcases FR with rfl|rfl
  ·exact nZ t i a n ha ht hn 101 _ _ (fun a ha=>Ma.1) (.inr (.inr (.inr (.inr (.inl ⟨rfl,rfl⟩))))) (by simp)
  ·exact nZ t i a n ha ht hn 69 _ _ (fun a ha=>Ma.1) (.inr (.inr (.inr (.inr (.inr ⟨rfl,rfl⟩))))) (by simp)
 rw [if_neg FR]
 by_cases c48:r=48
 ·rw [if_pos c48];exact pq t i a n ha ht hn _ _ _ (.inr (.inr (.inl ⟨c48,rfl,rfl⟩)))
 rw [if_neg c48]
 by_cases c94:r=94
 ·rw [if_pos c94];subst c94;exact RI t i a n ha ht hn
 rw [if_neg c94]
 by_cases c36:r=36
 ·rw [if_pos c36];exact pq t i a n ha ht hn _ _ _ (.inr (.inr (.inr (.inl ⟨c36,rfl,rfl⟩))))
 rw [if_neg c36]
 by_cases c124:r=124
 ·rw [if_pos c124];exact pq t i a n ha ht hn _ _ _ (.inr (.inr (.inr (.inr ⟨c124,rfl,rfl⟩))))
 rw [if_neg c124]
 have e0:=dh (a:Int) t.length (by omega)
 rw [show max 0 (min (a:Int) t.length)=a by omega]at e0
 have e1:=zK n hn
 have c1:¬r=108:=fun q=>Wo (.inl q)
 have c2:¬r=32:=fun q=>Wo (.inr q)
 have c3:¬r=119:=fun q=>c119 (.inl q)
 have c4:¬r=87:=fun q=>c119 (.inr q)
 have c5:¬r=98:=fun q=>Wi (.inl q)
 have c6:¬r=66:=fun q=>Wi (.inr q)
 have c7:¬r=101:=fun q=>FR (.inl q)
 have c8:¬r=69:=fun q=>FR (.inr q)
 generalize hE:iY _ _ _=R
 simp [iY,func266,f266,e0,e1,YS,c1,c2,c3,c4,c5,c6,c7,c8,c48,c94,c36,c124]at hE
 exact hE.symm
end
theorem UG (t:List Int)(i:Option Nat)(a n:Nat)(r how:Int)(ha:a≤t.length)(ht:t.length≤2000)(hn:1≤n∧n≤999)(hw:0≤how∧how≤3):AV [.aP i (ints t),vI (a:Int),vI r,vI how,vI (n:Int)] [] []=some ⟨.fK [vI (uJ (tZ t r how n a)),V.v (.bool ((tZ t r how n a).isSome))],[],[]⟩:=by
 have e0:=dh (a:Int) t.length (by omega)
 rw [show max 0 (min (a:Int) t.length)=a by omega]at e0
 have e1:=zK n hn
 generalize hE:AV _ _ _=R
 simp [AV,func263,f263,e0,e1]at hE
 rcases Rq t r how n a ha with⟨p,h1,xs,x0,xm,xs1,xs2⟩|⟨h1,N,xs,hN,x0,xs1,xs2,xs3⟩
 ·rw [aJ (fun j=> .on ⟨[(12,V.v (.int .i64 ((j:Int)))),(4,V.v (.int .i64 ((n:Int)))),(3,V.v (.int .i64 how)),(2,V.v (.int .i64 r)),(1,V.v (.int .i64 ((xs j:Int)))),(0, .aP i (ints t))],[],[],[]⟩) n ?_ ?_]at hE
  ·rw [h1]
   simp [xm,e1]at hE
   exact hE.symm
  ·simp [x0]
  ·intro j hj
   have e2:=IW t (some 0) (xs j) r how (xs2 j (by omega)) ht hw
   rw [xs1 j hj]at e2
   simp only [uJ]at e2
   have hw2:=bM ((j:Int)+1) (by omega)
   have hn0:¬(xs (j+1):Int)<0:=by omega
   simp [e1,hj,e2,hw2,hn0]
 ·rw [aJ (fun j=> .on ⟨[(12,V.v (.int .i64 ((j:Int)))),(4,V.v (.int .i64 ((n:Int)))),(3,V.v (.int .i64 how)),(2,V.v (.int .i64 r)),(1,V.v (.int .i64 ((xs j:Int)))),(0, .aP i (ints t))],[],[],[]⟩) N ?_ ?_]at hE
  ·rw [h1]
   have e2:=IW t (some 0) (xs N) r how (xs2 N (by omega)) ht hw
   rw [xs3]at e2
   simp only [uJ]at e2
   simp [e1,hN,e2]at hE
   exact hE.symm
  ·simp [x0]
  ·intro j hj
   have e2:=IW t (some 0) (xs j) r how (xs2 j (by omega)) ht hw
   rw [xs1 j hj]at e2
   simp only [uJ]at e2
   have hw2:=bM ((j:Int)+1) (by omega)
   have hn0:¬(xs (j+1):Int)<0:=by omega
   have hjn:j<n:=by omega
   simp [e1,hjn,e2,hw2,hn0]
section
variable (e:dB) (h:fV e)
include h
theorem abD (r:Int)(hy:eB [gL e] [] []=some (kR (jO e))):jd [gL e,vI r] [] []=some (kR (zY e r)):=by
 obtain⟨h1,h2,h3,h4⟩:=h.aR
 obtain⟨n1,n2,n3⟩:=fJ e h
 have en:=iy e
 unfold zY
 by_cases cd:gY r 48 57=true
 ·rw [if_pos cd]
  have hr2:=bA.1 cd
  have hc:=h.cnt
  have e0:=gB e h
  have w1:=bM (e.bH*10) (by omega)
  have w2:=bM (e.bH*10+r) (by omega)
  have w3:=bM (e.bH*10+r-48) (by omega)
  have e1:=dh (e.bH*10+r-48) 999 (by omega)
  rw [show max 0 (min (e.bH*10+r-48) 999)=min (10*e.bH+r-48) 999 by omega]at e1
  unfold Iq
  clear h
  generalize hE:jd _ _ _=R
  simp [jd, -au,func105,f105,e0,e1,w1,w2,w3,hr2.1,hr2.2]at hE
  exact hE.symm
 rw [if_neg cd]
 have cd:gY r 48 57=false:=by simpa using cd
 have nd:¬48≤r∨(48≤r∧¬r≤57):=Js cd
 by_cases c1:r=98
 ·rw [if_pos c1]
  subst c1
  have e1:=Gb e h (gQ e) (by omega)
  rw [n1]at e1
  have e2:=qP e h (dD (fq e.ak.av) (gQ e) (aR e))
  generalize dD (fq e.ak.av) (gQ e) (aR e)=u at*
  generalize yP e u=p at*
  clear h
  generalize hE:jd _ _ _=R
  simp [jd, -au,func105,f105,en,e1,e2]at hE
  exact hE.symm
 rw [if_neg c1]
 by_cases c2:r=102
 ·rw [if_pos c2]
  subst c2
  have e1:=Dr e h (gQ e) (by omega)
  rw [n1]at e1
  have e2:=qP e h (dD (iq e.ak.av) (gQ e) (aR e))
  generalize dD (iq e.ak.av) (gQ e) (aR e)=u at*
  generalize yP e u=p at*
  clear h
  generalize hE:jd _ _ _=R
  simp [jd, -au,func105,f105,en,e1,e2]at hE
  exact hE.symm
 rw [if_neg c2]
 by_cases c3:r=100
 ·rw [if_pos c3]
  subst c3
  have e1:=Dr e h (gQ e) (by omega)
  rw [n1]at e1
  have hu:=Mc (fun a ha=>wJ (t:=e.ak.av) ha) (gQ e) (aR e) h2
  have e2:=BS e h e.ak.At (dD (iq e.ak.av) (gQ e) (aR e)) 1 (aR e) (dD (iq e.ak.av) (gQ e) (aR e)) (by omega) (by omega) hu.1 (by omega)
  generalize dD (iq e.ak.av) (gQ e) (aR e)=u at*
  generalize lH e (aR e) u 1=p at*
  clear h
  generalize hE:jd _ _ _=R
  simp [jd, -au,func105,f105,en,e1,e2]at hE
  exact hE.symm
 rw [if_neg c3]
 by_cases c4:r=121
 ·rw [if_pos c4]
  subst c4
  generalize jO e=p at*
  clear h
  generalize hE:jd _ _ _=R
  simp [jd, -au,func105,f105,en,hy]at hE
  exact hE.symm
 rw [if_neg c4]
 have cs:∀(r how:Int),(r=117∧how=1)∨(r=108∧how=0)∨(r=99∧how=2)→jd [gL e,vI r] [] []=some (kR (JQ e how)):=fun r how hr=>by
  have e1:=abz e h how (by omega)
  generalize JQ e how=p at*
  clear h
  generalize hE:jd _ _ _=R
  unfold jd at hE
  rcases hr with⟨rfl,rfl⟩|⟨rfl,rfl⟩|⟨rfl,rfl⟩<;>(simp [-au,func105,f105,en,e1]at hE;exact hE.symm)
 by_cases c5:r=117
 ·rw [if_pos c5];exact cs r 1 (.inl ⟨c5,rfl⟩)
 rw [if_neg c5]
 by_cases c6:r=108
 ·rw [if_pos c6];exact cs r 0 (.inr (.inl ⟨c6,rfl⟩))
 rw [if_neg c6]
 by_cases c7:r=99
 ·rw [if_pos c7];exact cs r 2 (.inr (.inr ⟨c7,rfl⟩))
 rw [if_neg c7]
 have e1:=jD e h
 generalize dM e=p at*
 clear h
 generalize hE:jd _ _ _=R
 unfold jd at hE
 rcases nd with d1|⟨d1,d2⟩
 ·simp [-au,func105,f105,en,e1,d1,c1,c2,c3,c4,c5,c6,c7]at hE
  exact hE.symm
 ·simp [-au,func105,f105,en,e1,d1,d2,c1,c2,c3,c4,c5,c6,c7]at hE
  exact hE.symm
end
section
variable (e:dB) (h:fV e) {f:Int} {l:List ByteArray} (hh:gX f l)
include h hh
theorem abE:bY [gL e,aH f l,vI 97] [] []=some (kR (yP e 0)):=by
 obtain⟨h1,h2,h3,h4⟩:=h.aR
 obtain⟨n1,n2,n3⟩:=fJ e h
 have en:=iy e
 have e1:=qP e h 0
 generalize yP e 0=p at*
 clear h hh
 generalize hE:bY _ _ _=R
 simp [bY, -au,func109,f109,en,e1]at hE
 exact hE.symm
theorem Zc:bY [gL e,aH f l,vI 101] [] []=some (kR (yP e e.ak.av.length)):=by
 obtain⟨h1,h2,h3,h4⟩:=h.aR
 obtain⟨n1,n2,n3⟩:=fJ e h
 have en:=iy e
 have e1:=qP e h e.ak.av.length
 generalize yP e e.ak.av.length=p at*
 clear h hh
 generalize hE:bY _ _ _=R
 simp [bY, -au,func109,f109,en,e1]at hE
 exact hE.symm
theorem abF:bY [gL e,aH f l,vI 98] [] []=some (kR (yP e (e.ak.At-gQ e))):=by
 obtain⟨h1,h2,h3,h4⟩:=h.aR
 obtain⟨n1,n2,n3⟩:=fJ e h
 have en:=iy e
 rw [n1]
 have e1:=qP e h (e.ak.At-max e.bH 1)
 have w1:=bM (e.ak.At-max e.bH 1) (by omega)
 generalize yP e (e.ak.At-max e.bH 1)=p at*
 clear h hh
 generalize hE:bY _ _ _=R
 simp [bY, -au,func109,f109,en,e1,w1]at hE
 exact hE.symm
theorem Zd:bY [gL e,aH f l,vI 102] [] []=some (kR (yP e (e.ak.At+gQ e))):=by
 obtain⟨h1,h2,h3,h4⟩:=h.aR
 obtain⟨n1,n2,n3⟩:=fJ e h
 have en:=iy e
 rw [n1]
 have e1:=qP e h (e.ak.At+max e.bH 1)
 have w1:=bM (e.ak.At+max e.bH 1) (by omega)
 generalize yP e (e.ak.At+max e.bH 1)=p at*
 clear h hh
 generalize hE:bY _ _ _=R
 simp [bY, -au,func109,f109,en,e1,w1]at hE
 exact hE.symm
theorem Ze:bY [gL e,aH f l,vI 112] [] []=some (kR (jF e f l (-1))):=by
 obtain⟨h1,h2,h3,h4⟩:=h.aR
 obtain⟨n1,n2,n3⟩:=fJ e h
 have en:=iy e
 have e1:=uw e h hh (-1) (.inr rfl)
 generalize jF e f l (-1)=p at*
 clear h hh
 generalize hE:bY _ _ _=R
 simp [bY, -au,func109,f109,en,e1]at hE
 exact hE.symm
theorem Zf:bY [gL e,aH f l,vI 110] [] []=some (kR (jF e f l 1)):=by
 obtain⟨h1,h2,h3,h4⟩:=h.aR
 obtain⟨n1,n2,n3⟩:=fJ e h
 have en:=iy e
 have e1:=uw e h hh 1 (.inl rfl)
 generalize jF e f l 1=p at*
 clear h hh
 generalize hE:bY _ _ _=R
 simp [bY, -au,func109,f109,en,e1]at hE
 exact hE.symm
theorem Zg:bY [gL e,aH f l,vI 107] [] []=some (kR (lH e (aR e) e.ak.av.length 1)):=by
 obtain⟨h1,h2,h3,h4⟩:=h.aR
 obtain⟨n1,n2,n3⟩:=fJ e h
 have en:=iy e
 have e1:=BS e h e.ak.At e.ak.av.length 1 (aR e) e.ak.av.length (by omega) (by omega) (by omega) (by omega)
 generalize lH e (aR e) e.ak.av.length 1=p at*
 clear h hh
 generalize hE:bY _ _ _=R
 simp [bY, -au,func109,f109,en,e1]at hE
 exact hE.symm
theorem Zh:bY [gL e,aH f l,vI 121] [] []=some (kR (BM e)):=by
 obtain⟨h1,h2,h3,h4⟩:=h.aR
 obtain⟨n1,n2,n3⟩:=fJ e h
 have en:=iy e
 have e1:=aby e h
 generalize BM e=p at*
 clear h hh
 generalize hE:bY _ _ _=R
 simp [bY, -au,func109,f109,en,e1]at hE
 exact hE.symm
theorem abG (hu:iI [gL e] [] []=some (kR (mQ e))):bY [gL e,aH f l,vI 95] [] []=some (kR (mQ e)):=by
 obtain⟨h1,h2,h3,h4⟩:=h.aR
 obtain⟨n1,n2,n3⟩:=fJ e h
 have en:=iy e
 generalize mQ e=p at*
 clear h hh
 generalize hE:bY _ _ _=R
 simp [bY, -au,func109,f109,en,hu]at hE
 exact hE.symm
theorem Zi (hm:¬e.bV=3):bY [gL e,aH f l,vI 114] [] []=some (kR (BL e)):=by
 obtain⟨h1,h2,h3,h4⟩:=h.aR
 obtain⟨n1,n2,n3⟩:=fJ e h
 have en:=iy e
 have e1:=FX e h hm
 generalize BL e=p at*
 clear h hh
 generalize hE:bY _ _ _=R
 simp [bY, -au,func109,f109,en,e1]at hE
 exact hE.symm
end
theorem RJ (t:List Int)(a:Int)(h:bN t a=true)(h2:t.length<2∨a=0):tN [.agg [.aP (some 0) (ints t),vI a]] [] []=some ⟨.fK [.agg [.own 0,vI 0],V.v (.bool false)],[],[(0,[])]⟩:=by
 have e1:=tT t a h
 unfold tN
 by_cases c:t.length<2
 ·have l2:(t.length:Int)<2:=by omega
  simp [func198,f198,e1,l2]
 ·have l2:¬(t.length:Int)<2:=by omega
  have a0:a=0:=h2.resolve_left c
  subst a0
  simp [func198,f198,e1,l2]
section
variable (e:dB) (h:fV e) {f:Int} {l:List ByteArray} (hh:gX f l)
include h hh
theorem Zj:bY [gL e,aH f l,vI 116] [] []=some (kR (Ir e)):=by
 obtain⟨h1,h2,h3,h4⟩:=h.aR
 have en:=iy e
 unfold Ir
 by_cases hc:e.ak.av.length<2∨e.ak.At=0
 ·rw [if_pos hc]
  have e1:=RJ _ _ h.line hc
  have e2:=Av e h [] 0 0 rfl (by omega)
  simp only [bn]at e2
  generalize dM e=p at*
  clear h hh
  generalize hE:bY _ _ _=R
  simp [bY, -au,func109,f109,en,e1,e2]at hE
  exact hE.symm
 ·rw [if_neg hc]
  have hl:=KD e.ak.av (min (aR e) (e.ak.av.length-1))
  have e1:=Y0 e.ak.av e.ak.At h.line (by omega) (min (aR e) (e.ak.av.length-1)) (by omega) (by omega)
  have e2:=qO e h (swapAt e.ak.av (min (aR e) (e.ak.av.length-1))) ((min (aR e) (e.ak.av.length-1):Nat)+1) 0 (gq (by omega) (FJ h4 (by omega)) (by omega) (by omega)) (by omega)
  unfold vQ
  generalize swapAt e.ak.av (min (aR e) (e.ak.av.length-1))=u at*
  generalize ((min (aR e) (e.ak.av.length-1):Nat):Int)+1=b at*
  generalize sO e u b 0=p at*
  clear h hh
  generalize hE:bY _ _ _=R
  simp [bY, -au,func109,f109,en,e1,e2]at hE
  exact hE.symm
theorem abH (r:Int)(hm:¬e.bV=3)(hu:r=95→iI [gL e] [] []=some (kR (mQ e))):bY [gL e,aH f l,vI r] [] []=some (kR (CO e f l r)):=by
 unfold CO
 by_cases c97:r=97
 ·rw [if_pos c97];subst c97;exact abE e h hh
 rw [if_neg c97]
 by_cases FR:r=101
 ·rw [if_pos FR];subst FR;exact Zc e h hh
 rw [if_neg FR]
 by_cases Wi:r=98
 ·rw [if_pos Wi];subst Wi;exact abF e h hh
 rw [if_neg Wi]
 by_cases Wj:r=102
 ·rw [if_pos Wj];subst Wj;exact Zd e h hh
 rw [if_neg Wj]
 by_cases JB:r=112
 ·rw [if_pos JB];subst JB;exact Ze e h hh
 rw [if_neg JB]
 by_cases Wm:r=110
 ·rw [if_pos Wm];subst Wm;exact Zf e h hh
 rw [if_neg Wm]
 by_cases c107:r=107
 ·rw [if_pos c107];subst c107;exact Zg e h hh
 rw [if_neg c107]
 by_cases Wn:r=121
 ·rw [if_pos Wn];subst Wn;exact Zh e h hh
 rw [if_neg Wn]
 by_cases c116:r=116
 ·rw [if_pos c116];subst c116;exact Zj e h hh
 rw [if_neg c116]
 by_cases c95:r=95
 ·rw [if_pos c95];subst c95;exact abG e h hh (hu rfl)
 rw [if_neg c95]
 by_cases JC:r=114
 ·rw [if_pos JC];subst JC;exact Zi e h hh hm
 rw [if_neg JC]
 have en:=iy e
 have e1:=jD e h
 generalize dM e=p at*
 clear h hh
 generalize hE:bY _ _ _=R
 simp [bY, -au,func109,f109,en,e1,c97,FR,Wi,Wj,JB,Wm,c107,Wn,c116,c95,JC]at hE
 exact hE.symm
end
section
variable (e:dB) (h:fV e) {f:Int} {l:List ByteArray} (hh:gX f l)
include h hh
theorem Zk (k r:Int)(hk:jh k r=true)(hm:e.bV=0)(hy:eB [gL e] [] []=some (kR (jO e)))(hu:k=2→r=95→iI [gL e] [] []=some (kR (mQ e))):iX [gL e,aH f l,aK k r] [] []=some (kR (xI e f l k r)):=by
 obtain⟨h1,h2,h3,h4⟩:=h.aR
 obtain⟨n1,n2,n3⟩:=fJ e h
 have ea:=uq e (fA.2 h)
 have eb:=oJ f l hh
 have ec:=o9 k r
 rw [hk]at ec
 have e2:=IV e h hh k r hk (.inl hm)
 have en:=iy e
 unfold xI
 cases hp:lY e f l k r with
 | some p=>
  rw [hp]at e2
  simp only
  clear h hh
  generalize hE:iX _ _ _=R
  unfold iX at hE
  simp only [gL,gO,hO,hm]at ea e2 hE
  simp [-au,func38,f38,ea,eb,ec,e2]at hE
  exact hE.symm
 | none=>
  rw [hp]at e2
  simp only [kRo,Iz,u6,bn,show aC []= []from rfl,show aS []= []from rfl]at e2
  simp only
  by_cases c3:k=3
  ·rw [if_pos c3]
   subst c3
   have e3:=abD e h r hy
   generalize zY e r=p at*
   clear h hh
   generalize hE:iX _ _ _=R
   unfold iX at hE
   simp only [gL,gO,hO,hm]at ea e2 e3 hE
   simp [-au,func38,f38,ea,eb,ec,e2,e3]at hE
   exact hE.symm
  rw [if_neg c3]
  by_cases c15:k=15
  ·rw [if_pos c15]
   subst c15
   have e3:=Gb e h (gQ e) (by omega)
   rw [n1]at e3
   have hd:=FN (f:=fq e.ak.av) (fun _=>zH) (gQ e) (aR e)
   have e4:=BS e h (dD (fq e.ak.av) (gQ e) (aR e)) e.ak.At 2 (dD (fq e.ak.av) (gQ e) (aR e)) (aR e) (by omega) (by omega) hd (by omega)
   generalize lH e (dD (fq e.ak.av) (gQ e) (aR e)) (aR e) 2=p at*
   generalize dD (fq e.ak.av) (gQ e) (aR e)=u at*
   clear h hh
   generalize hE:iX _ _ _=R
   unfold iX at hE
   simp only [gL,gO,hO,hm]at ea e2 e3 e4 en hE
   simp [-au,func38,f38,ea,eb,ec,e2,e3,e4,en]at hE
   exact hE.symm
  rw [if_neg c15]
  by_cases c2:k=2
  ·rw [if_pos c2]
   subst c2
   have e3:=abH e h hh r (by omega) (hu rfl)
   generalize CO e f l r=p at*
   clear h hh
   generalize hE:iX _ _ _=R
   unfold iX at hE
   simp only [gL,gO,hO,hm]at ea e2 e3 hE
   simp [-au,func38,f38,ea,eb,ec,e2,e3]at hE
   exact hE.symm
  rw [if_neg c2]
  have e3:=jD e h
  generalize dM e=p at*
  clear h hh
  generalize hE:iX _ _ _=R
  unfold iX at hE
  simp only [gL,gO,hO,hm]at ea e2 e3 hE
  simp [-au,func38,f38,ea,eb,ec,e2,e3,c2,c3,c15]at hE
  exact hE.symm
end
section
variable (e:dB) (h:fV e) (hm:e.bV=2)
include h hm
theorem ad9 (f u:Nat)(h1:f≤u)(h2:u≤e.ak.av.length):Eb [gL e,vI (f:Int),vI (u:Int)] [] []=some ⟨V.v (.bool true),[],[]⟩:=by
 have e3:=BR e.ak.av e.ak.At h.line f u h1 h2
 generalize hE:Eb _ _ _=R
 simp [Eb, -au,func269,f269,e3]at hE
 exact hE.symm
theorem xP (a:Nat)(ha:a≤e.ak.av.length):mG [gL e,vI (a:Int)] [] []=some (kR (o7 e a,0)):=by
 obtain⟨h1,h2,h3,h4⟩:=h.aR
 have e1:=qP e h a
 have e2:=dh (a:Int) e.ak.av.length (by omega)
 have hq:max 0 (min (a:Int) e.ak.av.length)=a:=by omega
 rw [hq]at e2
 unfold yP vQ QY at e1
 rw [hq]at e1
 unfold Proofs.YtlpdjhiggpblcaaGreat.o7
 simp only [sO,sK]at e1⊢
 generalize sJ e e.ak.av 0=ul at*
 generalize jl e.bV e.ak.av a=ia at*
 clear h
 generalize hE:mG _ _ _=R
 simp [mG, -au,func270,f270,e1,e2]at hE
 exact hE.symm
end
section
variable (e:dB) (h:fV e) (hm:e.bV=2)
include h hm
theorem uL (op:Int)(hop:opC op=true)(f u:Nat)(h1:f≤u)(h2:u≤e.ak.av.length):iQ [gL e,vI op,vI (f:Int),vI (u:Int)] [] []=some (kR (gZ e op f u)):=by
 obtain⟨a1,a2,a3,a4⟩:=h.aR
 have ea:=uq e (fA.2 h)
 have ec:=ad9 e h hm f u h1 h2
 have hq:op=100∨op=99∨op=121:=by simp only [opC,Bool.or_eq_true,beq_iff_eq]at hop;omega
 unfold gZ
 by_cases hfu:f=u
 ·rw [if_pos hfu]
  subst hfu
  by_cases hc:op=99
  ·rw [if_pos hc]
   subst hc
   have e1:=xP e h hm f h2
   generalize o7 e f=p at*
   clear h
   generalize hE:iQ _ _ _=R
   unfold iQ at hE
   simp only [gL,gO,hO,hm]at ea ec e1 hE
   simp [-au,func207,f207,ea,ec,e1]at hE
   exact hE.symm
  ·rw [if_neg hc]
   have e1:=jD e h
   generalize dM e=p at*
   clear h
   generalize hE:iQ _ _ _=R
   unfold iQ at hE
   simp only [gL,gO,hO,hm]at ea ec e1 hE
   rcases hq with rfl|rfl|rfl
   ·simp [-au,func207,f207,ea,ec,e1]at hE
    exact hE.symm
   ·exact absurd rfl hc
   ·simp [-au,func207,f207,ea,ec,e1]at hE
    exact hE.symm
 rw [if_neg hfu]
 have hfi:¬(f:Int)=u:=by omega
 have e1:=BR e.ak.av e.ak.At h.line f u h1 h2
 obtain⟨c1,c2,c3⟩:=um h.line h1 h2
 have hgo:=Iw h.line (f:=f) (u:=u)
 have e2:=gB e h
 have e3:=Rz e.aI.aA ((e.ak.av.drop f).take (u-f)) 0 h.ring hgo (by omega)
 have hr:=FI h.ring hgo 0
 have h':=h.Md hr
 by_cases hy:op=121
 ·rw [if_pos hy]
  subst hy
  have e4:=qP _ h' f
  unfold yP at e4
  rw [show QY (f:Int) e.ak.av.length=f from by unfold QY;omega]at e4
  generalize (e.ak.av.drop f).take (u-f)=gone at*
  generalize oC e.aI.aA gone 0=rg at*
  generalize vQ {e with aI:=⟨rg⟩} e.ak.av f=p at*
  generalize e.ak.av.take f++e.ak.av.drop u=X at*
  clear h h' hr hgo
  generalize hE:iQ _ _ _=R
  unfold iQ at hE
  simp only [gL,gO,hO,hm]at ea ec e2 e4 hE
  simp [-au,func207,f207,ea,ec,e1,e2,e3,e4,hfi]at hE
  exact hE.symm
 rw [if_neg hy]
 unfold oD at c1 c3⊢
 have e4:=Ni (e.ak.av.take f++e.ak.av.drop u) (cutAt e.ak.At f u) f c1
 rw [show max 0 (min (f:Int) (e.ak.av.take f++e.ak.av.drop u).length)=f by have:=(bX c3).2.2.2;omega]at e4
 have e5:=qO _ h' (e.ak.av.take f++e.ak.av.drop u) f 0 c3 (by omega)
 generalize (e.ak.av.drop f).take (u-f)=gone at*
 generalize oC e.aI.aA gone 0=rg at*
 generalize e.ak.av.take f++e.ak.av.drop u=X at*
 unfold vQ
 simp only [sO,sK]at e5⊢
 generalize sJ {e with aI:=⟨rg⟩} X 0=ul at*
 generalize jl e.bV X f=ia at*
 clear h h' hr hgo
 generalize hE:iQ _ _ _=R
 unfold iQ at hE
 by_cases hc:op=99
 ·rw [if_pos hc]
  subst hc
  simp only [gL,gO,hO,hm]at ea ec e2 e5 hE
  simp [-au,func207,f207,ea,ec,e1,e2,e3,e4,e5,hfi]at hE
  exact hE.symm
 ·rw [if_neg hc]
  have akF:op=100:=by omega
  subst akF
  simp only [gL,gO,hO,hm]at ea ec e2 e5 hE
  simp [-au,func207,f207,ea,ec,e1,e2,e3,e4,e5,hfi]at hE
  simp only [kR,gL,gO,hO,hm]
  exact hE.symm
end
section
variable (e:dB) (h:fV e) (hm:e.bV=2)
include h hm
theorem KL (u:Nat)(w:Bool)(hu:u≤e.ak.av.length):tQ [gL e,vI (u:Int),V.v (.bool w)] [] []=some (kR (qL e u w)):=by
 obtain⟨a1,a2,a3,a4⟩:=h.aR
 unfold qL
 by_cases hc:e.Op=0
 ·rw [if_pos hc]
  have e2:=qP e h u
  generalize yP e u=p at*
  clear h
  generalize hE:tQ _ _ _=R
  unfold tQ at hE
  simp only [gL,gO,hO,hc]at e2 hE
  simp [-au,func268,f268,e2]at hE
  exact hE.symm
 ·rw [if_neg hc]
  have hop:opC e.Op=true:=h.op.resolve_left hc
  have e1:=ag7 e.ak.av (some 0) (aR e) u w a2 hu (by omega)
  rw [←a1]at e1
  obtain⟨s1,s2⟩:=Nc w a2 hu
  have e2:=uL e h hm e.Op hop (min (aR e) u) (xJ e.ak.av.length (aR e) u w) s1 s2
  generalize gZ e e.Op (min (aR e) u) (xJ e.ak.av.length (aR e) u w)=p at*
  generalize min (aR e) u=m at*
  generalize xJ e.ak.av.length (aR e) u w=m2 at*
  clear h
  generalize hE:tQ _ _ _=R
  simp [tQ, -au,func268,f268,e1,e2,hc]at hE
  exact hE.symm
theorem xQ (r:Int):jH [gL e,vI r] [] []=some (kR (jR e r (Proofs.YtlpdjhiggpblcaaGreat.gW e))):=by
 obtain⟨a1,a2,a3,a4⟩:=h.aR
 obtain⟨n1,n2,n3⟩:=h.gW
 have e0:=Aw e h
 have e1:=CX e.ak.av (some 0) (aR e) (Proofs.YtlpdjhiggpblcaaGreat.gW e) a2 (by omega) ⟨n1,n2⟩ r
 rw [←a1]at e1
 unfold jR
 generalize Proofs.YtlpdjhiggpblcaaGreat.gW e=n at*
 cases hf:gM e.ak.av (aR e) r n with
 | none=>
  rw [hf]at e1
  have e2:=KL e h hm 0 false (by omega)
  show _=some (kR (qL e 0 false))
  generalize qL e 0 false=p at*
  clear h
  simp only [mR]at e1
  simp only [Int.natCast_zero]at e2
  generalize hE:jH _ _ _=R
  simp [jH, -au,func206,f206,e0,e1,e2]at hE
  exact hE.symm
 | some q=>
  rw [hf]at e1
  have hu:=zJ a2 hf
  have e2:=KL e h hm q.1 q.2 hu
  show _=some (kR (qL e q.1 q.2))
  generalize qL e q.1 q.2=p at*
  clear h
  simp only [mR]at e1
  generalize hE:jH _ _ _=R
  simp [jH, -au,func206,f206,e0,e1,e2]at hE
  exact hE.symm
theorem KM (r how:Int)(hw:0≤how∧how≤3):pY [gL e,vI r,vI how] [] []=some (kR (if r=0 then dM e else nN e r how (Proofs.YtlpdjhiggpblcaaGreat.gW e))):=by
 obtain⟨a1,a2,a3,a4⟩:=h.aR
 obtain⟨n1,n2,n3⟩:=h.gW
 have e0:=Aw e h
 have e1:=UG e.ak.av (some 0) (aR e) (Proofs.YtlpdjhiggpblcaaGreat.gW e) r how a2 (by omega) ⟨n1,n2⟩ hw
 have eb:=jD e h
 rw [←a1]at e1
 by_cases hr:r=0
 ·rw [if_pos hr]
  subst hr
  generalize dM e=p at*
  generalize Proofs.YtlpdjhiggpblcaaGreat.gW e=n at*
  clear h
  generalize hE:pY _ _ _=R
  simp [pY, -au,func264,f264,e0,e1,eb]at hE
  exact hE.symm
 rw [if_neg hr]
 unfold nN
 generalize Proofs.YtlpdjhiggpblcaaGreat.gW e=n at*
 cases hf:tZ e.ak.av r how n (aR e)with
 | none=>
  rw [hf]at e1
  show _=some (kR (dM e))
  generalize dM e=p at*
  clear h
  simp only [uJ,Option.isSome_none]at e1
  generalize hE:pY _ _ _=R
  simp [pY, -au,func264,f264,e0,e1,eb,hr]at hE
  exact hE.symm
 | some u=>
  rw [hf]at e1
  have hu:=Jp n (aR e) u a2 hf
  have e2:=KL e h hm u (decide (how=0∨how=2)) hu
  show _=some (kR (qL e u (decide (how=0∨how=2))))
  generalize qL e u (decide (how=0∨how=2))=p at*
  clear h
  simp only [uJ,Option.isSome_some]at e1
  have hq:how=0∨how=1∨how=2∨how=3:=by omega
  generalize hE:pY _ _ _=R
  unfold pY at hE
  rcases hq with rfl|rfl|rfl|rfl
  all_goals (simp at e2;simp [-au,func264,f264,e0,e1,e2,hr]at hE;exact hE.symm)
theorem WL (r:Int)(n:Nat)(hnn:n=Proofs.YtlpdjhiggpblcaaGreat.gW e)(hw:e.fT=114)(hr:fP r=true)(hl:aR e+n≤e.ak.av.length):kS [gL e,aK 1 r] [] []=some (kR (vQ e (qd e.ak.av (aR e) r n) (aR e+n-1:Nat))):=by
 obtain⟨a1,a2,a3,a4⟩:=h.aR
 have hn:=h.gW
 rw [←hnn]at hn
 obtain⟨n1,n2,n3⟩:=hn
 have e0:=Aw e h
 rw [←hnn]at e0
 have hrs:=Jq a4 hr (aR e)
 have w1:=bM (e.ak.At+n) (by omega)
 have w2:=bM (e.ak.At+n-1) (by omega)
 have w4:=bM ((e.ak.av.length:Int)-e.ak.At) (by omega)
 have e1:=kU e.ak.av (some 0) e.ak.At (by omega)
 have hq:(((aR e+n-1:Nat)):Int)=e.ak.At+n-1:=by omega
 have hgt:¬(e.ak.av.length:Int)-e.ak.At<n:=by omega
 have e2:=qO e h (qd e.ak.av (aR e) r n) (e.ak.At+n-1) 0 (gq (by have:=(hrs n).1;omega) (hrs n).2 (by omega) (by have:=(hrs n).1;omega)) (by omega)
 rw [hq]
 unfold vQ
 generalize sO e (qd e.ak.av (aR e) r n) (e.ak.At+n-1) 0=p at*
 generalize hE:kS _ _ _=R
 unfold kS at hE
 simp only [gL,gO,hO,hw]at e0 e2 hE
 simp [-au,func204,f204,e0,e1,w1,w2,w4,hgt]at hE
 rw [aJ (fun j=> .on ⟨[(9,V.v (.int .i64 (e.ak.At+(j:Int)))),(8, .ref 8 0),(7,V.v (.int .i64 e.ak.At)),(6,V.v (.int .i64 ((n:Int)))),(4, .ref 4 0),(3, .ref 3 0),(2, .ref 2 0)],
   [(8,[.own 2000000000,vI e.ak.At]),(4,[V.v (.bool false),vI 0, .own 2000000001,vI 0,vI 0,vI 0,vI 0,vI 0,vI 0,vI 0,vI 0, .own 2000000002, .own 2000000003,vI 0, .own 2000000004,vI 0, .own 2000000005,vI 0, .own 2000000006,vI 0]),(3,[vI 1,vI r]),(2,[V.v (.bool e.Vi),vI e.bV, .aP (some 0) (ints e.ak.av),vI e.ak.At,vI e.bH,vI e.Op,vI e.bU,vI 114,vI e.eY,vI e.bT,vI e.iZ, .aP (some 1) (aC e.aI.aA), .aP (some 2) (aS e.gH.eX),vI e.kF, .aP (some 3) (ints e.iM.av),vI e.iM.At, .aP (some 4) (ints e.bP),vI e.nH, .aP (some 5) (ints e.dH.av),vI e.dH.At])],
   [(2000000006,[]),(2000000005,[]),(2000000004,[]),(2000000003,[]),(2000000002,[]),(2000000001,[]),(2000000000,ints (qd e.ak.av (aR e) r j))],[]⟩) n ?_ ?_]at hE
 ·simp [-au,w1,w2,e2]at hE
  exact hE.symm
 ·simp [qd]
 ·intro j hj
  have hlen:=(hrs j).1
  have k1:0≤e.ak.At+(j:Int):=by omega
  have k2:(e.ak.At+(j:Int)).toNat=aR e+j:=by omega
  have k3:e.ak.At+(j:Int)<e.ak.av.length:=by omega
  have k4:aR e+j<e.ak.av.length:=by omega
  have w3:=bM (e.ak.At+((j:Int)+1)) (by omega)
  have k5:e.ak.At+(j:Int)+1=e.ak.At+((j:Int)+1):=by omega
  have hset:∀x:Int,(ints (qd e.ak.av (aR e) r j)).set (aR e+j) [.a (.int .i64 x)]=ints ((qd e.ak.av (aR e) r j).set (aR e+j) x):=fun x=>su _ _ x
  rw [qd]
  simp [-au,hj,w1,w3,k1,k2,k3,k4,k5,hlen,hset]
theorem abI (k r:Int)(hw:¬e.fT=0)(hk:jh k r=true):kS [gL e,aK k r] [] []=some (kR (rO e k r (gW e))):=by
 obtain⟨a1,a2,a3,a4⟩:=h.aR
 obtain⟨n1,n2,n3⟩:=h.gW
 have eb:=jD e h
 unfold rO
 by_cases c1:k=1
 ·rw [if_neg (fun q=>q c1)]
  subst c1
  have hr:bS r=true:=by simpa [jh] using hk
  have hr0:¬r=0:=fun q=>by rw [q]at hr;exact absurd hr (by decide)
  have e0:=Aw e h
  by_cases c2:e.fT=114
  ·rw [if_pos c2]
   by_cases c3:e.ak.av.length<aR e+gW e
   ·rw [if_pos c3]
    have w1:=bM ((e.ak.av.length:Int)-e.ak.At) (by omega)
    have hgt:(e.ak.av.length:Int)-e.ak.At<gW e:=by omega
    generalize dM e=p at*
    generalize gW e=n at*
    clear h hk
    generalize hE:kS _ _ _=R
    unfold kS at hE
    simp only [gL,gO,hO,c2]at eb e0 hE
    simp [-au,func204,f204,eb,e0,w1,hgt]at hE
    exact hE.symm
   ·rw [if_neg c3]
    exact WL e h hm r _ rfl c2 (lg hr) (by omega)
  ·rw [if_neg c2]
   have hw':=KF (h.wait.resolve_left hw) c2
   have e1:=RH e.fT
   have hw3:=Q5 e.fT
   have e2:=UG e.ak.av (some 0) (aR e) (gW e) r (iV e.fT) a2 (by omega) ⟨n1,n2⟩ (by omega)
   rw [←a1]at e2
   by_cases c3:tZ e.ak.av r (iV e.fT) (gW e) (aR e)=none
   ·rw [if_pos c3]
    rw [c3]at e2
    simp only [uJ,Option.isSome_none]at e2
    generalize dM e=p at*
    generalize gW e=n at*
    generalize iV e.fT=how at*
    clear h hk
    generalize hE:kS _ _ _=R
    simp [kS, -au,func204,f204,eb,e0,e1,e2,c2]at hE
    exact hE.symm
   ·rw [if_neg c3]
    obtain⟨q,hq⟩:=Option.ne_none_iff_exists'.1 c3
    rw [hq]at e2
    simp only [uJ,Option.isSome_some]at e2
    have e3:=gB e h
    have h':=h.find' (Nf e.fT hr hw')
    have e4:=KM _ h' hm r (iV e.fT) (by omega)
    rw [if_neg hr0,show gW {e with eY:=r,bT:=iV e.fT}=gW e from rfl]at e4
    generalize nN {e with eY:=r,bT:=iV e.fT} r (iV e.fT) (gW e)=p at*
    generalize gW e=n at*
    generalize iV e.fT=how at*
    clear h h' hk
    generalize hE:kS _ _ _=R
    simp [kS, -au,func204,f204,e0,e1,e2,e3,e4,c2]at hE
    exact hE.symm
 ·rw [if_pos c1]
  generalize dM e=p at*
  clear h hk
  generalize hE:kS _ _ _=R
  simp [kS, -au,func204,f204,eb,c1]at hE
  exact hE.symm
end
section
variable (e:dB) (h:fV e) (hm:e.bV=2)
include h hm
theorem Zl:qV [gL e] [] []=some (kR (nY e (gW e))):=by
 obtain⟨a1,a2,a3,a4⟩:=h.aR
 obtain⟨n1,n2,n3⟩:=h.gW
 unfold nY
 by_cases hz:e.ak.av.length=0
 ·rw [if_pos hz]
  have e1:=jD e h
  have hz':e.ak.av= []:=List.length_eq_zero_iff.1 hz
  generalize dM e=p at*
  clear h
  generalize hE:qV _ _ _=R
  unfold qV at hE
  simp only [gL,gO,hO,hz',bn]at e1 hE
  simp [-au,func285,f285,e1]at hE
  exact hE.symm
 rw [if_neg hz]
 have hz':¬e.ak.av= []:=fun q=>hz (by rw [q];rfl)
 have e0:=Aw e h
 generalize gW e=n at*
 have w1:=bM (e.ak.At+n) (by omega)
 have e1:=kU e.ak.av (some 0) e.ak.At (by omega)
 have e4:=dh (e.ak.At+n) e.ak.av.length (by omega)
 have hq:max 0 (min (e.ak.At+n) e.ak.av.length)=((min (aR e+n) e.ak.av.length:Nat):Int):=by omega
 rw [hq]at e4
 have hB1:min (aR e+n) e.ak.av.length≤e.ak.av.length:=by omega
 have hB2:aR e≤min (aR e+n) e.ak.av.length:=by omega
 generalize min (aR e+n) e.ak.av.length=b at*
 have hfs:=fun j (hj:aR e+j≤e.ak.av.length)=>Jr a4 (aR e) j hj
 have hfb:=hfs (b-aR e) (by omega)
 have e2:=qO e h (rM e.ak.av (aR e) (b-aR e)) b 0 (gq (by omega) hfb.2 (by omega) (by omega)) (by omega)
 unfold vQ
 generalize sO e (rM e.ak.av (aR e) (b-aR e)) b 0=p at*
 generalize hE:qV _ _ _=R
 simp [qV, -au,func285,f285,e0,e1,e4,w1,hz']at hE
 rw [aJ (fun j=> .on ⟨[(6,V.v (.int .i64 (e.ak.At+(j:Int)))),(5,V.v (.int .i64 ((b:Int)))),(4, .ref 4 0),(2, .ref 2 0),(1, .ref 1 0)],
   [(4,[.own 2000000000,vI e.ak.At]),(2,[V.v (.bool false),vI 0, .own 2000000001,vI 0,vI 0,vI 0,vI 0,vI 0,vI 0,vI 0,vI 0, .own 2000000002, .own 2000000003,vI 0, .own 2000000004,vI 0, .own 2000000005,vI 0, .own 2000000006,vI 0]),(1,[V.v (.bool e.Vi),vI e.bV, .aP (some 0) (ints e.ak.av),vI e.ak.At,vI e.bH,vI e.Op,vI e.bU,vI e.fT,vI e.eY,vI e.bT,vI e.iZ, .aP (some 1) (aC e.aI.aA), .aP (some 2) (aS e.gH.eX),vI e.kF, .aP (some 3) (ints e.iM.av),vI e.iM.At, .aP (some 4) (ints e.bP),vI e.nH, .aP (some 5) (ints e.dH.av),vI e.dH.At])],
   [(2000000006,[]),(2000000005,[]),(2000000004,[]),(2000000003,[]),(2000000002,[]),(2000000001,[]),(2000000000,ints (rM e.ak.av (aR e) j))],[]⟩) (b-aR e) ?_ ?_]at hE
 ·have hc:¬e.ak.At+((b-aR e:Nat):Int)<b:=by omega
  simp [-au,hc,e2]at hE
  exact hE.symm
 ·simp [rM]
 ·intro j hj
  have hlen:=(hfs j (by omega)).1
  have k1:0≤e.ak.At+(j:Int):=by omega
  have k2:(e.ak.At+(j:Int)).toNat=aR e+j:=by omega
  have k3:e.ak.At+(j:Int)<e.ak.av.length:=by omega
  have k4:aR e+j<e.ak.av.length:=by omega
  have k6:e.ak.At+(j:Int)<b:=by omega
  have w3:=bM (e.ak.At+((j:Int)+1)) (by omega)
  have k5:e.ak.At+(j:Int)+1=e.ak.At+((j:Int)+1):=by omega
  rw [rM]
  generalize hX:rM e.ak.av (aR e) j=X at*
  have hjl:aR e+j<X.length:=by omega
  have hgd:X.getD (aR e+j) 0=X[aR e+j]:=by rw [List.getD_eq_getElem?_getD,List.getElem?_eq_getElem hjl];rfl
  rw [hgd]
  have hgu:=aO hjl
  have hset:∀x:Int,(ints X).set (aR e+j) [.a (.int .i64 x)]=ints (X.set (aR e+j) x):=fun x=>su _ _ x
  have aie:X.set (aR e+j) X[aR e+j]=X:=List.set_getElem_self hjl
  generalize hr:X[aR e+j]=r at*
  unfold YA
  by_cases c1:gY r 97 122=true
  ·obtain⟨d1,d2⟩:=bA.1 c1
   have d3:¬r≤90:=by omega
   have d4:65≤r:=by omega
   have d5:65≤r-32∧r-32≤90:=by omega
   have u1:=bM (r-32) (by omega)
   simp [-au,k1,k2,k3,k4,k5,k6,w3,hlen,hset,hgu,hr,c1,d1,d2,d3,d4,u1]
  ·by_cases c2:gY r 65 90=true
   ·obtain⟨d1,d2⟩:=bA.1 c2
    have d3:¬97≤r:=by omega
    have u1:=bM (r+32) (by omega)
    simp [-au,k1,k2,k3,k4,k5,k6,w3,hlen,hset,hgu,hr,c1,c2,d1,d2,d3,u1]
   ·rw [if_neg c1,if_neg c2,aie]
    rcases Js (Bool.eq_false_iff.2 c1)with d1|⟨d1,d2⟩<;>rcases Js (Bool.eq_false_iff.2 c2)with f1|⟨f1,f2⟩
    ·simp [-au,k1,k2,k3,k4,k5,k6,w3,hlen,hset,hgu,hr,d1,f1]
    ·simp [-au,k1,k2,k3,k4,k5,k6,w3,hlen,hset,hgu,hr,d1,f1,f2]
    ·simp [-au,k1,k2,k3,k4,k5,k6,w3,hlen,hset,hgu,hr,d1,d2,f1]
    ·simp [-au,k1,k2,k3,k4,k5,k6,w3,hlen,hset,hgu,hr,d1,d2,f1,f2]
theorem UH (a:Nat)(ha:a≤e.ak.av.length):qH [gL e,vI (a:Int)] [] []=some (kR (uP e a (gW e))):=by
 obtain⟨a1,a2,a3,a4⟩:=h.aR
 obtain⟨n1,n2,n3⟩:=h.gW
 have eb:=jD e h
 have e0:=Aw e h
 have e1:pX [.agg [.aP (some 0) (aC e.aI.aA)]] [] []=some ⟨.own 0,[],[(0,ints (bE e.aI.aA))]⟩:=FV e.aI.aA h.ring
 obtain⟨t1,t2⟩:=xL h.ring
 unfold uP
 generalize gW e=n at*
 have hmul:(bE e.aI.aA).length*n≤400*999:=Nat.mul_le_mul t2 n2
 have w1:=bM ((bE e.aI.aA).length*n:Int) (by rw [←Int.natCast_mul];omega)
 by_cases h0:bE e.aI.aA= []
 ·rw [if_pos (.inl h0)]
  generalize dM e=p at*
  rw [h0]at e1
  simp only [bn]at e1
  clear h
  generalize hE:qH _ _ _=R
  simp [qH, -au,func284,f284,eb,e0,e1]at hE
  exact hE.symm
 have hp:0<(bE e.aI.aA).length:=List.length_pos_iff.2 h0
 by_cases hbig:400<(bE e.aI.aA).length*n
 ·rw [if_pos (.inr (by omega))]
  have hbi:(400:Int)<(bE e.aI.aA).length*n:=by rw [←Int.natCast_mul];omega
  generalize dM e=p at*
  generalize bE e.aI.aA=tp at*
  clear h
  generalize hE:qH _ _ _=R
  simp [qH, -au,func284,f284,eb,e0,e1,w1,hbi,h0]at hE
  exact hE.symm
 have hbi:¬(400:Int)<(bE e.aI.aA).length*n:=by rw [←Int.natCast_mul];omega
 obtain⟨r1,r2⟩:=Me t1 n
 have e3:=Ni e.ak.av e.ak.At a h.line
 rw [show max 0 (min (a:Int) e.ak.av.length)=a by omega]at e3
 have hla:=h.KE ha
 have e4:=BQ e.ak.av (mH n (bE e.aI.aA)) a hla r2 (by omega)
 rw [Int.toNat_natCast]at e4
 have hsz:∀j,j≤n→(bE e.aI.aA).length*j≤400:=fun j hj=>Nat.le_trans (Nat.mul_le_mul_left _ hj) (by omega)
 have hrl:∀j,j≤n→(mH j (bE e.aI.aA)).length=(bE e.aI.aA).length*j:=fun j _=>by rw [(Me t1 j).1]
 generalize hE:qH _ _ _=R
 unfold qH at hE
 have hrn:=hrl n (Nat.le_refl _)
 have hlt:∀p:dB×Int,(400<e.ak.av.length+(bE e.aI.aA).length*n∧p=dM e)∨(¬400<e.ak.av.length+(bE e.aI.aA).length*n∧p=vQ e (zR e.ak.av a (mH n (bE e.aI.aA))) ((a+(bE e.aI.aA).length*n:Nat)-1))→R=some (kR p):=by
  intro p hp
  generalize htp:bE e.aI.aA=tp at*
  simp [-au,func284,f284,e0,e1,w1,hbi,h0]at hE
  rw [aJ (fun j=> .on ⟨[(9,V.v (.int .i64 ((j:Int)))),(8, .own 2000000000),(7,V.v (.int .i64 ((n:Int)))),(6, .own 2000000001),(4, .ref 4 0),(2, .ref 2 0),(1,V.v (.int .i64 ((a:Int))))],
    [(4,[V.v (.bool false),vI 0, .own 2000000002,vI 0,vI 0,vI 0,vI 0,vI 0,vI 0,vI 0,vI 0, .own 2000000003, .own 2000000004,vI 0, .own 2000000005,vI 0, .own 2000000006,vI 0, .own 2000000007,vI 0]),(2,[V.v (.bool e.Vi),vI e.bV, .aP (some 0) (ints e.ak.av),vI e.ak.At,vI e.bH,vI e.Op,vI e.bU,vI e.fT,vI e.eY,vI e.bT,vI e.iZ, .aP (some 1) (aC e.aI.aA), .aP (some 2) (aS e.gH.eX),vI e.kF, .aP (some 3) (ints e.iM.av),vI e.iM.At, .aP (some 4) (ints e.bP),vI e.nH, .aP (some 5) (ints e.dH.av),vI e.dH.At])],
    [(2000000007,[]),(2000000006,[]),(2000000005,[]),(2000000004,[]),(2000000003,[]),(2000000002,[]),(2000000001,ints tp),(2000000000,ints (mH j tp))],[]⟩) n ?_ ?_]at hE
  ·rcases hp with⟨q,rfl⟩|⟨q,rfl⟩
   ·rw [if_neg (by omega)]at e4
    generalize dM e=p at*
    simp [-au,e3,e4,eb]at hE
    exact hE.symm
   ·rw [if_pos (by omega)]at e4
    have hpn:n≤tp.length*n:=Nat.le_mul_of_pos_left n hp
    obtain⟨i1,i2⟩:=yY (u:=mH n tp) (by omega) a4 r2 ha
    have e6:=qO e h (zR e.ak.av a (mH n tp)) ((a:Int)+(mH n tp).length-1) 0 (i2 _ (by omega) (by omega)) (by omega)
    have w2:=bM ((a:Int)+(mH n tp).length-1) (by omega)
    rw [show ((a+tp.length*n:Nat):Int)-1=(a:Int)+(mH n tp).length-1 from by rw [hrn];omega]
    unfold vQ
    generalize zR e.ak.av a (mH n tp)=X at*
    generalize mH n tp=u at*
    generalize sO e X ((a:Int)+u.length-1) 0=p at*
    simp [-au,e3,e4,e6,w2]at hE
    exact hE.symm
  ·simp [mH,bn]
  ·intro j hj
   have hw2:=bM ((j:Int)+1) (by omega)
   have z1:=hsz j (by omega)
   have z2:=hrl j (by omega)
   have g1:(mH j tp).length+tp.length≤4611686018427387904:=by omega
   have g2:((mH j tp).length+tp.length)*8≤140737488355328:=by omega
   rw [Jo,au]
   generalize mH j tp=u at*
   simp [-au,hj,hw2,g1,g2]
 by_cases q:400<e.ak.av.length+(bE e.aI.aA).length*n
 ·rw [if_pos (.inr q)];exact hlt _ (.inl ⟨q,rfl⟩)
 ·rw [if_neg (fun z=>z.elim h0 q)];exact hlt _ (.inr ⟨q,rfl⟩)
end
section
variable (e:dB) (h:fV e) (hm:e.bV=2) {f:Int} {l:List ByteArray} (hh:gX f l)
include h hm hh
theorem RL (r:Int)(p:dB×Int)(hp:(r=120∧iQ [gL e,vI 100,vI e.ak.At,vI ((min (aR e+gW e) e.ak.av.length:Nat):Int)] [] []=some (kR p))∨
  (r=88∧iQ [gL e,vI 100,vI ((aR e-gW e:Nat):Int),vI e.ak.At] [] []=some (kR p))∨
  (r=68∧iQ [gL e,vI 100,vI e.ak.At,vI (e.ak.av.length:Int)] [] []=some (kR p))∨
  (r=67∧iQ [gL e,vI 99,vI e.ak.At,vI (e.ak.av.length:Int)] [] []=some (kR p))∨
  (r=115∧iQ [gL e,vI 99,vI e.ak.At,vI ((min (aR e+gW e) e.ak.av.length:Nat):Int)] [] []=some (kR p))∨
  (r=83∧iQ [gL e,vI 99,vI 0,vI (e.ak.av.length:Int)] [] []=some (kR p))∨
  (r=112∧qH [gL e,vI ((min (aR e+1) e.ak.av.length:Nat):Int)] [] []=some (kR p))∨
  (r=80∧qH [gL e,vI e.ak.At] [] []=some (kR p))∨
  (r=126∧qV [gL e] [] []=some (kR p))∨
  (r=117∧iI [gL e] [] []=some (kR p))∨
  ((r=107∨r=45)∧kN [gL e,aH f l,vI (-1)] [] []=some (kR p))∨
  ((r=106∨r=43)∧kN [gL e,aH f l,vI 1] [] []=some (kR p))∨
  (r=47∧nM [gL e] [] []=some (kR p))∨
  (r=105∧mG [gL e,vI e.ak.At] [] []=some (kR p))∨
  (r=73∧mG [gL e,vI ((zQ e.ak.av:Nat):Int)] [] []=some (kR p))∨
  (r=97∧mG [gL e,vI ((min (aR e+1) e.ak.av.length:Nat):Int)] [] []=some (kR p))∨
  (r=65∧mG [gL e,vI (e.ak.av.length:Int)] [] []=some (kR p))∨
  (r=114∧p=({e with fT:=114},0))∨(p=dM e∧¬r=120∧¬r=88∧¬r=68∧¬r=67∧¬r=115∧¬r=83∧¬r=112∧¬r=80∧¬r=126∧¬r=117∧¬r=107∧¬r=45∧¬r=106∧¬r=43∧¬r=47∧¬r=105∧¬r=73∧¬r=97∧¬r=65∧¬r=114)):
  nU [gL e,aH f l,vI r] [] []=some (kR p):=by
 obtain⟨a1,a2,a3,a4⟩:=h.aR
 obtain⟨n1,n2,n3⟩:=h.gW
 have e0:=Aw e h
 have w1:=bM (e.ak.At+gW e) (by omega)
 have w2:=bM (e.ak.At-gW e) (by omega)
 have w3:=bM (e.ak.At+1) (by omega)
 have c1:=dh (e.ak.At+gW e) e.ak.av.length (by omega)
 have c2:=dh (e.ak.At-gW e) e.ak.av.length (by omega)
 have c3:=dh (e.ak.At+1) e.ak.av.length (by omega)
 rw [show max 0 (min (e.ak.At+gW e) e.ak.av.length)=((min (aR e+gW e) e.ak.av.length:Nat):Int)from by omega]at c1
 rw [show max 0 (min (e.ak.At-gW e) e.ak.av.length)=((aR e-gW e:Nat):Int)from by omega]at c2
 rw [show max 0 (min (e.ak.At+1) e.ak.av.length)=((min (aR e+1) e.ak.av.length:Nat):Int)from by omega]at c3
 have e2:=CX e.ak.av (some 0) (aR e) 1 a2 (by omega) (by omega) 94
 rw [←a1,show gM e.ak.av (aR e) 94 1=some (zQ e.ak.av,false)from rfl]at e2
 simp only [mR,Int.natCast_one]at e2
 have e3:=gB e h
 have e4:=jD e h
 generalize ((min (aR e+gW e) e.ak.av.length:Nat):Int)=x1 at*
 generalize ((aR e-gW e:Nat):Int)=x2 at*
 generalize ((min (aR e+1) e.ak.av.length:Nat):Int)=x3 at*
 generalize gW e=n at*
 generalize ((zQ e.ak.av:Nat):Int)=x4 at*
 clear h hh
 generalize hE:nU _ _ _=R
 unfold nU at hE
 rcases hp with⟨rfl,e1⟩|⟨rfl,e1⟩|⟨rfl,e1⟩|⟨rfl,e1⟩|⟨rfl,e1⟩|⟨rfl,e1⟩|⟨rfl,e1⟩|⟨rfl,e1⟩|⟨rfl,e1⟩|⟨rfl,e1⟩|⟨rfl|rfl,e1⟩|⟨rfl|rfl,e1⟩|⟨rfl,e1⟩|⟨rfl,e1⟩|⟨rfl,e1⟩|⟨rfl,e1⟩|⟨rfl,e1⟩|⟨rfl,rfl⟩|⟨rfl,akG,d88,d68,d67,akH,d83,akI,d80,akJ,akK,akL,d45,akM,d43,d47,akN,d73,d97,d65,akO⟩
 iterate 19
  ·simp [-au,func267,f267,e0,w1,w2,w3,c1,c2,c3,e1,e2]at hE
   exact hE.symm
 ·simp [-au,func267,f267,e0,e3]at hE
  exact hE.symm
 ·simp [-au,func267,f267,e0,e4,akG,d88,d68,d67,akH,d83,akI,d80,akJ,akK,akL,d45,akM,d43,d47,akN,d73,d97,d65,akO]at hE
  exact hE.symm
theorem Zm (r:Int)(hu:r=117→iI [gL e] [] []=some (kR (mQ e))):nU [gL e,aH f l,vI r] [] []=some (kR (rX e f l r (gW e))):=by
 obtain⟨a1,a2,a3,a4⟩:=h.aR
 refine RL e h hm hh r _ ?_
 unfold rX zS
 by_cases c0:r=120
 ·rw [if_pos c0]
  have e1:=uL e h hm 100 rfl (aR e) (min (aR e+gW e) e.ak.av.length) (by omega) (by omega)
  simp only [←a1]at e1
  exact(.inl ⟨c0,e1⟩)
 rw [if_neg c0]
 by_cases c1:r=88
 ·rw [if_pos c1]
  have e1:=uL e h hm 100 rfl (aR e-gW e) (aR e) (by omega) (by omega)
  simp only [←a1]at e1
  exact(.inr (.inl ⟨c1,e1⟩))
 rw [if_neg c1]
 by_cases c2:r=68
 ·rw [if_pos c2]
  have e1:=uL e h hm 100 rfl (aR e) e.ak.av.length (by omega) (Nat.le_refl _)
  simp only [←a1]at e1
  exact(.inr (.inr (.inl ⟨c2,e1⟩)))
 rw [if_neg c2]
 by_cases c3:r=67
 ·rw [if_pos c3]
  have e1:=uL e h hm 99 rfl (aR e) e.ak.av.length (by omega) (Nat.le_refl _)
  simp only [←a1]at e1
  exact(.inr (.inr (.inr (.inl ⟨c3,e1⟩))))
 rw [if_neg c3]
 by_cases c4:r=115
 ·rw [if_pos c4]
  have e1:=uL e h hm 99 rfl (aR e) (min (aR e+gW e) e.ak.av.length) (by omega) (by omega)
  simp only [←a1]at e1
  exact(.inr (.inr (.inr (.inr (.inl ⟨c4,e1⟩)))))
 rw [if_neg c4]
 by_cases c5:r=83
 ·rw [if_pos c5]
  have e1:=uL e h hm 99 rfl 0 e.ak.av.length (by omega) (Nat.le_refl _)
  exact(.inr (.inr (.inr (.inr (.inr (.inl ⟨c5,e1⟩))))))
 rw [if_neg c5]
 by_cases c6:r=114
 ·rw [if_pos c6];exact(.inr (.inr (.inr (.inr (.inr (.inr (.inr (.inr (.inr (.inr (.inr (.inr (.inr (.inr (.inr (.inr (.inr (.inl ⟨c6,rfl⟩))))))))))))))))))
 rw [if_neg c6]
 by_cases c7:r=112
 ·rw [if_pos c7]
  have e1:=UH e h hm (min (aR e+1) e.ak.av.length) (by omega)
  exact(.inr (.inr (.inr (.inr (.inr (.inr (.inl ⟨c7,e1⟩)))))))
 rw [if_neg c7]
 by_cases c8:r=80
 ·rw [if_pos c8]
  have e1:=UH e h hm (aR e) (by omega)
  simp only [←a1]at e1
  exact(.inr (.inr (.inr (.inr (.inr (.inr (.inr (.inl ⟨c8,e1⟩))))))))
 rw [if_neg c8]
 by_cases c9:r=126
 ·rw [if_pos c9]
  have e1:=Zl e h hm
  exact(.inr (.inr (.inr (.inr (.inr (.inr (.inr (.inr (.inl ⟨c9,e1⟩)))))))))
 rw [if_neg c9]
 by_cases c10:r=117
 ·rw [if_pos c10];exact(.inr (.inr (.inr (.inr (.inr (.inr (.inr (.inr (.inr (.inl ⟨c10,hu c10⟩))))))))))
 rw [if_neg c10]
 by_cases c11:r=107∨r=45
 ·rw [if_pos c11]
  have e1:=uw e h hh (-1) (.inr rfl)
  exact(.inr (.inr (.inr (.inr (.inr (.inr (.inr (.inr (.inr (.inr (.inl ⟨c11,e1⟩)))))))))))
 rw [if_neg c11]
 by_cases c12:r=106∨r=43
 ·rw [if_pos c12]
  have e1:=uw e h hh 1 (.inl rfl)
  exact(.inr (.inr (.inr (.inr (.inr (.inr (.inr (.inr (.inr (.inr (.inr (.inl ⟨c12,e1⟩))))))))))))
 rw [if_neg c12]
 by_cases c13:r=47
 ·rw [if_pos c13]
  have e1:=FX e h (by omega)
  exact(.inr (.inr (.inr (.inr (.inr (.inr (.inr (.inr (.inr (.inr (.inr (.inr (.inl ⟨c13,e1⟩)))))))))))))
 rw [if_neg c13]
 by_cases c14:r=105
 ·rw [if_pos c14]
  have e1:=xP e h hm (aR e) (by omega)
  simp only [←a1]at e1
  exact(.inr (.inr (.inr (.inr (.inr (.inr (.inr (.inr (.inr (.inr (.inr (.inr (.inr (.inl ⟨c14,e1⟩))))))))))))))
 rw [if_neg c14]
 by_cases c15:r=73
 ·rw [if_pos c15]
  have e1:=xP e h hm (zQ e.ak.av) (cB _ _).1
  exact(.inr (.inr (.inr (.inr (.inr (.inr (.inr (.inr (.inr (.inr (.inr (.inr (.inr (.inr (.inl ⟨c15,e1⟩)))))))))))))))
 rw [if_neg c15]
 by_cases c16:r=97
 ·rw [if_pos c16]
  have e1:=xP e h hm (min (aR e+1) e.ak.av.length) (by omega)
  exact(.inr (.inr (.inr (.inr (.inr (.inr (.inr (.inr (.inr (.inr (.inr (.inr (.inr (.inr (.inr (.inl ⟨c16,e1⟩))))))))))))))))
 rw [if_neg c16]
 by_cases c17:r=65
 ·rw [if_pos c17]
  have e1:=xP e h hm e.ak.av.length (Nat.le_refl _)
  exact(.inr (.inr (.inr (.inr (.inr (.inr (.inr (.inr (.inr (.inr (.inr (.inr (.inr (.inr (.inr (.inr (.inl ⟨c17,e1⟩)))))))))))))))))
 rw [if_neg c17]
 exact .inr (.inr (.inr (.inr (.inr (.inr (.inr (.inr (.inr (.inr (.inr (.inr (.inr (.inr (.inr (.inr (.inr (.inr (⟨rfl,c0,c1,c2,c3,c4,c5,c7,c8,c9,c10,fun q=>c11 (.inl q),fun q=>c11 (.inr q),fun q=>c12 (.inl q),fun q=>c12 (.inr q),c13,c14,c15,c16,c17,c6⟩))))))))))))))))))
end
theorem SS (t:List Int)(a n m:Nat)(r:Int):(gM t a r n).isSome=(gM t a r m).isSome:=by
 unfold gM
 repeat' split
 all_goals rfl
theorem af4 {fr fh:Int}(h:dI fr fh=true):0≤fh∧fh≤3:=by
 simp only [dI,Bool.or_eq_true,Bool.and_eq_true,beq_iff_eq]at h
 rcases h with h|h
 ·omega
 ·exact bA.1 h.2.2
section
variable (e:dB) (h:fV e) (hm:e.bV=2) {f:Int} {l:List ByteArray} (hh:gX f l)
include h hm hh
theorem abJ (r:Int)(hr:bS r=true)(hu:e.Op=0→r=117→iI [gL e] [] []=some (kR (mQ e))):ig [gL e,aH f l,vI r] [] []=some (kR (oz e f l r (gW e))):=by
 obtain⟨a1,a2,a3,a4⟩:=h.aR
 obtain⟨n1,n2,n3⟩:=h.gW
 have e0:=gB e h
 have eb:=jD e h
 have eh:=RH r
 have hc:=h.cnt
 have hr0:¬r=0:=fun q=>by rw [q]at hr;exact absurd hr (by decide)
 have em:=CX e.ak.av (some 0) (aR e) 1 a2 (by omega) (by omega) r
 rw [←a1,Int.natCast_one]at em
 have hms:=SS e.ak.av (aR e) 1 (gW e) r
 unfold oz vR
 by_cases c1:gY r 49 57=true∨(r=48∧¬e.bH=0)
 ·rw [if_pos c1]
  have w1:=bM (e.bH*10) (by omega)
  unfold Iq
  simp only
  clear hms em
  rcases c1 with c1|⟨rfl,c2⟩
  ·obtain⟨c3,c4⟩:=bA.1 c1
   have w2:=bM (e.bH*10+r) (by omega)
   have w3:=bM (e.bH*10+r-48) (by omega)
   have ec:=dh (e.bH*10+r-48) 999 (by omega)
   rw [show max 0 (min (e.bH*10+r-48) 999)=min (10*e.bH+r-48) 999 by omega]at ec
   clear h hh
   generalize hE:ig _ _ _=R
   simp [ig, -au,func205,f205,e0,w1,w2,w3,ec,c3,c4]at hE
   exact hE.symm
  ·have w2:=bM (e.bH*10+48) (by omega)
   have w3:=bM (e.bH*10+48-48) (by omega)
   have ec:=dh (e.bH*10+48-48) 999 (by omega)
   rw [show max 0 (min (e.bH*10+48-48) 999)=min (10*e.bH+48-48) 999 by omega]at ec
   have c5:0<e.bH:=by omega
   generalize min (10*e.bH+48-48) 999=y at*
   generalize hz:e.bH*10+48=z at*
   clear h hh
   generalize hE:ig _ _ _=R
   simp [ig, -au,func205,f205,e0,w1,w2,w3,ec,c5,hz]at hE
   exact hE.symm
 rw [if_neg c1]
 have c2:¬(49≤r∧r≤57):=fun q=>c1 (.inl (bA.2 q))
 have c3:r=48→e.bH≤0:=fun q=>by have:=fun z=>c1 (.inr ⟨q,z⟩);omega
 by_cases c5:0≤iV r
 ·rw [if_pos c5]
  have c4:¬r=48:=fun q=>by rw [q]at c5;exact absurd c5 (by decide)
  generalize iV r=how at*
  simp only
  clear h hh hms em
  generalize hE:ig _ _ _=R
  unfold ig at hE
  by_cases d1:49≤r
  ·have d2:¬r≤57:=fun q=>c2 ⟨d1,q⟩
   simp [-au,func205,f205,e0,eh,c4,c5,d1,d2]at hE
   exact hE.symm
  ·simp [-au,func205,f205,e0,eh,c4,c5,d1]at hE
   exact hE.symm
 rw [if_neg c5]
 by_cases c6:r=59
 ·rw [if_pos c6]
  subst c6
  have e4:=KM e h hm e.eY e.bT (af4 h.find)
  rw [show iV 59= -1 from by decide]at eh
  simp only
  generalize (if e.eY=0 then dM e else nN e e.eY e.bT (gW e))=p at*
  clear h hh hms em
  generalize hE:ig _ _ _=R
  simp [ig, -au,func205,f205,e0,eh,e4]at hE
  exact hE.symm
 rw [if_neg c6]
 by_cases c7:r=44
 ·rw [if_pos c7]
  subst c7
  have hb:0≤uI e.bT∧uI e.bT≤3:=by unfold uI;repeat' split<;>omega
  have e4:=KM e h hm e.eY (uI e.bT) hb
  have e5:=abA e.bT
  rw [show iV 44= -1 from by decide]at eh
  simp only
  generalize (if e.eY=0 then dM e else nN e e.eY (uI e.bT) (gW e))=p at*
  generalize uI e.bT=bh at*
  clear h hh hms em
  generalize hE:ig _ _ _=R
  simp [ig, -au,func205,f205,e0,eh,e4,e5]at hE
  exact hE.symm
 rw [if_neg c7]
 have c4:r=48→¬0<e.bH:=fun q=>by have:=c3 q;omega
 by_cases c8:e.Op=0∧opC r=true
 ·rw [if_pos c8]
  obtain⟨d1,d2⟩:=c8
  have hq:r=100∨r=99∨r=121:=by simp only [opC,Bool.or_eq_true,beq_iff_eq]at d2;omega
  simp only
  clear h hh hms em
  generalize hE:ig _ _ _=R
  unfold ig at hE
  simp only [gL,gO,hO,d1]at e0 hE
  rcases hq with rfl|rfl|rfl
  ·rw [show iV 100= -1 from by decide]at eh
   simp [-au,func205,f205,e0,eh]at hE
   exact hE.symm
  ·rw [show iV 99= -1 from by decide]at eh
   simp [-au,func205,f205,e0,eh]at hE
   exact hE.symm
  ·rw [show iV 121= -1 from by decide]at eh
   simp [-au,func205,f205,e0,eh]at hE
   exact hE.symm
 rw [if_neg c8]
 simp only
 have akP:e.Op=0→¬r=100∧¬r=99∧¬r=121:=fun q=>⟨fun z=>c8 ⟨q,by rw [z];rfl⟩,fun z=>c8 ⟨q,by rw [z];rfl⟩,fun z=>c8 ⟨q,by rw [z];rfl⟩⟩
 have ajd:¬e.Op=48:=fun z=>by
  rcases h.op with q|q
  ·omega
  ·rw [z]at q;exact absurd q (by decide)
 have go:∀p:dB×Int,
   ((¬e.Op=0∧r=e.Op∧iQ [gL e,vI e.Op,vI 0,vI e.ak.av.length] [] []=some (kR p))∨
    (¬(¬e.Op=0∧r=e.Op)∧
     ((∃q,gM e.ak.av (aR e) r 1=some q∧jH [gL e,vI r] [] []=some (kR p))∨
      (gM e.ak.av (aR e) r 1=none∧¬e.Op=0∧p=dM e)∨
      (gM e.ak.av (aR e) r 1=none∧e.Op=0∧nU [gL e,aH f l,vI r] [] []=some (kR p)))))→
   ig [gL e,aH f l,vI r] [] []=some (kR p):=by
  intro p hp
  generalize gM e.ak.av (aR e) r 1=mo at*
  generalize dM e=pb at*
  generalize iV r=how at*
  have tests:((49≤r∧¬r≤57)∨¬49≤r)∧((r=48∧¬0<e.bH)∨¬r=48):=by
   refine⟨?_,?_⟩
   ·by_cases q:49≤r
    ·exact .inl ⟨q,fun z=>c2 ⟨q,z⟩⟩
    ·exact .inr q
   ·by_cases q:r=48
    ·exact .inl ⟨q,c4 q⟩
    ·exact .inr q
  clear h hh hms c1 c2 c3 c4 hc hr
  generalize hE:ig _ _ _=R
  unfold ig at hE
  obtain⟨t1,t2⟩:=tests
  rcases hp with⟨p1,p2,p3⟩|⟨p1,p2⟩
  ·subst p2
   rcases t1 with⟨t1,t3⟩|t1<;>rcases t2 with⟨t2,t4⟩|t2
   ·omega
   ·simp [-au,func205,f205,e0,eh,c5,c6,c7,p1,p3,t1,t3,t2]at hE
    exact hE.symm
   ·exact absurd t2 ajd
   ·simp [-au,func205,f205,e0,eh,c5,c6,c7,p1,p3,t1,t2]at hE
    exact hE.symm
  ·by_cases d1:e.Op=0
   ·obtain⟨o1,o2,o3⟩:=akP d1
    rcases p2 with⟨q,rfl,p3⟩|⟨-,p3, -⟩|⟨rfl, -,p3⟩
    ·simp only [mR]at em
     simp only [gL,gO,hO,d1]at e0 p3 hE
     rcases t1 with⟨t1,t3⟩|t1<;>rcases t2 with⟨t2,t4⟩|t2
     ·omega
     ·simp [-au,func205,f205,e0,eh,em,c5,c6,c7,p3,o1,o2,o3,t1,t3,t2]at hE
      exact hE.symm
     ·subst t2
      simp [-au,func205,f205,e0,eh,em,c5,c6,c7,p3,o1,o2,o3,t4]at hE
      exact hE.symm
     ·simp [-au,func205,f205,e0,eh,em,c5,c6,c7,p3,o1,o2,o3,t1,t2]at hE
      exact hE.symm
    ·exact absurd d1 p3
    ·simp only [mR]at em
     simp only [gL,gO,hO,d1]at e0 p3 hE
     rcases t1 with⟨t1,t3⟩|t1<;>rcases t2 with⟨t2,t4⟩|t2
     ·omega
     ·simp [-au,func205,f205,e0,eh,em,c5,c6,c7,p3,o1,o2,o3,t1,t3,t2]at hE
      exact hE.symm
     ·subst t2
      simp [-au,func205,f205,e0,eh,em,c5,c6,c7,p3,o1,o2,o3,t4]at hE
      exact hE.symm
     ·simp [-au,func205,f205,e0,eh,em,c5,c6,c7,p3,o1,o2,o3,t1,t2]at hE
      exact hE.symm
   ·have d2:¬r=e.Op:=fun q=>p1 ⟨d1,q⟩
    rcases p2 with⟨q,rfl,p3⟩|⟨rfl, -,rfl⟩|⟨-,p3, -⟩
    ·simp only [mR]at em
     rcases t1 with⟨t1,t3⟩|t1<;>rcases t2 with⟨t2,t4⟩|t2
     ·omega
     ·simp [-au,func205,f205,e0,eh,em,c5,c6,c7,p3,d1,d2,t1,t3,t2]at hE
      exact hE.symm
     ·subst t2
      simp [-au,func205,f205,e0,eh,em,c5,c6,c7,p3,d1,d2,t4]at hE
      exact hE.symm
     ·simp [-au,func205,f205,e0,eh,em,c5,c6,c7,p3,d1,d2,t1,t2]at hE
      exact hE.symm
    ·simp only [mR]at em
     rcases t1 with⟨t1,t3⟩|t1<;>rcases t2 with⟨t2,t4⟩|t2
     ·omega
     ·simp [-au,func205,f205,e0,eh,em,eb,c5,c6,c7,d1,d2,t1,t3,t2]at hE
      exact hE.symm
     ·subst t2
      simp [-au,func205,f205,e0,eh,em,eb,c5,c6,c7,d1,d2,t4]at hE
      exact hE.symm
     ·simp [-au,func205,f205,e0,eh,em,eb,c5,c6,c7,d1,d2,t1,t2]at hE
      exact hE.symm
    ·exact absurd p3 d1
 by_cases c9:¬e.Op=0∧r=e.Op
 ·rw [if_pos c9]
  have e4:=uL e h hm r (by rw [c9.2];exact h.op.resolve_left c9.1) 0 e.ak.av.length (by omega) (Nat.le_refl _)
  rw [Int.natCast_zero]at e4
  refine go _ (.inl ⟨c9.1,c9.2,?_⟩)
  rw [←c9.2]
  exact e4
 rw [if_neg c9]
 cases hm2:gM e.ak.av (aR e) r (gW e)with
 | some q=>
  rw [hm2]at hms
  obtain⟨q1,hq1⟩:=Option.isSome_iff_exists.1 hms
  have e4:=xQ e h hm r
  unfold jR at e4
  rw [hm2]at e4
  exact go _ (.inr ⟨c9, .inl ⟨q1,hq1,e4⟩⟩)
 | none=>
  rw [hm2]at hms
  have hn1:gM e.ak.av (aR e) r 1=none:=by
   cases hz:gM e.ak.av (aR e) r 1 with
   | none=>rfl
   | some q=>rw [hz]at hms;cases hms
  simp only
  by_cases d1:e.Op=0
  ·rw [if_neg (fun q=>q d1)]
   exact go _ (.inr ⟨c9, .inr (.inr ⟨hn1,d1,Zm e h hm hh r (hu d1)⟩)⟩)
  ·rw [if_pos d1]
   exact go _ (.inr ⟨c9, .inr (.inl ⟨hn1,d1,rfl⟩)⟩)
end
section
variable (e:dB) (h:fV e) (hm:e.bV=2) {f:Int} {l:List ByteArray} (hh:gX f l)
include h hm hh
theorem Np (hw:e.fT=0)(k r:Int)(p:dB×Int)(hp:(k=1∧ig [gL e,aH f l,vI r] [] []=some (kR p))∨
  (k=4∧p=(e,2))∨(k=7∧e.bH=0∧e.Op=0∧p=dM e)∨(k=7∧¬e.bH=0∧p=(sK e e.iZ,0))∨(k=7∧e.bH=0∧¬e.Op=0∧p=(sK e e.iZ,0))∨
  (k=8∧kN [gL e,aH f l,vI (-1)] [] []=some (kR p))∨(k=9∧kN [gL e,aH f l,vI 1] [] []=some (kR p))∨
  ((k=11∨k=5)∧jH [gL e,vI 104] [] []=some (kR p))∨(k=10∧jH [gL e,vI 108] [] []=some (kR p))∨
  (k=12∧jH [gL e,vI 48] [] []=some (kR p))∨(k=13∧jH [gL e,vI 36] [] []=some (kR p))∨
  (k=14∧iQ [gL e,vI 100,vI e.ak.At,vI ((min (aR e+gW e) e.ak.av.length:Nat):Int)] [] []=some (kR p))∨
  (k=2∧r=99∧p=(e,3))∨(k=2∧r=108∧p=(e,5))∨(k=2∧r=100∧e.ak.av.length=0∧p=(e,4))∨(k=2∧r=100∧¬e.ak.av.length=0∧p=dM e)∨
  (k=2∧r=114∧nM [gL e] [] []=some (kR p))∨
  (k=2∧p=dM e∧¬r=99∧¬r=108∧¬r=100∧¬r=114)∨
  (p=dM e∧¬k=1∧¬k=4∧¬k=7∧¬k=8∧¬k=9∧¬k=11∧¬k=5∧¬k=10∧¬k=12∧¬k=13∧¬k=14∧¬k=2)):
  jQ [gL e,aH f l,aK k r] [] []=some (kR p):=by
 obtain⟨a1,a2,a3,a4⟩:=h.aR
 obtain⟨n1,n2,n3⟩:=h.gW
 have e0:=Aw e h
 have w1:=bM (e.ak.At+gW e) (by omega)
 have c1:=dh (e.ak.At+gW e) e.ak.av.length (by omega)
 rw [show max 0 (min (e.ak.At+gW e) e.ak.av.length)=((min (aR e+gW e) e.ak.av.length:Nat):Int)from by omega]at c1
 have e3:=gB e h
 have e4:=jD e h
 generalize ((min (aR e+gW e) e.ak.av.length:Nat):Int)=x1 at*
 generalize gW e=n at*
 clear h hh
 generalize hE:jQ _ _ _=R
 unfold jQ at hE
 simp only [dM,sK]at hp e4
 simp only [gL,gO,hO,hw]at e0 e3 e4 hp hE
 rcases hp with⟨rfl,e1⟩|⟨rfl,rfl⟩|⟨rfl,z1,z2,rfl⟩|⟨rfl,z1,rfl⟩|⟨rfl,z1,z2,rfl⟩|⟨rfl,e1⟩|⟨rfl,e1⟩|⟨rfl|rfl,e1⟩|⟨rfl,e1⟩|⟨rfl,e1⟩|⟨rfl,e1⟩|⟨rfl,e1⟩|⟨rfl,rfl,rfl⟩|⟨rfl,rfl,rfl⟩|⟨rfl,rfl,z1,rfl⟩|⟨rfl,rfl,z1,rfl⟩|⟨rfl,rfl,e1⟩|⟨rfl,rfl,d1,d2,d3,d4⟩|⟨rfl,d1,d2,d3,d4,d5,d6,d7,d8,d9,d10,d11,d12⟩
 ·simp [-au,func116,f116,e1]at hE
  exact hE.symm
 ·simp [-au,func116,f116,e3]at hE
  simp only [kR,gL,gO,hO,hw]
  exact hE.symm
 ·simp only [gL,gO,hO,z1,z2]at e4 hE
  simp [-au,func116,f116,e4]at hE
  exact hE.symm
 ·simp [-au,func116,f116,e4,z1]at hE
  exact hE.symm
 ·simp only [gL,gO,hO,z1]at e4 hE
  simp [-au,func116,f116,e4,z2]at hE
  exact hE.symm
 iterate 7
  ·simp [-au,func116,f116,e1]at hE
   exact hE.symm
 ·simp [-au,func116,f116,e0,w1,c1,e1]at hE
  exact hE.symm
 iterate 2
  ·simp [-au,func116,f116,e3]at hE
   simp only [kR,gL,gO,hO,hw]
   exact hE.symm
 ·have z2:e.ak.av= []:=List.length_eq_zero_iff.1 z1
  simp only [gL,gO,hO,z2,bn]at e3 hE
  simp [-au,func116,f116,e3]at hE
  simp only [kR,gL,gO,hO,hw,z2,bn]
  exact hE.symm
 ·have z2:¬e.ak.av= []:=fun q=>z1 (by rw [q];rfl)
  simp [-au,func116,f116,e4,z2]at hE
  exact hE.symm
 ·simp [-au,func116,f116,e1]at hE
  exact hE.symm
 ·simp [-au,func116,f116,e4,d1,d2,d3,d4]at hE
  exact hE.symm
 ·simp [-au,func116,f116,e4,d1,d2,d3,d4,d5,d6,d7,d8,d9,d10,d11,d12]at hE
  exact hE.symm
theorem SV (k r:Int)(hk:jh k r=true)(hu:k=1→e.fT=0→e.Op=0→r=117→iI [gL e] [] []=some (kR (mQ e))):jQ [gL e,aH f l,aK k r] [] []=some (kR (if ¬e.fT=0 then rO e k r (gW e)else if ¬k=1 then qM e f l k r (gW e)else oz e f l r (gW e))):=by
 by_cases hw:e.fT=0
 ·rw [if_neg (fun q=>q hw)]
  refine Np e h hm hh hw k r _ ?_
  by_cases c1:k=1
  ·rw [if_neg (fun q=>q c1)]
   refine .inl ⟨c1,abJ e h hm hh r ?_ (hu c1 hw)⟩
   subst c1;simpa [jh] using hk
  rw [if_pos c1]
  unfold qM
  by_cases c4:k=4
  ·rw [if_pos c4];exact .inr (.inl ⟨c4,rfl⟩)
  rw [if_neg c4]
  by_cases c7:k=7
  ·rw [if_pos c7]
   by_cases z1:e.bH=0
   ·by_cases z2:e.Op=0
    ·rw [if_pos ⟨z1,z2,h.opz.resolve_left (fun q=>q z2),hw⟩]
     exact .inr (.inr (.inl ⟨c7,z1,z2,rfl⟩))
    ·rw [if_neg (fun q=>z2 q.2.1)]
     exact .inr (.inr (.inr (.inr (.inl ⟨c7,z1,z2,rfl⟩))))
   ·rw [if_neg (fun q=>z1 q.1)]
    exact .inr (.inr (.inr (.inl ⟨c7,z1,rfl⟩)))
  rw [if_neg c7]
  refine .inr (.inr (.inr (.inr (.inr ?_))))
  by_cases c8:k=8
  ·rw [if_pos c8];exact .inl ⟨c8,uw e h hh (-1) (.inr rfl)⟩
  rw [if_neg c8]
  by_cases c9:k=9
  ·rw [if_pos c9];exact .inr (.inl ⟨c9,uw e h hh 1 (.inl rfl)⟩)
  rw [if_neg c9]
  refine .inr (.inr ?_)
  by_cases c11:k=11∨k=5
  ·rw [if_pos c11];exact .inl ⟨c11,xQ e h hm 104⟩
  rw [if_neg c11]
  by_cases c10:k=10
  ·rw [if_pos c10];exact .inr (.inl ⟨c10,xQ e h hm 108⟩)
  rw [if_neg c10]
  by_cases c12:k=12
  ·rw [if_pos c12];exact .inr (.inr (.inl ⟨c12,xQ e h hm 48⟩))
  rw [if_neg c12]
  by_cases c13:k=13
  ·rw [if_pos c13];exact .inr (.inr (.inr (.inl ⟨c13,xQ e h hm 36⟩)))
  rw [if_neg c13]
  refine .inr (.inr (.inr (.inr ?_)))
  by_cases c14:k=14
  ·rw [if_pos c14]
   obtain⟨a1,a2,a3,a4⟩:=h.aR
   have e1:=uL e h hm 100 rfl (aR e) (min (aR e+gW e) e.ak.av.length) (by omega) (by omega)
   rw [←a1]at e1
   exact .inl ⟨c14,e1⟩
  rw [if_neg c14]
  refine .inr ?_
  by_cases c2:k=2
  ·rw [if_pos c2]
   by_cases r1:r=99
   ·rw [if_pos r1];exact .inl ⟨c2,r1,rfl⟩
   rw [if_neg r1]
   by_cases r2:r=108
   ·rw [if_pos r2];exact .inr (.inl ⟨c2,r2,rfl⟩)
   rw [if_neg r2]
   refine .inr (.inr ?_)
   by_cases r3:r=100
   ·by_cases hz:e.ak.av.length=0
    ·rw [if_pos ⟨r3,hz⟩];exact .inl ⟨c2,r3,hz,rfl⟩
    ·rw [if_neg (fun q=>hz q.2),if_neg (by omega)];exact .inr (.inl ⟨c2,r3,hz,rfl⟩)
   rw [if_neg (fun q=>r3 q.1)]
   by_cases r4:r=114
   ·rw [if_pos r4];exact .inr (.inr (.inl ⟨c2,r4,FX e h (by omega)⟩))
   rw [if_neg r4]
   exact .inr (.inr (.inr (.inl ⟨c2,rfl,r1,r2,r3,r4⟩)))
  rw [if_neg c2]
  exact .inr (.inr (.inr (.inr (.inr (.inr ⟨rfl,c1,c4,c7,c8,c9,fun q=>c11 (.inl q),fun q=>c11 (.inr q),c10,c12,c13,c14,c2⟩)))))
 ·rw [if_pos hw]
  have e1:=abI e h hm k r hw hk
  generalize rO e k r (gW e)=p at*
  clear h hh
  generalize hE:jQ _ _ _=R
  simp [jQ, -au,func116,f116,e1,hw]at hE
  exact hE.symm
end
section
variable (e:dB) (h:fV e) {f:Int} {l:List ByteArray} (hh:gX f l)
include h hh
theorem af5 (k r:Int)(hk:jh k r=true)(hm:e.bV=1∨e.bV=2)(hu:e.bV=2→k=1→e.fT=0→e.Op=0→r=117→iI [gL e] [] []=some (kR (mQ e))):oZ [gL e,aH f l,aK k r] [] []=some (kR (viE e f l k r)):=by
 obtain⟨a1,a2,a3,a4⟩:=h.aR
 have ea:=uq e (fA.2 h)
 have eb:=oJ f l hh
 have ec:=o9 k r
 rw [hk]at ec
 unfold viE
 by_cases m1:e.bV=1
 ·rw [if_pos m1]
  have e1:=IV e h hh k r hk (.inr m1)
  cases hp:lY e f l k r with
  | some p=>
   rw [hp]at e1
   simp only
   clear h hh
   generalize hE:oZ _ _ _=R
   unfold oZ at hE
   simp only [gL,gO,hO,m1]at ea e1 hE
   simp [-au,func40,f40,ea,eb,ec,e1]at hE
   exact hE.symm
  | none=>
   rw [hp]at e1
   simp only [kRo,Iz,u6,bn,show aC []= []from rfl,show aS []= []from rfl]at e1
   simp only
   by_cases c7:k=7
   ·rw [if_pos c7]
    subst c7
    have e2:=gB e h
    have w1:=bM (e.ak.At-1) (by omega)
    have c1:=dh (e.ak.At-1) e.ak.av.length (by omega)
    rw [show max 0 (min (e.ak.At-1) e.ak.av.length)=max (e.ak.At-1) 0 by omega]at c1
    have e5:e.bH=e.bH∧e.Op=0∧e.bU=0∧e.fT=0:=by
     have:=h.cmd.resolve_left (by omega)
     exact⟨rfl,this.1,this.2.2,this.2.1⟩
    obtain⟨-,o1,o2,o3⟩:=e5
    have e6:=vS e
    unfold agZ
    clear h hh
    generalize hE:oZ _ _ _=R
    unfold oZ at hE
    simp only [gL,gO,hO,m1,o1,o2,o3]at ea e1 e2 e6 hE
    simp [-au,func40,f40,ea,eb,ec,e1,e2,e6,w1,c1]at hE
    simp only [kR,gL,gO,hO,o1,o2,o3]
    exact hE.symm
   ·rw [if_neg c7]
    have e2:=jD e h
    generalize dM e=p at*
    clear h hh
    generalize hE:oZ _ _ _=R
    unfold oZ at hE
    simp only [gL,gO,hO,m1]at ea e1 e2 hE
    simp [-au,func40,f40,ea,eb,ec,e1,e2,c7]at hE
    exact hE.symm
 rw [if_neg m1]
 have m2:e.bV=2:=hm.resolve_left m1
 have e1:=SV e h m2 hh k r hk (hu m2)
 generalize (if ¬e.fT=0 then rO e k r (gW e)else if ¬k=1 then qM e f l k r (gW e)else oz e f l r (gW e))=p at*
 clear h hh
 generalize hE:oZ _ _ _=R
 unfold oZ at hE
 simp only [gL,gO,hO,m2]at ea e1 hE
 simp [-au,func40,f40,ea,eb,ec,e1]at hE
 exact hE.symm
end
theorem Ej (s t:ByteArray){i:Nat}(h:i+t.size≤s.size):((s.extract i (i+t.size)).toList==t.toList)=Lib.occAt s.data.toList t.data.toList i:=(Lib.occ_of_piece s t i h).symm
theorem af6 (s t:ByteArray)(hs:s.size≤1000000)(ht:t.size≤1000000):Ib [V.v (.string s),V.v (.string t),V.v (.bool false)] [] []=some ⟨V.v (.bool (Lib.contains s.data.toList t.data.toList)),[],[]⟩:=by
 have hsz:s.data.toList.length=s.size:=by rw [Array.length_toList];rfl
 have htz:t.data.toList.length=t.size:=by rw [Array.length_toList];rfl
 have st:∀j,j+t.size≤s.size→(0:Int)≤j∧(j:Int)+t.size≤s.size∧(j:Int)≤(j:Int)+t.size∧0≤(j:Int)+t.size∧((j:Int)+t.size).toNat=j+t.size∧IntKind.i64.wrap ((j:Int)+t.size)=(j:Int)+t.size∧IntKind.i64.wrap ((j:Int)+1)=(j:Int)+1:=fun j hj=>⟨by omega,by omega,by omega,by omega,by omega,bM _ (by omega),bM _ (by omega)⟩
 generalize hE:Ib _ _ _=R
 simp [Ib,func260,f260]at hE
 rcases Lib.index_spec s.data.toList t.data.toList with⟨e1,e2⟩|⟨i,e1,e2,e3,e4⟩
 ·rw [show Lib.contains s.data.toList t.data.toList=false from by unfold Lib.contains;rw [e1];rfl]
  rw [aJ (fun j=> .on ⟨[(7,V.v (.int .i64 ((j:Int)))),(2,V.v (.bool false)),(1,V.v (.string t)),(0,V.v (.string s))],[],[],[]⟩) (s.size+1-t.size) ?_ ?_]at hE
  ·have c:¬((s.size+1-t.size:Nat):Int)+t.size≤s.size:=by omega
   have w:=bM (((s.size+1-t.size:Nat):Int)+t.size) (by omega)
   simp [c,w]at hE
   exact hE.symm
  ·simp
  ·intro j hj
   have hjl:j+t.size≤s.size:=by omega
   obtain⟨q1,q2,q3,q4,q5,q6,q7⟩:=st j hjl
   have p:=Ej s t hjl
   rw [e2 j (by omega)]at p
   simp [q1,q2,q3,q4,q5,q6,q7,p]
 ·rw [show Lib.contains s.data.toList t.data.toList=true from by unfold Lib.contains;rw [e1];simp]
  have hroom:=Lib.index_room s.data.toList t.data.toList (by rw [e1];omega)
  rw [e1,hsz,htz]at hroom
  rw [aJ (fun j=> .on ⟨[(7,V.v (.int .i64 ((j:Int)))),(2,V.v (.bool false)),(1,V.v (.string t)),(0,V.v (.string s))],[],[],[]⟩) i ?_ ?_]at hE
  ·obtain⟨q1,q2,q3,q4,q5,q6,q7⟩:=st i (by omega)
   have p:=Ej s t (i:=i) (by omega)
   rw [e3]at p
   simp [q1,q2,q3,q4,q5,q6,q7,p]at hE
   exact hE.symm
  ·simp
  ·intro j hj
   obtain⟨q1,q2,q3,q4,q5,q6,q7⟩:=st j (by omega)
   have p:=Ej s t (i:=j) (by omega)
   rw [e4 j hj]at p
   simp [q1,q2,q3,q4,q5,q6,q7,p]
theorem RN (s:ByteArray)(hs:s.size≤65536):∃b,yM [V.v (.string s)] [] []=some ⟨.fK [.own 0,V.v (.bool b)],[],[(0,ints (sM s))]⟩:=by
 have hr:=uf s.data.toList
 have e1:=QS s _ _ hr hs
 refine⟨(rJ s.data.toList).isEmpty,e1.trans ?_⟩
 unfold sM
 by_cases hz:rJ s.data.toList= []
 ·have hz':(rJ s.data.toList).isEmpty=true:=by rw [hz];rfl
  rw [if_pos hz,if_pos hz']
 ·have hz':¬(rJ s.data.toList).isEmpty=true:=by simpa using hz
  rw [if_neg hz,if_neg hz']
  rfl
noncomputable def Ju (s:ByteArray)(t:List UInt8):Int:=if 0≤Lib.index s.data.toList t then((sM (s.extract 0 (Lib.index s.data.toList t).toNat)).length:Int)else -1
theorem Oz (s t:ByteArray)(hs:s.size≤65536)(ht:t.size≤1000000):zB [V.v (.string s),V.v (.string t)] [] []=some ⟨vI (Ju s t.data.toList),[],[]⟩:=by
 have hsz:s.data.toList.length=s.size:=by rw [Array.length_toList];rfl
 have htz:t.data.toList.length=t.size:=by rw [Array.length_toList];rfl
 have st:∀j,j+t.size≤s.size→(0:Int)≤j∧(j:Int)+t.size≤s.size∧(j:Int)≤(j:Int)+t.size∧0≤(j:Int)+t.size∧((j:Int)+t.size).toNat=j+t.size∧IntKind.i64.wrap ((j:Int)+t.size)=(j:Int)+t.size∧IntKind.i64.wrap ((j:Int)+1)=(j:Int)+1:=fun j hj=>⟨by omega,by omega,by omega,by omega,by omega,bM _ (by omega),bM _ (by omega)⟩
 unfold Ju
 generalize hE:zB _ _ _=R
 simp [zB,func259,f259]at hE
 rcases Lib.index_spec s.data.toList t.data.toList with⟨e1,e2⟩|⟨i,e1,e2,e3,e4⟩
 ·rw [e1,if_neg (by decide)]
  rw [aJ (fun j=> .on ⟨[(5,V.v (.int .i64 ((j:Int)))),(1,V.v (.string t)),(0,V.v (.string s))],[],[],[]⟩) (s.size+1-t.size) ?_ ?_]at hE
  ·have c:¬((s.size+1-t.size:Nat):Int)+t.size≤s.size:=by omega
   have w:=bM (((s.size+1-t.size:Nat):Int)+t.size) (by omega)
   simp [c,w]at hE
   exact hE.symm
  ·simp
  ·intro j hj
   have hjl:j+t.size≤s.size:=by omega
   obtain⟨q1,q2,q3,q4,q5,q6,q7⟩:=st j hjl
   have p:=Ej s t hjl
   rw [e2 j (by omega)]at p
   simp [q1,q2,q3,q4,q5,q6,q7,p]
 ·rw [e1,if_pos (by omega),Int.toNat_natCast]
  have hroom:=Lib.index_room s.data.toList t.data.toList (by rw [e1];omega)
  rw [e1,hsz,htz]at hroom
  obtain⟨b9,e9⟩:=RN (s.extract 0 i) (by simp [ByteArray.size_extract];omega)
  rw [aJ (fun j=> .on ⟨[(5,V.v (.int .i64 ((j:Int)))),(1,V.v (.string t)),(0,V.v (.string s))],[],[],[]⟩) i ?_ ?_]at hE
  ·obtain⟨q1,q2,q3,q4,q5,q6,q7⟩:=st i (by omega)
   have p:=Ej s t (i:=i) (by omega)
   rw [e3]at p
   have q8:i≤s.size:=by omega
   have q9:(i:Int)≤s.size:=by omega
   generalize sM (s.extract 0 i)=front at*
   simp [q1,q2,q3,q4,q5,q6,q7,q8,q9,p,e9]at hE
   exact hE.symm
  ·simp
  ·intro j hj
   obtain⟨q1,q2,q3,q4,q5,q6,q7⟩:=st j (by omega)
   have p:=Ej s t (i:=j) (by omega)
   rw [e4 j hj]at p
   simp [q1,q2,q3,q4,q5,q6,q7,p]
theorem Zn (f:Int)(l:List ByteArray)(hh:gX f l)(s:ByteArray)(hs:s.size≤1000000)(fr:Int)(hfr: -2≤fr∧fr≤2000000000):zA [.agg [vI f, .aP (some 0) (strs l)],V.v (.string s),vI fr,vI (-1),V.v (.bool false)] [] []=some ⟨vI (iW f s.data.toList fr l l.length),[],[]⟩:=by
 have h1:=hh.first
 have h2:=hh.len
 have e1:=oJ f l hh
 generalize hE:zA _ _ _=R
 simp [zA,func202,f202,e1]at hE
 rw [aJ (fun j=> .on ⟨[(29,V.v (.int .i64 ((j:Int)))),(28,V.v (.int .i64 ((l.length:Int)))),(27, .aP (some 0) (strs l)),(11,V.v (.int .i64 (iW f s.data.toList fr l j))),(5, .ref 5 0),(4,V.v (.bool false)),(3,V.v (.int .i64 ((-1)))),(2,V.v (.int .i64 fr)),(1,V.v (.string s))],[(5,[vI f, .aP (some 0) (strs l)])],[],[]⟩) l.length ?_ ?_]at hE
 ·simp at hE
  exact hE.symm
 ·simp [iW]
 ·intro j hj
  have hw:=bM ((j:Int)+1) (by omega)
  have w1:=bM (f+j) (by omega)
  have hz:=hh.each _ (List.getElem_mem hj)
  have e2:=af6 l[j] s (by omega) hs
  rw [iW,List.getElem?_eq_getElem hj]
  simp only [Option.map_some,Option.some.injEq]
  generalize iW f s.data.toList fr l j=best at*
  cases hc:Lib.contains l[j].data.toList s.data.toList
  ·rw [hc]at e2
   simp [hj,hw,w1,wQ hj,e2]
  ·rw [hc]at e2
   by_cases c:f+(j:Int)≤fr
   ·have c':¬fr<f+(j:Int):=by omega
    by_cases b0:best=0
    ·simp [hj,hw,w1,wQ hj,e2,c,c',b0]
    ·simp [hj,hw,w1,wQ hj,e2,c,c',b0]
   ·have c':fr<f+(j:Int):=by omega
    simp [hj,hw,w1,wQ hj,e2,c,c']
section
variable (e:dB) (h:fV e)
include h
theorem Zo (hm:e.bV=3):uT [gL e] [] []=some ⟨(gO (xK e)),[],(hO (xK e))⟩:=by
 have ea:=uq e (fA.2 h)
 have e0:=gB e h
 have hl:=bX h.line
 unfold xK
 cases hv:e.Vi with
 | true=>
  have e1:=qW {e with bV:=2,bP:= [],nH:=0,dH:=⟨[],0⟩} ⟨hl.2.2.1,by show e.ak.At≤1000;omega⟩
  simp only [gL,gO,hO,hv,bn]at e1
  rw [if_pos rfl]
  generalize jl 2 e.ak.av e.ak.At=ia at*
  clear h
  generalize hE:uT _ _ _=R
  unfold uT at hE
  simp only [gL,gO,hO,hv,hm]at ea e0 hE
  simp [-au,func114,f114,ea,e0,e1]at hE
  exact hE.symm
 | false=>
  have e1:=qW {e with bV:=0,bP:= [],nH:=0,dH:=⟨[],0⟩} ⟨hl.2.2.1,by show e.ak.At≤1000;omega⟩
  simp only [gL,gO,hO,hv,bn]at e1
  rw [if_neg (by decide)]
  generalize jl 0 e.ak.av e.ak.At=ia at*
  clear h
  generalize hE:uT _ _ _=R
  unfold uT at hE
  simp only [gL,gO,hO,hv,hm]at ea e0 hE
  simp [-au,func114,f114,ea,e0,e1]at hE
  exact hE.symm
end
end Go.Proofs.YtlpdjhiggpblcaaGreat
