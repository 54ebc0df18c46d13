/- Part 15 of a proof in several texts (an abstract evaluator, what the functions compute). -/
import Derived.Test.YtlpdjhiggpblcaaGreatPkEdKeys14
open Go.Proofs.Tryz
namespace Go.Proofs.YtlpdjhiggpblcaaGreat
set_option linter.unusedSectionVars false
set_option linter.unusedSimpArgs false
set_option linter.unusedVariables false
open Go.RowKit
set_option maxHeartbeats 8000000
set_option maxRecDepth 10000
section
variable (e:dw) (h:fO e) (hm:e.bR=2) {f:Int} {l:List ByteArray} (hh:iB f l)
include h hm hh
theorem YM (r:Int)(n:Nat)(hn:1≤n∧n≤999):bJ [gL e,aH f l,aK 4 r,vI (n:Int)] [] []=some (kR ((e,2))):=by
 obtain⟨a1,a2,a3,a4⟩:=h.aS
 have e0:=eF e h
 clear h hh
 generalize hE:bJ _ _ _=R
 simp [bJ, -ak,func102,f102,e0]at hE
 exact hE.symm
theorem Vn (r:Int)(n:Nat)(hn:1≤n∧n≤999)(hz:e.bA=0∧e.Op=0∧e.bH=0∧e.eY=0):bJ [gL e,aH f l,aK 7 r,vI (n:Int)] [] []=some (kR (dJ e)):=by
 obtain⟨a1,a2,a3,a4⟩:=h.aS
 have e0:=eF e h
 have e1:=mq e h
 generalize dJ e=p at*
 obtain⟨z1,z2,z3,z4⟩:=hz
 clear h hh
 generalize hE:bJ _ _ _=R
 unfold bJ at hE
 simp only [gL,gO,hO,z1,z2,z3,z4]at e0 e1 hE
 simp [-ak,func102,f102,e0,e1]at hE
 exact hE.symm
theorem Vo (r:Int)(n:Nat)(hz:¬(e.bA=0∧e.Op=0∧e.bH=0∧e.eY=0)):bJ [gL e,aH f l,aK 7 r,vI (n:Int)] [] []=some (kR (sU e e.iA,0)):=by
 have e0:=eF e h
 have e1:=zF e (Oy.of (fD.2 h)) e.iA
 clear h hh
 generalize hE:bJ _ _ _=R
 unfold bJ at hE
 by_cases z1:e.bA=0
 ·by_cases z2:e.Op=0
  ·by_cases z3:e.bH=0
   ·have z4:¬e.eY=0:=fun q=>hz ⟨z1,z2,z3,q⟩
    simp only [gL,gO,hO,z1,z2,z3]at e0 e1 hE
    simp [-ak,func102,f102,e0,e1,z4]at hE
    exact hE.symm
   ·simp only [gL,gO,hO,z1,z2]at e0 e1 hE
    simp [-ak,func102,f102,e0,e1,z3]at hE
    exact hE.symm
  ·simp only [gL,gO,hO,z1]at e0 e1 hE
   simp [-ak,func102,f102,e0,e1,z2]at hE
   exact hE.symm
 ·simp [-ak,func102,f102,e0,e1,z1]at hE
  exact hE.symm
theorem YN (r:Int)(n:Nat)(hn:1≤n∧n≤999):bJ [gL e,aH f l,aK 8 r,vI (n:Int)] [] []=some (kR (jO e f l (-1))):=by
 obtain⟨a1,a2,a3,a4⟩:=h.aS
 have e0:=eF e h
 have e1:=DU e h hh (-1) (.inr rfl)
 generalize jO e f l (-1)=p at*
 clear h hh
 generalize hE:bJ _ _ _=R
 simp [bJ, -ak,func102,f102,e0,e1]at hE
 exact hE.symm
theorem YO (r:Int)(n:Nat)(hn:1≤n∧n≤999):bJ [gL e,aH f l,aK 9 r,vI (n:Int)] [] []=some (kR (jO e f l 1)):=by
 obtain⟨a1,a2,a3,a4⟩:=h.aS
 have e0:=eF e h
 have e1:=DU e h hh 1 (.inl rfl)
 generalize jO e f l 1=p at*
 clear h hh
 generalize hE:bJ _ _ _=R
 simp [bJ, -ak,func102,f102,e0,e1]at hE
 exact hE.symm
theorem Vp (r:Int)(n:Nat)(hn:1≤n∧n≤999):bJ [gL e,aH f l,aK 11 r,vI (n:Int)] [] []=some (kR (l9 e 104 n)):=by
 obtain⟨a1,a2,a3,a4⟩:=h.aS
 have e0:=eF e h
 have e1:=Fg e h hm 104 n hn
 generalize l9 e 104 n=p at*
 clear h hh
 generalize hE:bJ _ _ _=R
 simp [bJ, -ak,func102,f102,e0,e1]at hE
 exact hE.symm
theorem YP (r:Int)(n:Nat)(hn:1≤n∧n≤999):bJ [gL e,aH f l,aK 5 r,vI (n:Int)] [] []=some (kR (l9 e 104 n)):=by
 obtain⟨a1,a2,a3,a4⟩:=h.aS
 have e0:=eF e h
 have e1:=Fg e h hm 104 n hn
 generalize l9 e 104 n=p at*
 clear h hh
 generalize hE:bJ _ _ _=R
 simp [bJ, -ak,func102,f102,e0,e1]at hE
 exact hE.symm
theorem Vq (r:Int)(n:Nat)(hn:1≤n∧n≤999):bJ [gL e,aH f l,aK 10 r,vI (n:Int)] [] []=some (kR (l9 e 108 n)):=by
 obtain⟨a1,a2,a3,a4⟩:=h.aS
 have e0:=eF e h
 have e1:=Fg e h hm 108 n hn
 generalize l9 e 108 n=p at*
 clear h hh
 generalize hE:bJ _ _ _=R
 simp [bJ, -ak,func102,f102,e0,e1]at hE
 exact hE.symm
theorem Vr (r:Int)(n:Nat)(hn:1≤n∧n≤999):bJ [gL e,aH f l,aK 12 r,vI (n:Int)] [] []=some (kR (l9 e 48 n)):=by
 obtain⟨a1,a2,a3,a4⟩:=h.aS
 have e0:=eF e h
 have e1:=Fg e h hm 48 n hn
 generalize l9 e 48 n=p at*
 clear h hh
 generalize hE:bJ _ _ _=R
 simp [bJ, -ak,func102,f102,e0,e1]at hE
 exact hE.symm
theorem Vs (r:Int)(n:Nat)(hn:1≤n∧n≤999):bJ [gL e,aH f l,aK 13 r,vI (n:Int)] [] []=some (kR (l9 e 36 n)):=by
 obtain⟨a1,a2,a3,a4⟩:=h.aS
 have e0:=eF e h
 have e1:=Fg e h hm 36 n hn
 generalize l9 e 36 n=p at*
 clear h hh
 generalize hE:bJ _ _ _=R
 simp [bJ, -ak,func102,f102,e0,e1]at hE
 exact hE.symm
theorem Vt (r:Int)(n:Nat)(hn:1≤n∧n≤999):bJ [gL e,aH f l,aK 14 r,vI (n:Int)] [] []=some (kR (iU e 100 (aS e) (min (aS e+n) e.au.av.length))):=by
 obtain⟨a1,a2,a3,a4⟩:=h.aS
 have e0:=eF e h
 have e1:=uU e h hm 100 rfl (aS e) (min (aS e+n) e.au.av.length) (by omega) (by omega)
 rw [show ((min (aS e+n) e.au.av.length:Nat):Int)=min (e.au.At+n) e.au.av.length from by omega,←a1]at e1
 have w1:=bN (e.au.At+n) (by omega)
 generalize iU e 100 (aS e) (min (aS e+n) e.au.av.length)=p at*
 clear h hh
 generalize hE:bJ _ _ _=R
 simp [bJ, -ak,func102,f102,e0,e1,w1]at hE
 exact hE.symm
theorem Vu (n:Nat)(hn:1≤n∧n≤999):bJ [gL e,aH f l,aK 2 99,vI (n:Int)] [] []=some (kR ((e,3))):=by
 obtain⟨a1,a2,a3,a4⟩:=h.aS
 have e0:=eF e h
 clear h hh
 generalize hE:bJ _ _ _=R
 simp [bJ, -ak,func102,f102,e0]at hE
 exact hE.symm
theorem Uu (n:Nat)(hn:1≤n∧n≤999):bJ [gL e,aH f l,aK 2 108,vI (n:Int)] [] []=some (kR ((e,5))):=by
 obtain⟨a1,a2,a3,a4⟩:=h.aS
 have e0:=eF e h
 clear h hh
 generalize hE:bJ _ _ _=R
 simp [bJ, -ak,func102,f102,e0]at hE
 exact hE.symm
theorem Uv (n:Nat)(hn:1≤n∧n≤999)(hz:e.au.av.length=0):bJ [gL e,aH f l,aK 2 100,vI (n:Int)] [] []=some (kR ((e,4))):=by
 obtain⟨a1,a2,a3,a4⟩:=h.aS
 have e0:=eF e h
 have hz2:e.au.av= []:=List.length_eq_zero_iff.1 hz
 clear h hh
 generalize hE:bJ _ _ _=R
 unfold bJ at hE
 simp only [gL,gO,hO,hz2,aZ]at e0 hE
 simp [-ak,func102,f102,e0]at hE
 simp only [kR,gL,gO,hO,hz2,aZ]
 exact hE.symm
theorem Uw (n:Nat)(hn:1≤n∧n≤999):bJ [gL e,aH f l,aK 2 114,vI (n:Int)] [] []=some (kR (CU e)):=by
 obtain⟨a1,a2,a3,a4⟩:=h.aS
 have e0:=eF e h
 have e1:=YI e h
 generalize CU e=p at*
 clear h hh
 generalize hE:bJ _ _ _=R
 simp [bJ, -ak,func102,f102,e0,e1]at hE
 exact hE.symm
theorem YQ (r:Int)(n:Nat)(hn:1≤n∧n≤999)(c1:¬r=99)(c2:¬r=108)(c3:¬r=100)(c4:¬r=114):bJ [gL e,aH f l,aK 2 r,vI (n:Int)] [] []=some (kR (dJ e)):=by
 obtain⟨a1,a2,a3,a4⟩:=h.aS
 have e0:=eF e h
 have e1:=mq e h
 generalize dJ e=p at*
 clear h hh
 generalize hE:bJ _ _ _=R
 simp [bJ, -ak,func102,f102,e0,e1,c1,c2,c3,c4]at hE
 exact hE.symm
theorem Vv (n:Nat)(hn:1≤n∧n≤999)(hz:¬e.au.av.length=0):bJ [gL e,aH f l,aK 2 100,vI (n:Int)] [] []=some (kR (dJ e)):=by
 obtain⟨a1,a2,a3,a4⟩:=h.aS
 have e0:=eF e h
 have e1:=mq e h
 have hz2:¬e.au.av= []:=fun q=>hz (by rw [q];rfl)
 generalize dJ e=p at*
 clear h hh
 generalize hE:bJ _ _ _=R
 simp [bJ, -ak,func102,f102,e0,e1,hz2]at hE
 exact hE.symm
theorem Vw (k r:Int)(n:Nat)(hn:1≤n∧n≤999)(c4:¬k=4)(c7:¬k=7)(c8:¬k=8)(c9:¬k=9)(c11:¬k=11)(c5:¬k=5)(c10:¬k=10)(c12:¬k=12)(c13:¬k=13)(c14:¬k=14)(c2:¬k=2):bJ [gL e,aH f l,aK k r,vI (n:Int)] [] []=some (kR (dJ e)):=by
 obtain⟨a1,a2,a3,a4⟩:=h.aS
 have e0:=eF e h
 have e1:=mq e h
 generalize dJ e=p at*
 clear h hh
 generalize hE:bJ _ _ _=R
 simp [bJ, -ak,func102,f102,e0,e1,c4,c7,c8,c9,c11,c5,c10,c12,c13,c14,c2]at hE
 exact hE.symm
theorem ad7 (k r:Int)(n:Nat)(hn:1≤n∧n≤999):bJ [gL e,aH f l,aK k r,vI (n:Int)] [] []=some (kR (yA e f l k r n)):=by
 unfold yA
 by_cases c4:k=4
 ·rw [if_pos c4];subst c4;exact YM e h hm hh r n hn
 rw [if_neg c4]
 by_cases c7:k=7
 ·rw [if_pos c7]
  subst c7
  by_cases hz:e.bA=0∧e.Op=0∧e.bH=0∧e.eY=0
  ·rw [if_pos hz];exact Vn e h hm hh r n hn hz
  ·rw [if_neg hz];exact Vo e h hm hh r n hz
 rw [if_neg c7]
 by_cases c8:k=8
 ·rw [if_pos c8];subst c8;exact YN e h hm hh r n hn
 rw [if_neg c8]
 by_cases c9:k=9
 ·rw [if_pos c9];subst c9;exact YO e h hm hh r n hn
 rw [if_neg c9]
 by_cases c11:k=11
 ·rw [if_pos (.inl c11)];subst c11;exact Vp e h hm hh r n hn
 by_cases c5:k=5
 ·rw [if_pos (.inr c5)];subst c5;exact YP e h hm hh r n hn
 rw [if_neg (fun q=>q.elim c11 c5)]
 by_cases c10:k=10
 ·rw [if_pos c10];subst c10;exact Vq e h hm hh r n hn
 rw [if_neg c10]
 by_cases c12:k=12
 ·rw [if_pos c12];subst c12;exact Vr e h hm hh r n hn
 rw [if_neg c12]
 by_cases c13:k=13
 ·rw [if_pos c13];subst c13;exact Vs e h hm hh r n hn
 rw [if_neg c13]
 by_cases c14:k=14
 ·rw [if_pos c14];subst c14;exact Vt e h hm hh r n hn
 rw [if_neg c14]
 by_cases c2:k=2
 ·rw [if_pos c2]
  subst c2
  by_cases r1:r=99
  ·rw [if_pos r1];subst r1;exact Vu e h hm hh n hn
  rw [if_neg r1]
  by_cases r2:r=108
  ·rw [if_pos r2];subst r2;exact Uu e h hm hh n hn
  rw [if_neg r2]
  by_cases r3:r=100
  ·by_cases hz:e.au.av.length=0
   ·rw [if_pos ⟨r3,hz⟩];subst r3;exact Uv e h hm hh n hn hz
   ·rw [if_neg (fun q=>hz q.2),if_neg (by omega)];subst r3;exact Vv e h hm hh n hn hz
  rw [if_neg (fun q=>r3 q.1)]
  by_cases r4:r=114
  ·rw [if_pos r4];subst r4;exact Uw e h hm hh n hn
  rw [if_neg r4]
  exact YQ e h hm hh r n hn r1 r2 r3 r4
 rw [if_neg c2]
 exact Vw e h hm hh k r n hn c4 c7 c8 c9 c11 c5 c10 c12 c13 c14 c2
end
section
variable (e:dw) (h:fO e) (hm:e.bR=2)
include h hm
theorem ai9 (r:Int)(n:Nat)(hn:1≤n∧n≤999):eZ [gL e,vI r,vI (n:Int)] [] []=some (kRo (GR e r n)):=by
 have e0:=eF e h
 have eb:=mq e h
 have eh:=Xe r
 have hc:=h.cnt
 unfold GR
 by_cases c1:iw r 49 57=true∨(r=48∧¬e.bA=0)
 ·rw [if_pos c1]
  have hr2:48≤r∧r≤57:=by
   rcases c1 with c1|⟨c1, -⟩
   ·have:=bC.1 c1;omega
   ·omega
  have w1:=bN (10*e.bA) (by omega)
  have w2:=bN (10*e.bA+r) (by omega)
  have w3:=bN (10*e.bA+r-48) (by omega)
  unfold JC
  clear h
  generalize hE:eZ _ _ _=R
  unfold eZ at hE
  cases c2:iw r 49 57 with
  | true=>
   simp [-ak,func182,f182,dH,e0,w1,w2,w3,c2]at hE
   exact hE.symm
  | false=>
   obtain⟨c3,c4⟩:=c1.resolve_left (by rw [c2];decide)
   subst c3
   simp [-ak,func182,f182,dH,e0,w1,w2,w3,c2,c4]at hE
   rw [show 10*e.bA+48-48=10*e.bA from by omega]
   exact hE.symm
 rw [if_neg c1]
 have c2:iw r 49 57=false:=by cases q:iw r 49 57;rfl;exact absurd (.inl q) c1
 by_cases c5:0≤jd r
 ·rw [if_pos c5]
  have c3:¬r=48:=fun q=>by rw [q]at c5;exact absurd c5 (by decide)
  generalize jd r=how at*
  clear h
  generalize hE:eZ _ _ _=R
  simp [eZ, -ak,func182,f182,dH,e0,eh,c2,c3,c5]at hE
  exact hE.symm
 rw [if_neg c5]
 have c6:¬0≤jd r:=c5
 have amR:r=48→e.bA=0:=fun q=>Classical.byContradiction fun q2=>c1 (.inr ⟨q,q2⟩)
 by_cases c7:r=59
 ·rw [if_pos c7]
  subst c7
  rw [show jd 59= -1 from by decide]at eh
  by_cases c8:e.dN=0
  ·rw [if_pos c8]
   generalize dJ e=p at*
   clear h
   generalize hE:eZ _ _ _=R
   unfold eZ at hE
   simp only [gL,gO,hO,c8]at e0 eb hE
   simp [-ak,func182,f182,dH,e0,eb,eh,c2]at hE
   exact hE.symm
  ·rw [if_neg c8]
   have hf:=h.find
   simp only [dO,Bool.or_eq_true,Bool.and_eq_true,beq_iff_eq,bne_iff_ne]at hf
   have hf2:=bC.1 (hf.resolve_left (fun q=>c8 q.1)).2.2
   have e1:=PI e h hm e.dN e.bG n hf2 hn
   generalize rP e e.dN e.bG n=p at*
   clear h
   generalize hE:eZ _ _ _=R
   simp [eZ, -ak,func182,f182,dH,e0,e1,eh,c2,c8]at hE
   exact hE.symm
 rw [if_neg c7]
 by_cases c9:r=44
 ·rw [if_pos c9]
  subst c9
  rw [show jd 44= -1 from by decide]at eh
  have hf:=h.find
  simp only [dO,Bool.or_eq_true,Bool.and_eq_true,beq_iff_eq,bne_iff_ne]at hf
  by_cases c8:e.dN=0
  ·rw [if_pos c8]
   have cf:e.bG=0:=hf.elim (fun q=>q.2) (fun q=>absurd c8 q.1)
   generalize dJ e=p at*
   clear h
   generalize hE:eZ _ _ _=R
   unfold eZ at hE
   simp only [gL,gO,hO,c8,cf]at e0 eb hE
   simp [-ak,func182,f182,dH,e0,eb,eh,c2]at hE
   exact hE.symm
  ·rw [if_neg c8]
   have hf2:=bC.1 (hf.resolve_left (fun q=>c8 q.1)).2.2
   have e1:=PI e h hm e.dN (uR e.bG) n (by unfold uR;repeat' split<;>omega) hn
   generalize rP e e.dN (uR e.bG) n=p at*
   clear h
   have hq:e.bG=0∨e.bG=1∨e.bG=2∨e.bG=3:=by omega
   generalize hE:eZ _ _ _=R
   unfold eZ at hE
   rcases hq with q|q|q|q
   all_goals
    simp only [gL,gO,hO,q,uR]at e0 e1 hE
    simp at e1
    simp [-ak,func182,f182,dH,e0,e1,eh,c2,c8]at hE
    exact hE.symm
 rw [if_neg c9]
 have eop:=Ej r
 by_cases c10:e.Op=0∧opC r=true
 ·rw [if_pos c10]
  have c3:¬r=48:=fun q=>by rw [q]at c10;exact absurd c10.2 (by decide)
  obtain⟨c11,c12⟩:=c10
  rw [c12]at eop
  generalize jd r=how at*
  clear h
  generalize hE:eZ _ _ _=R
  unfold eZ at hE
  simp only [gL,gO,hO,c11]at e0 hE
  simp [-ak,func182,f182,dH,e0,eh,eop,c2,c3,c5,c7,c9]at hE
  exact hE.symm
 rw [if_neg c10]
 simp only [kRo,yH,aZ,show aC []= []from rfl,show aG []= []from rfl]
 generalize jd r=how at*
 by_cases c3:r=48
 ·have c4:=amR c3
  subst c3
  rw [show opC 48=false from by decide]at eop
  clear h
  generalize hE:eZ _ _ _=R
  unfold eZ at hE
  by_cases c11:e.Op=0
  ·simp only [gL,gO,hO,c4,c11]at e0 hE
   simp [-ak,func182,f182,dH,e0,eh,eop,c2,c5]at hE
   exact hE.symm
  ·simp only [gL,gO,hO,c4]at e0 hE
   simp [-ak,func182,f182,dH,e0,eh,c2,c5,c11]at hE
   exact hE.symm
 ·clear h
  generalize hE:eZ _ _ _=R
  unfold eZ at hE
  by_cases c11:e.Op=0
  ·have c12:opC r=false:=by cases q:opC r;rfl;exact absurd ⟨c11,q⟩ c10
   rw [c12]at eop
   simp only [gL,gO,hO,c11]at e0 hE
   simp [-ak,func182,f182,dH,e0,eh,eop,c2,c3,c5,c7,c9]at hE
   exact hE.symm
  ·simp [-ak,func182,f182,dH,e0,eh,c2,c3,c5,c7,c9,c11]at hE
   exact hE.symm
theorem YR (a:Nat)(ha:a≤e.au.av.length):∃ia ul,
  rD [.agg [.aL (some 0) (ints e.au.av),vI e.au.At],vI (a:Int)] [] []=some ⟨.agg [.own 0,vI (a:Int)],[],[(0,ints e.au.av)]⟩∧
  AO [gL e, .agg [.aL (some 6) (ints e.au.av),vI (a:Int)],vI 0] [] []=some ⟨.agg [V.v (.bool e.Vi),vI e.bR, .own 0,vI ia,vI 0,vI 0,vI 0,vI 0,vI e.dN,vI e.bG,vI 0, .own 1, .own 2,vI e.jT, .own 3,vI e.gG.At, .own 4,vI e.kV, .own 5,vI e.bT.At],[],[(0,ints e.au.av),(1,aC e.aM.aA),(2,aG ul),(3,ints e.gG.av),(4,ints e.bI),(5,ints e.bT.av)]⟩∧
  BR [.agg [V.v (.bool e.Vi),vI e.bR, .aL (some 0) (ints e.au.av),vI ia,vI 0,vI 0,vI 0,vI 0,vI e.dN,vI e.bG,vI 0, .aL (some 1) (aC e.aM.aA), .aL (some 2) (aG ul),vI e.jT, .aL (some 3) (ints e.gG.av),vI e.gG.At, .aL (some 4) (ints e.bI),vI e.kV, .aL (some 5) (ints e.bT.av),vI e.bT.At],vI (a:Int)] [] []=some ⟨.agg [V.v (.bool e.Vi),vI 1, .aL (some 0) (ints e.au.av),vI (a:Int),vI 0,vI 0,vI 0,vI 0,vI e.dN,vI e.bG,vI 0, .aL (some 1) (aC e.aM.aA), .aL (some 2) (aG ul),vI e.jT, .aL (some 3) (ints e.gG.av),vI e.gG.At, .aL (some 4) (ints e.bI),vI e.kV, .aL (some 5) (ints e.bT.av),vI e.bT.At],[],[]⟩∧
  oZ e a= {e with bR:=1,au:=⟨e.au.av,(a:Int)⟩,bA:=0,Op:=0,bH:=0,eY:=0,iA:=0,eO:=⟨ul⟩}:=by
 obtain⟨a1,a2,a3,a4⟩:=h.aS
 exact⟨jq e.bR e.au.av a,sS e e.au.av 0,Fe e.au.av (some 0) e.au.At a (by omega) ha,Px e h e.au.av a 0 (h.Mr ha),Pp (sW e e.au.av a 0) a,rfl⟩
theorem aja (r:Int):qF [gL e,vI r] [] []=some (kR (JD e r)):=by
 obtain⟨a1,a2,a3,a4⟩:=h.aS
 have eb:=mq e h
 unfold JD
 by_cases c1:r=105
 ·rw [if_pos c1]
  subst c1
  obtain⟨ia,ul,e1,e2,e3,e4⟩:=YR e h hm (aS e) a2
  rw [e4]
  rw [←a1]at e1 e2 e3⊢
  clear h
  generalize hE:qF _ _ _=R
  simp [qF, -ak,func187,f187,e1,e2,e3]at hE
  exact hE.symm
 rw [if_neg c1]
 by_cases c2:r=73
 ·rw [if_pos c2]
  subst c2
  have hb:=(cB (fun j=>decide (kS (e.au.av.getD j 0)=0)) e.au.av.length).1
  obtain⟨ia,ul,e1,e2,e3,e4⟩:=YR e h hm (AP e.au.av) hb
  have e5:=JW e.au.av (some 0) (aS e) 1 a2 (by omega) (by omega)
  rw [←a1]at e5
  simp only [Int.natCast_one]at e5
  rw [e4]
  generalize AP e.au.av=b at*
  clear h
  generalize hE:qF _ _ _=R
  simp [qF, -ak,func187,f187,e1,e2,e3,e5]at hE
  exact hE.symm
 rw [if_neg c2]
 by_cases c3:r=97
 ·rw [if_pos c3]
  subst c3
  obtain⟨ia,ul,e1,e2,e3,e4⟩:=YR e h hm (min (aS e+1) e.au.av.length) (by omega)
  have w1:=bN (e.au.At+1) (by omega)
  have hq:min (e.au.At+1) (e.au.av.length:Int)=((min (aS e+1) e.au.av.length:Nat):Int):=by omega
  rw [e4]
  generalize min (aS e+1) e.au.av.length=b at*
  clear h
  generalize hE:qF _ _ _=R
  simp [qF, -ak,func187,f187,e1,e2,e3,w1,hq]at hE
  exact hE.symm
 rw [if_neg c3]
 by_cases c4:r=65
 ·rw [if_pos c4]
  subst c4
  obtain⟨ia,ul,e1,e2,e3,e4⟩:=YR e h hm e.au.av.length (Nat.le_refl _)
  rw [e4]
  clear h
  generalize hE:qF _ _ _=R
  simp [qF, -ak,func187,f187,e1,e2,e3]at hE
  exact hE.symm
 rw [if_neg c4]
 generalize dJ e=p at*
 clear h
 generalize hE:qF _ _ _=R
 simp [qF, -ak,func187,f187,eb,c1,c2,c3,c4]at hE
 exact hE.symm
end
section
variable (e:dw) (h:fO e) (hm:e.bR=2) {f:Int} {l:List ByteArray} (hh:iB f l) (n:Nat) (hn:1≤n∧n≤999)
include h hm hh hn
theorem ad8 (ho:e.Op=0)(e1:eZ [gL e,vI 120,vI (n:Int)] [] []=some (JI (yH,0) false))(e2:aT [.aL (some 0) (ints e.au.av),vI e.au.At,vI 120,vI (n:Int)] [] []=some ⟨.fU [vI 0,V.v (.bool false),V.v (.bool false)],[],[]⟩):bB [gL e,aH f l,vI 120,vI (n:Int)] [] []=some (kR (iU e 100 (aS e) (min (aS e+n) e.au.av.length))):=by
 obtain⟨a1,a2,a3,a4⟩:=h.aS
 simp only [yH,aZ,show aC []= []from rfl,show aG []= []from rfl]at e1
 have e3:=uU e h hm 100 rfl (aS e) (min (aS e+n) e.au.av.length) (by omega) (by omega)
 rw [show (((min (aS e+n) e.au.av.length:Nat)):Int)=min (e.au.At+n) e.au.av.length from by omega,←a1]at e3
 have w1:=bN (e.au.At+n) (by omega)
 generalize iU e 100 (aS e) (min (aS e+n) e.au.av.length)=p at*
 clear h hh
 generalize hE:bB _ _ _=R
 unfold bB at hE
 simp only [gL,gO,hO,ho]at e1 e3 hE
 simp [-ak,func103,f103,e1,e2,e3,w1]at hE
 exact hE.symm
theorem agI (ho:e.Op=0)(e1:eZ [gL e,vI 88,vI (n:Int)] [] []=some (JI (yH,0) false))(e2:aT [.aL (some 0) (ints e.au.av),vI e.au.At,vI 88,vI (n:Int)] [] []=some ⟨.fU [vI 0,V.v (.bool false),V.v (.bool false)],[],[]⟩):bB [gL e,aH f l,vI 88,vI (n:Int)] [] []=some (kR (iU e 100 (aS e-n) (aS e))):=by
 obtain⟨a1,a2,a3,a4⟩:=h.aS
 simp only [yH,aZ,show aC []= []from rfl,show aG []= []from rfl]at e1
 have e3:=uU e h hm 100 rfl (aS e-n) (aS e) (by omega) (by omega)
 rw [show (((aS e-n:Nat)):Int)=max (e.au.At-n) 0 from by omega,←a1]at e3
 have w1:=bN (e.au.At-n) (by omega)
 generalize iU e 100 (aS e-n) (aS e)=p at*
 clear h hh
 generalize hE:bB _ _ _=R
 unfold bB at hE
 simp only [gL,gO,hO,ho]at e1 e3 hE
 simp [-ak,func103,f103,e1,e2,e3,w1]at hE
 exact hE.symm
theorem agJ (ho:e.Op=0)(e1:eZ [gL e,vI 68,vI (n:Int)] [] []=some (JI (yH,0) false))(e2:aT [.aL (some 0) (ints e.au.av),vI e.au.At,vI 68,vI (n:Int)] [] []=some ⟨.fU [vI 0,V.v (.bool false),V.v (.bool false)],[],[]⟩):bB [gL e,aH f l,vI 68,vI (n:Int)] [] []=some (kR (iU e 100 (aS e) e.au.av.length)):=by
 obtain⟨a1,a2,a3,a4⟩:=h.aS
 simp only [yH,aZ,show aC []= []from rfl,show aG []= []from rfl]at e1
 have e3:=uU e h hm 100 rfl (aS e) e.au.av.length (by omega) (by omega)
 rw [←a1]at e3
 generalize iU e 100 (aS e) e.au.av.length=p at*
 clear h hh
 generalize hE:bB _ _ _=R
 unfold bB at hE
 simp only [gL,gO,hO,ho]at e1 e3 hE
 simp [-ak,func103,f103,e1,e2,e3]at hE
 exact hE.symm
theorem agK (ho:e.Op=0)(e1:eZ [gL e,vI 67,vI (n:Int)] [] []=some (JI (yH,0) false))(e2:aT [.aL (some 0) (ints e.au.av),vI e.au.At,vI 67,vI (n:Int)] [] []=some ⟨.fU [vI 0,V.v (.bool false),V.v (.bool false)],[],[]⟩):bB [gL e,aH f l,vI 67,vI (n:Int)] [] []=some (kR (iU e 99 (aS e) e.au.av.length)):=by
 obtain⟨a1,a2,a3,a4⟩:=h.aS
 simp only [yH,aZ,show aC []= []from rfl,show aG []= []from rfl]at e1
 have e3:=uU e h hm 99 rfl (aS e) e.au.av.length (by omega) (by omega)
 rw [←a1]at e3
 generalize iU e 99 (aS e) e.au.av.length=p at*
 clear h hh
 generalize hE:bB _ _ _=R
 unfold bB at hE
 simp only [gL,gO,hO,ho]at e1 e3 hE
 simp [-ak,func103,f103,e1,e2,e3]at hE
 exact hE.symm
theorem ad9 (ho:e.Op=0)(e1:eZ [gL e,vI 115,vI (n:Int)] [] []=some (JI (yH,0) false))(e2:aT [.aL (some 0) (ints e.au.av),vI e.au.At,vI 115,vI (n:Int)] [] []=some ⟨.fU [vI 0,V.v (.bool false),V.v (.bool false)],[],[]⟩):bB [gL e,aH f l,vI 115,vI (n:Int)] [] []=some (kR (iU e 99 (aS e) (min (aS e+n) e.au.av.length))):=by
 obtain⟨a1,a2,a3,a4⟩:=h.aS
 simp only [yH,aZ,show aC []= []from rfl,show aG []= []from rfl]at e1
 have e3:=uU e h hm 99 rfl (aS e) (min (aS e+n) e.au.av.length) (by omega) (by omega)
 rw [show (((min (aS e+n) e.au.av.length:Nat)):Int)=min (e.au.At+n) e.au.av.length from by omega,←a1]at e3
 have w1:=bN (e.au.At+n) (by omega)
 generalize iU e 99 (aS e) (min (aS e+n) e.au.av.length)=p at*
 clear h hh
 generalize hE:bB _ _ _=R
 unfold bB at hE
 simp only [gL,gO,hO,ho]at e1 e3 hE
 simp [-ak,func103,f103,e1,e2,e3,w1]at hE
 exact hE.symm
theorem agL (ho:e.Op=0)(e1:eZ [gL e,vI 83,vI (n:Int)] [] []=some (JI (yH,0) false))(e2:aT [.aL (some 0) (ints e.au.av),vI e.au.At,vI 83,vI (n:Int)] [] []=some ⟨.fU [vI 0,V.v (.bool false),V.v (.bool false)],[],[]⟩):bB [gL e,aH f l,vI 83,vI (n:Int)] [] []=some (kR (iU e 99 0 e.au.av.length)):=by
 obtain⟨a1,a2,a3,a4⟩:=h.aS
 simp only [yH,aZ,show aC []= []from rfl,show aG []= []from rfl]at e1
 have e3:=uU e h hm 99 rfl 0 e.au.av.length (by omega) (by omega)
 simp only [Int.natCast_zero]at e3
 generalize iU e 99 0 e.au.av.length=p at*
 clear h hh
 generalize hE:bB _ _ _=R
 unfold bB at hE
 simp only [gL,gO,hO,ho]at e1 e3 hE
 simp [-ak,func103,f103,e1,e2,e3]at hE
 exact hE.symm
theorem aea (ho:e.Op=0)(e1:eZ [gL e,vI 114,vI (n:Int)] [] []=some (JI (yH,0) false))(e2:aT [.aL (some 0) (ints e.au.av),vI e.au.At,vI 114,vI (n:Int)] [] []=some ⟨.fU [vI 0,V.v (.bool false),V.v (.bool false)],[],[]⟩):bB [gL e,aH f l,vI 114,vI (n:Int)] [] []=some (kR ({e with eY:=114},0)):=by
 obtain⟨a1,a2,a3,a4⟩:=h.aS
 simp only [yH,aZ,show aC []= []from rfl,show aG []= []from rfl]at e1
 have e3:=eF e h
 clear h hh
 generalize hE:bB _ _ _=R
 unfold bB at hE
 simp only [gL,gO,hO,ho]at e1 e3 hE
 simp [-ak,func103,f103,e1,e2,e3]at hE
 simp only [kR,gL,gO,hO,ho]
 exact hE.symm
theorem aeb (ho:e.Op=0)(e1:eZ [gL e,vI 112,vI (n:Int)] [] []=some (JI (yH,0) false))(e2:aT [.aL (some 0) (ints e.au.av),vI e.au.At,vI 112,vI (n:Int)] [] []=some ⟨.fU [vI 0,V.v (.bool false),V.v (.bool false)],[],[]⟩):bB [gL e,aH f l,vI 112,vI (n:Int)] [] []=some (kR (AU e (min (aS e+1) e.au.av.length) n)):=by
 obtain⟨a1,a2,a3,a4⟩:=h.aS
 simp only [yH,aZ,show aC []= []from rfl,show aG []= []from rfl]at e1
 have e3:=abK e h hm (min (aS e+1) e.au.av.length) n (by omega) hn
 rw [show (((min (aS e+1) e.au.av.length:Nat)):Int)=min (e.au.At+1) e.au.av.length from by omega]at e3
 have w1:=bN (e.au.At+1) (by omega)
 generalize AU e (min (aS e+1) e.au.av.length) n=p at*
 clear h hh
 generalize hE:bB _ _ _=R
 unfold bB at hE
 simp only [gL,gO,hO,ho]at e1 e3 hE
 simp [-ak,func103,f103,e1,e2,e3,w1]at hE
 exact hE.symm
theorem agM (ho:e.Op=0)(e1:eZ [gL e,vI 80,vI (n:Int)] [] []=some (JI (yH,0) false))(e2:aT [.aL (some 0) (ints e.au.av),vI e.au.At,vI 80,vI (n:Int)] [] []=some ⟨.fU [vI 0,V.v (.bool false),V.v (.bool false)],[],[]⟩):bB [gL e,aH f l,vI 80,vI (n:Int)] [] []=some (kR (AU e (aS e) n)):=by
 obtain⟨a1,a2,a3,a4⟩:=h.aS
 simp only [yH,aZ,show aC []= []from rfl,show aG []= []from rfl]at e1
 have e3:=abK e h hm (aS e) n a2 hn
 rw [←a1]at e3
 generalize AU e (aS e) n=p at*
 clear h hh
 generalize hE:bB _ _ _=R
 unfold bB at hE
 simp only [gL,gO,hO,ho]at e1 e3 hE
 simp [-ak,func103,f103,e1,e2,e3]at hE
 exact hE.symm
theorem aec (ho:e.Op=0)(e1:eZ [gL e,vI 126,vI (n:Int)] [] []=some (JI (yH,0) false))(e2:aT [.aL (some 0) (ints e.au.av),vI e.au.At,vI 126,vI (n:Int)] [] []=some ⟨.fU [vI 0,V.v (.bool false),V.v (.bool false)],[],[]⟩):bB [gL e,aH f l,vI 126,vI (n:Int)] [] []=some (kR (uQ e n)):=by
 obtain⟨a1,a2,a3,a4⟩:=h.aS
 simp only [yH,aZ,show aC []= []from rfl,show aG []= []from rfl]at e1
 have e3:=abu e h hm n hn
 generalize uQ e n=p at*
 clear h hh
 generalize hE:bB _ _ _=R
 unfold bB at hE
 simp only [gL,gO,hO,ho]at e1 e3 hE
 simp [-ak,func103,f103,e1,e2,e3]at hE
 exact hE.symm
theorem aed (ho:e.Op=0)(e1:eZ [gL e,vI 117,vI (n:Int)] [] []=some (JI (yH,0) false))(e2:aT [.aL (some 0) (ints e.au.av),vI e.au.At,vI 117,vI (n:Int)] [] []=some ⟨.fU [vI 0,V.v (.bool false),V.v (.bool false)],[],[]⟩):bB [gL e,aH f l,vI 117,vI (n:Int)] [] []=some (kR (nQ e)):=by
 obtain⟨a1,a2,a3,a4⟩:=h.aS
 simp only [yH,aZ,show aC []= []from rfl,show aG []= []from rfl]at e1
 have e3:=afd e h
 generalize nQ e=p at*
 clear h hh
 generalize hE:bB _ _ _=R
 unfold bB at hE
 simp only [gL,gO,hO,ho]at e1 e3 hE
 simp [-ak,func103,f103,e1,e2,e3]at hE
 exact hE.symm
theorem aee (ho:e.Op=0)(e1:eZ [gL e,vI 107,vI (n:Int)] [] []=some (JI (yH,0) false))(e2:aT [.aL (some 0) (ints e.au.av),vI e.au.At,vI 107,vI (n:Int)] [] []=some ⟨.fU [vI 0,V.v (.bool false),V.v (.bool false)],[],[]⟩):bB [gL e,aH f l,vI 107,vI (n:Int)] [] []=some (kR (jO e f l (-1))):=by
 obtain⟨a1,a2,a3,a4⟩:=h.aS
 simp only [yH,aZ,show aC []= []from rfl,show aG []= []from rfl]at e1
 have e3:=DU e h hh (-1) (.inr rfl)
 generalize jO e f l (-1)=p at*
 clear h hh
 generalize hE:bB _ _ _=R
 unfold bB at hE
 simp only [gL,gO,hO,ho]at e1 e3 hE
 simp [-ak,func103,f103,e1,e2,e3]at hE
 exact hE.symm
theorem agN (ho:e.Op=0)(e1:eZ [gL e,vI 45,vI (n:Int)] [] []=some (JI (yH,0) false))(e2:aT [.aL (some 0) (ints e.au.av),vI e.au.At,vI 45,vI (n:Int)] [] []=some ⟨.fU [vI 0,V.v (.bool false),V.v (.bool false)],[],[]⟩):bB [gL e,aH f l,vI 45,vI (n:Int)] [] []=some (kR (jO e f l (-1))):=by
 obtain⟨a1,a2,a3,a4⟩:=h.aS
 simp only [yH,aZ,show aC []= []from rfl,show aG []= []from rfl]at e1
 have e3:=DU e h hh (-1) (.inr rfl)
 generalize jO e f l (-1)=p at*
 clear h hh
 generalize hE:bB _ _ _=R
 unfold bB at hE
 simp only [gL,gO,hO,ho]at e1 e3 hE
 simp [-ak,func103,f103,e1,e2,e3]at hE
 exact hE.symm
theorem aef (ho:e.Op=0)(e1:eZ [gL e,vI 106,vI (n:Int)] [] []=some (JI (yH,0) false))(e2:aT [.aL (some 0) (ints e.au.av),vI e.au.At,vI 106,vI (n:Int)] [] []=some ⟨.fU [vI 0,V.v (.bool false),V.v (.bool false)],[],[]⟩):bB [gL e,aH f l,vI 106,vI (n:Int)] [] []=some (kR (jO e f l 1)):=by
 obtain⟨a1,a2,a3,a4⟩:=h.aS
 simp only [yH,aZ,show aC []= []from rfl,show aG []= []from rfl]at e1
 have e3:=DU e h hh 1 (.inl rfl)
 generalize jO e f l 1=p at*
 clear h hh
 generalize hE:bB _ _ _=R
 unfold bB at hE
 simp only [gL,gO,hO,ho]at e1 e3 hE
 simp [-ak,func103,f103,e1,e2,e3]at hE
 exact hE.symm
theorem agO (ho:e.Op=0)(e1:eZ [gL e,vI 43,vI (n:Int)] [] []=some (JI (yH,0) false))(e2:aT [.aL (some 0) (ints e.au.av),vI e.au.At,vI 43,vI (n:Int)] [] []=some ⟨.fU [vI 0,V.v (.bool false),V.v (.bool false)],[],[]⟩):bB [gL e,aH f l,vI 43,vI (n:Int)] [] []=some (kR (jO e f l 1)):=by
 obtain⟨a1,a2,a3,a4⟩:=h.aS
 simp only [yH,aZ,show aC []= []from rfl,show aG []= []from rfl]at e1
 have e3:=DU e h hh 1 (.inl rfl)
 generalize jO e f l 1=p at*
 clear h hh
 generalize hE:bB _ _ _=R
 unfold bB at hE
 simp only [gL,gO,hO,ho]at e1 e3 hE
 simp [-ak,func103,f103,e1,e2,e3]at hE
 exact hE.symm
theorem agP (ho:e.Op=0)(e1:eZ [gL e,vI 47,vI (n:Int)] [] []=some (JI (yH,0) false))(e2:aT [.aL (some 0) (ints e.au.av),vI e.au.At,vI 47,vI (n:Int)] [] []=some ⟨.fU [vI 0,V.v (.bool false),V.v (.bool false)],[],[]⟩):bB [gL e,aH f l,vI 47,vI (n:Int)] [] []=some (kR (CU e)):=by
 obtain⟨a1,a2,a3,a4⟩:=h.aS
 simp only [yH,aZ,show aC []= []from rfl,show aG []= []from rfl]at e1
 have e3:=YI e h
 generalize CU e=p at*
 clear h hh
 generalize hE:bB _ _ _=R
 unfold bB at hE
 simp only [gL,gO,hO,ho]at e1 e3 hE
 simp [-ak,func103,f103,e1,e2,e3]at hE
 exact hE.symm
theorem agQ (r:Int)(ho:e.Op=0)(e1:eZ [gL e,vI r,vI (n:Int)] [] []=some (JI (yH,0) false))(e2:aT [.aL (some 0) (ints e.au.av),vI e.au.At,vI r,vI (n:Int)] [] []=some ⟨.fU [vI 0,V.v (.bool false),V.v (.bool false)],[],[]⟩)(agR:¬r=120)(c88:¬r=88)(c68:¬r=68)(c67:¬r=67)(agS:¬r=115)(c83:¬r=83)(K3:¬r=114)(KZ:¬r=112)(c80:¬r=80)(agT:¬r=126)(c117:¬r=117)(c107:¬r=107)(c45:¬r=45)(agU:¬r=106)(c43:¬r=43)(c47:¬r=47):bB [gL e,aH f l,vI r,vI (n:Int)] [] []=some (kR (JD e r)):=by
 obtain⟨a1,a2,a3,a4⟩:=h.aS
 simp only [yH,aZ,show aC []= []from rfl,show aG []= []from rfl]at e1
 have e3:=aja e h hm r
 generalize JD e r=p at*
 clear h hh
 generalize hE:bB _ _ _=R
 unfold bB at hE
 simp only [gL,gO,hO,ho]at e1 e3 hE
 simp [-ak,func103,f103,e1,e2,e3,agR,c88,c68,c67,agS,c83,K3,KZ,c80,agT,c117,c107,c45,agU,c43,c47]at hE
 exact hE.symm
theorem alL (r:Int)(ho:e.Op=0)(e1:eZ [gL e,vI r,vI (n:Int)] [] []=some (JI (yH,0) false))(e2:aT [.aL (some 0) (ints e.au.av),vI e.au.At,vI r,vI (n:Int)] [] []=some ⟨.fU [vI 0,V.v (.bool false),V.v (.bool false)],[],[]⟩):bB [gL e,aH f l,vI r,vI (n:Int)] [] []=some (kR (Ar e f l r n)):=by
 unfold Ar
 by_cases agR:r=120
 ·rw [if_pos agR];subst agR;exact ad8 e h hm hh n hn ho e1 e2
 rw [if_neg agR]
 by_cases c88:r=88
 ·rw [if_pos c88];subst c88;exact agI e h hm hh n hn ho e1 e2
 rw [if_neg c88]
 by_cases c68:r=68
 ·rw [if_pos c68];subst c68;exact agJ e h hm hh n hn ho e1 e2
 rw [if_neg c68]
 by_cases c67:r=67
 ·rw [if_pos c67];subst c67;exact agK e h hm hh n hn ho e1 e2
 rw [if_neg c67]
 by_cases agS:r=115
 ·rw [if_pos agS];subst agS;exact ad9 e h hm hh n hn ho e1 e2
 rw [if_neg agS]
 by_cases c83:r=83
 ·rw [if_pos c83];subst c83;exact agL e h hm hh n hn ho e1 e2
 rw [if_neg c83]
 by_cases K3:r=114
 ·rw [if_pos K3];subst K3;exact aea e h hm hh n hn ho e1 e2
 rw [if_neg K3]
 by_cases KZ:r=112
 ·rw [if_pos KZ];subst KZ;exact aeb e h hm hh n hn ho e1 e2
 rw [if_neg KZ]
 by_cases c80:r=80
 ·rw [if_pos c80];subst c80;exact agM e h hm hh n hn ho e1 e2
 rw [if_neg c80]
 by_cases agT:r=126
 ·rw [if_pos agT];subst agT;exact aec e h hm hh n hn ho e1 e2
 rw [if_neg agT]
 by_cases c117:r=117
 ·rw [if_pos c117];subst c117;exact aed e h hm hh n hn ho e1 e2
 rw [if_neg c117]
 by_cases c107:r=107
 ·rw [if_pos (.inl c107)];subst c107;exact aee e h hm hh n hn ho e1 e2
 by_cases c45:r=45
 ·rw [if_pos (.inr c45)];subst c45;exact agN e h hm hh n hn ho e1 e2
 rw [if_neg (fun q=>q.elim c107 c45)]
 by_cases agU:r=106
 ·rw [if_pos (.inl agU)];subst agU;exact aef e h hm hh n hn ho e1 e2
 by_cases c43:r=43
 ·rw [if_pos (.inr c43)];subst c43;exact agO e h hm hh n hn ho e1 e2
 rw [if_neg (fun q=>q.elim agU c43)]
 by_cases c47:r=47
 ·rw [if_pos c47];subst c47;exact agP e h hm hh n hn ho e1 e2
 rw [if_neg c47]
 exact agQ e h hm hh n hn r ho e1 e2 agR c88 c68 c67 agS c83 K3 KZ c80 agT c117 c107 c45 agU c43 c47
theorem aeg (r:Int):bB [gL e,aH f l,vI r,vI (n:Int)] [] []=some (kR (uE e f l r n)):=by
 obtain⟨a1,a2,a3,a4⟩:=h.aS
 have e1:=ai9 e h hm r n hn
 unfold uE
 cases hb:GR e r n with
 | some p=>
  rw [hb]at e1
  simp only
  clear h hh
  generalize hE:bB _ _ _=R
  simp [bB, -ak,func103,f103,e1]at hE
  exact hE.symm
 | none=>
  rw [hb]at e1
  have e1':eZ [gL e,vI r,vI (n:Int)] [] []=some (JI (yH,0) false):=e1
  simp only [kRo,yH,aZ,show aC []= []from rfl,show aG []= []from rfl]at e1
  simp only
  by_cases c1:¬e.Op=0∧r=e.Op
  ·rw [if_pos c1]
   obtain⟨c2,c3⟩:=c1
   have hop:opC r=true:=by rw [c3];exact h.op.resolve_left c2
   have e3:=uU e h hm r hop 0 e.au.av.length (by omega) (Nat.le_refl _)
   simp only [Int.natCast_zero]at e3
   generalize iU e r 0 e.au.av.length=p at*
   have c4:¬r=0:=by rw [c3];exact c2
   clear h hh
   generalize hE:bB _ _ _=R
   unfold bB at hE
   simp only [gL,gO,hO,←c3]at e1 e3 hE
   simp [-ak,func103,f103,e1,e3,c4]at hE
   exact hE.symm
  rw [if_neg c1]
  have e2:=QO e.au.av (some 0) (aS e) n a2 (by omega) hn r
  rw [←a1]at e2
  cases hmv:gQ e.au.av (aS e) r n with
  | some q=>
   rw [hmv]at e2
   have e3:=Rx e h hm q.1 q.2 (Aw a2 hmv)
   simp only
   generalize uD e q.1 q.2=p at*
   simp only [mR]at e2
   clear h hh
   generalize hE:bB _ _ _=R
   unfold bB at hE
   by_cases c2:e.Op=0
   ·simp only [gL,gO,hO,c2]at e1 e3 hE
    simp [-ak,func103,f103,e1,e2,e3]at hE
    exact hE.symm
   ·have c3:¬r=e.Op:=fun q=>c1 ⟨c2,q⟩
    simp [-ak,func103,f103,e1,e2,e3,c2,c3]at hE
    exact hE.symm
  | none=>
   rw [hmv]at e2
   simp only
   by_cases c2:e.Op=0
   ·rw [if_neg (fun q=>q c2)]
    exact alL e h hm hh n hn r c2 e1' e2
   ·rw [if_pos c2]
    have c3:¬r=e.Op:=fun q=>c1 ⟨c2,q⟩
    have e3:=mq e h
    generalize dJ e=p at*
    simp only [mR]at e2
    clear h hh
    generalize hE:bB _ _ _=R
    simp [bB, -ak,func103,f103,e1,e2,e3,c2,c3]at hE
    exact hE.symm
end
section
variable (e:dw) (h:fO e) {f:Int} {l:List ByteArray} (hh:iB f l)
include h hh
theorem ajb (k r:Int)(hk:ji k r=true)(hm:e.bR=1∨e.bR=2):oq [gL e,aH f l,aK k r] [] []=some (kR (viE e f l k r)):=by
 obtain⟨a1,a2,a3,a4⟩:=h.aS
 have ec:=qO e h hh k r hk
 unfold viE
 by_cases m1:e.bR=1
 ·rw [if_pos m1]
  have e1:=aa5 e h hh k r hk
  cases hp:p8 e f l k r with
  | some p=>
   rw [hp]at e1
   simp only
   clear h hh
   generalize hE:oq _ _ _=R
   unfold oq at hE
   simp only [gL,gO,hO,m1]at ec e1 hE
   simp [-ak,func37,f37,ec,e1]at hE
   exact hE.symm
  | none=>
   rw [hp]at e1
   simp only [kRo,yH,aZ,show aC []= []from rfl,show aG []= []from rfl]at e1
   simp only
   by_cases c7:k=7
   ·rw [if_pos c7]
    subst c7
    have e2:=eF e h
    have w1:=bN (e.au.At-1) (by omega)
    unfold ake
    clear h hh
    generalize hE:oq _ _ _=R
    unfold oq at hE
    simp only [gL,gO,hO,m1]at ec e1 e2 hE
    simp [-ak,func37,f37,ec,e1,e2,w1]at hE
    exact hE.symm
   ·rw [if_neg c7]
    have e2:=mq e h
    generalize dJ e=p at*
    clear h hh
    generalize hE:oq _ _ _=R
    unfold oq at hE
    simp only [gL,gO,hO,m1]at ec e1 e2 hE
    simp [-ak,func37,f37,ec,e1,e2,c7]at hE
    exact hE.symm
 rw [if_neg m1]
 have m2:e.bR=2:=hm.resolve_left m1
 obtain⟨n1,n2,n3⟩:=h.gY
 have hmul:max e.bA 1*max e.bH 1≤999*999:=Int.mul_le_mul (by have:=h.cnt;omega) (by have:=h.zD;omega) (by omega) (by omega)
 have aiO:0≤max e.bA 1*max e.bH 1:=Int.mul_nonneg (by omega) (by omega)
 have w:=bN (max e.bA 1*max e.bH 1) (by omega)
 by_cases c1:e.eY=0
 ·rw [if_neg (fun q=>q c1)]
  by_cases c2:k=1
  ·rw [if_neg (fun q=>q c2)]
   subst c2
   have e1:=aeg e h m2 hh (Proofs.YtlpdjhiggpblcaaGreat.gY e) ⟨n1,n2⟩ r
   rw [n3]at e1
   generalize uE e f l r (Proofs.YtlpdjhiggpblcaaGreat.gY e)=p at*
   clear h hh
   generalize hE:oq _ _ _=R
   unfold oq at hE
   simp only [gL,gO,hO,m2,c1]at ec e1 hE
   simp [-ak,func37,f37,ec,e1,w]at hE
   exact hE.symm
  ·rw [if_pos c2]
   have e1:=ad7 e h m2 hh k r (Proofs.YtlpdjhiggpblcaaGreat.gY e) ⟨n1,n2⟩
   rw [n3]at e1
   generalize yA e f l k r (Proofs.YtlpdjhiggpblcaaGreat.gY e)=p at*
   clear h hh
   generalize hE:oq _ _ _=R
   unfold oq at hE
   simp only [gL,gO,hO,m2,c1]at ec e1 hE
   simp [-ak,func37,f37,ec,e1,w,c2]at hE
   exact hE.symm
 ·rw [if_pos c1]
  have e1:=agH e h m2 k r (Proofs.YtlpdjhiggpblcaaGreat.gY e) ⟨n1,n2⟩ c1 hk
  rw [n3]at e1
  generalize yx e k r (Proofs.YtlpdjhiggpblcaaGreat.gY e)=p at*
  clear h hh
  generalize hE:oq _ _ _=R
  unfold oq at hE
  simp only [gL,gO,hO,m2]at ec e1 hE
  simp [-ak,func37,f37,ec,e1,w,c1]at hE
  exact hE.symm
end
abbrev edW (e:dw):V:= .agg [V.v (.bool e.Vi),vI e.bR, .own 0,vI e.au.At,vI e.bA,vI e.Op,vI e.bH,vI e.eY,vI e.dN,vI e.bG,vI e.iA, .own 1, .own 2,vI e.jT, .own 3,vI e.gG.At, .aL none [],vI e.kV, .own 4,vI e.bT.At]
abbrev kRw (p:dw×Int):A9:=⟨.fU [edW p.1,vI p.2],[],[(0,ints p.1.au.av),(1,aC p.1.aM.aA),(2,aG p.1.eO.bP),(3,ints p.1.gG.av),(4,ints p.1.bT.av)]⟩
def j6 (e:dw)(k:Int):Prop:=e.bR=3∧k=5∧e.bI.length=1
instance (e:dw) (k:Int):Decidable (j6 e k):=inferInstanceAs (Decidable (e.bR=3∧k=5∧e.bI.length=1))
def kX (e:dw)(k:Int)(p:dw×Int):A9:=if j6 e k then kRw p else kR p
theorem fO.broke {e:dw}(h:fO e)(hm:e.bR=3):fO {e with au:=e.bT,jT:=0,gG:=⟨[],0⟩}:=by
 refine⟨h.back,rfl,h.back,h.cnt,h.zD,h.mode,?_,h.cmd,h.opz,h.op,h.wait,h.find,h.last,h.ring,h.undo,⟨by show(0:Int)≤0;omega,by show(0:Int)≤1000000060;omega⟩,h.hit, .inr rfl,h.ql,h.qp, .inl hm⟩
 rintro ⟨q1, -⟩
 have q1:e.bR=2:=q1
 omega
section
variable (e:dw) (h:fO e)
include h
theorem Ry:Gn [gL e] [] []=some ⟨(gO (yB e)),[],(hO (yB e))⟩:=by
 have e0:=eF e h
 have hl:=bU h.line
 unfold yB
 cases hv:e.Vi with
 | true=>
  have e1:=yj e.au.av e.au.At 2 (by omega)
  rw [if_pos rfl]
  generalize jq 2 e.au.av e.au.At=ia at*
  clear h
  generalize hE:Gn _ _ _=R
  unfold Gn at hE
  simp only [gL,gO,hO,hv]at e0 hE
  simp [-ak,func99,f99,e0,e1]at hE
  exact hE.symm
 | false=>
  have e1:=yj e.au.av e.au.At 0 (by omega)
  rw [if_neg (by decide)]
  generalize jq 0 e.au.av e.au.At=ia at*
  clear h
  generalize hE:Gn _ _ _=R
  unfold Gn at hE
  simp only [gL,gO,hO,hv]at e0 hE
  simp [-ak,func99,f99,e0,e1]at hE
  exact hE.symm
variable {f:Int} {l:List ByteArray} (hh:iB f l) (hm:e.bR=3)
include hh hm
theorem Ux (r:Int)(hk:ji 5 r=true)(hq:¬e.bI= []):dx [gL e,aH f l,aK 5 r] [] []=some (kX e 5 ({e with bI:=e.bI.dropLast},0)):=by
 have e1:=qO e h hh 5 r hk
 have e0:=eF e h
 have KY:=h.ql
 have hpos:=List.length_pos_iff.2 hq
 have w1:=bN ((e.bI.length:Int)-1) (by omega)
 have k1:((e.bI.length:Int)-1).toNat=e.bI.length-1:=by omega
 have k3:¬(e.bI.length:Int)=0:=by omega
 have k4:¬e.bI.length=0:=by omega
 have k6:(1:Int)≤e.bI.length:=by omega
 have k7:(e.bI.length:Int)-1≤e.bI.length:=by omega
 rw [List.dropLast_eq_take]
 by_cases h1:e.bI.length=1
 ·have hw:j6 e 5:=⟨hm,rfl,h1⟩
  unfold kX
  rw [if_pos hw]
  have k5:¬0<e.bI.length-1:=by omega
  clear h hh
  generalize hE:dx _ _ _=R
  unfold dx at hE
  simp only [gL,gO,hO,hm]at e0 e1 hE
  simp [-ak,func36,f36,e0,e1,w1,k1,k3,k4,k5,k6,k7,hpos,hq]at hE
  simp only [gL,gO,hO,hm]
  exact hE.symm
 ·have hw:¬j6 e 5:=fun q=>h1 q.2.2
  unfold kX
  rw [if_neg hw]
  have k5:0<e.bI.length-1:=by omega
  clear h hh
  generalize hE:dx _ _ _=R
  unfold dx at hE
  simp only [gL,gO,hO,hm]at e0 e1 hE
  simp [-ak,func36,f36,e0,e1,w1,k1,k3,k4,k5,k6,k7,hpos,hq]at hE
  simp only [gL,gO,hO,hm]
  exact hE.symm
theorem YS (hk:ji 2 114=true)(hq:e.bI= []):dx [gL e,aH f l,aK 2 114] [] []=some (kR (e,1)):=by
 have e1:=qO e h hh 2 114 hk
 have e0:=eF e h
 have k4:e.bI.length=0:=by rw [hq];rfl
 clear h hh
 generalize hE:dx _ _ _=R
 unfold dx at hE
 simp only [gL,gO,hO,hm]at e0 e1 hE
 simp [-ak,func36,f36,e0,e1,k4]at hE
 simp only [kR,gL,gO,hO,hm]
 exact hE.symm
theorem YT (hk:ji 2 114=true)(hq:¬e.bI= []):dx [gL e,aH f l,aK 2 114] [] []=some (kR (JE e f l e.bI (e.kV-1))):=by
 have e1:=qO e h hh 2 114 hk
 have hhit:=h.hit
 have KY:=h.ql
 have e2:=afg e h hh e.bI (e.kV-1) hm h.qp (by omega) (by omega)
 have w1:=bN (e.kV-1) (by omega)
 have k4:0<e.bI.length:=List.length_pos_iff.2 hq
 generalize JE e f l e.bI (e.kV-1)=p at*
 clear h hh
 generalize hE:dx _ _ _=R
 unfold dx at hE
 simp only [gL,gO,hO,hm]at e1 e2 hE
 simp [-ak,func36,f36,e1,e2,w1,k4]at hE
 exact hE.symm
theorem YU (r:Int)(hk:ji 5 r=true)(hq:e.bI= []):dx [gL e,aH f l,aK 5 r] [] []=some (kR (e,1)):=by
 have e1:=qO e h hh 5 r hk
 have e0:=eF e h
 have k4:e.bI.length=0:=by rw [hq];rfl
 clear h hh
 generalize hE:dx _ _ _=R
 unfold dx at hE
 simp only [gL,gO,hO,hm]at e0 e1 hE
 simp [-ak,func36,f36,e0,e1,k4]at hE
 simp only [kR,gL,gO,hO,hm]
 exact hE.symm
theorem Rf (r:Int)(hk:ji 4 r=true):dx [gL e,aH f l,aK 4 r] [] []=some (kR (yB e,2)):=by
 have e1:=qO e h hh 4 r hk
 have e2:=Ry e h
 generalize yB e=p at*
 clear h hh
 generalize hE:dx _ _ _=R
 unfold dx at hE
 simp only [gL,gO,hO,hm]at e1 e2 hE
 simp [-ak,func36,f36,e1,e2]at hE
 exact hE.symm
theorem Vx (hk:ji 2 103=true):dx [gL e,aH f l,aK 2 103] [] []=some (kR (yB {e with au:=e.bT,jT:=0,gG:=⟨[],0⟩},1)):=by
 have e1:=qO e h hh 2 103 hk
 have e0:=eF e h
 have e3:=j5 e.bT.av (some 0) e.bT.At (by have:=(bU h.back).1;omega)
 have e2:=Ry {e with au:=e.bT,jT:=0,gG:=⟨[],0⟩} (h.broke hm)
 generalize yB {e with au:=e.bT,jT:=0,gG:=⟨[],0⟩}=p at*
 simp only [gL,gO,hO,aZ]at e2
 clear h hh
 generalize hE:dx _ _ _=R
 unfold dx at hE
 simp only [gL,gO,hO,hm]at e0 e1 e2 e3 hE
 simp [-ak,func36,f36,e0,e1,e2,e3]at hE
 exact hE.symm
theorem YV (hk:ji 2 99=true):dx [gL e,aH f l,aK 2 99] [] []=some (kR (yB {e with au:=e.bT,jT:=0,gG:=⟨[],0⟩},1)):=by
 have e1:=qO e h hh 2 99 hk
 have e0:=eF e h
 have e3:=j5 e.bT.av (some 0) e.bT.At (by have:=(bU h.back).1;omega)
 have e2:=Ry {e with au:=e.bT,jT:=0,gG:=⟨[],0⟩} (h.broke hm)
 generalize yB {e with au:=e.bT,jT:=0,gG:=⟨[],0⟩}=p at*
 simp only [gL,gO,hO,aZ]at e2
 clear h hh
 generalize hE:dx _ _ _=R
 unfold dx at hE
 simp only [gL,gO,hO,hm]at e0 e1 e2 e3 hE
 simp [-ak,func36,f36,e0,e1,e2,e3]at hE
 exact hE.symm
theorem Uy (k r:Int)(hk:ji k r=true)(c1:¬k=1)(c4:¬k=4)(c5:¬k=5)(c2:¬(k=2∧(r=114∨r=103∨r=99))):dx [gL e,aH f l,aK k r] [] []=some (kR (yB e,0)):=by
 have e1:=qO e h hh k r hk
 have e2:=Ry e h
 generalize yB e=p at*
 clear h hh
 generalize hE:dx _ _ _=R
 unfold dx at hE
 simp only [gL,gO,hO,hm]at e1 e2 hE
 by_cases c6:k=2
 ·have c7:¬r=114:=fun q=>c2 ⟨c6, .inl q⟩
  have c8:¬r=103:=fun q=>c2 ⟨c6, .inr (.inl q)⟩
  have c9:¬r=99:=fun q=>c2 ⟨c6, .inr (.inr q)⟩
  simp [-ak,func36,f36,e1,e2,c1,c4,c5,c7,c8,c9]at hE
  exact hE.symm
 ·simp [-ak,func36,f36,e1,e2,c1,c4,c5,c6]at hE
  exact hE.symm
theorem YW (k r:Int)(hk:ji k r=true):dx [gL e,aH f l,aK k r] [] []=some (kX e k (zP e f l k r)):=by
 unfold zP
 by_cases c5:k=5
 ·subst c5
  rw [if_neg (by decide),if_neg (by omega),if_pos rfl]
  by_cases hq:e.bI= []
  ·have hw:¬j6 e 5:=fun q=>by have:=q.2.2;rw [hq]at this;simp at this
   rw [if_pos hq,kX,if_neg hw]
   exact YU e h hh hm r hk hq
  ·rw [if_neg hq]
   exact Ux e h hh hm r hk hq
 have hw:¬j6 e k:=fun q=>c5 q.2.1
 rw [kX,if_neg hw]
 by_cases c1:k=1
 ·rw [if_pos c1]
  subst c1
  exact Us e h hh r hm (by simpa [ji] using hk)
 rw [if_neg c1]
 by_cases c2:k=2∧r=114
 ·rw [if_pos c2]
  obtain⟨rfl,rfl⟩:=c2
  by_cases hq:e.bI= []
  ·rw [if_pos hq];exact YS e h hh hm hk hq
  ·rw [if_neg hq];exact YT e h hh hm hk hq
 rw [if_neg c2,if_neg c5]
 by_cases c4:k=4
 ·rw [if_pos c4];subst c4;exact Rf e h hh hm r hk
 rw [if_neg c4]
 by_cases c3:k=2∧(r=103∨r=99)
 ·rw [if_pos c3]
  obtain⟨rfl,rfl|rfl⟩:=c3
  ·exact Vx e h hh hm hk
  ·exact YV e h hh hm hk
 rw [if_neg c3]
 exact Uy e h hh hm k r hk c1 c4 c5 (fun q=>q.2.elim (fun x=>c2 ⟨q.1,x⟩) (fun x=>c3 ⟨q.1,x⟩))
end
section
variable (e:dw) (h:fO e) {f:Int} {l:List ByteArray} (hh:iB f l)
include h hh
theorem ajc (k r:Int)(hk:ji k r=true):xW [gL e,aH f l,aK k r] [] []=some (kX e k (rR e f l k r)):=by
 unfold rR
 by_cases m0:e.bR=0
 ·have hw:¬j6 e k:=fun q=>by have:=q.1;omega
  rw [if_pos m0,kX,if_neg hw]
  have e1:=abJ e h hh k r hk m0
  generalize Em e f l k r=p at*
  clear h hh
  generalize hE:xW _ _ _=R
  unfold xW at hE
  simp only [gL,gO,hO,m0]at e1 hE
  simp [-ak,func7,f7,e1]at hE
  exact hE.symm
 rw [if_neg m0]
 by_cases m3:e.bR=3
 ·rw [if_pos m3]
  have e1:=YW e h hh m3 k r hk
  generalize zP e f l k r=p at*
  clear h hh
  unfold kX at*
  generalize hE:xW _ _ _=R
  unfold xW at hE
  simp only [gL,gO,hO,m3]at e1 hE
  by_cases hw:j6 e k
  ·rw [if_pos hw]at e1⊢
   simp [-ak,func7,f7,e1]at hE
   exact hE.symm
  ·rw [if_neg hw]at e1⊢
   simp [-ak,func7,f7,e1]at hE
   exact hE.symm
 rw [if_neg m3]
 have hw:¬j6 e k:=fun q=>m3 q.1
 rw [kX,if_neg hw]
 have e1:=ajb e h hh k r hk (by rcases h.mode with q|q|q<;>omega)
 generalize viE e f l k r=p at*
 clear h hh
 generalize hE:xW _ _ _=R
 simp [xW, -ak,func7,f7,e1,m0,m3]at hE
 exact hE.symm
end
def AA (f:Int)(l:List ByteArray):Bool:=iw f 1 1000000000&&(decide (l.length≤60)&&l.all fun s=>iw (s.size:Int) 1 1000)
theorem PN {f:Int}{l:List ByteArray}:AA f l=true↔iB f l:=by
 unfold AA
 rw [Bool.and_eq_true,Bool.and_eq_true,decide_eq_true_eq]
 constructor
 ·rintro ⟨h1,h2,h3⟩
  exact⟨bC.1 h1,h2,fun s hs=>by have:=bC.1 (List.all_eq_true.1 h3 s hs);omega⟩
 ·rintro ⟨h1,h2,h3⟩
  exact⟨bC.2 h1,h2,List.all_eq_true.2 fun s hs=>bC.2 (by have:=h3 s hs;omega)⟩
theorem Lx (f:Int)(l:List ByteArray):nW [.agg [vI f, .aL (some 0) (strs l)]] [] []=some ⟨V.v (.bool (AA f l)),[],[]⟩:=by
 cases q1:iw f 1 1000000000
 ·have hb:AA f l=false:=by unfold AA;rw [q1];rfl
  rw [hb]
  simp [nW,func72,f72,dH,q1]
 by_cases q2:l.length≤60
 ·have q3:¬(60:Int)<l.length:=by omega
  have hb:AA f l=l.all fun s=>iw (s.size:Int) 1 1000:=by unfold AA;rw [q1,decide_eq_true q2];rfl
  rw [hb]
  generalize hE:nW _ _ _=R
  simp [nW,func72,f72,dH,q1,q3]at hE
  rcases j4 (fun s:ByteArray=>iw (s.size:Int) 1 1000) l with hall|⟨hall,N,hN,h1,h2⟩
  ·rw [hall]
   rw [aD (fun j=> .on ⟨[(18,V.v (.int .i64 ((j:Int)))),(17,V.v (.int .i64 ((l.length:Int)))),(16, .aL (some 0) (strs l))],[],[],[]⟩) l.length ?_ ?_]at hE
   ·simp at hE
    exact hE.symm
   ·simp
   ·intro j hj
    have hw:=bN ((j:Int)+1) (by omega)
    have q4:=List.all_eq_true.1 hall l[j] (List.getElem_mem hj)
    simp [hj,hw,dH,q4]
  ·rw [hall]
   rw [aD (fun j=> .on ⟨[(18,V.v (.int .i64 ((j:Int)))),(17,V.v (.int .i64 ((l.length:Int)))),(16, .aL (some 0) (strs l))],[],[],[]⟩) N ?_ ?_]at hE
   ·simp [hN,dH,h1]at hE
    exact hE.symm
   ·simp
   ·intro j hj
    have hjl:j<l.length:=by omega
    have hw:=bN ((j:Int)+1) (by omega)
    have q4:=h2 j hjl hj
    simp [hjl,hw,dH,q4]
 ·have q3:(60:Int)<l.length:=by omega
  have hb:AA f l=false:=by unfold AA;rw [decide_eq_false q2];simp
  rw [hb]
  simp [nW,func72,f72,dH,q1,q3]
theorem aeh (e:dw)(hsm:e.sm):Bo [gL e] [] []=some ⟨V.v (.bool e.ok),[],[]⟩:=by
 have hE:=afa e.Vi e.bR e.au.av e.au.At e.bA e.Op e.bH e.eY e.dN e.bG e.iA e.aM.aA e.eO.bP e.jT e.gG.av e.gG.At e.bI e.kV e.bT.av e.bT.At hsm.h1 hsm.h2 hsm.h3 hsm.h4 hsm.h5 hsm.h6
 exact hE
theorem Hg (k r:Int):Cy [aK k r] [] []=some ⟨V.v (.bool (ji k r)),[],[]⟩:=abI yH (fD.1 (by decide)) (f:=1) (l:= []) ⟨by omega,by simp,by simp⟩ k r
theorem Mx (e:dw)(hsm:e.sm):rE [gL e] [] []=some ⟨V.v (.bool e.ok),[],[]⟩:=
 afb e.Vi e.bR e.au.av e.au.At e.bA e.Op e.bH e.eY e.dN e.bG e.iA e.aM.aA e.eO.bP e.jT e.gG.av e.gG.At e.bI e.kV e.bT.av e.bT.At hsm.h1 hsm.h2 hsm.h3 hsm.h4 hsm.h5 hsm.h6
section
variable (e:dw) (h:fO e) {f:Int} {l:List ByteArray} (hh:iB f l)
include h hh
theorem aei (n:Int)(q:List Int)(hm:e.bR=3)(hq:q.all dh=true)(hq2:q.length≤41)(hn:n=0∨(f≤n∧n≤f+l.length-1)):CO [gL e,aH f l,vI n, .aL (some 7) (ints q)] [] []=some (sR (nI e f l n q)):=by
 have h1:=hh.first
 have h2:=hh.len
 have e1:=sD e (fD.2 h)
 have e2:=fV e h
 have e3:=JQ f l hh n (by omega)
 have e4:=WW q (by omega)
 have e5:=lT e.bT.av (some 0) e.bT.At (by have:=(bU h.back).1;omega)
 have hdl:(⟨(bM q).toArray⟩:ByteArray).data.toList=bM q:=rfl
 have hts:(⟨(bM q).toArray⟩:ByteArray).size≤1000000:=by
  have:=GI q
  show(bM q).toArray.size≤1000000
  rw [List.size_toArray];omega
 generalize hE:CO _ _ _=R
 unfold CO at hE
 cases hg:pY f l n with
 | none=>
  rw [hg]at e3
  have hx:nI e f l n q=none:=by unfold nI;rw [hg];split<;>rfl
  rw [hx]
  have hzl:=qg ⟨#[]⟩ (by decide)
  have hz:mK ⟨#[]⟩=some []:=by
   unfold mK
   obtain⟨q1,q2⟩:=yD reads_nil
   rw [q1,q2,if_pos ⟨rfl,by decide⟩]
  rw [hz]at hzl
  simp only [aZ,List.length_nil,Int.natCast_zero]at hzl
  have e7:=QS ⟨#[]⟩ ⟨(bM q).toArray⟩ (by decide) hts
  generalize KS ⟨#[]⟩ (⟨(bM q).toArray⟩:ByteArray).data.toList=rt at*
  clear h hh
  simp only [gL,gO,hO,hm]at e1 e2 hE
  simp [-ak,func201,f201,e1,e3,hzl,e4,e7]at hE
  exact hE.symm
 | some s=>
  rw [hg]at e3
  have hss:=sI hh hg
  have e7:=QS s ⟨(bM q).toArray⟩ (by omega) hts
  rw [hdl]at e7
  have e8:=qg s (by omega)
  cases hl:mK s with
  | none=>
   rw [hl]at e8
   have hx:nI e f l n q=none:=by unfold nI;rw [hg];simp only [hl];split<;>rfl
   rw [hx]
   generalize KS s (bM q)=rt at*
   clear h hh
   simp only [gL,gO,hO,hm]at e1 e2 hE
   simp [-ak,func201,f201,e1,e3,e8,e4,e7]at hE
   exact hE.symm
  | some t=>
   rw [hl]at e8
   obtain⟨to1,to2⟩:=KL hl
   have htl:t.length≤400:=by simp only [eT,Bool.and_eq_true,decide_eq_true_eq]at to1;exact to1.1
   by_cases hi:0≤Lib.index s.data.toList (bM q)
   ·have hrt:KS s (bM q)=((sV (s.extract 0 (Lib.index s.data.toList (bM q)).toNat)).length:Int):=if_pos hi
    rw [hrt]at e7
    have hok:=fun KY:q.length≤40=>fO.shown (x:= {e with gG:=if e.jT=0 then e.bT else e.gG,au:=⟨t,(sV (s.extract 0 (Lib.index s.data.toList (bM q)).toNat)).length⟩,bI:=q,kV:=n,jT:=n,eO:=⟨[]⟩}) h hm hh hq (by unfold nI;rw [if_pos KY,hg];simp only [hl];rw [if_pos hi])
    have hx:nI e f l n q=if q.length≤40 then some {e with gG:=if e.jT=0 then e.bT else e.gG,au:=⟨t,(sV (s.extract 0 (Lib.index s.data.toList (bM q)).toNat)).length⟩,bI:=q,kV:=n,jT:=n,eO:=⟨[]⟩}else none:=by
     unfold nI;rw [hg];simp only [hl];rw [if_pos hi]
    rw [hx]
    generalize (sV (s.extract 0 (Lib.index s.data.toList (bM q)).toNat)).length=front at*
    have ako:∀w:fH,w.av.length≤400→dw.sm {e with gG:=w,au:=⟨t,(front:Int)⟩,bI:=q,kV:=n,jT:=n,eO:=⟨[]⟩}:=fun w hw=>⟨by show t.length≤1000000000;omega,by show w.av.length≤1000000000;omega,(dw.TA (fD.2 h)).h3,by show q.length≤1000000000;omega,(dw.TA (fD.2 h)).h5,rfl⟩
    have g1:q.length≤4611686018427387904:=by omega
    have g2:q.length*8≤140737488355328:=by omega
    have hf0:¬(front:Int)<0:=by omega
    by_cases hn0:e.jT=0
    ·rw [if_pos hn0]at hok⊢
     have e9:=Mx _ (ako e.bT (bU h.back).1)
     have hok':dw.ok {e with gG:=e.bT,au:=⟨t,(front:Int)⟩,bI:=q,kV:=n,jT:=n,eO:=⟨[]⟩}=decide (q.length≤40):=by
      by_cases KY:q.length≤40
      ·rw [decide_eq_true KY];exact fD.2 (hok KY)
      ·rw [decide_eq_false KY]
       cases hz:dw.ok {e with gG:=e.bT,au:=⟨t,(front:Int)⟩,bI:=q,kV:=n,jT:=n,eO:=⟨[]⟩}with
       | false=>rfl
       | true=>exact absurd (fD.1 hz).ql KY
     rw [hok']at e9
     clear hok hok' ako h hh hx
     simp only [gL,gO,hO,hm,aZ,show aG []= []from rfl]at e1 e2 e9 hE
     by_cases KY:q.length≤40
     ·rw [if_pos KY]
      rw [decide_eq_true KY]at e9
      simp only [gL,gO,hO,hn0]at e1 e2 hE
      simp [-ak,func201,f201,e1,e2,e3,e4,e5,e7,e8,e9,g1,g2,hf0]at hE
      simp only [sR,hm]
      exact hE.symm
     ·rw [if_neg KY]
      rw [decide_eq_false KY]at e9
      simp only [gL,gO,hO,hn0]at e1 e2 hE
      simp [-ak,func201,f201,e1,e2,e3,e4,e5,e7,e8,e9,g1,g2,hf0]at hE
      exact hE.symm
    ·rw [if_neg hn0]at hok⊢
     have e9:=Mx _ (ako e.gG (bU h.own).1)
     have hok':dw.ok {e with gG:=e.gG,au:=⟨t,(front:Int)⟩,bI:=q,kV:=n,jT:=n,eO:=⟨[]⟩}=decide (q.length≤40):=by
      by_cases KY:q.length≤40
      ·rw [decide_eq_true KY];exact fD.2 (hok KY)
      ·rw [decide_eq_false KY]
       cases hz:dw.ok {e with gG:=e.gG,au:=⟨t,(front:Int)⟩,bI:=q,kV:=n,jT:=n,eO:=⟨[]⟩}with
       | false=>rfl
       | true=>exact absurd (fD.1 hz).ql KY
     rw [hok']at e9
     clear hok hok' ako h hh hx
     simp only [gL,gO,hO,hm,aZ,show aG []= []from rfl]at e1 e2 e9 hE
     by_cases KY:q.length≤40
     ·rw [if_pos KY]
      rw [decide_eq_true KY]at e9
      simp [-ak,func201,f201,e1,e2,e3,e4,e7,e8,e9,g1,g2,hf0,hn0]at hE
      simp only [sR,hm]
      exact hE.symm
     ·rw [if_neg KY]
      rw [decide_eq_false KY]at e9
      simp [-ak,func201,f201,e1,e2,e3,e4,e7,e8,e9,g1,g2,hf0,hn0]at hE
      exact hE.symm
   ·have hrt:KS s (bM q)= -1:=if_neg hi
    rw [hrt]at e7
    have hx:nI e f l n q=none:=by unfold nI;rw [hg];simp only [hl];rw [if_neg hi];split<;>rfl
    rw [hx]
    clear h hh
    simp only [gL,gO,hO,hm]at e1 e2 hE
    simp [-ak,func201,f201,e1,e3,e8,e4,e7]at hE
    exact hE.symm
theorem aej (q:List Int)(fr:Int)(hm:e.bR=3)(hq:q.all dh=true)(hq2:q.length≤41)(hfr: -2≤fr∧fr≤2000000000)(p:dw×Int)
  (hp:p=(match nI e f l (je f (bM q) fr l l.length) q with|none=>(e,1)|some x=>(x,0))):tZ [gL e,aH f l, .aL (some 7) (ints q),vI fr] [] []=some (kR p):=by
 have h1:=hh.first
 have h2:=hh.len
 have e0:=fV e h
 have e2:=WW q (by omega)
 have hts:(⟨(bM q).toArray⟩:ByteArray).size≤1000000:=by
  have:=GI q
  show(bM q).toArray.size≤1000000
  rw [List.size_toArray];omega
 have e3:=abQ f l hh ⟨(bM q).toArray⟩ hts fr hfr
 have hdl:(⟨(bM q).toArray⟩:ByteArray).data.toList=bM q:=rfl
 rw [hdl]at e3
 have e4:=aei e h hh (je f (bM q) fr l l.length) q hm hq hq2 (by
  rcases JM (sub:=bM q) (fr:=fr) (l:=l) h1.1 l.length with h|⟨k,h3,h4⟩
  ·exact .inl h
  ·exact .inr (by omega))
 generalize je f (bM q) fr l l.length=n at*
 generalize hE:tZ _ _ _=R
 unfold tZ at hE
 clear h hh
 cases hs:nI e f l n q with
 | none=>
  rw [hs]at e4 hp
  subst hp
  simp [-ak,func112,f112,e0,e2,e3,e4]at hE
  exact hE.symm
 | some x=>
  rw [hs]at e4 hp
  subst hp
  simp [-ak,func112,f112,e2,e3,e4]at hE
  exact hE.symm
end
section
variable (e:dw) (h:fO e) {f:Int} {l:List ByteArray} (hh:iB f l) (hm:e.bR=3)
include h hh hm
theorem JZ (q:List Int)(fr:Int)(hq:q.all dh=true)(hq2:q.length≤41)(hfr: -2≤fr∧fr≤2000000000):tZ [gL e,aH f l, .aL (some 7) (ints q),vI (if e.kV=0 then gM f l else fr)] [] []=some (kR (JE e f l q fr)):=by
 have h1:=hh.first
 have h2:=hh.len
 have hlast:0≤gM f l∧gM f l≤1000000059:=by unfold gM;split<;>omega
 exact aej e h hh q (if e.kV=0 then gM f l else fr) hm hq hq2 (by split<;>omega) _ rfl
theorem HV (k r:Int)(hk:ji k r=true)(p:dw×Int)(hp:
  (k=1∧tZ [gL e,aH f l, .aL (some 7) (ints (e.bI++ [r])),vI (if e.kV=0 then gM f l else e.kV)] [] []=some (kR p))∨
  (k=2∧r=114∧e.bI= []∧p.1=e∧p.2=1)∨
  (k=2∧r=114∧¬e.bI= []∧tZ [gL e,aH f l, .aL (some 7) (ints e.bI),vI (if e.kV=0 then gM f l else e.kV-1)] [] []=some (kR p))∨
  (k=5∧e.bI= []∧p.1=e∧p.2=1)∨
  (k=4∧vC [gL e] [] []=some ⟨gO p.1,[],hO p.1⟩∧p.2=2)∨
  (k=2∧(r=103∨r=99)∧vC [gL {e with au:=e.bT,jT:=0,gG:=⟨[],0⟩}] [] []=some ⟨gO p.1,[],hO p.1⟩∧p.2=1)∨
  (¬k=1∧¬k=4∧¬k=5∧((k=2∧¬r=114∧¬r=103∧¬r=99)∨¬k=2)∧vC [gL e] [] []=some ⟨gO p.1,[],hO p.1⟩∧p.2=0)):
  kN [gL e,aH f l,aK k r] [] []=some (kR p):=by
 have ea:=sD e (fD.2 h)
 have eb:=uP f l hh
 have ec:=nJ k r
 rw [hk]at ec
 have eL:=JO f l hh
 have e0:=fV e h
 have hhit:=h.hit
 have w1:=bN (e.kV-1) (by omega)
 have KY:=h.ql
 have e5:=lT e.bT.av (some 0) e.bT.At (by have:=(bU h.back).1;omega)
 have ej:=fun i j k=>uG e.bI [r] [] i j k (by simp;omega)
 simp only [OL,aZ,List.append_nil]at ej
 obtain⟨p1,p2⟩:=p
 simp only at hp
 clear h hh hk
 generalize hE:kN _ _ _=R
 unfold kN at hE
 by_cases hz:e.kV=0
 ·simp only [if_pos hz]at hp
  simp only [gL,gO,hO,hm,hz,aZ,show aG []= []from rfl]at ea e0 hp hE
  rcases hp with⟨rfl,e1⟩|⟨rfl,rfl,z1,z2,rfl⟩|⟨rfl,rfl,z1,e1⟩|⟨rfl,z1,z2,rfl⟩|⟨rfl,e1,rfl⟩|⟨rfl,rfl|rfl,e1,rfl⟩|⟨d1,d2,d3,⟨rfl,d4,d5,d6⟩|d4,e1,rfl⟩
  ·simp [-ak,func39,f39,ea,eb,ec,eL,w1,ej,e1]at hE
   exact hE.symm
  ·rw [z2]
   simp only [gL,gO,hO,z1,aZ]at ea e0 hE
   simp [-ak,func39,f39,ea,eb,ec,eL,e0,w1]at hE
   simp only [kR,gL,gO,hO,hm,hz,z1,aZ]
   exact hE.symm
  ·simp [-ak,func39,f39,ea,eb,ec,eL,w1,z1,e1]at hE
   exact hE.symm
  ·rw [z2]
   simp only [gL,gO,hO,z1,aZ]at ea e0 hE
   simp [-ak,func39,f39,ea,eb,ec,eL,e0,w1]at hE
   simp only [kR,gL,gO,hO,hm,hz,z1,aZ]
   exact hE.symm
  ·simp [-ak,func39,f39,ea,eb,ec,eL,w1,e1]at hE
   exact hE.symm
  ·simp [-ak,func39,f39,ea,eb,ec,eL,w1,e0,e5,e1]at hE
   exact hE.symm
  ·simp [-ak,func39,f39,ea,eb,ec,eL,w1,e0,e5,e1]at hE
   exact hE.symm
  ·simp [-ak,func39,f39,ea,eb,ec,eL,w1,e1,d4,d5,d6]at hE
   exact hE.symm
  ·simp [-ak,func39,f39,ea,eb,ec,eL,w1,e1,d1,d2,d3,d4]at hE
   exact hE.symm
 ·simp only [if_neg hz]at hp
  simp only [gL,gO,hO,hm,aZ,show aG []= []from rfl]at ea e0 hp hE
  rcases hp with⟨rfl,e1⟩|⟨rfl,rfl,z1,z2,rfl⟩|⟨rfl,rfl,z1,e1⟩|⟨rfl,z1,z2,rfl⟩|⟨rfl,e1,rfl⟩|⟨rfl,rfl|rfl,e1,rfl⟩|⟨d1,d2,d3,⟨rfl,d4,d5,d6⟩|d4,e1,rfl⟩
  ·simp [-ak,func39,f39,ea,eb,ec,eL,w1,ej,e1,hz]at hE
   exact hE.symm
  ·rw [z2]
   simp only [gL,gO,hO,z1,aZ]at ea e0 hE
   simp [-ak,func39,f39,ea,eb,ec,eL,e0,w1,hz]at hE
   simp only [kR,gL,gO,hO,hm,z1,aZ]
   exact hE.symm
  ·simp [-ak,func39,f39,ea,eb,ec,eL,w1,z1,e1,hz]at hE
   exact hE.symm
  ·rw [z2]
   simp only [gL,gO,hO,z1,aZ]at ea e0 hE
   simp [-ak,func39,f39,ea,eb,ec,eL,e0,w1,hz]at hE
   simp only [kR,gL,gO,hO,hm,z1,aZ]
   exact hE.symm
  ·simp [-ak,func39,f39,ea,eb,ec,eL,w1,e1,hz]at hE
   exact hE.symm
  ·simp [-ak,func39,f39,ea,eb,ec,eL,w1,e0,e5,e1,hz]at hE
   exact hE.symm
  ·simp [-ak,func39,f39,ea,eb,ec,eL,w1,e0,e5,e1,hz]at hE
   exact hE.symm
  ·simp [-ak,func39,f39,ea,eb,ec,eL,w1,e1,d4,d5,d6,hz]at hE
   exact hE.symm
  ·simp [-ak,func39,f39,ea,eb,ec,eL,w1,e1,d1,d2,d3,d4,hz]at hE
   exact hE.symm
end
section
variable (e:dw) (h:fO e) {f:Int} {l:List ByteArray} (hh:iB f l) (hm:e.bR=3)
include h hh hm
theorem Uz (r:Int)(hk:ji 5 r=true)(hq:¬e.bI= []):kN [gL e,aH f l,aK 5 r] [] []=some (kX e 5 ({e with bI:=e.bI.dropLast},0)):=by
 have ea:=sD e (fD.2 h)
 have eb:=uP f l hh
 have ec:=nJ 5 r
 rw [hk]at ec
 have eL:=JO f l hh
 have e0:=fV e h
 have hhit:=h.hit
 have w0:=bN (e.kV-1) (by omega)
 have KY:=h.ql
 have hpos:=List.length_pos_iff.2 hq
 have w1:=bN ((e.bI.length:Int)-1) (by omega)
 have k1:((e.bI.length:Int)-1).toNat=e.bI.length-1:=by omega
 have k3:¬(e.bI.length:Int)=0:=by omega
 have k4:¬e.bI.length=0:=by omega
 have k6:(1:Int)≤e.bI.length:=by omega
 have k7:(e.bI.length:Int)-1≤e.bI.length:=by omega
 rw [List.dropLast_eq_take]
 by_cases h1:e.bI.length=1
 ·have hw:j6 e 5:=⟨hm,rfl,h1⟩
  unfold kX
  rw [if_pos hw]
  have k5:¬0<e.bI.length-1:=by omega
  clear h hh
  generalize hE:kN _ _ _=R
  unfold kN at hE
  by_cases hz:e.kV=0
  ·simp only [gL,gO,hO,hm,hz]at ea e0 hE
   simp [-ak,func39,f39,ea,eb,ec,eL,e0,w0,w1,k1,k3,k4,k5,k6,k7,hpos,hq]at hE
   simp only [hm,hz]
   exact hE.symm
  ·simp only [gL,gO,hO,hm]at ea e0 hE
   simp [-ak,func39,f39,ea,eb,ec,eL,e0,w0,w1,k1,k3,k4,k5,k6,k7,hpos,hq,hz]at hE
   simp only [gL,gO,hO,hm]
   exact hE.symm
 ·have hw:¬j6 e 5:=fun q=>h1 q.2.2
  unfold kX
  rw [if_neg hw]
  have k5:0<e.bI.length-1:=by omega
  clear h hh
  generalize hE:kN _ _ _=R
  unfold kN at hE
  by_cases hz:e.kV=0
  ·simp only [gL,gO,hO,hm,hz]at ea e0 hE
   simp [-ak,func39,f39,ea,eb,ec,eL,e0,w0,w1,k1,k3,k4,k5,k6,k7,hpos,hq]at hE
   simp only [hm,hz]
   exact hE.symm
  ·simp only [gL,gO,hO,hm]at ea e0 hE
   simp [-ak,func39,f39,ea,eb,ec,eL,e0,w0,w1,k1,k3,k4,k5,k6,k7,hpos,hq,hz]at hE
   simp only [gL,gO,hO,hm]
   exact hE.symm
theorem YX (k r:Int)(hk:ji k r=true):kN [gL e,aH f l,aK k r] [] []=some (kX e k (zP e f l k r)):=by
 have hhit:=h.hit
 have KY:=h.ql
 unfold zP
 by_cases c5:k=5
 ·subst c5
  rw [if_neg (by decide),if_neg (by omega),if_pos rfl]
  by_cases hq:e.bI= []
  ·have hw:¬j6 e 5:=fun q=>by have:=q.2.2;rw [hq]at this;simp at this
   rw [if_pos hq,kX,if_neg hw]
   exact HV e h hh hm 5 r hk _ (.inr (.inr (.inr (.inl ⟨rfl,hq,rfl,rfl⟩))))
  ·rw [if_neg hq]
   exact Uz e h hh hm r hk hq
 have hw:¬j6 e k:=fun q=>c5 q.2.1
 rw [kX,if_neg hw]
 refine HV e h hh hm k r hk _ ?_
 by_cases c1:k=1
 ·rw [if_pos c1]
  have hp:dh r=true:=by subst c1;simpa [ji] using hk
  exact .inl ⟨c1,JZ e h hh hm (e.bI++ [r]) e.kV (by rw [List.all_append,h.qp];simp [hp]) (by simp;omega) (by omega)⟩
 rw [if_neg c1]
 by_cases c2:k=2∧r=114
 ·rw [if_pos c2]
  by_cases hq:e.bI= []
  ·rw [if_pos hq];exact .inr (.inl ⟨c2.1,c2.2,hq,rfl,rfl⟩)
  ·rw [if_neg hq];exact .inr (.inr (.inl ⟨c2.1,c2.2,hq,JZ e h hh hm e.bI (e.kV-1) h.qp (by omega) (by omega)⟩))
 rw [if_neg c2,if_neg c5]
 refine .inr (.inr (.inr (.inr ?_)))
 have eL:=abR e h hm
 by_cases c4:k=4
 ·rw [if_pos c4];exact .inl ⟨c4,eL,rfl⟩
 rw [if_neg c4]
 by_cases c3:k=2∧(r=103∨r=99)
 ·rw [if_pos c3]
  exact .inr (.inl ⟨c3.1,c3.2,abR _ (h.broke hm) hm,rfl⟩)
 rw [if_neg c3]
 refine .inr (.inr ⟨c1,c4,c5,?_,eL,rfl⟩)
 by_cases c6:k=2
 ·exact .inl ⟨c6,fun q=>c2 ⟨c6,q⟩,fun q=>c3 ⟨c6, .inl q⟩,fun q=>c3 ⟨c6, .inr q⟩⟩
 ·exact .inr c6
end
def KT (e:dw)(k r:Int):Prop:=(e.bR=0∧k=2∧r=95)∨(e.bR=2∧k=1∧e.eY=0∧e.Op=0∧r=117)
instance (e:dw) (k r:Int):Decidable (KT e k r):=inferInstanceAs (Decidable ((e.bR=0∧k=2∧r=95)∨(e.bR=2∧k=1∧e.eY=0∧e.Op=0∧r=117)))
section
variable (e:dw) (h:fO e) {f:Int} {l:List ByteArray} (hh:iB f l)
include h hh
theorem ajd (k r:Int)(hk:ji k r=true)(hy:eX [gL e] [] []=some (kR (nu e)))(hu:KT e k r→iP [gL e] [] []=some (kR (nQ e))):lH [gL e,aH f l,aK k r] [] []=some (kX e k (rR e f l k r)):=by
 unfold rR
 by_cases m0:e.bR=0
 ·have hw:¬j6 e k:=fun q=>by have:=q.1;omega
  rw [if_pos m0,kX,if_neg hw]
  have e1:=abr e h hh k r hk m0 hy fun q1 q2=>hu (.inl ⟨m0,q1,q2⟩)
  generalize Em e f l k r=p at*
  clear h hh hy hu
  generalize hE:lH _ _ _=R
  unfold lH at hE
  simp only [gL,gO,hO,m0]at e1 hE
  simp [-ak,func8,f8,e1]at hE
  exact hE.symm
 rw [if_neg m0]
 by_cases m3:e.bR=3
 ·rw [if_pos m3]
  have e1:=YX e h hh m3 k r hk
  generalize zP e f l k r=p at*
  clear h hh hy hu
  unfold kX at*
  generalize hE:lH _ _ _=R
  unfold lH at hE
  simp only [gL,gO,hO,m3]at e1 hE
  by_cases hw:j6 e k
  ·rw [if_pos hw]at e1⊢
   simp [-ak,func8,f8,e1]at hE
   exact hE.symm
  ·rw [if_neg hw]at e1⊢
   simp [-ak,func8,f8,e1]at hE
   exact hE.symm
 rw [if_neg m3]
 have hw:¬j6 e k:=fun q=>m3 q.1
 rw [kX,if_neg hw]
 have e1:=ai7 e h hh k r hk (by rcases h.mode with q|q|q<;>omega) fun q1 q2 q3 q4 q5=>hu (.inr ⟨q1,q2,q3,q4,q5⟩)
 generalize viE e f l k r=p at*
 clear h hh hy hu
 generalize hE:lH _ _ _=R
 simp [lH, -ak,func8,f8,e1,m0,m3]at hE
 exact hE.symm
end
theorem abS (l:List dL)(h:iJ l=true):Ah [.agg [.aL (some 0) (aC l)]] [] []=some ⟨.agg [.own 0],[],[(0,aC (lq l))]⟩:=by
 obtain⟨hl,hp⟩:=xq h
 have e1:=dI l (Fa h)
 rw [h]at e1
 have e3:=Mi l (some 0) (by omega) (fun p hq=>by have:=(hp p hq).2.1;omega)
 have hrow:∀r∈aC l,∃q,r= [D.l q]:=fun r hr=>by
  obtain⟨i,hi⟩:=List.getElem?_of_mem hr
  have hlt:i<l.length:=by have:=(List.getElem?_eq_some_iff.1 hi).1;simpa using this
  rw [dZ hlt]at hi
  injection hi with hi
  exact⟨_,hi.symm⟩
 unfold Ah
 simp only
 rw [if_pos ⟨e1,e3,hrow,by simp;omega⟩,Oh]
section
variable (e:dw) (h:fO e)
include h
theorem Rh:eX [gL e] [] []=some (kR (nu e)):=by
 obtain⟨h1,h2,h3,h4⟩:=h.aS
 have e1:pR [.agg [.aL (some 0) (aC e.aM.aA)]] [] []=some ⟨.own 0,[],[(0,ints (bE e.aM.aA))]⟩:=G6 e.aM.aA h.ring
 have hr:=TK h.ring
 have e2:=abS e.aM.aA h.ring
 have e3:pR [.agg [.aL (some 0) (aC (lq e.aM.aA))]] [] []=some ⟨.own 0,[],[(0,ints (bE (lq e.aM.aA)))]⟩:=G6 _ hr
 have e4:=jD e h
 have e5:=fV e h
 obtain⟨t1,t2⟩:=yC h.ring
 obtain⟨t3,t4⟩:=yC hr
 have w:=bN (e.au.At-(bE e.aM.aA).length) (by omega)
 have hlen:=h.line
 unfold nu
 by_cases hc:QH e=true
 ·obtain⟨c1,c2,c3,c4⟩:e.iA=3∧¬bE e.aM.aA= []∧(bE e.aM.aA).length≤aS e∧(e.au.av.drop (aS e-(bE e.aM.aA).length)).take (bE e.aM.aA).length=bE e.aM.aA:=by
   simpa [QH] using hc
  obtain⟨q1,q2,q3⟩:=uF h.line (show aS e-(bE e.aM.aA).length≤aS e by omega) h2
  have e6:=CW e.au.av e.au.At h.line (aS e-(bE e.aM.aA).length) (aS e) (by omega) h2
  have hca:cutAt e.au.At ((aS e-(bE e.aM.aA).length:Nat):Int) (aS e:Int)=((aS e-(bE e.aM.aA).length:Nat):Int):=by
   unfold cutAt;rw [if_pos (by omega)];omega
  rw [hca]at e6 q1
  have e7:=CV (oz e.au.av (aS e-(bE e.aM.aA).length) (aS e)) (bE (lq e.aM.aA)) ((aS e-(bE e.aM.aA).length:Nat):Int) q1 t3 (by omega)
  rw [Int.toNat_natCast]at e7
  have hsame:=G5 (bE e.aM.aA) (bE e.aM.aA) (by omega) (by omega)
  rw [decide_eq_true rfl]at hsame
  have hF:((aS e-(bE e.aM.aA).length:Nat):Int)=e.au.At-(bE e.aM.aA).length:=by omega
  have k1:(e.au.At-((bE e.aM.aA).length:Int)).toNat=aS e-(bE e.aM.aA).length:=by omega
  have k2:e.au.At.toNat=aS e:=rfl
  have k3:aS e-(aS e-(bE e.aM.aA).length)=(bE e.aM.aA).length:=by omega
  have k4:0≤e.au.At-((bE e.aM.aA).length:Int):=by omega
  have k5:e.au.At-((bE e.aM.aA).length:Int)≤e.au.At:=by omega
  have k6:e.au.At≤e.au.av.length:=by omega
  have k7:¬e.au.At<((bE e.aM.aA).length:Int):=by omega
  have k8:¬((bE e.aM.aA).length:Int)=0:=by have:=List.length_pos_iff.2 c2;omega
  have k9:0≤e.au.At:=by omega
  have kA:((bE e.aM.aA).length:Int)≤e.au.At:=by omega
  rw [hF,←h1]at e6
  by_cases hl:(oz e.au.av (aS e-(bE e.aM.aA).length) (aS e)).length+(bE (lq e.aM.aA)).length≤400
  ·rw [if_pos ⟨hc,hl⟩]
   rw [if_pos hl]at e7
   obtain⟨-,z2, -, -⟩:=bU q1
   have e8:=qM {e with aM:=⟨lq e.aM.aA⟩} (h.NW hr) (AQ (oz e.au.av (aS e-(bE e.aM.aA).length) (aS e)) (aS e-(bE e.aM.aA).length) (bE (lq e.aM.aA))) (((aS e-(bE e.aM.aA).length:Nat):Int)+(bE (lq e.aM.aA)).length) 3 ((zQ hl z2 t3 (by omega)).2 _ (by omega) (by omega)) (by omega)
   generalize AQ (oz e.au.av (aS e-(bE e.aM.aA).length) (aS e)) (aS e-(bE e.aM.aA).length) (bE (lq e.aM.aA))=Y at*
   unfold oz at e7
   rw [hF]at e7 e8
   generalize hX:e.au.av.take (aS e-(bE e.aM.aA).length)++e.au.av.drop (aS e)=X at*
   rw [hF]
   generalize sW {e with aM:=⟨lq e.aM.aA⟩} Y (e.au.At-(bE e.aM.aA).length+(bE (lq e.aM.aA)).length) 3=p at*
   generalize bE (lq e.aM.aA)=tn at*
   generalize bE e.aM.aA=tp at*
   generalize lq e.aM.aA=tr at*
   clear h hlen
   generalize hE:eX _ _ _=R
   unfold eX at hE
   simp only [gL,gO,hO,c1]at e4 e5 e8 hE
   simp [-ak,func190,f190,e1,e2,e3,e5,e6,e7,e8,hsame,w,k1,k2,k3,k4,k5,k6,k7,k8,k9,kA,c2,c4]at hE
   exact hE.symm
  ·rw [if_neg (fun q=>hl q.2)]
   rw [if_neg hl]at e7
   unfold oz at e7
   rw [hF]at e7
   generalize hX:e.au.av.take (aS e-(bE e.aM.aA).length)++e.au.av.drop (aS e)=X at*
   generalize dJ e=p at*
   generalize bE (lq e.aM.aA)=tn at*
   generalize bE e.aM.aA=tp at*
   generalize lq e.aM.aA=tr at*
   clear h hlen
   generalize hE:eX _ _ _=R
   unfold eX at hE
   simp only [gL,gO,hO,c1]at e4 e5 hE
   simp [-ak,func190,f190,e1,e2,e3,e4,e6,e7,hsame,w,k1,k2,k3,k4,k5,k6,k7,k8,k9,kA,c2,c4]at hE
   exact hE.symm
 ·rw [if_neg (fun q=>hc q.1)]
  generalize dJ e=p at*
  have hc':¬(e.iA=3∧¬bE e.aM.aA= []∧(bE e.aM.aA).length≤aS e∧(e.au.av.drop (aS e-(bE e.aM.aA).length)).take (bE e.aM.aA).length=bE e.aM.aA):=fun q=>hc (by simpa [QH] using q)
  by_cases c1:e.iA=3
  ·by_cases c2:bE e.aM.aA= []
   ·rw [c2]at e1
    simp only [aZ]at e1
    generalize hE:eX _ _ _=R
    unfold eX at hE
    simp only [gL,gO,hO,c1]at e4 hE
    simp [-ak,func190,f190,e1,e4]at hE
    exact hE.symm
   ·have k8:¬((bE e.aM.aA).length:Int)=0:=by have:=List.length_pos_iff.2 c2;omega
    by_cases c3:(bE e.aM.aA).length≤aS e
    ·have c4:¬(e.au.av.drop (aS e-(bE e.aM.aA).length)).take (bE e.aM.aA).length=bE e.aM.aA:=fun q=>hc' ⟨c1,c2,c3,q⟩
     have hsame:=G5 ((e.au.av.drop (aS e-(bE e.aM.aA).length)).take (bE e.aM.aA).length) (bE e.aM.aA) (by simp;omega) (by omega)
     rw [decide_eq_false c4]at hsame
     have k1:(e.au.At-((bE e.aM.aA).length:Int)).toNat=aS e-(bE e.aM.aA).length:=by omega
     have k2:e.au.At.toNat=aS e:=rfl
     have k3:aS e-(aS e-(bE e.aM.aA).length)=(bE e.aM.aA).length:=by omega
     have k4:0≤e.au.At-((bE e.aM.aA).length:Int):=by omega
     have k5:e.au.At-((bE e.aM.aA).length:Int)≤e.au.At:=by omega
     have k6:e.au.At≤e.au.av.length:=by omega
     have k7:¬e.au.At<((bE e.aM.aA).length:Int):=by omega
     have k9:0≤e.au.At:=by omega
     have kA:((bE e.aM.aA).length:Int)≤e.au.At:=by omega
     generalize bE e.aM.aA=tp at*
     generalize hE:eX _ _ _=R
     unfold eX at hE
     simp only [gL,gO,hO,c1]at e4 hE
     simp [-ak,func190,f190,e1,e4,hsame,w,k1,k2,k3,k4,k5,k6,k7,k8,k9,kA,c2]at hE
     exact hE.symm
    ·have k7:e.au.At<((bE e.aM.aA).length:Int):=by omega
     generalize bE e.aM.aA=tp at*
     generalize hE:eX _ _ _=R
     unfold eX at hE
     simp only [gL,gO,hO,c1]at e4 hE
     simp [-ak,func190,f190,e1,e4,k7,k8,c2]at hE
     exact hE.symm
  ·generalize bE e.aM.aA=tp at*
   generalize hE:eX _ _ _=R
   simp [eX, -ak,func190,f190,e1,e4,c1]at hE
   exact hE.symm
end
abbrev edU (e:dw):V:= .agg [V.v (.bool e.Vi),vI e.bR, .own 0,vI e.au.At,vI e.bA,vI e.Op,vI e.bH,vI e.eY,vI e.dN,vI e.bG,vI e.iA, .own 1, .aL none [],vI e.jT, .own 2,vI e.gG.At, .own 3,vI e.kV, .own 4,vI e.bT.At]
abbrev kRu (p:dw×Int):A9:=⟨.fU [edU p.1,vI p.2],[],[(0,ints p.1.au.av),(1,aC p.1.aM.aA),(2,ints p.1.gG.av),(3,ints p.1.bI),(4,ints p.1.bT.av)]⟩
theorem Fp (l:List fH)(x:fH)(h:jS (l++ [x])=true):Dw [.agg [.aL (some 0) (aG (l++ [x]))]] [] []=some (if l= []then⟨.fU [.agg [.aL none []], .agg [.own 0,vI x.At],V.v (.bool true)],[],[(0,ints x.av)]⟩else⟨.fU [.agg [.own 0], .agg [.own 1,vI x.At],V.v (.bool true)],[],[(0,aG l),(1,ints x.av)]⟩):=by
 obtain⟨hl,hp⟩:=pW h
 have e1:=Mq (l++ [x]) h
 have e3:=JL (l++ [x]) (some 0) (by omega) (fun p hq=>by have:=(bU (hp p hq)).1;omega)
 rw [←wI]at e1 e3⊢
 have hw:∀r∈aG l,r.length=2:=fun r hr=>by
  obtain⟨i,hi⟩:=List.getElem?_of_mem hr
  have hlt:i<l.length:=by have:=(List.getElem?_eq_some_iff.1 hi).1;simpa using this
  rw [dX hlt]at hi
  injection hi with hi
  rw [←hi];rfl
 refine aio ?_
 unfold Bu
 simp only [List.getLast?_concat]
 rw [if_pos ⟨e1,e3,by rw [List.dropLast_concat];exact hw,rfl,by simp at hl⊢;omega⟩,List.dropLast_concat]
 by_cases h0:l= []
 ·subst h0;rw [if_pos (show aG []= []from rfl),if_pos rfl]
 ·rw [if_neg h0,if_neg (fun q=>h0 (List.eq_nil_of_length_eq_zero (by rw [←acd,q];rfl)))]
theorem UC:Dw [.agg [.aL (some 0) []]] [] []=some ⟨.fU [.agg [.own 0], .agg [.own 1,vI 0],V.v (.bool false)],[],[(0,[]),(1,[])]⟩:=by
 have e1:=Mq [] rfl
 simp only [show aG []= []from rfl]at e1
 refine(afY rfl).trans ?_
 simp [Gt,func256,f256,e1]
section
variable (e:dw) (h:fO e)
include h
theorem aek (hl:¬e.eO.bP.length=1):iP [gL e] [] []=some (kR (nQ e)):=by
 by_cases h0:e.eO.bP= []
 ·have e1:=UC
  have e2:=jD e h
  have:nQ e=dJ e:=by unfold nQ;rw [h0];rfl
  rw [this]
  generalize dJ e=p at*
  generalize hE:iP _ _ _=R
  unfold iP at hE
  simp only [gL,gO,hO,h0,show aG []= []from rfl]at e2 hE
  simp [-ak,func199,f199,e1,e2]at hE
  exact hE.symm
 ·obtain⟨l,x,hx⟩:∃l x,e.eO.bP=l++ [x]:=⟨_,_,(List.dropLast_concat_getLast h0).symm⟩
  have hu:=h.undo
  rw [hx]at hu
  have hlx:¬l= []:=fun q=>hl (by rw [hx,q];rfl)
  have e1:=Fp l x hu
  rw [if_neg hlx,←hx]at e1
  have e2:=fV e h
  have e3:=wE e
  have hta:0≤x.At∧x.At≤1000:=by have:=bU ((pW hu).2 x (by simp));omega
  have e7:=qW {e with bA:=0,Op:=0,bH:=0,eY:=0,iA:=0,au:=x,eO:=⟨l⟩} hta
  have:nQ e=({sU e 0 with au:=⟨x.av,jq e.bR x.av x.At⟩,eO:=⟨l⟩},0):=by unfold nQ;rw [hx];simp
  rw [this]
  unfold sU
  simp only [gL]at e7
  generalize hE:iP _ _ _=R
  unfold iP at hE
  simp only [gL]at e2 e3 hE
  simp [-ak,func199,f199,e1,e2,e3,e7]at hE
  exact hE.symm
theorem abT (hl:e.eO.bP.length=1):iP [gL e] [] []=some (kRu (nQ e)):=by
 obtain⟨x,hx⟩:=List.length_eq_one_iff.1 hl
 have hu:=h.undo
 rw [hx]at hu
 have e1:=Fp [] x hu
 rw [if_pos rfl,List.nil_append,←hx]at e1
 have e2:=fV e h
 have e3:=wE e
 have hta:0≤x.At∧x.At≤1000:=by have:=bU ((pW hu).2 x (by simp));omega
 have e7:=qW {e with bA:=0,Op:=0,bH:=0,eY:=0,iA:=0,au:=x,eO:=⟨[]⟩} hta
 have:nQ e=({sU e 0 with au:=⟨x.av,jq e.bR x.av x.At⟩,eO:=⟨[]⟩},0):=by unfold nQ;rw [hx];simp
 rw [this]
 unfold sU
 simp only [gL,show aG []= []from rfl]at e7
 generalize hE:iP _ _ _=R
 unfold iP at hE
 simp only [gL]at e2 e3 hE
 simp [-ak,func199,f199,e1,e2,e3,e7]at hE
 exact hE.symm
end
section
variable (e:dw) (h:fO e) {f:Int} {l:List ByteArray} (hh:iB f l)
include h hh
theorem UD (k r:Int)(hu:KT e k r):rR e f l k r=nQ e:=by
 unfold rR
 rcases hu with⟨m,rfl,rfl⟩|⟨m,rfl,hw,ho,rfl⟩
 ·rw [if_pos m]
  unfold Em p8 Ll iq
  simp
 ·rw [if_neg (by omega),if_neg (by omega)]
  unfold viE uE GR Ar
  have hm:gQ e.au.av (aS e) 117 (gY e)=none:=by unfold gQ;simp
  simp [m,hw,ho,hm,iw,opC,show jd 117= -1 from by decide]
theorem agV (k r:Int)(hk:ji k r=true)(hu:KT e k r)(hl:e.eO.bP.length=1):lH [gL e,aH f l,aK k r] [] []=some (kRu (rR e f l k r)):=by
 rw [UD e h hh k r hu]
 have eu:=abT e h hl
 obtain⟨h1,h2,h3,h4⟩:=h.aS
 have ea:=sD e (fD.2 h)
 have eb:=uP f l hh
 have ec:=nJ k r
 rw [hk]at ec
 rcases hu with⟨m,rfl,rfl⟩|⟨m,rfl,hw,ho,rfl⟩
 ·have e2:=JU e h hh 2 95 hk (.inl m)
  have en:=iC e
  obtain⟨n1,n2,n3⟩:=fM e h
  rw [show p8 e f l 2 95=none from by unfold p8 iq;simp]at e2
  simp only [kRo,JI,yH,aZ,show aC []= []from rfl,show aG []= []from rfl]at e2
  generalize nQ e=p at*
  clear h hh
  have e3:bY [gL e,aH f l,vI 95] [] []=some (kRu p):=by
   generalize hE:bY _ _ _=R
   simp [bY, -ak,func109,f109,en,eu]at hE
   exact hE.symm
  have e4:jg [gL e,aH f l,aK 2 95] [] []=some (kRu p):=by
   generalize hE:jg _ _ _=R
   unfold jg at hE
   simp only [gL,m]at ea e2 e3 hE
   simp [-ak,func38,f38,ea,eb,ec,e2,e3]at hE
   exact hE.symm
  generalize hE:lH _ _ _=R
  unfold lH at hE
  simp only [gL,m]at e4 hE
  simp [-ak,func8,f8,e4]at hE
  exact hE.symm
 ·have e0:=fV e h
  have eh:=Uc 117
  rw [show jd 117= -1 from by decide]at eh
  have em:=DY e.au.av (some 0) (aS e) 1 h2 (by omega) (by omega) 117
  rw [←h1,Int.natCast_one,show gQ e.au.av (aS e) 117 1=none from by unfold gQ;simp]at em
  have eN:=BH e h
  obtain⟨n1,n2,n3⟩:=h.gY
  generalize nQ e=p at*
  generalize gY e=nn at*
  have e3:nP [gL e,aH f l,vI 117] [] []=some (kRu p):=by
   clear h hh
   generalize hE:nP _ _ _=R
   simp [nP, -ak,func267,f267,eN,eu]at hE
   exact hE.symm
  have e4:gZ [gL e,aH f l,vI 117] [] []=some (kRu p):=by
   clear h hh
   generalize hE:gZ _ _ _=R
   unfold gZ at hE
   simp only [mR]at em
   simp only [gL,gO,hO,ho]at e0 e3 hE
   simp [-ak,func205,f205,e0,eh,em,e3]at hE
   exact hE.symm
  have e5:jR [gL e,aH f l,aK 1 117] [] []=some (kRu p):=by
   clear h hh
   generalize hE:jR _ _ _=R
   unfold jR at hE
   simp only [gL,gO,hO,hw]at e4 hE
   simp [-ak,func116,f116,e4]at hE
   exact hE.symm
  have e6:oU [gL e,aH f l,aK 1 117] [] []=some (kRu p):=by
   clear h hh
   generalize hE:oU _ _ _=R
   unfold oU at hE
   simp only [gL,m]at ea e5 hE
   simp [-ak,func40,f40,ea,eb,ec,e5]at hE
   exact hE.symm
  clear h hh
  generalize hE:lH _ _ _=R
  unfold lH at hE
  simp only [gL,m]at e6 hE
  simp [-ak,func8,f8,e6]at hE
  exact hE.symm
end
def yM (e:dw)(k r:Int):Prop:=KT e k r∧e.eO.bP.length=1
instance (e:dw) (k r:Int):Decidable (yM e k r):=inferInstanceAs (Decidable (KT e k r∧e.eO.bP.length=1))
def kY (e:dw)(k r:Int)(p:dw×Int):A9:=if yM e k r then kRu p else kX e k p
theorem agW (e:dw)(h:fO e){f:Int}{l:List ByteArray}(hh:iB f l)(k r:Int)(hk:ji k r=true):lH [gL e,aH f l,aK k r] [] []=some (kY e k r (rR e f l k r)):=by
 unfold kY
 by_cases hw:yM e k r
 ·rw [if_pos hw];exact agV e h hh k r hk hw.1 hw.2
 ·rw [if_neg hw];exact ajd e h hh k r hk (Rh e h) fun q=>aek e h fun z=>hw ⟨q,z⟩
theorem LA (f:Int)(l:List ByteArray)(hl:l.length≤1000000000):mV [.agg [vI f, .aL (some 0) (strs l)]] [] []=some ⟨V.v (.bool (AA f l)),[],[]⟩:=by
 have hbe:AA f l=((l.all fun s=>iw (s.size:Int) 1 1000)&&(decide (1≤f)&&(decide (f≤1000000000)&&decide (l.length≤60)))):=by
  unfold AA iw
  cases (l.all fun s=>decide (1≤(s.size:Int))&&decide ((s.size:Int)≤1000))<;>cases decide (1≤f)<;>cases decide (f≤1000000000)<;>cases decide (l.length≤60)<;>rfl
 rw [hbe]
 generalize hE:mV _ _ _=R
 simp [mV,func70,f70]at hE
 rcases j4 (fun s:ByteArray=>iw (s.size:Int) 1 1000) l with hall|⟨hall,N,hN,h1,h2⟩
 ·rw [hall,Bool.true_and]
  rw [aD (fun j=> .on ⟨[(8,V.v (.int .i64 ((j:Int)))),(7,V.v (.int .i64 ((l.length:Int)))),(6, .aL (some 0) (strs l)),(1, .ref 1 0)],[(1,[vI f, .aL (some 0) (strs l)])],[],[]⟩) l.length ?_ ?_]at hE
  ·by_cases c1:1≤f
   ·by_cases c2:f≤1000000000
    ·by_cases c3:l.length≤60
     ·have c4:(l.length:Int)≤60:=by omega
      simp [c1,c2,c4]at hE
      simp [c1,c2,c3]
      exact hE.symm
     ·have c4:¬(l.length:Int)≤60:=by omega
      simp [c1,c2,c4]at hE
      simp [c1,c2,c3]
      exact hE.symm
    ·simp [c1,c2]at hE
     simp [c1,c2]
     exact hE.symm
   ·simp [c1]at hE
    simp [c1]
    exact hE.symm
  ·simp
  ·intro j hj
   have hw:=bN ((j:Int)+1) (by omega)
   have e:=bC.1 (List.all_eq_true.1 hall l[j] (List.getElem_mem hj))
   have q5:¬(l[j].size:Int)<1:=by omega
   have q6:¬(1000:Int)<l[j].size:=by omega
   simp [hj,hw,q5,q6]
 ·rw [hall,Bool.false_and]
  rw [aD (fun j=> .on ⟨[(8,V.v (.int .i64 ((j:Int)))),(7,V.v (.int .i64 ((l.length:Int)))),(6, .aL (some 0) (strs l)),(1, .ref 1 0)],[(1,[vI f, .aL (some 0) (strs l)])],[],[]⟩) N ?_ ?_]at hE
  ·by_cases q5:(l[N].size:Int)<1
   ·simp [hN,q5]at hE
    exact hE.symm
   ·have q6:(1000:Int)<l[N].size:=Classical.byContradiction fun q=>by
     rw [bC.2 ⟨by omega,by omega⟩]at h1;cases h1
    simp [hN,q5,q6]at hE
    exact hE.symm
  ·simp
  ·intro j hj
   have hjl:j<l.length:=by omega
   have hw:=bN ((j:Int)+1) (by omega)
   have e:=bC.1 (h2 j hjl hj)
   have q5:¬(l[j].size:Int)<1:=by omega
   have q6:¬(1000:Int)<l[j].size:=by omega
   simp [hjl,hw,q5,q6]
set_option maxRecDepth 100000
theorem Ch (r:List (List D))(k:gD r=true)(s:sG r=true):zB [.aL (some 0) r, .aL (some 1) r] [] []=some ⟨V.v (.bool true),[],[]⟩:=by
 obtain⟨l,rfl⟩:=FD k
 have hb:l.length≤1000000000:=by simpa using l8 s
 simp [zB,func24,f24]
 rw [aD (fun k=> .on ⟨[(5,V.v (.int .i64 ((k:Int)))),(1, .aL (some 1) (ints l)),(0, .aL (some 0) (ints l))],[],[],[]⟩) l.length ?_ ?_]
 ·simp
 ·simp
 ·intro j hj
  have hw:=bN (j+1) (by omega)
  have hs:=sM s (aQ hj)
  simp at hs
  simp [hj,hw,hs,aQ hj]
theorem Xj (r0:List (List D))(v1:Int)(k0:gD r0=true)(s0:sG r0=true):EZ [.agg [.aL (some 0) r0,vI v1], .agg [.aL (some 1) r0,vI v1]] [] []=some ⟨V.v (.bool true),[],[]⟩:=by
 simp [EZ,func58,f58,Ch,k0,s0]
theorem ael (r0:List (List D))(k0:gD r0=true)(s0:sG r0=true):GA [.agg [.aL (some 0) r0], .agg [.aL (some 1) r0]] [] []=some ⟨V.v (.bool true),[],[]⟩:=by
 simp [GA,func212,f212,Ch,k0,s0]
theorem abU (r:List (List D))(k:iH r=true)(s:sG r=true):Dz [.aL (some 0) r, .aL (some 1) r] [] []=some ⟨V.v (.bool true),[],[]⟩:=by
 obtain⟨l,rfl⟩:=zJ k
 have hb:l.length≤1000000000:=by simpa using l8 s
 simp [Dz,func127,f127]
 rw [aD (fun k=> .on ⟨[(5,V.v (.int .i64 ((k:Int)))),(1, .aL (some 1) (aC l)),(0, .aL (some 0) (aC l))],[],[],[]⟩) l.length ?_ ?_]
 ·simp
 ·simp
 ·intro j hj
  have hw:=bN (j+1) (by omega)
  have hs:=sM s (dZ hj)
  simp at hs
  simp [hj,hw,hs,dZ hj,ael]
theorem agX (r0:List (List D))(k0:iH r0=true)(s0:sG r0=true):KD [.agg [.aL (some 0) r0], .agg [.aL (some 1) r0]] [] []=some ⟨V.v (.bool true),[],[]⟩:=by
 simp [KD,func59,f59,abU,k0,s0]
theorem aem (r:List (List D))(k:jf r=true)(s:sG r=true):GD [.aL (some 0) r, .aL (some 1) r] [] []=some ⟨V.v (.bool true),[],[]⟩:=by
 obtain⟨l,rfl⟩:=Bd k
 have hb:l.length≤1000000000:=by simpa using l8 s
 simp [GD,func128,f128]
 rw [aD (fun k=> .on ⟨[(5,V.v (.int .i64 ((k:Int)))),(1, .aL (some 1) (aG l)),(0, .aL (some 0) (aG l))],[],[],[]⟩) l.length ?_ ?_]
 ·simp
 ·simp
 ·intro j hj
  have hw:=bN (j+1) (by omega)
  have hs:=sM s (dX hj)
  simp at hs
  simp [hj,hw,hs,dX hj,Xj]
theorem agY (r0:List (List D))(k0:jf r0=true)(s0:sG r0=true):KE [.agg [.aL (some 0) r0], .agg [.aL (some 1) r0]] [] []=some ⟨V.v (.bool true),[],[]⟩:=by
 simp [KE,func60,f60,aem,k0,s0]
theorem Rz (v0:Bool)(v1:Int)(r2:List (List D))(v3:Int)(v4:Int)(v5:Int)(v6:Int)(v7:Int)(v8:Int)(v9:Int)(v10:Int)(MC:List (List D))(ME:List (List D))(v13:Int)(Ow:List (List D))(v15:Int)(r16:List (List D))(v17:Int)(Qb:List (List D))(v19:Int)(k2:gD r2=true)(s2:sG r2=true)(k11:iH MC=true)(s11:sG MC=true)(k12:jf ME=true)(s12:sG ME=true)(k14:gD Ow=true)(s14:sG Ow=true)(k16:gD r16=true)(s16:sG r16=true)(k18:gD Qb=true)(s18:sG Qb=true):Rv [.agg [V.v (.bool v0),vI v1, .aL (some 0) r2,vI v3,vI v4,vI v5,vI v6,vI v7,vI v8,vI v9,vI v10, .aL (some 1) MC, .aL (some 2) ME,vI v13, .aL (some 3) Ow,vI v15, .aL (some 4) r16,vI v17, .aL (some 5) Qb,vI v19], .agg [V.v (.bool v0),vI v1, .aL (some 6) r2,vI v3,vI v4,vI v5,vI v6,vI v7,vI v8,vI v9,vI v10, .aL (some 7) MC, .aL (some 8) ME,vI v13, .aL (some 9) Ow,vI v15, .aL (some 10) r16,vI v17, .aL (some 11) Qb,vI v19]] [] []=some ⟨V.v (.bool true),[],[]⟩:=by
 simp [Rv,func15,f15,Xj,agX,agY,Ch,k2,s2,k11,s11,k12,s12,k14,s14,k16,s16,k18,s18]
theorem YZ (r:List (List D))(k:vG r=true)(s:sG r=true):Bz [.aL (some 0) r, .aL (some 1) r] [] []=some ⟨V.v (.bool true),[],[]⟩:=by
 obtain⟨l,rfl⟩:=RS k
 have hb:l.length≤1000000000:=by simpa using l8 s
 simp [Bz,func61,f61]
 rw [aD (fun k=> .on ⟨[(5,V.v (.int .i64 ((k:Int)))),(1, .aL (some 1) (strs l)),(0, .aL (some 0) (strs l))],[],[],[]⟩) l.length ?_ ?_]
 ·simp
 ·simp
 ·intro j hj
  have hw:=bN (j+1) (by omega)
  have hs:=sM s (mE hj)
  simp at hs
  simp [hj,hw,hs,mE hj]
theorem agZ (v0:Int)(r1:List (List D))(k1:vG r1=true)(s1:sG r1=true):KF [.agg [vI v0, .aL (some 0) r1], .agg [vI v0, .aL (some 1) r1]] [] []=some ⟨V.v (.bool true),[],[]⟩:=by
 simp [KF,func16,f16,YZ,k1,s1]
theorem aje (v0:Int)(v1:Int):NG [aK v0 v1,aK v0 v1] [] []=some ⟨V.v (.bool true),[],[]⟩:=by
 simp [NG,func75,f75]
theorem ag0 (r:List (List D))(k:xE r=true)(s:sG r=true):KI [.aL (some 0) r, .aL (some 1) r] [] []=some ⟨V.v (.bool true),[],[]⟩:=by
 obtain⟨l,rfl⟩:=P9 k
 have hb:l.length≤1000000000:=by simpa using l8 s
 simp [KI,func25,f25]
 rw [aD (fun k=> .on ⟨[(5,V.v (.int .i64 ((k:Int)))),(1, .aL (some 1) (fZ l)),(0, .aL (some 0) (fZ l))],[],[],[]⟩) l.length ?_ ?_]
 ·simp
 ·simp
 ·intro j hj
  have hw:=bN (j+1) (by omega)
  have hs:=sM s (iK hj)
  simp at hs
  simp [hj,hw,hs,iK hj,aje]
def upTo (z:List D)(rows:List (List D))(j:Nat):List (List D):=rows.take j++List.replicate (rows.length-j) z
theorem Fq (z:List D)(rows:List (List D)):List.replicate rows.length z=upTo z rows 0:=by simp [upTo]
theorem J2 (z:List D)(rows:List (List D)):upTo z rows rows.length=rows:=by simp [upTo]
@[simp] theorem J3 {z:List D}{rows:List (List D)}{j:Nat}(h:j≤rows.length):(upTo z rows j).length=rows.length:=by simp [upTo];omega
theorem ajf {z:List D}{rows:List (List D)}{j:Nat}(h:j<rows.length):(upTo z rows j)[j]?=some z:=by
 unfold upTo
 rw [List.getElem?_append_right (by simp;omega),List.getElem?_replicate,if_pos (by simp;omega)]
theorem Oj {z:List D}{rows:List (List D)}{j:Nat}(h:j<rows.length)(h':j<(upTo z rows j).length):(upTo z rows j)[j]=z:=by
 have:=ajf (z:=z) h
 rw [List.getElem?_eq_getElem h']at this
 injection this
theorem J4 {z r:List D}{rows:List (List D)}{j:Nat}(h:rows[j]?=some r):(upTo z rows j).set j r=upTo z rows (j+1):=by
 have hj:j<rows.length:=(List.getElem?_eq_some_iff.1 h).1
 unfold upTo
 rw [List.set_append_right _ _ (by simp;omega)]
 rw [show rows.length-j=(rows.length-(j+1))+1 by omega,List.replicate_succ,List.take_add_one,h]
 have:j-(List.take j rows).length=0:=by simp;omega
 rw [this,List.set_cons_zero]
 simp
theorem runs (n:Nat)(x0:Int)(hx0:0≤x0)(Pm:Nat→Int→Int→Prop)(H:∀j x,j<n→0≤x→x≤x0→∃m,Pm j x m∧-1≤m∧m≤x):
  ∃xs:Nat→Int,xs 0=x0∧(((∀j,j≤n→0≤xs j∧xs j≤x0)∧∀j,j<n→Pm j (xs j) (xs (j+1)))∨∃N,N<n∧(∀j,j≤N→0≤xs j∧xs j≤x0)∧(∀j,j≤N→Pm j (xs j) (xs (j+1)))∧xs (N+1)= -1):=by
 have H':∀j x,∃m,j<n→0≤x→x≤x0→Pm j x m∧-1≤m∧m≤x:=fun j x=>by
  by_cases h:j<n∧0≤x∧x≤x0
  ·obtain⟨m,hm⟩:=H j x h.1 h.2.1 h.2.2;exact⟨m,fun _ _ _=>hm⟩
  ·exact⟨0,fun a b c=>absurd ⟨a,b,c⟩ h⟩
 let xs:Nat→Int:=fun j=>Nat.rec x0 (fun j x=>Classical.choose (H' j x)) j
 have hs:∀j,xs (j+1)=Classical.choose (H' j (xs j)):=fun j=>rfl
 have hp:∀j,j<n→0≤xs j→xs j≤x0→Pm j (xs j) (xs (j+1))∧-1≤xs (j+1)∧xs (j+1)≤xs j:=fun j a b c=>by
  rw [hs];exact Classical.choose_spec (H' j (xs j)) a b c
 refine⟨xs,rfl,?_⟩
 have all:∀k,k≤n→((∀j,j≤k→0≤xs j∧xs j≤x0)∧∀j,j<k→Pm j (xs j) (xs (j+1)))∨∃N,N<n∧(∀j,j≤N→0≤xs j∧xs j≤x0)∧(∀j,j≤N→Pm j (xs j) (xs (j+1)))∧xs (N+1)= -1:=by
  intro k
  induction k with
  | zero=>
   intro _
   refine .inl ⟨fun j hj=>?_,fun j hj=>by omega⟩
   have:j=0:=by omega
   subst this
   exact⟨hx0,Int.le_refl _⟩
  | succ k ih=>
   intro hk
   rcases ih (by omega)with⟨h1,h2⟩|h
   ·obtain⟨a,b,c⟩:=hp k (by omega) (h1 k (Nat.le_refl _)).1 (h1 k (Nat.le_refl _)).2
    have hpm:∀j,j<k+1→Pm j (xs j) (xs (j+1)):=fun j hj=>by
     rcases Nat.lt_or_ge j k with h|h
     ·exact h2 j h
     ·obtain rfl:j=k:=by omega
      exact a
    by_cases hn:xs (k+1)<0
    ·exact .inr ⟨k,by omega,h1,fun j hj=>hpm j (by omega),by omega⟩
    ·refine .inl ⟨fun j hj=>?_,hpm⟩
     rcases Nat.lt_or_ge j (k+1)with h|h
     ·exact h1 j (by omega)
     ·obtain rfl:j=k+1:=by omega
      have:=(h1 k (Nat.le_refl _)).2
      omega
   ·exact .inr h
 exact all n (Nat.le_refl _)
theorem yK.UE {α:Type}(C:yK α)(l:List α)(j:Nat)(x:α):(C.rows l).set j (C.enc x)=C.rows (l.set j x):=by
 show(l.map C.enc).set j (C.enc x)=(l.set j x).map C.enc
 rw [List.map_set]
theorem ak0 {α:Type}(n:Nat)(I:Nat→α→Prop)(a0:α)(h0:I 0 a0)(Pm:Nat→α→α→Prop)(H:∀j a,j<n→I j a→∃b,Pm j a b∧I (j+1) b):
  ∃xs:Nat→α,xs 0=a0∧(∀j,j≤n→I j (xs j))∧∀j,j<n→Pm j (xs j) (xs (j+1)):=by
 have H':∀j a,∃b,j<n→I j a→Pm j a b∧I (j+1) b:=fun j a=>by
  by_cases h:j<n∧I j a
  ·obtain⟨b,hb⟩:=H j a h.1 h.2;exact⟨b,fun _ _=>hb⟩
  ·exact⟨a0,fun x y=>absurd ⟨x,y⟩ h⟩
 let xs:Nat→α:=fun j=>Nat.rec a0 (fun j x=>Classical.choose (H' j x)) j
 have hs:∀j,xs (j+1)=Classical.choose (H' j (xs j)):=fun j=>rfl
 have hI:∀j,j≤n→I j (xs j):=by
  intro j
  induction j with
  | zero=>intro _;exact h0
  | succ j ih=>intro hj;rw [hs];exact(Classical.choose_spec (H' j (xs j)) (by omega) (ih (by omega))).2
 exact⟨xs,rfl,hI,fun j hj=>by rw [hs];exact(Classical.choose_spec (H' j (xs j)) hj (hI j (by omega))).1⟩
def mM (k:Int)(n:Nat):List Int:=(List.range n).map fun i:Nat=>k+(i:Int)
@[simp] theorem aen (k:Int)(n:Nat):(mM k n).length=n:=by simp [mM]
theorem ag1 {k:Int}{n j:Nat}(h:j<(mM k n).length):(mM k n)[j]=k+j:=by simp [mM]
theorem abV (k:Int)(n:Nat):mM k (n+1)=mM k n++ [k+n]:=by simp [mM,List.range_succ]
theorem ajg {α:Type}(p:List α)(l:List α)(x:α)(h:p.length<l.length):(p++l.drop p.length).set p.length x=(p++ [x])++l.drop (p.length+1):=by
 rw [List.set_append_right _ _ (Nat.le_refl _),Nat.sub_self,List.drop_eq_getElem_cons h,List.set_cons_zero,List.append_assoc];rfl
theorem ag2 (l:List Int)(j:Nat)(x:Int):(ints l).set j [D.a (.int .i64 x)]=ints (l.set j x):=by
 show(l.map _).set j _=(l.set j x).map _
 rw [List.map_set];rfl
def Ep (k:Int)(l:List Int)(j:Nat):List Int:=mM k j++l.drop j
theorem abW (k:Int)(l:List Int):Ep k l 0=l:=by simp [Ep,mM]
theorem aeo (k:Int)(l:List Int):Ep k l l.length=mM k l.length:=by simp [Ep]
theorem UF {k:Int}{l:List Int}{j:Nat}(h:j≤l.length):(Ep k l j).length=l.length:=by simp [Ep];omega
theorem aep {k:Int}{l:List Int}{j:Nat}(h:j<l.length):(ints (Ep k l j)).set j [D.a (.int .i64 (k+j))]=ints (Ep k l (j+1)):=by
 rw [ag2]
 have:=ajg (mM k j) l (k+j) (by simpa using h)
 rw [aen]at this
 unfold Ep
 rw [this,←abV]
theorem nR (l:List Int)(k:Int)(hl:l.length≤1000000000)(hk:0≤k∧k≤9000000000000000000):mH [.own 0,vI k] [] [ints l]=some ⟨vI (k+l.length),[],[(0,ints (mM k l.length))]⟩:=by
 simp [mH,func27,f27]
 rw [aD (fun j=> .on ⟨[(5,V.v (.int .i64 ((j:Int)))),(1,V.v (.int .i64 (k+j))),(0, .own 1000000000)],[],[(1000000000,ints (Ep k l j))],[]⟩) l.length ?_ ?_]
 ·simp [UF (k:=k) (Nat.le_refl _),aeo]
 ·simp [abW]
 ·intro j hj
  have hw:=bN (j+1) (by omega)
  have hw2:=bN (k+j+1) (by omega)
  have hw3:=bN (k+j) (by omega)
  have hlen:=UF (k:=k) (l:=l) (j:=j) (by omega)
  simp [hj,hw,hw2,hw3,hlen,aep hj]
  omega
theorem qX (n:Nat)(k:Int)(hl:n≤1000000000)(hk:0≤k∧k≤9000000000000000000):qV [.aL (some 0) (ints (mM k n)),vI k] [] []=some ⟨vI (k+n),[],[]⟩:=by
 simp [qV,func28,f28]
 rw [aD (fun j=> .on ⟨[(5,V.v (.int .i64 ((j:Int)))),(1,V.v (.int .i64 (k+j))),(0, .aL (some 0) (ints (mM k n)))],[],[],[]⟩) n ?_ ?_]
 ·simp
 ·simp
 ·intro j hj
  have hw:=bN (j+1) (by omega)
  have hw2:=bN (k+j+1) (by omega)
  have hw3:=bN (k+j) (by omega)
  simp [hj,hw,hw2,hw3,ag1]
  omega
theorem Ol (r:List (List D))(k:gD r=true)(s:sG r=true)(x:Int)(hx:0≤x∧x≤7000000000000000000):∃y r',mH [.own 0,vI x] [] [r]=some ⟨vI y,[],[(0,r')]⟩∧x≤y∧y≤x+1000000000:=by
 obtain⟨l,rfl⟩:=FD k
 have hb:l.length≤1000000000:=by simpa using l8 s
 exact⟨_,_,nR l x hb (by omega),by omega,by omega⟩
theorem Hl (r0:List (List D))(v1:Int)(k0:gD r0=true)(s0:sG r0=true)(x:Int)(hx:0≤x∧x≤6999999998999999999):∃y r0',wY [.agg [.own 0,vI v1],vI x] [] [r0]=some ⟨vI y,[],[(0,r0')]⟩∧x≤y∧y≤x+1000000001:=by
 unfold wY
 obtain⟨y0,q0,e0,a0,b0⟩:=Ol r0 k0 s0 x ⟨by omega,by omega⟩
 exact⟨y0,q0,by simp [func62,f62,e0],by omega,by omega⟩
theorem QT (m:List dL)(j:Nat)(x:dL):(aC m).set j [.l (ints x.av)]=aC (m.set j x):=jG.UE m j x
theorem UG (r:List (List D))(k:iH r=true)(s:sG r=true)(x:Int)(hx:0≤x∧x≤7000000000000000000):∃y r',pV [.own 0,vI x] [] [r]=some ⟨vI y,[],[(0,r')]⟩∧x≤y∧y≤x+1000000000000000000:=by
 obtain⟨l,rfl⟩:=zJ k
 have hb:l.length≤1000000000:=by simpa using l8 s
 obtain⟨xs,x0,hI,hP⟩:=ak0 l.length (fun j (a:Int×List dL)=>a.2.length=l.length∧(∀i,j≤i→a.2[i]?=l[i]?)∧x≤a.1∧a.1≤x+1000000000*j) (x,l) ⟨rfl,fun _ _=>rfl,by omega,by omega⟩ (fun j a b=> ∀h:j<a.2.length,b=(a.1+((a.2[j]'h).av.length:Int),a.2.set j ⟨mM (a.1) (a.2[j]'h).av.length⟩)) (fun j a hj ⟨h1,h2,h3,h4⟩=>by
  have hj':j<a.2.length:=by omega
  have e:=h2 j (Nat.le_refl _)
  rw [List.getElem?_eq_getElem hj',List.getElem?_eq_getElem hj]at e
  injection e with e
  have hs:=sM s (dZ hj)
  simp only [oW,uO,Js,E5,Bool.and_true,Bool.true_and,Bool.and_eq_true]at hs
  have hs0:=hs
  have hl0:l[j].av.length≤1000000000:=by simpa using sQ hs0
  refine⟨(a.1+((a.2[j]'hj').av.length:Int),a.2.set j ⟨mM (a.1) (a.2[j]'hj').av.length⟩),fun _=>rfl,by simpa using h1,fun i hi=>?_,?_,?_⟩
  ·simp only
   rw [List.getElem?_set_ne (by omega)];exact h2 i (by omega)
  ·simp only [e];omega
  ·simp only [e];push_cast;omega)
 refine⟨(xs l.length).1,aC (xs l.length).2,?_,(hI _ (Nat.le_refl _)).2.2.1,?_⟩
 ·simp [pV,func129,f129]
  rw [aD (fun j=> .on ⟨[(5,V.v (.int .i64 ((j:Int)))),(1,V.v (.int .i64 ((xs j).1))),(0, .own 1000000000)],[],[(1000000000,aC (xs j).2)],[]⟩) l.length ?_ ?_]
  ·have h1:=(hI l.length (Nat.le_refl _)).1
   simp [h1]
  ·simp [x0]
  ·intro j hj
   obtain⟨h1,h2,h3,h4⟩:=hI j (by omega)
   have hj':j<(xs j).2.length:=by omega
   have hq:=hP j hj hj'
   have e:=h2 j (Nat.le_refl _)
   rw [List.getElem?_eq_getElem hj',List.getElem?_eq_getElem hj]at e
   injection e with e
   have hs:=sM s (dZ hj)
   simp only [oW,uO,Js,E5,Bool.and_true,Bool.true_and,Bool.and_eq_true]at hs
   have hs0:=hs
   have hl0:l[j].av.length≤1000000000:=by simpa using sQ hs0
   have hw:=bN (j+1) (by omega)
   rw [e]at hq
   generalize xs (j+1)=b at hq
   subst hq
   generalize xs j=a at*
   obtain⟨x1,m⟩:=a
   simp only at*
   have hm0:=nR l[j].av (x1) hl0 (by omega)
   have hv0:=bN (x1+(l[j].av.length:Int)) (by omega)
   have hset:=QT m j ⟨mM (x1) l[j].av.length⟩
   simp only at hset hj'
   simp [h1,hj,hj',hw,e,hset,hm0,hv0]
 ·have:=(hI l.length (Nat.le_refl _)).2.2.2
  omega
theorem Y0 (r0:List (List D))(k0:iH r0=true)(s0:sG r0=true)(x:Int)(hx:0≤x∧x≤6000000000000000000):∃y r0',wZ [.agg [.own 0],vI x] [] [r0]=some ⟨vI y,[],[(0,r0')]⟩∧x≤y∧y≤x+1000000000000000000:=by
 unfold wZ
 obtain⟨y0,q0,e0,a0,b0⟩:=UG r0 k0 s0 x ⟨by omega,by omega⟩
 exact⟨y0,q0,by simp [func63,f63,e0],by omega,by omega⟩
theorem UH (m:List fH)(j:Nat)(x:fH):(aG m).set j [.l (ints x.av), .a (.int .i64 x.At)]=aG (m.set j x):=kH.UE m j x
theorem Vy (r:List (List D))(k:jf r=true)(s:sG r=true)(x:Int)(hx:0≤x∧x≤7000000000000000000):∃y r',rJ [.own 0,vI x] [] [r]=some ⟨vI y,[],[(0,r')]⟩∧x≤y∧y≤x+1000000001000000000:=by
 obtain⟨l,rfl⟩:=Bd k
 have hb:l.length≤1000000000:=by simpa using l8 s
 obtain⟨xs,x0,hI,hP⟩:=ak0 l.length (fun j (a:Int×List fH)=>a.2.length=l.length∧(∀i,j≤i→a.2[i]?=l[i]?)∧x≤a.1∧a.1≤x+1000000001*j) (x,l) ⟨rfl,fun _ _=>rfl,by omega,by omega⟩ (fun j a b=> ∀h:j<a.2.length,b=(a.1+((a.2[j]'h).av.length:Int)+1,a.2.set j ⟨mM (a.1) (a.2[j]'h).av.length,a.1+((a.2[j]'h).av.length:Int)⟩)) (fun j a hj ⟨h1,h2,h3,h4⟩=>by
  have hj':j<a.2.length:=by omega
  have e:=h2 j (Nat.le_refl _)
  rw [List.getElem?_eq_getElem hj',List.getElem?_eq_getElem hj]at e
  injection e with e
  have hs:=sM s (dX hj)
  simp only [oW,uO,Js,E5,Bool.and_true,Bool.true_and,Bool.and_eq_true]at hs
  have hs0:=hs
  have hl0:l[j].av.length≤1000000000:=by simpa using sQ hs0
  refine⟨(a.1+((a.2[j]'hj').av.length:Int)+1,a.2.set j ⟨mM (a.1) (a.2[j]'hj').av.length,a.1+((a.2[j]'hj').av.length:Int)⟩),fun _=>rfl,by simpa using h1,fun i hi=>?_,?_,?_⟩
  ·simp only
   rw [List.getElem?_set_ne (by omega)];exact h2 i (by omega)
  ·simp only [e];omega
  ·simp only [e];push_cast;omega)
 refine⟨(xs l.length).1,aG (xs l.length).2,?_,(hI _ (Nat.le_refl _)).2.2.1,?_⟩
 ·simp [rJ,func130,f130]
  rw [aD (fun j=> .on ⟨[(5,V.v (.int .i64 ((j:Int)))),(1,V.v (.int .i64 ((xs j).1))),(0, .own 1000000000)],[],[(1000000000,aG (xs j).2)],[]⟩) l.length ?_ ?_]
  ·have h1:=(hI l.length (Nat.le_refl _)).1
   simp [h1]
  ·simp [x0]
  ·intro j hj
   obtain⟨h1,h2,h3,h4⟩:=hI j (by omega)
   have hj':j<(xs j).2.length:=by omega
   have hq:=hP j hj hj'
   have e:=h2 j (Nat.le_refl _)
   rw [List.getElem?_eq_getElem hj',List.getElem?_eq_getElem hj]at e
   injection e with e
   have hs:=sM s (dX hj)
   simp only [oW,uO,Js,E5,Bool.and_true,Bool.true_and,Bool.and_eq_true]at hs
   have hs0:=hs
   have hl0:l[j].av.length≤1000000000:=by simpa using sQ hs0
   have hw:=bN (j+1) (by omega)
   rw [e]at hq
   generalize xs (j+1)=b at hq
   subst hq
   generalize xs j=a at*
   obtain⟨x1,m⟩:=a
   simp only at*
   have hm0:=nR l[j].av (x1) hl0 (by omega)
   have hv0:=bN (x1+(l[j].av.length:Int)) (by omega)
   have hv1:=bN (x1+(l[j].av.length:Int)+1) (by omega)
   have hset:=UH m j ⟨mM (x1) l[j].av.length,x1+(l[j].av.length:Int)⟩
   simp only at hset hj'
   simp [h1,hj,hj',hw,e,hset,hm0,hv0,hv1]
 ·have:=(hI l.length (Nat.le_refl _)).2.2.2
  omega
theorem Y1 (r0:List (List D))(k0:jf r0=true)(s0:sG r0=true)(x:Int)(hx:0≤x∧x≤5999999999000000000):∃y r0',xg [.agg [.own 0],vI x] [] [r0]=some ⟨vI y,[],[(0,r0')]⟩∧x≤y∧y≤x+1000000001000000000:=by
 unfold xg
 obtain⟨y0,q0,e0,a0,b0⟩:=Vy r0 k0 s0 x ⟨by omega,by omega⟩
 exact⟨y0,q0,by simp [func64,f64,e0],by omega,by omega⟩
theorem aer (v0:Bool)(v1:Int)(r2:List (List D))(v3:Int)(v4:Int)(v5:Int)(v6:Int)(v7:Int)(v8:Int)(v9:Int)(v10:Int)(MC:List (List D))(ME:List (List D))(v13:Int)(Ow:List (List D))(v15:Int)(r16:List (List D))(v17:Int)(Qb:List (List D))(v19:Int)(k2:gD r2=true)(s2:sG r2=true)(k11:iH MC=true)(s11:sG MC=true)(k12:jf ME=true)(s12:sG ME=true)(k14:gD Ow=true)(s14:sG Ow=true)(k16:gD r16=true)(s16:sG r16=true)(k18:gD Qb=true)(s18:sG Qb=true)(x:Int)(hx:0≤x∧x≤4999999994999999987):∃y r2' aoz aoA aoB aoC aoD,xk [.agg [V.v (.bool v0),vI v1, .own 0,vI v3,vI v4,vI v5,vI v6,vI v7,vI v8,vI v9,vI v10, .own 1, .own 2,vI v13, .own 3,vI v15, .own 4,vI v17, .own 5,vI v19],vI x] [] [r2,MC,ME,Ow,r16,Qb]=some ⟨vI y,[],[(0,r2'),(1,aoz),(2,aoA),(3,aoB),(4,aoC),(5,aoD)]⟩∧x≤y∧y≤x+2000000005000000013:=by
 unfold xk
 obtain⟨y0,q2,e0,a0,b0⟩:=Hl r2 v3 k2 s2 x ⟨by omega,by omega⟩
 obtain⟨y1,Pk,e1,a1,b1⟩:=Y0 MC k11 s11 y0 ⟨by omega,by omega⟩
 obtain⟨y2,Pn,e2,a2,b2⟩:=Y1 ME k12 s12 y1 ⟨by omega,by omega⟩
 obtain⟨y3,q14,e3,a3,b3⟩:=Hl Ow v15 k14 s14 y2 ⟨by omega,by omega⟩
 obtain⟨y4,q16,e4,a4,b4⟩:=Ol r16 k16 s16 y3 ⟨by omega,by omega⟩
 obtain⟨y5,q18,e5,a5,b5⟩:=Hl Qb v19 k18 s18 y4 ⟨by omega,by omega⟩
 exact⟨y5,q2,Pk,Pn,q14,q16,q18,by simp [func17,f17,e0,e1,e2,e3,e4,e5],by omega,by omega⟩
end Go.Proofs.YtlpdjhiggpblcaaGreat
