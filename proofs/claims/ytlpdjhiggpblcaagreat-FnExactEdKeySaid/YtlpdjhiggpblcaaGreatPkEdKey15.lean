/- Part 15 of a proof in several texts (an abstract evaluator, what the functions compute). -/
import Derived.Test.YtlpdjhiggpblcaaGreatPkEdKey14
open Go.Proofs.Tryz
namespace Go.Proofs.YtlpdjhiggpblcaaGreat
set_option linter.unusedSectionVars false
set_option linter.unusedSimpArgs false
set_option linter.unusedVariables false
open Go.RowKit
set_option maxHeartbeats 8000000
set_option maxRecDepth 10000
section
variable (e:dF) (h:fV e) (hm:e.bQ=2) {f:Int} {l:List ByteArray} (hh:iQ f l)
include h hm hh
theorem Yf (r:Int)(n:Nat)(hn:1≤n∧n≤999):bG [gL e,aH f l,aK 4 r,vI (n:Int)] [] []=some (kR ((e,2))):=by
 obtain⟨a1,a2,a3,a4⟩:=h.aS
 have e0:=eP e h
 clear h hh
 generalize hE:bG _ _ _=R
 simp [bG, -au,func102,f102,e0]at hE
 exact hE.symm
theorem UH (r:Int)(n:Nat)(hn:1≤n∧n≤999)(hz:e.bD=0∧e.Op=0∧e.bN=0∧e.fC=0):bG [gL e,aH f l,aK 7 r,vI (n:Int)] [] []=some (kR (dI e)):=by
 obtain⟨a1,a2,a3,a4⟩:=h.aS
 have e0:=eP e h
 have e1:=l5 e h
 generalize dI e=p at*
 obtain⟨z1,z2,z3,z4⟩:=hz
 clear h hh
 generalize hE:bG _ _ _=R
 unfold bG at hE
 simp only [gL,gO,hO,z1,z2,z3,z4]at e0 e1 hE
 simp [-au,func102,f102,e0,e1]at hE
 exact hE.symm
theorem UJ (r:Int)(n:Nat)(hz:¬(e.bD=0∧e.Op=0∧e.bN=0∧e.fC=0)):bG [gL e,aH f l,aK 7 r,vI (n:Int)] [] []=some (kR (sj e e.iO,0)):=by
 have e0:=eP e h
 have e1:=ze e (NM.of (fA.2 h)) e.iO
 clear h hh
 generalize hE:bG _ _ _=R
 unfold bG at hE
 by_cases z1:e.bD=0
 ·by_cases z2:e.Op=0
  ·by_cases z3:e.bN=0
   ·have z4:¬e.fC=0:=fun q=>hz ⟨z1,z2,z3,q⟩
    simp only [gL,gO,hO,z1,z2,z3]at e0 e1 hE
    simp [-au,func102,f102,e0,e1,z4]at hE
    exact hE.symm
   ·simp only [gL,gO,hO,z1,z2]at e0 e1 hE
    simp [-au,func102,f102,e0,e1,z3]at hE
    exact hE.symm
  ·simp only [gL,gO,hO,z1]at e0 e1 hE
   simp [-au,func102,f102,e0,e1,z2]at hE
   exact hE.symm
 ·simp [-au,func102,f102,e0,e1,z1]at hE
  exact hE.symm
theorem Yg (r:Int)(n:Nat)(hn:1≤n∧n≤999):bG [gL e,aH f l,aK 8 r,vI (n:Int)] [] []=some (kR (jP e f l (-1))):=by
 obtain⟨a1,a2,a3,a4⟩:=h.aS
 have e0:=eP e h
 have e1:=Dr e h hh (-1) (.inr rfl)
 generalize jP e f l (-1)=p at*
 clear h hh
 generalize hE:bG _ _ _=R
 simp [bG, -au,func102,f102,e0,e1]at hE
 exact hE.symm
theorem Yh (r:Int)(n:Nat)(hn:1≤n∧n≤999):bG [gL e,aH f l,aK 9 r,vI (n:Int)] [] []=some (kR (jP e f l 1)):=by
 obtain⟨a1,a2,a3,a4⟩:=h.aS
 have e0:=eP e h
 have e1:=Dr e h hh 1 (.inl rfl)
 generalize jP e f l 1=p at*
 clear h hh
 generalize hE:bG _ _ _=R
 simp [bG, -au,func102,f102,e0,e1]at hE
 exact hE.symm
theorem UK (r:Int)(n:Nat)(hn:1≤n∧n≤999):bG [gL e,aH f l,aK 11 r,vI (n:Int)] [] []=some (kR (lY e 104 n)):=by
 obtain⟨a1,a2,a3,a4⟩:=h.aS
 have e0:=eP e h
 have e1:=EL e h hm 104 n hn
 generalize lY e 104 n=p at*
 clear h hh
 generalize hE:bG _ _ _=R
 simp [bG, -au,func102,f102,e0,e1]at hE
 exact hE.symm
theorem Yi (r:Int)(n:Nat)(hn:1≤n∧n≤999):bG [gL e,aH f l,aK 5 r,vI (n:Int)] [] []=some (kR (lY e 104 n)):=by
 obtain⟨a1,a2,a3,a4⟩:=h.aS
 have e0:=eP e h
 have e1:=EL e h hm 104 n hn
 generalize lY e 104 n=p at*
 clear h hh
 generalize hE:bG _ _ _=R
 simp [bG, -au,func102,f102,e0,e1]at hE
 exact hE.symm
theorem UL (r:Int)(n:Nat)(hn:1≤n∧n≤999):bG [gL e,aH f l,aK 10 r,vI (n:Int)] [] []=some (kR (lY e 108 n)):=by
 obtain⟨a1,a2,a3,a4⟩:=h.aS
 have e0:=eP e h
 have e1:=EL e h hm 108 n hn
 generalize lY e 108 n=p at*
 clear h hh
 generalize hE:bG _ _ _=R
 simp [bG, -au,func102,f102,e0,e1]at hE
 exact hE.symm
theorem UM (r:Int)(n:Nat)(hn:1≤n∧n≤999):bG [gL e,aH f l,aK 12 r,vI (n:Int)] [] []=some (kR (lY e 48 n)):=by
 obtain⟨a1,a2,a3,a4⟩:=h.aS
 have e0:=eP e h
 have e1:=EL e h hm 48 n hn
 generalize lY e 48 n=p at*
 clear h hh
 generalize hE:bG _ _ _=R
 simp [bG, -au,func102,f102,e0,e1]at hE
 exact hE.symm
theorem UN (r:Int)(n:Nat)(hn:1≤n∧n≤999):bG [gL e,aH f l,aK 13 r,vI (n:Int)] [] []=some (kR (lY e 36 n)):=by
 obtain⟨a1,a2,a3,a4⟩:=h.aS
 have e0:=eP e h
 have e1:=EL e h hm 36 n hn
 generalize lY e 36 n=p at*
 clear h hh
 generalize hE:bG _ _ _=R
 simp [bG, -au,func102,f102,e0,e1]at hE
 exact hE.symm
theorem UO (r:Int)(n:Nat)(hn:1≤n∧n≤999):bG [gL e,aH f l,aK 14 r,vI (n:Int)] [] []=some (kR (iR e 100 (aS e) (min (aS e+n) e.ak.av.length))):=by
 obtain⟨a1,a2,a3,a4⟩:=h.aS
 have e0:=eP e h
 have e1:=uJ e h hm 100 rfl (aS e) (min (aS e+n) e.ak.av.length) (by omega) (by omega)
 rw [show ((min (aS e+n) e.ak.av.length:Nat):Int)=min (e.ak.At+n) e.ak.av.length from by omega,←a1]at e1
 have w1:=bM (e.ak.At+n) (by omega)
 generalize iR e 100 (aS e) (min (aS e+n) e.ak.av.length)=p at*
 clear h hh
 generalize hE:bG _ _ _=R
 simp [bG, -au,func102,f102,e0,e1,w1]at hE
 exact hE.symm
theorem UQ (n:Nat)(hn:1≤n∧n≤999):bG [gL e,aH f l,aK 2 99,vI (n:Int)] [] []=some (kR ((e,3))):=by
 obtain⟨a1,a2,a3,a4⟩:=h.aS
 have e0:=eP e h
 clear h hh
 generalize hE:bG _ _ _=R
 simp [bG, -au,func102,f102,e0]at hE
 exact hE.symm
theorem TP (n:Nat)(hn:1≤n∧n≤999):bG [gL e,aH f l,aK 2 108,vI (n:Int)] [] []=some (kR ((e,5))):=by
 obtain⟨a1,a2,a3,a4⟩:=h.aS
 have e0:=eP e h
 clear h hh
 generalize hE:bG _ _ _=R
 simp [bG, -au,func102,f102,e0]at hE
 exact hE.symm
theorem TQ (n:Nat)(hn:1≤n∧n≤999)(hz:e.ak.av.length=0):bG [gL e,aH f l,aK 2 100,vI (n:Int)] [] []=some (kR ((e,4))):=by
 obtain⟨a1,a2,a3,a4⟩:=h.aS
 have e0:=eP e h
 have hz2:e.ak.av= []:=List.length_eq_zero_iff.1 hz
 clear h hh
 generalize hE:bG _ _ _=R
 unfold bG at hE
 simp only [gL,gO,hO,hz2,aZ]at e0 hE
 simp [-au,func102,f102,e0]at hE
 simp only [kR,gL,gO,hO,hz2,aZ]
 exact hE.symm
theorem TR (n:Nat)(hn:1≤n∧n≤999):bG [gL e,aH f l,aK 2 114,vI (n:Int)] [] []=some (kR (Cn e)):=by
 obtain⟨a1,a2,a3,a4⟩:=h.aS
 have e0:=eP e h
 have e1:=Yb e h
 generalize Cn e=p at*
 clear h hh
 generalize hE:bG _ _ _=R
 simp [bG, -au,func102,f102,e0,e1]at hE
 exact hE.symm
theorem Yj (r:Int)(n:Nat)(hn:1≤n∧n≤999)(c1:¬r=99)(c2:¬r=108)(c3:¬r=100)(c4:¬r=114):bG [gL e,aH f l,aK 2 r,vI (n:Int)] [] []=some (kR (dI e)):=by
 obtain⟨a1,a2,a3,a4⟩:=h.aS
 have e0:=eP e h
 have e1:=l5 e h
 generalize dI e=p at*
 clear h hh
 generalize hE:bG _ _ _=R
 simp [bG, -au,func102,f102,e0,e1,c1,c2,c3,c4]at hE
 exact hE.symm
theorem UR (n:Nat)(hn:1≤n∧n≤999)(hz:¬e.ak.av.length=0):bG [gL e,aH f l,aK 2 100,vI (n:Int)] [] []=some (kR (dI e)):=by
 obtain⟨a1,a2,a3,a4⟩:=h.aS
 have e0:=eP e h
 have e1:=l5 e h
 have hz2:¬e.ak.av= []:=fun q=>hz (by rw [q];rfl)
 generalize dI e=p at*
 clear h hh
 generalize hE:bG _ _ _=R
 simp [bG, -au,func102,f102,e0,e1,hz2]at hE
 exact hE.symm
theorem UU (k r:Int)(n:Nat)(hn:1≤n∧n≤999)(c4:¬k=4)(c7:¬k=7)(c8:¬k=8)(c9:¬k=9)(c11:¬k=11)(c5:¬k=5)(c10:¬k=10)(c12:¬k=12)(c13:¬k=13)(c14:¬k=14)(c2:¬k=2):bG [gL e,aH f l,aK k r,vI (n:Int)] [] []=some (kR (dI e)):=by
 obtain⟨a1,a2,a3,a4⟩:=h.aS
 have e0:=eP e h
 have e1:=l5 e h
 generalize dI e=p at*
 clear h hh
 generalize hE:bG _ _ _=R
 simp [bG, -au,func102,f102,e0,e1,c4,c7,c8,c9,c11,c5,c10,c12,c13,c14,c2]at hE
 exact hE.symm
theorem adB (k r:Int)(n:Nat)(hn:1≤n∧n≤999):bG [gL e,aH f l,aK k r,vI (n:Int)] [] []=some (kR (xU e f l k r n)):=by
 unfold xU
 by_cases c4:k=4
 ·rw [if_pos c4];subst c4;exact Yf e h hm hh r n hn
 rw [if_neg c4]
 by_cases c7:k=7
 ·rw [if_pos c7]
  subst c7
  by_cases hz:e.bD=0∧e.Op=0∧e.bN=0∧e.fC=0
  ·rw [if_pos hz];exact UH e h hm hh r n hn hz
  ·rw [if_neg hz];exact UJ e h hm hh r n hz
 rw [if_neg c7]
 by_cases c8:k=8
 ·rw [if_pos c8];subst c8;exact Yg e h hm hh r n hn
 rw [if_neg c8]
 by_cases c9:k=9
 ·rw [if_pos c9];subst c9;exact Yh e h hm hh r n hn
 rw [if_neg c9]
 by_cases c11:k=11
 ·rw [if_pos (.inl c11)];subst c11;exact UK e h hm hh r n hn
 by_cases c5:k=5
 ·rw [if_pos (.inr c5)];subst c5;exact Yi e h hm hh r n hn
 rw [if_neg (fun q=>q.elim c11 c5)]
 by_cases c10:k=10
 ·rw [if_pos c10];subst c10;exact UL e h hm hh r n hn
 rw [if_neg c10]
 by_cases c12:k=12
 ·rw [if_pos c12];subst c12;exact UM e h hm hh r n hn
 rw [if_neg c12]
 by_cases c13:k=13
 ·rw [if_pos c13];subst c13;exact UN e h hm hh r n hn
 rw [if_neg c13]
 by_cases c14:k=14
 ·rw [if_pos c14];subst c14;exact UO e h hm hh r n hn
 rw [if_neg c14]
 by_cases c2:k=2
 ·rw [if_pos c2]
  subst c2
  by_cases r1:r=99
  ·rw [if_pos r1];subst r1;exact UQ e h hm hh n hn
  rw [if_neg r1]
  by_cases r2:r=108
  ·rw [if_pos r2];subst r2;exact TP e h hm hh n hn
  rw [if_neg r2]
  by_cases r3:r=100
  ·by_cases hz:e.ak.av.length=0
   ·rw [if_pos ⟨r3,hz⟩];subst r3;exact TQ e h hm hh n hn hz
   ·rw [if_neg (fun q=>hz q.2),if_neg (by omega)];subst r3;exact UR e h hm hh n hn hz
  rw [if_neg (fun q=>r3 q.1)]
  by_cases r4:r=114
  ·rw [if_pos r4];subst r4;exact TR e h hm hh n hn
  rw [if_neg r4]
  exact Yj e h hm hh r n hn r1 r2 r3 r4
 rw [if_neg c2]
 exact UU e h hm hh k r n hn c4 c7 c8 c9 c11 c5 c10 c12 c13 c14 c2
end
section
variable (e:dF) (h:fV e) (hm:e.bQ=2)
include h hm
theorem ais (r:Int)(n:Nat)(hn:1≤n∧n≤999):eX [gL e,vI r,vI (n:Int)] [] []=some (kRo (Gn e r n)):=by
 have e0:=eP e h
 have eb:=l5 e h
 have eh:=Wu r
 have hc:=h.cnt
 unfold Gn
 by_cases c1:iq r 49 57=true∨(r=48∧¬e.bD=0)
 ·rw [if_pos c1]
  have hr2:48≤r∧r≤57:=by
   rcases c1 with c1|⟨c1, -⟩
   ·have:=bB.1 c1;omega
   ·omega
  have w1:=bM (10*e.bD) (by omega)
  have w2:=bM (10*e.bD+r) (by omega)
  have w3:=bM (10*e.bD+r-48) (by omega)
  unfold Jc
  clear h
  generalize hE:eX _ _ _=R
  unfold eX at hE
  cases c2:iq r 49 57 with
  | true=>
   simp [-au,func182,f182,dG,e0,w1,w2,w3,c2]at hE
   exact hE.symm
  | false=>
   obtain⟨c3,c4⟩:=c1.resolve_left (by rw [c2];decide)
   subst c3
   simp [-au,func182,f182,dG,e0,w1,w2,w3,c2,c4]at hE
   rw [show 10*e.bD+48-48=10*e.bD from by omega]
   exact hE.symm
 rw [if_neg c1]
 have c2:iq r 49 57=false:=by cases q:iq r 49 57;rfl;exact absurd (.inl q) c1
 by_cases c5:0≤iZ r
 ·rw [if_pos c5]
  have c3:¬r=48:=fun q=>by rw [q]at c5;exact absurd c5 (by decide)
  generalize iZ r=how at*
  clear h
  generalize hE:eX _ _ _=R
  simp [eX, -au,func182,f182,dG,e0,eh,c2,c3,c5]at hE
  exact hE.symm
 rw [if_neg c5]
 have c6:¬0≤iZ r:=c5
 have alO:r=48→e.bD=0:=fun q=>Classical.byContradiction fun q2=>c1 (.inr ⟨q,q2⟩)
 by_cases c7:r=59
 ·rw [if_pos c7]
  subst c7
  rw [show iZ 59= -1 from by decide]at eh
  by_cases c8:e.dY=0
  ·rw [if_pos c8]
   generalize dI e=p at*
   clear h
   generalize hE:eX _ _ _=R
   unfold eX at hE
   simp only [gL,gO,hO,c8]at e0 eb hE
   simp [-au,func182,f182,dG,e0,eb,eh,c2]at hE
   exact hE.symm
  ·rw [if_neg c8]
   have hf:=h.find
   simp only [dN,Bool.or_eq_true,Bool.and_eq_true,beq_iff_eq,bne_iff_ne]at hf
   have hf2:=bB.1 (hf.resolve_left (fun q=>c8 q.1)).2.2
   have e1:=OV e h hm e.dY e.bL n hf2 hn
   generalize qZ e e.dY e.bL n=p at*
   clear h
   generalize hE:eX _ _ _=R
   simp [eX, -au,func182,f182,dG,e0,e1,eh,c2,c8]at hE
   exact hE.symm
 rw [if_neg c7]
 by_cases c9:r=44
 ·rw [if_pos c9]
  subst c9
  rw [show iZ 44= -1 from by decide]at eh
  have hf:=h.find
  simp only [dN,Bool.or_eq_true,Bool.and_eq_true,beq_iff_eq,bne_iff_ne]at hf
  by_cases c8:e.dY=0
  ·rw [if_pos c8]
   have cf:e.bL=0:=hf.elim (fun q=>q.2) (fun q=>absurd c8 q.1)
   generalize dI e=p at*
   clear h
   generalize hE:eX _ _ _=R
   unfold eX at hE
   simp only [gL,gO,hO,c8,cf]at e0 eb hE
   simp [-au,func182,f182,dG,e0,eb,eh,c2]at hE
   exact hE.symm
  ·rw [if_neg c8]
   have hf2:=bB.1 (hf.resolve_left (fun q=>c8 q.1)).2.2
   have e1:=OV e h hm e.dY (uG e.bL) n (by unfold uG;repeat' split<;>omega) hn
   generalize qZ e e.dY (uG e.bL) n=p at*
   clear h
   have hq:e.bL=0∨e.bL=1∨e.bL=2∨e.bL=3:=by omega
   generalize hE:eX _ _ _=R
   unfold eX at hE
   rcases hq with q|q|q|q
   all_goals
    simp only [gL,gO,hO,q,uG]at e0 e1 hE
    simp at e1
    simp [-au,func182,f182,dG,e0,e1,eh,c2,c8]at hE
    exact hE.symm
 rw [if_neg c9]
 have eop:=DW r
 by_cases c10:e.Op=0∧opC r=true
 ·rw [if_pos c10]
  have c3:¬r=48:=fun q=>by rw [q]at c10;exact absurd c10.2 (by decide)
  obtain⟨c11,c12⟩:=c10
  rw [c12]at eop
  generalize iZ r=how at*
  clear h
  generalize hE:eX _ _ _=R
  unfold eX at hE
  simp only [gL,gO,hO,c11]at e0 hE
  simp [-au,func182,f182,dG,e0,eh,eop,c2,c3,c5,c7,c9]at hE
  exact hE.symm
 rw [if_neg c10]
 simp only [kRo,vC,aZ,show aC []= []from rfl,show aG []= []from rfl]
 generalize iZ r=how at*
 by_cases c3:r=48
 ·have c4:=alO c3
  subst c3
  rw [show opC 48=false from by decide]at eop
  clear h
  generalize hE:eX _ _ _=R
  unfold eX at hE
  by_cases c11:e.Op=0
  ·simp only [gL,gO,hO,c4,c11]at e0 hE
   simp [-au,func182,f182,dG,e0,eh,eop,c2,c5]at hE
   exact hE.symm
  ·simp only [gL,gO,hO,c4]at e0 hE
   simp [-au,func182,f182,dG,e0,eh,c2,c5,c11]at hE
   exact hE.symm
 ·clear h
  generalize hE:eX _ _ _=R
  unfold eX at hE
  by_cases c11:e.Op=0
  ·have c12:opC r=false:=by cases q:opC r;rfl;exact absurd ⟨c11,q⟩ c10
   rw [c12]at eop
   simp only [gL,gO,hO,c11]at e0 hE
   simp [-au,func182,f182,dG,e0,eh,eop,c2,c3,c5,c7,c9]at hE
   exact hE.symm
  ·simp [-au,func182,f182,dG,e0,eh,c2,c3,c5,c7,c9,c11]at hE
   exact hE.symm
theorem Yk (a:Nat)(ha:a≤e.ak.av.length):∃ia ul,
  qQ [.agg [.aM (some 0) (ints e.ak.av),vI e.ak.At],vI (a:Int)] [] []=some ⟨.agg [.own 0,vI (a:Int)],[],[(0,ints e.ak.av)]⟩∧
  Aj [gL e, .agg [.aM (some 6) (ints e.ak.av),vI (a:Int)],vI 0] [] []=some ⟨.agg [V.v (.bool e.Vi),vI e.bQ, .own 0,vI ia,vI 0,vI 0,vI 0,vI 0,vI e.dY,vI e.bL,vI 0, .own 1, .own 2,vI e.kr, .own 3,vI e.gX.At, .own 4,vI e.lV, .own 5,vI e.bX.At],[],[(0,ints e.ak.av),(1,aC e.aL.aA),(2,aG ul),(3,ints e.gX.av),(4,ints e.bO),(5,ints e.bX.av)]⟩∧
  Br [.agg [V.v (.bool e.Vi),vI e.bQ, .aM (some 0) (ints e.ak.av),vI ia,vI 0,vI 0,vI 0,vI 0,vI e.dY,vI e.bL,vI 0, .aM (some 1) (aC e.aL.aA), .aM (some 2) (aG ul),vI e.kr, .aM (some 3) (ints e.gX.av),vI e.gX.At, .aM (some 4) (ints e.bO),vI e.lV, .aM (some 5) (ints e.bX.av),vI e.bX.At],vI (a:Int)] [] []=some ⟨.agg [V.v (.bool e.Vi),vI 1, .aM (some 0) (ints e.ak.av),vI (a:Int),vI 0,vI 0,vI 0,vI 0,vI e.dY,vI e.bL,vI 0, .aM (some 1) (aC e.aL.aA), .aM (some 2) (aG ul),vI e.kr, .aM (some 3) (ints e.gX.av),vI e.gX.At, .aM (some 4) (ints e.bO),vI e.lV, .aM (some 5) (ints e.bX.av),vI e.bX.At],[],[]⟩∧
  oL e a= {e with bQ:=1,ak:=⟨e.ak.av,(a:Int)⟩,bD:=0,Op:=0,bN:=0,fC:=0,iO:=0,fD:=⟨ul⟩}:=by
 obtain⟨a1,a2,a3,a4⟩:=h.aS
 exact⟨jl e.bQ e.ak.av a,rZ e e.ak.av 0,EK e.ak.av (some 0) e.ak.At a (by omega) ha,OM e h e.ak.av a 0 (h.Lx ha),OG (sF e e.ak.av a 0) a,rfl⟩
theorem ait (r:Int):qx [gL e,vI r] [] []=some (kR (Jd e r)):=by
 obtain⟨a1,a2,a3,a4⟩:=h.aS
 have eb:=l5 e h
 unfold Jd
 by_cases c1:r=105
 ·rw [if_pos c1]
  subst c1
  obtain⟨ia,ul,e1,e2,e3,e4⟩:=Yk e h hm (aS e) a2
  rw [e4]
  rw [←a1]at e1 e2 e3⊢
  clear h
  generalize hE:qx _ _ _=R
  simp [qx, -au,func187,f187,e1,e2,e3]at hE
  exact hE.symm
 rw [if_neg c1]
 by_cases c2:r=73
 ·rw [if_pos c2]
  subst c2
  have hb:=(cK (fun j=>decide (kM (e.ak.av.getD j 0)=0)) e.ak.av.length).1
  obtain⟨ia,ul,e1,e2,e3,e4⟩:=Yk e h hm (Ak e.ak.av) hb
  have e5:=Ju e.ak.av (some 0) (aS e) 1 a2 (by omega) (by omega)
  rw [←a1]at e5
  simp only [Int.natCast_one]at e5
  rw [e4]
  generalize Ak e.ak.av=b at*
  clear h
  generalize hE:qx _ _ _=R
  simp [qx, -au,func187,f187,e1,e2,e3,e5]at hE
  exact hE.symm
 rw [if_neg c2]
 by_cases c3:r=97
 ·rw [if_pos c3]
  subst c3
  obtain⟨ia,ul,e1,e2,e3,e4⟩:=Yk e h hm (min (aS e+1) e.ak.av.length) (by omega)
  have w1:=bM (e.ak.At+1) (by omega)
  have hq:min (e.ak.At+1) (e.ak.av.length:Int)=((min (aS e+1) e.ak.av.length:Nat):Int):=by omega
  rw [e4]
  generalize min (aS e+1) e.ak.av.length=b at*
  clear h
  generalize hE:qx _ _ _=R
  simp [qx, -au,func187,f187,e1,e2,e3,w1,hq]at hE
  exact hE.symm
 rw [if_neg c3]
 by_cases c4:r=65
 ·rw [if_pos c4]
  subst c4
  obtain⟨ia,ul,e1,e2,e3,e4⟩:=Yk e h hm e.ak.av.length (Nat.le_refl _)
  rw [e4]
  clear h
  generalize hE:qx _ _ _=R
  simp [qx, -au,func187,f187,e1,e2,e3]at hE
  exact hE.symm
 rw [if_neg c4]
 generalize dI e=p at*
 clear h
 generalize hE:qx _ _ _=R
 simp [qx, -au,func187,f187,eb,c1,c2,c3,c4]at hE
 exact hE.symm
end
section
variable (e:dF) (h:fV e) (hm:e.bQ=2) {f:Int} {l:List ByteArray} (hh:iQ f l) (n:Nat) (hn:1≤n∧n≤999)
include h hm hh hn
theorem adC (ho:e.Op=0)(e1:eX [gL e,vI 120,vI (n:Int)] [] []=some (Ji (vC,0) false))(e2:aT [.aM (some 0) (ints e.ak.av),vI e.ak.At,vI 120,vI (n:Int)] [] []=some ⟨.fT [vI 0,V.v (.bool false),V.v (.bool false)],[],[]⟩):bA [gL e,aH f l,vI 120,vI (n:Int)] [] []=some (kR (iR e 100 (aS e) (min (aS e+n) e.ak.av.length))):=by
 obtain⟨a1,a2,a3,a4⟩:=h.aS
 simp only [vC,aZ,show aC []= []from rfl,show aG []= []from rfl]at e1
 have e3:=uJ e h hm 100 rfl (aS e) (min (aS e+n) e.ak.av.length) (by omega) (by omega)
 rw [show (((min (aS e+n) e.ak.av.length:Nat)):Int)=min (e.ak.At+n) e.ak.av.length from by omega,←a1]at e3
 have w1:=bM (e.ak.At+n) (by omega)
 generalize iR e 100 (aS e) (min (aS e+n) e.ak.av.length)=p at*
 clear h hh
 generalize hE:bA _ _ _=R
 unfold bA at hE
 simp only [gL,gO,hO,ho]at e1 e3 hE
 simp [-au,func103,f103,e1,e2,e3,w1]at hE
 exact hE.symm
theorem af2 (ho:e.Op=0)(e1:eX [gL e,vI 88,vI (n:Int)] [] []=some (Ji (vC,0) false))(e2:aT [.aM (some 0) (ints e.ak.av),vI e.ak.At,vI 88,vI (n:Int)] [] []=some ⟨.fT [vI 0,V.v (.bool false),V.v (.bool false)],[],[]⟩):bA [gL e,aH f l,vI 88,vI (n:Int)] [] []=some (kR (iR e 100 (aS e-n) (aS e))):=by
 obtain⟨a1,a2,a3,a4⟩:=h.aS
 simp only [vC,aZ,show aC []= []from rfl,show aG []= []from rfl]at e1
 have e3:=uJ e h hm 100 rfl (aS e-n) (aS e) (by omega) (by omega)
 rw [show (((aS e-n:Nat)):Int)=max (e.ak.At-n) 0 from by omega,←a1]at e3
 have w1:=bM (e.ak.At-n) (by omega)
 generalize iR e 100 (aS e-n) (aS e)=p at*
 clear h hh
 generalize hE:bA _ _ _=R
 unfold bA at hE
 simp only [gL,gO,hO,ho]at e1 e3 hE
 simp [-au,func103,f103,e1,e2,e3,w1]at hE
 exact hE.symm
theorem af3 (ho:e.Op=0)(e1:eX [gL e,vI 68,vI (n:Int)] [] []=some (Ji (vC,0) false))(e2:aT [.aM (some 0) (ints e.ak.av),vI e.ak.At,vI 68,vI (n:Int)] [] []=some ⟨.fT [vI 0,V.v (.bool false),V.v (.bool false)],[],[]⟩):bA [gL e,aH f l,vI 68,vI (n:Int)] [] []=some (kR (iR e 100 (aS e) e.ak.av.length)):=by
 obtain⟨a1,a2,a3,a4⟩:=h.aS
 simp only [vC,aZ,show aC []= []from rfl,show aG []= []from rfl]at e1
 have e3:=uJ e h hm 100 rfl (aS e) e.ak.av.length (by omega) (by omega)
 rw [←a1]at e3
 generalize iR e 100 (aS e) e.ak.av.length=p at*
 clear h hh
 generalize hE:bA _ _ _=R
 unfold bA at hE
 simp only [gL,gO,hO,ho]at e1 e3 hE
 simp [-au,func103,f103,e1,e2,e3]at hE
 exact hE.symm
theorem af4 (ho:e.Op=0)(e1:eX [gL e,vI 67,vI (n:Int)] [] []=some (Ji (vC,0) false))(e2:aT [.aM (some 0) (ints e.ak.av),vI e.ak.At,vI 67,vI (n:Int)] [] []=some ⟨.fT [vI 0,V.v (.bool false),V.v (.bool false)],[],[]⟩):bA [gL e,aH f l,vI 67,vI (n:Int)] [] []=some (kR (iR e 99 (aS e) e.ak.av.length)):=by
 obtain⟨a1,a2,a3,a4⟩:=h.aS
 simp only [vC,aZ,show aC []= []from rfl,show aG []= []from rfl]at e1
 have e3:=uJ e h hm 99 rfl (aS e) e.ak.av.length (by omega) (by omega)
 rw [←a1]at e3
 generalize iR e 99 (aS e) e.ak.av.length=p at*
 clear h hh
 generalize hE:bA _ _ _=R
 unfold bA at hE
 simp only [gL,gO,hO,ho]at e1 e3 hE
 simp [-au,func103,f103,e1,e2,e3]at hE
 exact hE.symm
theorem adD (ho:e.Op=0)(e1:eX [gL e,vI 115,vI (n:Int)] [] []=some (Ji (vC,0) false))(e2:aT [.aM (some 0) (ints e.ak.av),vI e.ak.At,vI 115,vI (n:Int)] [] []=some ⟨.fT [vI 0,V.v (.bool false),V.v (.bool false)],[],[]⟩):bA [gL e,aH f l,vI 115,vI (n:Int)] [] []=some (kR (iR e 99 (aS e) (min (aS e+n) e.ak.av.length))):=by
 obtain⟨a1,a2,a3,a4⟩:=h.aS
 simp only [vC,aZ,show aC []= []from rfl,show aG []= []from rfl]at e1
 have e3:=uJ e h hm 99 rfl (aS e) (min (aS e+n) e.ak.av.length) (by omega) (by omega)
 rw [show (((min (aS e+n) e.ak.av.length:Nat)):Int)=min (e.ak.At+n) e.ak.av.length from by omega,←a1]at e3
 have w1:=bM (e.ak.At+n) (by omega)
 generalize iR e 99 (aS e) (min (aS e+n) e.ak.av.length)=p at*
 clear h hh
 generalize hE:bA _ _ _=R
 unfold bA at hE
 simp only [gL,gO,hO,ho]at e1 e3 hE
 simp [-au,func103,f103,e1,e2,e3,w1]at hE
 exact hE.symm
theorem af5 (ho:e.Op=0)(e1:eX [gL e,vI 83,vI (n:Int)] [] []=some (Ji (vC,0) false))(e2:aT [.aM (some 0) (ints e.ak.av),vI e.ak.At,vI 83,vI (n:Int)] [] []=some ⟨.fT [vI 0,V.v (.bool false),V.v (.bool false)],[],[]⟩):bA [gL e,aH f l,vI 83,vI (n:Int)] [] []=some (kR (iR e 99 0 e.ak.av.length)):=by
 obtain⟨a1,a2,a3,a4⟩:=h.aS
 simp only [vC,aZ,show aC []= []from rfl,show aG []= []from rfl]at e1
 have e3:=uJ e h hm 99 rfl 0 e.ak.av.length (by omega) (by omega)
 simp only [Int.natCast_zero]at e3
 generalize iR e 99 0 e.ak.av.length=p at*
 clear h hh
 generalize hE:bA _ _ _=R
 unfold bA at hE
 simp only [gL,gO,hO,ho]at e1 e3 hE
 simp [-au,func103,f103,e1,e2,e3]at hE
 exact hE.symm
theorem adE (ho:e.Op=0)(e1:eX [gL e,vI 114,vI (n:Int)] [] []=some (Ji (vC,0) false))(e2:aT [.aM (some 0) (ints e.ak.av),vI e.ak.At,vI 114,vI (n:Int)] [] []=some ⟨.fT [vI 0,V.v (.bool false),V.v (.bool false)],[],[]⟩):bA [gL e,aH f l,vI 114,vI (n:Int)] [] []=some (kR ({e with fC:=114},0)):=by
 obtain⟨a1,a2,a3,a4⟩:=h.aS
 simp only [vC,aZ,show aC []= []from rfl,show aG []= []from rfl]at e1
 have e3:=eP e h
 clear h hh
 generalize hE:bA _ _ _=R
 unfold bA at hE
 simp only [gL,gO,hO,ho]at e1 e3 hE
 simp [-au,func103,f103,e1,e2,e3]at hE
 simp only [kR,gL,gO,hO,ho]
 exact hE.symm
theorem adF (ho:e.Op=0)(e1:eX [gL e,vI 112,vI (n:Int)] [] []=some (Ji (vC,0) false))(e2:aT [.aM (some 0) (ints e.ak.av),vI e.ak.At,vI 112,vI (n:Int)] [] []=some ⟨.fT [vI 0,V.v (.bool false),V.v (.bool false)],[],[]⟩):bA [gL e,aH f l,vI 112,vI (n:Int)] [] []=some (kR (Am e (min (aS e+1) e.ak.av.length) n)):=by
 obtain⟨a1,a2,a3,a4⟩:=h.aS
 simp only [vC,aZ,show aC []= []from rfl,show aG []= []from rfl]at e1
 have e3:=aa9 e h hm (min (aS e+1) e.ak.av.length) n (by omega) hn
 rw [show (((min (aS e+1) e.ak.av.length:Nat)):Int)=min (e.ak.At+1) e.ak.av.length from by omega]at e3
 have w1:=bM (e.ak.At+1) (by omega)
 generalize Am e (min (aS e+1) e.ak.av.length) n=p at*
 clear h hh
 generalize hE:bA _ _ _=R
 unfold bA at hE
 simp only [gL,gO,hO,ho]at e1 e3 hE
 simp [-au,func103,f103,e1,e2,e3,w1]at hE
 exact hE.symm
theorem af6 (ho:e.Op=0)(e1:eX [gL e,vI 80,vI (n:Int)] [] []=some (Ji (vC,0) false))(e2:aT [.aM (some 0) (ints e.ak.av),vI e.ak.At,vI 80,vI (n:Int)] [] []=some ⟨.fT [vI 0,V.v (.bool false),V.v (.bool false)],[],[]⟩):bA [gL e,aH f l,vI 80,vI (n:Int)] [] []=some (kR (Am e (aS e) n)):=by
 obtain⟨a1,a2,a3,a4⟩:=h.aS
 simp only [vC,aZ,show aC []= []from rfl,show aG []= []from rfl]at e1
 have e3:=aa9 e h hm (aS e) n a2 hn
 rw [←a1]at e3
 generalize Am e (aS e) n=p at*
 clear h hh
 generalize hE:bA _ _ _=R
 unfold bA at hE
 simp only [gL,gO,hO,ho]at e1 e3 hE
 simp [-au,func103,f103,e1,e2,e3]at hE
 exact hE.symm
theorem adG (ho:e.Op=0)(e1:eX [gL e,vI 126,vI (n:Int)] [] []=some (Ji (vC,0) false))(e2:aT [.aM (some 0) (ints e.ak.av),vI e.ak.At,vI 126,vI (n:Int)] [] []=some ⟨.fT [vI 0,V.v (.bool false),V.v (.bool false)],[],[]⟩):bA [gL e,aH f l,vI 126,vI (n:Int)] [] []=some (kR (uF e n)):=by
 obtain⟨a1,a2,a3,a4⟩:=h.aS
 simp only [vC,aZ,show aC []= []from rfl,show aG []= []from rfl]at e1
 have e3:=aaS e h hm n hn
 generalize uF e n=p at*
 clear h hh
 generalize hE:bA _ _ _=R
 unfold bA at hE
 simp only [gL,gO,hO,ho]at e1 e3 hE
 simp [-au,func103,f103,e1,e2,e3]at hE
 exact hE.symm
theorem adH (ho:e.Op=0)(e1:eX [gL e,vI 117,vI (n:Int)] [] []=some (Ji (vC,0) false))(e2:aT [.aM (some 0) (ints e.ak.av),vI e.ak.At,vI 117,vI (n:Int)] [] []=some ⟨.fT [vI 0,V.v (.bool false),V.v (.bool false)],[],[]⟩):bA [gL e,aH f l,vI 117,vI (n:Int)] [] []=some (kR (nK e)):=by
 obtain⟨a1,a2,a3,a4⟩:=h.aS
 simp only [vC,aZ,show aC []= []from rfl,show aG []= []from rfl]at e1
 have e3:=aeH e h
 generalize nK e=p at*
 clear h hh
 generalize hE:bA _ _ _=R
 unfold bA at hE
 simp only [gL,gO,hO,ho]at e1 e3 hE
 simp [-au,func103,f103,e1,e2,e3]at hE
 exact hE.symm
theorem adI (ho:e.Op=0)(e1:eX [gL e,vI 107,vI (n:Int)] [] []=some (Ji (vC,0) false))(e2:aT [.aM (some 0) (ints e.ak.av),vI e.ak.At,vI 107,vI (n:Int)] [] []=some ⟨.fT [vI 0,V.v (.bool false),V.v (.bool false)],[],[]⟩):bA [gL e,aH f l,vI 107,vI (n:Int)] [] []=some (kR (jP e f l (-1))):=by
 obtain⟨a1,a2,a3,a4⟩:=h.aS
 simp only [vC,aZ,show aC []= []from rfl,show aG []= []from rfl]at e1
 have e3:=Dr e h hh (-1) (.inr rfl)
 generalize jP e f l (-1)=p at*
 clear h hh
 generalize hE:bA _ _ _=R
 unfold bA at hE
 simp only [gL,gO,hO,ho]at e1 e3 hE
 simp [-au,func103,f103,e1,e2,e3]at hE
 exact hE.symm
theorem af7 (ho:e.Op=0)(e1:eX [gL e,vI 45,vI (n:Int)] [] []=some (Ji (vC,0) false))(e2:aT [.aM (some 0) (ints e.ak.av),vI e.ak.At,vI 45,vI (n:Int)] [] []=some ⟨.fT [vI 0,V.v (.bool false),V.v (.bool false)],[],[]⟩):bA [gL e,aH f l,vI 45,vI (n:Int)] [] []=some (kR (jP e f l (-1))):=by
 obtain⟨a1,a2,a3,a4⟩:=h.aS
 simp only [vC,aZ,show aC []= []from rfl,show aG []= []from rfl]at e1
 have e3:=Dr e h hh (-1) (.inr rfl)
 generalize jP e f l (-1)=p at*
 clear h hh
 generalize hE:bA _ _ _=R
 unfold bA at hE
 simp only [gL,gO,hO,ho]at e1 e3 hE
 simp [-au,func103,f103,e1,e2,e3]at hE
 exact hE.symm
theorem adJ (ho:e.Op=0)(e1:eX [gL e,vI 106,vI (n:Int)] [] []=some (Ji (vC,0) false))(e2:aT [.aM (some 0) (ints e.ak.av),vI e.ak.At,vI 106,vI (n:Int)] [] []=some ⟨.fT [vI 0,V.v (.bool false),V.v (.bool false)],[],[]⟩):bA [gL e,aH f l,vI 106,vI (n:Int)] [] []=some (kR (jP e f l 1)):=by
 obtain⟨a1,a2,a3,a4⟩:=h.aS
 simp only [vC,aZ,show aC []= []from rfl,show aG []= []from rfl]at e1
 have e3:=Dr e h hh 1 (.inl rfl)
 generalize jP e f l 1=p at*
 clear h hh
 generalize hE:bA _ _ _=R
 unfold bA at hE
 simp only [gL,gO,hO,ho]at e1 e3 hE
 simp [-au,func103,f103,e1,e2,e3]at hE
 exact hE.symm
theorem af8 (ho:e.Op=0)(e1:eX [gL e,vI 43,vI (n:Int)] [] []=some (Ji (vC,0) false))(e2:aT [.aM (some 0) (ints e.ak.av),vI e.ak.At,vI 43,vI (n:Int)] [] []=some ⟨.fT [vI 0,V.v (.bool false),V.v (.bool false)],[],[]⟩):bA [gL e,aH f l,vI 43,vI (n:Int)] [] []=some (kR (jP e f l 1)):=by
 obtain⟨a1,a2,a3,a4⟩:=h.aS
 simp only [vC,aZ,show aC []= []from rfl,show aG []= []from rfl]at e1
 have e3:=Dr e h hh 1 (.inl rfl)
 generalize jP e f l 1=p at*
 clear h hh
 generalize hE:bA _ _ _=R
 unfold bA at hE
 simp only [gL,gO,hO,ho]at e1 e3 hE
 simp [-au,func103,f103,e1,e2,e3]at hE
 exact hE.symm
theorem af9 (ho:e.Op=0)(e1:eX [gL e,vI 47,vI (n:Int)] [] []=some (Ji (vC,0) false))(e2:aT [.aM (some 0) (ints e.ak.av),vI e.ak.At,vI 47,vI (n:Int)] [] []=some ⟨.fT [vI 0,V.v (.bool false),V.v (.bool false)],[],[]⟩):bA [gL e,aH f l,vI 47,vI (n:Int)] [] []=some (kR (Cn e)):=by
 obtain⟨a1,a2,a3,a4⟩:=h.aS
 simp only [vC,aZ,show aC []= []from rfl,show aG []= []from rfl]at e1
 have e3:=Yb e h
 generalize Cn e=p at*
 clear h hh
 generalize hE:bA _ _ _=R
 unfold bA at hE
 simp only [gL,gO,hO,ho]at e1 e3 hE
 simp [-au,func103,f103,e1,e2,e3]at hE
 exact hE.symm
theorem aga (r:Int)(ho:e.Op=0)(e1:eX [gL e,vI r,vI (n:Int)] [] []=some (Ji (vC,0) false))(e2:aT [.aM (some 0) (ints e.ak.av),vI e.ak.At,vI r,vI (n:Int)] [] []=some ⟨.fT [vI 0,V.v (.bool false),V.v (.bool false)],[],[]⟩)(agb:¬r=120)(c88:¬r=88)(c68:¬r=68)(c67:¬r=67)(agc:¬r=115)(c83:¬r=83)(Kt:¬r=114)(Kr:¬r=112)(c80:¬r=80)(agd:¬r=126)(c117:¬r=117)(c107:¬r=107)(c45:¬r=45)(agf:¬r=106)(c43:¬r=43)(c47:¬r=47):bA [gL e,aH f l,vI r,vI (n:Int)] [] []=some (kR (Jd e r)):=by
 obtain⟨a1,a2,a3,a4⟩:=h.aS
 simp only [vC,aZ,show aC []= []from rfl,show aG []= []from rfl]at e1
 have e3:=ait e h hm r
 generalize Jd e r=p at*
 clear h hh
 generalize hE:bA _ _ _=R
 unfold bA at hE
 simp only [gL,gO,hO,ho]at e1 e3 hE
 simp [-au,func103,f103,e1,e2,e3,agb,c88,c68,c67,agc,c83,Kt,Kr,c80,agd,c117,c107,c45,agf,c43,c47]at hE
 exact hE.symm
theorem akM (r:Int)(ho:e.Op=0)(e1:eX [gL e,vI r,vI (n:Int)] [] []=some (Ji (vC,0) false))(e2:aT [.aM (some 0) (ints e.ak.av),vI e.ak.At,vI r,vI (n:Int)] [] []=some ⟨.fT [vI 0,V.v (.bool false),V.v (.bool false)],[],[]⟩):bA [gL e,aH f l,vI r,vI (n:Int)] [] []=some (kR (zY e f l r n)):=by
 unfold zY
 by_cases agb:r=120
 ·rw [if_pos agb];subst agb;exact adC e h hm hh n hn ho e1 e2
 rw [if_neg agb]
 by_cases c88:r=88
 ·rw [if_pos c88];subst c88;exact af2 e h hm hh n hn ho e1 e2
 rw [if_neg c88]
 by_cases c68:r=68
 ·rw [if_pos c68];subst c68;exact af3 e h hm hh n hn ho e1 e2
 rw [if_neg c68]
 by_cases c67:r=67
 ·rw [if_pos c67];subst c67;exact af4 e h hm hh n hn ho e1 e2
 rw [if_neg c67]
 by_cases agc:r=115
 ·rw [if_pos agc];subst agc;exact adD e h hm hh n hn ho e1 e2
 rw [if_neg agc]
 by_cases c83:r=83
 ·rw [if_pos c83];subst c83;exact af5 e h hm hh n hn ho e1 e2
 rw [if_neg c83]
 by_cases Kt:r=114
 ·rw [if_pos Kt];subst Kt;exact adE e h hm hh n hn ho e1 e2
 rw [if_neg Kt]
 by_cases Kr:r=112
 ·rw [if_pos Kr];subst Kr;exact adF e h hm hh n hn ho e1 e2
 rw [if_neg Kr]
 by_cases c80:r=80
 ·rw [if_pos c80];subst c80;exact af6 e h hm hh n hn ho e1 e2
 rw [if_neg c80]
 by_cases agd:r=126
 ·rw [if_pos agd];subst agd;exact adG e h hm hh n hn ho e1 e2
 rw [if_neg agd]
 by_cases c117:r=117
 ·rw [if_pos c117];subst c117;exact adH e h hm hh n hn ho e1 e2
 rw [if_neg c117]
 by_cases c107:r=107
 ·rw [if_pos (.inl c107)];subst c107;exact adI e h hm hh n hn ho e1 e2
 by_cases c45:r=45
 ·rw [if_pos (.inr c45)];subst c45;exact af7 e h hm hh n hn ho e1 e2
 rw [if_neg (fun q=>q.elim c107 c45)]
 by_cases agf:r=106
 ·rw [if_pos (.inl agf)];subst agf;exact adJ e h hm hh n hn ho e1 e2
 by_cases c43:r=43
 ·rw [if_pos (.inr c43)];subst c43;exact af8 e h hm hh n hn ho e1 e2
 rw [if_neg (fun q=>q.elim agf c43)]
 by_cases c47:r=47
 ·rw [if_pos c47];subst c47;exact af9 e h hm hh n hn ho e1 e2
 rw [if_neg c47]
 exact aga e h hm hh n hn r ho e1 e2 agb c88 c68 c67 agc c83 Kt Kr c80 agd c117 c107 c45 agf c43 c47
theorem adK (r:Int):bA [gL e,aH f l,vI r,vI (n:Int)] [] []=some (kR (tV e f l r n)):=by
 obtain⟨a1,a2,a3,a4⟩:=h.aS
 have e1:=ais e h hm r n hn
 unfold tV
 cases hb:Gn e r n with
 | some p=>
  rw [hb]at e1
  simp only
  clear h hh
  generalize hE:bA _ _ _=R
  simp [bA, -au,func103,f103,e1]at hE
  exact hE.symm
 | none=>
  rw [hb]at e1
  have e1':eX [gL e,vI r,vI (n:Int)] [] []=some (Ji (vC,0) false):=e1
  simp only [kRo,vC,aZ,show aC []= []from rfl,show aG []= []from rfl]at e1
  simp only
  by_cases c1:¬e.Op=0∧r=e.Op
  ·rw [if_pos c1]
   obtain⟨c2,c3⟩:=c1
   have hop:opC r=true:=by rw [c3];exact h.op.resolve_left c2
   have e3:=uJ e h hm r hop 0 e.ak.av.length (by omega) (Nat.le_refl _)
   simp only [Int.natCast_zero]at e3
   generalize iR e r 0 e.ak.av.length=p at*
   have c4:¬r=0:=by rw [c3];exact c2
   clear h hh
   generalize hE:bA _ _ _=R
   unfold bA at hE
   simp only [gL,gO,hO,←c3]at e1 e3 hE
   simp [-au,func103,f103,e1,e3,c4]at hE
   exact hE.symm
  rw [if_neg c1]
  have e2:=Qg e.ak.av (some 0) (aS e) n a2 (by omega) hn r
  rw [←a1]at e2
  cases hmv:gN e.ak.av (aS e) r n with
  | some q=>
   rw [hmv]at e2
   have e3:=QT e h hm q.1 q.2 (Ab a2 hmv)
   simp only
   generalize tT e q.1 q.2=p at*
   simp only [mR]at e2
   clear h hh
   generalize hE:bA _ _ _=R
   unfold bA at hE
   by_cases c2:e.Op=0
   ·simp only [gL,gO,hO,c2]at e1 e3 hE
    simp [-au,func103,f103,e1,e2,e3]at hE
    exact hE.symm
   ·have c3:¬r=e.Op:=fun q=>c1 ⟨c2,q⟩
    simp [-au,func103,f103,e1,e2,e3,c2,c3]at hE
    exact hE.symm
  | none=>
   rw [hmv]at e2
   simp only
   by_cases c2:e.Op=0
   ·rw [if_neg (fun q=>q c2)]
    exact akM e h hm hh n hn r c2 e1' e2
   ·rw [if_pos c2]
    have c3:¬r=e.Op:=fun q=>c1 ⟨c2,q⟩
    have e3:=l5 e h
    generalize dI e=p at*
    simp only [mR]at e2
    clear h hh
    generalize hE:bA _ _ _=R
    simp [bA, -au,func103,f103,e1,e2,e3,c2,c3]at hE
    exact hE.symm
end
section
variable (e:dF) (h:fV e) {f:Int} {l:List ByteArray} (hh:iQ f l)
include h hh
theorem aiu (k r:Int)(hk:jk k r=true)(hm:e.bQ=1∨e.bQ=2):l9 [gL e,aH f l,aK k r] [] []=some (kR (viE e f l k r)):=by
 obtain⟨a1,a2,a3,a4⟩:=h.aS
 have ec:=qE e h hh k r hk
 unfold viE
 by_cases m1:e.bQ=1
 ·rw [if_pos m1]
  have e1:=aax e h hh k r hk
  cases hp:pO e f l k r with
  | some p=>
   rw [hp]at e1
   simp only
   clear h hh
   generalize hE:l9 _ _ _=R
   unfold l9 at hE
   simp only [gL,gO,hO,m1]at ec e1 hE
   simp [-au,func37,f37,ec,e1]at hE
   exact hE.symm
  | none=>
   rw [hp]at e1
   simp only [kRo,vC,aZ,show aC []= []from rfl,show aG []= []from rfl]at e1
   simp only
   by_cases c7:k=7
   ·rw [if_pos c7]
    subst c7
    have e2:=eP e h
    have w1:=bM (e.ak.At-1) (by omega)
    unfold ajn
    clear h hh
    generalize hE:l9 _ _ _=R
    unfold l9 at hE
    simp only [gL,gO,hO,m1]at ec e1 e2 hE
    simp [-au,func37,f37,ec,e1,e2,w1]at hE
    exact hE.symm
   ·rw [if_neg c7]
    have e2:=l5 e h
    generalize dI e=p at*
    clear h hh
    generalize hE:l9 _ _ _=R
    unfold l9 at hE
    simp only [gL,gO,hO,m1]at ec e1 e2 hE
    simp [-au,func37,f37,ec,e1,e2,c7]at hE
    exact hE.symm
 rw [if_neg m1]
 have m2:e.bQ=2:=hm.resolve_left m1
 obtain⟨n1,n2,n3⟩:=h.gW
 have hmul:max e.bD 1*max e.bN 1≤999*999:=Int.mul_le_mul (by have:=h.cnt;omega) (by have:=h.za;omega) (by omega) (by omega)
 have ah2:0≤max e.bD 1*max e.bN 1:=Int.mul_nonneg (by omega) (by omega)
 have w:=bM (max e.bD 1*max e.bN 1) (by omega)
 by_cases c1:e.fC=0
 ·rw [if_neg (fun q=>q c1)]
  by_cases c2:k=1
  ·rw [if_neg (fun q=>q c2)]
   subst c2
   have e1:=adK e h m2 hh (Proofs.YtlpdjhiggpblcaaGreat.gW e) ⟨n1,n2⟩ r
   rw [n3]at e1
   generalize tV e f l r (Proofs.YtlpdjhiggpblcaaGreat.gW e)=p at*
   clear h hh
   generalize hE:l9 _ _ _=R
   unfold l9 at hE
   simp only [gL,gO,hO,m2,c1]at ec e1 hE
   simp [-au,func37,f37,ec,e1,w]at hE
   exact hE.symm
  ·rw [if_pos c2]
   have e1:=adB e h m2 hh k r (Proofs.YtlpdjhiggpblcaaGreat.gW e) ⟨n1,n2⟩
   rw [n3]at e1
   generalize xU e f l k r (Proofs.YtlpdjhiggpblcaaGreat.gW e)=p at*
   clear h hh
   generalize hE:l9 _ _ _=R
   unfold l9 at hE
   simp only [gL,gO,hO,m2,c1]at ec e1 hE
   simp [-au,func37,f37,ec,e1,w,c2]at hE
   exact hE.symm
 ·rw [if_pos c1]
  have e1:=af0 e h m2 k r (Proofs.YtlpdjhiggpblcaaGreat.gW e) ⟨n1,n2⟩ c1 hk
  rw [n3]at e1
  generalize xS e k r (Proofs.YtlpdjhiggpblcaaGreat.gW e)=p at*
  clear h hh
  generalize hE:l9 _ _ _=R
  unfold l9 at hE
  simp only [gL,gO,hO,m2]at ec e1 hE
  simp [-au,func37,f37,ec,e1,w,c1]at hE
  exact hE.symm
end
abbrev edW (e:dF):V:= .agg [V.v (.bool e.Vi),vI e.bQ, .own 0,vI e.ak.At,vI e.bD,vI e.Op,vI e.bN,vI e.fC,vI e.dY,vI e.bL,vI e.iO, .own 1, .own 2,vI e.kr, .own 3,vI e.gX.At, .aM none [],vI e.lV, .own 4,vI e.bX.At]
abbrev kRw (p:dF×Int):Cw:=⟨.fT [edW p.1,vI p.2],[],[(0,ints p.1.ak.av),(1,aC p.1.aL.aA),(2,aG p.1.fD.bT),(3,ints p.1.gX.av),(4,ints p.1.bX.av)]⟩
def yt (e:dF)(k:Int):Prop:=e.bQ=3∧k=5∧e.bO.length=1
instance (e:dF) (k:Int):Decidable (yt e k):=inferInstanceAs (Decidable (e.bQ=3∧k=5∧e.bO.length=1))
def kX (e:dF)(k:Int)(p:dF×Int):Cw:=if yt e k then kRw p else kR p
theorem fV.broke {e:dF}(h:fV e)(hm:e.bQ=3):fV {e with ak:=e.bX,kr:=0,gX:=⟨[],0⟩}:=by
 refine⟨h.back,rfl,h.back,h.cnt,h.za,h.mode,?_,h.cmd,h.opz,h.op,h.wait,h.find,h.last,h.ring,h.undo,⟨by show(0:Int)≤0;omega,by show(0:Int)≤1000000060;omega⟩,h.hit, .inr rfl,h.ql,h.qp, .inl hm⟩
 rintro ⟨q1, -⟩
 have q1:e.bQ=2:=q1
 omega
section
variable (e:dF) (h:fV e)
include h
theorem QU:FV [gL e] [] []=some ⟨(gO (xV e)),[],(hO (xV e))⟩:=by
 have e0:=eP e h
 have hl:=bS h.line
 unfold xV
 cases hv:e.Vi with
 | true=>
  have e1:=xO e.ak.av e.ak.At 2 (by omega)
  rw [if_pos rfl]
  generalize jl 2 e.ak.av e.ak.At=ia at*
  clear h
  generalize hE:FV _ _ _=R
  unfold FV at hE
  simp only [gL,gO,hO,hv]at e0 hE
  simp [-au,func99,f99,e0,e1]at hE
  exact hE.symm
 | false=>
  have e1:=xO e.ak.av e.ak.At 0 (by omega)
  rw [if_neg (by decide)]
  generalize jl 0 e.ak.av e.ak.At=ia at*
  clear h
  generalize hE:FV _ _ _=R
  unfold FV at hE
  simp only [gL,gO,hO,hv]at e0 hE
  simp [-au,func99,f99,e0,e1]at hE
  exact hE.symm
variable {f:Int} {l:List ByteArray} (hh:iQ f l) (hm:e.bQ=3)
include hh hm
theorem TS (r:Int)(hk:jk 5 r=true)(hq:¬e.bO= []):cu [gL e,aH f l,aK 5 r] [] []=some (kX e 5 ({e with bO:=e.bO.dropLast},0)):=by
 have e1:=qE e h hh 5 r hk
 have e0:=eP e h
 have Kq:=h.ql
 have hpos:=List.length_pos_iff.2 hq
 have w1:=bM ((e.bO.length:Int)-1) (by omega)
 have k1:((e.bO.length:Int)-1).toNat=e.bO.length-1:=by omega
 have k3:¬(e.bO.length:Int)=0:=by omega
 have k4:¬e.bO.length=0:=by omega
 have k6:(1:Int)≤e.bO.length:=by omega
 have k7:(e.bO.length:Int)-1≤e.bO.length:=by omega
 rw [List.dropLast_eq_take]
 by_cases h1:e.bO.length=1
 ·have hw:yt e 5:=⟨hm,rfl,h1⟩
  unfold kX
  rw [if_pos hw]
  have k5:¬0<e.bO.length-1:=by omega
  clear h hh
  generalize hE:cu _ _ _=R
  unfold cu at hE
  simp only [gL,gO,hO,hm]at e0 e1 hE
  simp [-au,func36,f36,e0,e1,w1,k1,k3,k4,k5,k6,k7,hpos,hq]at hE
  simp only [gL,gO,hO,hm]
  exact hE.symm
 ·have hw:¬yt e 5:=fun q=>h1 q.2.2
  unfold kX
  rw [if_neg hw]
  have k5:0<e.bO.length-1:=by omega
  clear h hh
  generalize hE:cu _ _ _=R
  unfold cu at hE
  simp only [gL,gO,hO,hm]at e0 e1 hE
  simp [-au,func36,f36,e0,e1,w1,k1,k3,k4,k5,k6,k7,hpos,hq]at hE
  simp only [gL,gO,hO,hm]
  exact hE.symm
theorem Yl (hk:jk 2 114=true)(hq:e.bO= []):cu [gL e,aH f l,aK 2 114] [] []=some (kR (e,1)):=by
 have e1:=qE e h hh 2 114 hk
 have e0:=eP e h
 have k4:e.bO.length=0:=by rw [hq];rfl
 clear h hh
 generalize hE:cu _ _ _=R
 unfold cu at hE
 simp only [gL,gO,hO,hm]at e0 e1 hE
 simp [-au,func36,f36,e0,e1,k4]at hE
 simp only [kR,gL,gO,hO,hm]
 exact hE.symm
theorem Ym (hk:jk 2 114=true)(hq:¬e.bO= []):cu [gL e,aH f l,aK 2 114] [] []=some (kR (Je e f l e.bO (e.lV-1))):=by
 have e1:=qE e h hh 2 114 hk
 have hhit:=h.hit
 have Kq:=h.ql
 have e2:=aeJ e h hh e.bO (e.lV-1) hm h.qp (by omega) (by omega)
 have w1:=bM (e.lV-1) (by omega)
 have k4:0<e.bO.length:=List.length_pos_iff.2 hq
 generalize Je e f l e.bO (e.lV-1)=p at*
 clear h hh
 generalize hE:cu _ _ _=R
 unfold cu at hE
 simp only [gL,gO,hO,hm]at e1 e2 hE
 simp [-au,func36,f36,e1,e2,w1,k4]at hE
 exact hE.symm
theorem Yn (r:Int)(hk:jk 5 r=true)(hq:e.bO= []):cu [gL e,aH f l,aK 5 r] [] []=some (kR (e,1)):=by
 have e1:=qE e h hh 5 r hk
 have e0:=eP e h
 have k4:e.bO.length=0:=by rw [hq];rfl
 clear h hh
 generalize hE:cu _ _ _=R
 unfold cu at hE
 simp only [gL,gO,hO,hm]at e0 e1 hE
 simp [-au,func36,f36,e0,e1,k4]at hE
 simp only [kR,gL,gO,hO,hm]
 exact hE.symm
theorem Qy (r:Int)(hk:jk 4 r=true):cu [gL e,aH f l,aK 4 r] [] []=some (kR (xV e,2)):=by
 have e1:=qE e h hh 4 r hk
 have e2:=QU e h
 generalize xV e=p at*
 clear h hh
 generalize hE:cu _ _ _=R
 unfold cu at hE
 simp only [gL,gO,hO,hm]at e1 e2 hE
 simp [-au,func36,f36,e1,e2]at hE
 exact hE.symm
theorem UW (hk:jk 2 103=true):cu [gL e,aH f l,aK 2 103] [] []=some (kR (xV {e with ak:=e.bX,kr:=0,gX:=⟨[],0⟩},1)):=by
 have e1:=qE e h hh 2 103 hk
 have e0:=eP e h
 have e3:=j4 e.bX.av (some 0) e.bX.At (by have:=(bS h.back).1;omega)
 have e2:=QU {e with ak:=e.bX,kr:=0,gX:=⟨[],0⟩} (h.broke hm)
 generalize xV {e with ak:=e.bX,kr:=0,gX:=⟨[],0⟩}=p at*
 simp only [gL,gO,hO,aZ]at e2
 clear h hh
 generalize hE:cu _ _ _=R
 unfold cu at hE
 simp only [gL,gO,hO,hm]at e0 e1 e2 e3 hE
 simp [-au,func36,f36,e0,e1,e2,e3]at hE
 exact hE.symm
theorem Yo (hk:jk 2 99=true):cu [gL e,aH f l,aK 2 99] [] []=some (kR (xV {e with ak:=e.bX,kr:=0,gX:=⟨[],0⟩},1)):=by
 have e1:=qE e h hh 2 99 hk
 have e0:=eP e h
 have e3:=j4 e.bX.av (some 0) e.bX.At (by have:=(bS h.back).1;omega)
 have e2:=QU {e with ak:=e.bX,kr:=0,gX:=⟨[],0⟩} (h.broke hm)
 generalize xV {e with ak:=e.bX,kr:=0,gX:=⟨[],0⟩}=p at*
 simp only [gL,gO,hO,aZ]at e2
 clear h hh
 generalize hE:cu _ _ _=R
 unfold cu at hE
 simp only [gL,gO,hO,hm]at e0 e1 e2 e3 hE
 simp [-au,func36,f36,e0,e1,e2,e3]at hE
 exact hE.symm
theorem TT (k r:Int)(hk:jk k r=true)(c1:¬k=1)(c4:¬k=4)(c5:¬k=5)(c2:¬(k=2∧(r=114∨r=103∨r=99))):cu [gL e,aH f l,aK k r] [] []=some (kR (xV e,0)):=by
 have e1:=qE e h hh k r hk
 have e2:=QU e h
 generalize xV e=p at*
 clear h hh
 generalize hE:cu _ _ _=R
 unfold cu at hE
 simp only [gL,gO,hO,hm]at e1 e2 hE
 by_cases c6:k=2
 ·have c7:¬r=114:=fun q=>c2 ⟨c6, .inl q⟩
  have c8:¬r=103:=fun q=>c2 ⟨c6, .inr (.inl q)⟩
  have c9:¬r=99:=fun q=>c2 ⟨c6, .inr (.inr q)⟩
  simp [-au,func36,f36,e1,e2,c1,c4,c5,c7,c8,c9]at hE
  exact hE.symm
 ·simp [-au,func36,f36,e1,e2,c1,c4,c5,c6]at hE
  exact hE.symm
theorem Yp (k r:Int)(hk:jk k r=true):cu [gL e,aH f l,aK k r] [] []=some (kX e k (zu e f l k r)):=by
 unfold zu
 by_cases c5:k=5
 ·subst c5
  rw [if_neg (by decide),if_neg (by omega),if_pos rfl]
  by_cases hq:e.bO= []
  ·have hw:¬yt e 5:=fun q=>by have:=q.2.2;rw [hq]at this;simp at this
   rw [if_pos hq,kX,if_neg hw]
   exact Yn e h hh hm r hk hq
  ·rw [if_neg hq]
   exact TS e h hh hm r hk hq
 have hw:¬yt e k:=fun q=>c5 q.2.1
 rw [kX,if_neg hw]
 by_cases c1:k=1
 ·rw [if_pos c1]
  subst c1
  exact TM e h hh r hm (by simpa [jk] using hk)
 rw [if_neg c1]
 by_cases c2:k=2∧r=114
 ·rw [if_pos c2]
  obtain⟨rfl,rfl⟩:=c2
  by_cases hq:e.bO= []
  ·rw [if_pos hq];exact Yl e h hh hm hk hq
  ·rw [if_neg hq];exact Ym e h hh hm hk hq
 rw [if_neg c2,if_neg c5]
 by_cases c4:k=4
 ·rw [if_pos c4];subst c4;exact Qy e h hh hm r hk
 rw [if_neg c4]
 by_cases c3:k=2∧(r=103∨r=99)
 ·rw [if_pos c3]
  obtain⟨rfl,rfl|rfl⟩:=c3
  ·exact UW e h hh hm hk
  ·exact Yo e h hh hm hk
 rw [if_neg c3]
 exact TT e h hh hm k r hk c1 c4 c5 (fun q=>q.2.elim (fun x=>c2 ⟨q.1,x⟩) (fun x=>c3 ⟨q.1,x⟩))
end
section
variable (e:dF) (h:fV e) {f:Int} {l:List ByteArray} (hh:iQ f l)
include h hh
theorem aiv (k r:Int)(hk:jk k r=true):j3 [gL e,aH f l,aK k r] [] []=some (kX e k (vZ e f l k r)):=by
 unfold vZ
 by_cases m0:e.bQ=0
 ·have hw:¬yt e k:=fun q=>by have:=q.1;omega
  rw [if_pos m0,kX,if_neg hw]
  have e1:=aa8 e h hh k r hk m0
  generalize DY e f l k r=p at*
  clear h hh
  generalize hE:j3 _ _ _=R
  unfold j3 at hE
  simp only [gL,gO,hO,m0]at e1 hE
  simp [-au,func7,f7,e1]at hE
  exact hE.symm
 rw [if_neg m0]
 by_cases m3:e.bQ=3
 ·rw [if_pos m3]
  have e1:=Yp e h hh m3 k r hk
  generalize zu e f l k r=p at*
  clear h hh
  unfold kX at*
  generalize hE:j3 _ _ _=R
  unfold j3 at hE
  simp only [gL,gO,hO,m3]at e1 hE
  by_cases hw:yt e k
  ·rw [if_pos hw]at e1⊢
   simp [-au,func7,f7,e1]at hE
   exact hE.symm
  ·rw [if_neg hw]at e1⊢
   simp [-au,func7,f7,e1]at hE
   exact hE.symm
 rw [if_neg m3]
 have hw:¬yt e k:=fun q=>m3 q.1
 rw [kX,if_neg hw]
 have e1:=aiu e h hh k r hk (by rcases h.mode with q|q|q<;>omega)
 generalize viE e f l k r=p at*
 clear h hh
 generalize hE:j3 _ _ _=R
 simp [j3, -au,func7,f7,e1,m0,m3]at hE
 exact hE.symm
end
def Ad (f:Int)(l:List ByteArray):Bool:=iq f 1 1000000000&&(decide (l.length≤60)&&l.all fun s=>iq (s.size:Int) 1 1000)
theorem Ki {f:Int}{l:List ByteArray}:Ad f l=true↔iQ f l:=by
 unfold Ad
 rw [Bool.and_eq_true,Bool.and_eq_true,decide_eq_true_eq]
 constructor
 ·rintro ⟨h1,h2,h3⟩
  exact⟨bB.1 h1,h2,fun s hs=>by have:=bB.1 (List.all_eq_true.1 h3 s hs);omega⟩
 ·rintro ⟨h1,h2,h3⟩
  exact⟨bB.2 h1,h2,List.all_eq_true.2 fun s hs=>bB.2 (by have:=h3 s hs;omega)⟩
theorem UY (f:Int)(l:List ByteArray):nZ [.agg [vI f, .aM (some 0) (strs l)]] [] []=some ⟨V.v (.bool (Ad f l)),[],[]⟩:=by
 cases q1:iq f 1 1000000000
 ·have hb:Ad f l=false:=by unfold Ad;rw [q1];rfl
  rw [hb]
  simp [nZ,func72,f72,dG,q1]
 by_cases q2:l.length≤60
 ·have q3:¬(60:Int)<l.length:=by omega
  have hb:Ad f l=l.all fun s=>iq (s.size:Int) 1 1000:=by unfold Ad;rw [q1,decide_eq_true q2];rfl
  rw [hb]
  generalize hE:nZ _ _ _=R
  simp [nZ,func72,f72,dG,q1,q3]at hE
  rcases lg (fun s:ByteArray=>iq (s.size:Int) 1 1000) l with hall|⟨hall,N,hN,h1,h2⟩
  ·rw [hall]
   rw [aF (fun j=> .on ⟨[(18,V.v (.int .i64 ((j:Int)))),(17,V.v (.int .i64 ((l.length:Int)))),(16, .aM (some 0) (strs l))],[],[],[]⟩) l.length ?_ ?_]at hE
   ·simp at hE
    exact hE.symm
   ·simp
   ·intro j hj
    have hw:=bM ((j:Int)+1) (by omega)
    have q4:=List.all_eq_true.1 hall l[j] (List.getElem_mem hj)
    simp [hj,hw,dG,q4]
  ·rw [hall]
   rw [aF (fun j=> .on ⟨[(18,V.v (.int .i64 ((j:Int)))),(17,V.v (.int .i64 ((l.length:Int)))),(16, .aM (some 0) (strs l))],[],[],[]⟩) N ?_ ?_]at hE
   ·simp [hN,dG,h1]at hE
    exact hE.symm
   ·simp
   ·intro j hj
    have hjl:j<l.length:=by omega
    have hw:=bM ((j:Int)+1) (by omega)
    have q4:=h2 j hjl hj
    simp [hjl,hw,dG,q4]
 ·have q3:(60:Int)<l.length:=by omega
  have hb:Ad f l=false:=by unfold Ad;rw [decide_eq_false q2];simp
  rw [hb]
  simp [nZ,func72,f72,dG,q1,q3]
theorem adL (e:dF)(hsm:e.sm):CW [gL e] [] []=some ⟨V.v (.bool e.ok),[],[]⟩:=by
 have hE:=aeE e.Vi e.bQ e.ak.av e.ak.At e.bD e.Op e.bN e.fC e.dY e.bL e.iO e.aL.aA e.fD.bT e.kr e.gX.av e.gX.At e.bO e.lV e.bX.av e.bX.At hsm.h1 hsm.h2 hsm.h3 hsm.h4 hsm.h5 hsm.h6
 exact hE
theorem Yq (k r:Int):Es [aK k r] [] []=some ⟨V.v (.bool (jk k r)),[],[]⟩:=aa7 vC (fA.1 (by decide)) (f:=1) (l:= []) ⟨by omega,by simp,by simp⟩ k r
def OX (e:dF)(f:Int)(l:List ByteArray)(k r:Int):Bool:=e.ok&&(Ad f l&&jk k r)
theorem UZ (e:dF)(hsm:e.sm)(f:Int)(l:List ByteArray)(k r:Int):rQ [gL e,aH f l,aK k r] [] []=some ⟨V.v (.bool (OX e f l k r)),[],[]⟩:=by
 have e1:=adL e hsm
 have e2:=UY f l
 have e3:=Yq k r
 unfold OX
 generalize hE:rQ _ _ _=R
 unfold rQ at hE
 cases h1:e.ok
 ·rw [h1]at e1
  simp [func88,f88,e1]at hE
  exact hE.symm
 cases h2:Ad f l
 ·rw [h1]at e1
  rw [h2]at e2
  simp [func88,f88,e1,e2]at hE
  exact hE.symm
 ·rw [h1]at e1
  rw [h2]at e2
  simp [func88,f88,e1,e2,e3]at hE
  exact hE.symm
theorem abk (e:dF)(hsm:e.sm)(f:Int)(l:List ByteArray)(k r:Int)(h:OX e f l k r=false):j3 [gL e,aH f l,aK k r] [] []=some (kR (vC,0)):=by
 have e1:=UZ e hsm f l k r
 rw [h]at e1
 simp only [kR,gL,gO,hO,vC,aZ,show aC []= []from rfl,show aG []= []from rfl]
 by_cases m0:e.bQ=0
 ·have e2:jv [gL e,aH f l,aK k r] [] []=some ⟨.fT [.agg [V.v (.bool false),vI 0, .own 0,vI 0,vI 0,vI 0,vI 0,vI 0,vI 0,vI 0,vI 0, .own 1, .own 2,vI 0, .own 3,vI 0, .own 4,vI 0, .own 5,vI 0],vI 0],[],[(0,[]),(1,[]),(2,[]),(3,[]),(4,[]),(5,[])]⟩:=by
   simp [jv,func35,f35,e1]
  generalize hE:j3 _ _ _=R
  unfold j3 at hE
  simp only [gL,gO,hO,m0]at e2 hE
  simp [-au,func7,f7,e2]at hE
  exact hE.symm
 by_cases m3:e.bQ=3
 ·have e2:cu [gL e,aH f l,aK k r] [] []=some ⟨.fT [.agg [V.v (.bool false),vI 0, .own 0,vI 0,vI 0,vI 0,vI 0,vI 0,vI 0,vI 0,vI 0, .own 1, .own 2,vI 0, .own 3,vI 0, .own 4,vI 0, .own 5,vI 0],vI 0],[],[(0,[]),(1,[]),(2,[]),(3,[]),(4,[]),(5,[])]⟩:=by
   simp [cu,func36,f36,e1]
  generalize hE:j3 _ _ _=R
  unfold j3 at hE
  simp only [gL,gO,hO,m3]at e2 hE
  simp [-au,func7,f7,e2]at hE
  exact hE.symm
 have e2:l9 [gL e,aH f l,aK k r] [] []=some ⟨.fT [.agg [V.v (.bool false),vI 0, .own 0,vI 0,vI 0,vI 0,vI 0,vI 0,vI 0,vI 0,vI 0, .own 1, .own 2,vI 0, .own 3,vI 0, .own 4,vI 0, .own 5,vI 0],vI 0],[],[(0,[]),(1,[]),(2,[]),(3,[]),(4,[]),(5,[])]⟩:=by
  simp [l9,func37,f37,e1]
 generalize hE:j3 _ _ _=R
 simp [j3, -au,func7,f7,e2,m0,m3]at hE
 exact hE.symm
theorem Yr (e:dF)(hsm:e.sm)(f:Int)(l:List ByteArray)(k r:Int):j3 [gL e,aH f l,aK k r] [] []=some (if OX e f l k r=true then kX e k (vZ e f l k r)else kR (vC,0)):=by
 cases h:OX e f l k r
 ·rw [if_neg (by decide)]
  exact abk e hsm f l k r h
 ·rw [if_pos rfl]
  simp only [OX,Bool.and_eq_true]at h
  exact aiv e (fA.1 h.1) (Ki.1 h.2.1) k r h.2.2
theorem LH (e:dF)(hsm:e.sm):rY [gL e] [] []=some ⟨V.v (.bool e.ok),[],[]⟩:=
 aeF e.Vi e.bQ e.ak.av e.ak.At e.bD e.Op e.bN e.fC e.dY e.bL e.iO e.aL.aA e.fD.bT e.kr e.gX.av e.gX.At e.bO e.lV e.bX.av e.bX.At hsm.h1 hsm.h2 hsm.h3 hsm.h4 hsm.h5 hsm.h6
section
variable (e:dF) (h:fV e) {f:Int} {l:List ByteArray} (hh:iQ f l)
include h hh
theorem adM (n:Int)(q:List Int)(hm:e.bQ=3)(hq:q.all dn=true)(hq2:q.length≤41)(hn:n=0∨(f≤n∧n≤f+l.length-1)):Ci [gL e,aH f l,vI n, .aM (some 7) (ints q)] [] []=some (sR (nA e f l n q)):=by
 have h1:=hh.first
 have h2:=hh.len
 have e1:=tZ e (fA.2 h)
 have e2:=gG e h
 have e3:=Jq f l hh n (by omega)
 have e4:=Wi q (by omega)
 have e5:=lK e.bX.av (some 0) e.bX.At (by have:=(bS h.back).1;omega)
 have hdl:(⟨(bJ q).toArray⟩:ByteArray).data.toList=bJ q:=rfl
 have hts:(⟨(bJ q).toArray⟩:ByteArray).size≤1000000:=by
  have:=Gg q
  show(bJ q).toArray.size≤1000000
  rw [List.size_toArray];omega
 generalize hE:Ci _ _ _=R
 unfold Ci at hE
 cases hg:pK f l n with
 | none=>
  rw [hg]at e3
  have hx:nA e f l n q=none:=by unfold nA;rw [hg];split<;>rfl
  rw [hx]
  have hzl:=pU ⟨#[]⟩ (by decide)
  have hz:mD ⟨#[]⟩=some []:=by
   unfold mD
   obtain⟨q1,q2⟩:=xX reads_nil
   rw [q1,q2,if_pos ⟨rfl,by decide⟩]
  rw [hz]at hzl
  simp only [aZ,List.length_nil,Int.natCast_zero]at hzl
  have e7:=Qh ⟨#[]⟩ ⟨(bJ q).toArray⟩ (by decide) hts
  generalize Kh ⟨#[]⟩ (⟨(bJ q).toArray⟩:ByteArray).data.toList=rt at*
  clear h hh
  simp only [gL,gO,hO,hm]at e1 e2 hE
  simp [-au,func201,f201,e1,e3,hzl,e4,e7]at hE
  exact hE.symm
 | some s=>
  rw [hg]at e3
  have hss:=rT hh hg
  have e7:=Qh s ⟨(bJ q).toArray⟩ (by omega) hts
  rw [hdl]at e7
  have e8:=pU s (by omega)
  cases hl:mD s with
  | none=>
   rw [hl]at e8
   have hx:nA e f l n q=none:=by unfold nA;rw [hg];simp only [hl];split<;>rfl
   rw [hx]
   generalize Kh s (bJ q)=rt at*
   clear h hh
   simp only [gL,gO,hO,hm]at e1 e2 hE
   simp [-au,func201,f201,e1,e3,e8,e4,e7]at hE
   exact hE.symm
  | some t=>
   rw [hl]at e8
   obtain⟨to1,to2⟩:=J6 hl
   have htl:t.length≤400:=by simp only [eO,Bool.and_eq_true,decide_eq_true_eq]at to1;exact to1.1
   by_cases hi:0≤Lib.index s.data.toList (bJ q)
   ·have hrt:Kh s (bJ q)=((su (s.extract 0 (Lib.index s.data.toList (bJ q)).toNat)).length:Int):=if_pos hi
    rw [hrt]at e7
    have hok:=fun Kq:q.length≤40=>fV.shown (x:= {e with gX:=if e.kr=0 then e.bX else e.gX,ak:=⟨t,(su (s.extract 0 (Lib.index s.data.toList (bJ q)).toNat)).length⟩,bO:=q,lV:=n,kr:=n,fD:=⟨[]⟩}) h hm hh hq (by unfold nA;rw [if_pos Kq,hg];simp only [hl];rw [if_pos hi])
    have hx:nA e f l n q=if q.length≤40 then some {e with gX:=if e.kr=0 then e.bX else e.gX,ak:=⟨t,(su (s.extract 0 (Lib.index s.data.toList (bJ q)).toNat)).length⟩,bO:=q,lV:=n,kr:=n,fD:=⟨[]⟩}else none:=by
     unfold nA;rw [hg];simp only [hl];rw [if_pos hi]
    rw [hx]
    generalize (su (s.extract 0 (Lib.index s.data.toList (bJ q)).toNat)).length=front at*
    have ajy:∀w:fH,w.av.length≤400→dF.sm {e with gX:=w,ak:=⟨t,(front:Int)⟩,bO:=q,lV:=n,kr:=n,fD:=⟨[]⟩}:=fun w hw=>⟨by show t.length≤1000000000;omega,by show w.av.length≤1000000000;omega,(dF.SG (fA.2 h)).h3,by show q.length≤1000000000;omega,(dF.SG (fA.2 h)).h5,rfl⟩
    have g1:q.length≤4611686018427387904:=by omega
    have g2:q.length*8≤140737488355328:=by omega
    have hf0:¬(front:Int)<0:=by omega
    by_cases hn0:e.kr=0
    ·rw [if_pos hn0]at hok⊢
     have e9:=LH _ (ajy e.bX (bS h.back).1)
     have hok':dF.ok {e with gX:=e.bX,ak:=⟨t,(front:Int)⟩,bO:=q,lV:=n,kr:=n,fD:=⟨[]⟩}=decide (q.length≤40):=by
      by_cases Kq:q.length≤40
      ·rw [decide_eq_true Kq];exact fA.2 (hok Kq)
      ·rw [decide_eq_false Kq]
       cases hz:dF.ok {e with gX:=e.bX,ak:=⟨t,(front:Int)⟩,bO:=q,lV:=n,kr:=n,fD:=⟨[]⟩}with
       | false=>rfl
       | true=>exact absurd (fA.1 hz).ql Kq
     rw [hok']at e9
     clear hok hok' ajy h hh hx
     simp only [gL,gO,hO,hm,aZ,show aG []= []from rfl]at e1 e2 e9 hE
     by_cases Kq:q.length≤40
     ·rw [if_pos Kq]
      rw [decide_eq_true Kq]at e9
      simp only [gL,gO,hO,hn0]at e1 e2 hE
      simp [-au,func201,f201,e1,e2,e3,e4,e5,e7,e8,e9,g1,g2,hf0]at hE
      simp only [sR,hm]
      exact hE.symm
     ·rw [if_neg Kq]
      rw [decide_eq_false Kq]at e9
      simp only [gL,gO,hO,hn0]at e1 e2 hE
      simp [-au,func201,f201,e1,e2,e3,e4,e5,e7,e8,e9,g1,g2,hf0]at hE
      exact hE.symm
    ·rw [if_neg hn0]at hok⊢
     have e9:=LH _ (ajy e.gX (bS h.own).1)
     have hok':dF.ok {e with gX:=e.gX,ak:=⟨t,(front:Int)⟩,bO:=q,lV:=n,kr:=n,fD:=⟨[]⟩}=decide (q.length≤40):=by
      by_cases Kq:q.length≤40
      ·rw [decide_eq_true Kq];exact fA.2 (hok Kq)
      ·rw [decide_eq_false Kq]
       cases hz:dF.ok {e with gX:=e.gX,ak:=⟨t,(front:Int)⟩,bO:=q,lV:=n,kr:=n,fD:=⟨[]⟩}with
       | false=>rfl
       | true=>exact absurd (fA.1 hz).ql Kq
     rw [hok']at e9
     clear hok hok' ajy h hh hx
     simp only [gL,gO,hO,hm,aZ,show aG []= []from rfl]at e1 e2 e9 hE
     by_cases Kq:q.length≤40
     ·rw [if_pos Kq]
      rw [decide_eq_true Kq]at e9
      simp [-au,func201,f201,e1,e2,e3,e4,e7,e8,e9,g1,g2,hf0,hn0]at hE
      simp only [sR,hm]
      exact hE.symm
     ·rw [if_neg Kq]
      rw [decide_eq_false Kq]at e9
      simp [-au,func201,f201,e1,e2,e3,e4,e7,e8,e9,g1,g2,hf0,hn0]at hE
      exact hE.symm
   ·have hrt:Kh s (bJ q)= -1:=if_neg hi
    rw [hrt]at e7
    have hx:nA e f l n q=none:=by unfold nA;rw [hg];simp only [hl];rw [if_neg hi];split<;>rfl
    rw [hx]
    clear h hh
    simp only [gL,gO,hO,hm]at e1 e2 hE
    simp [-au,func201,f201,e1,e3,e8,e4,e7]at hE
    exact hE.symm
theorem adN (q:List Int)(fr:Int)(hm:e.bQ=3)(hq:q.all dn=true)(hq2:q.length≤41)(hfr: -2≤fr∧fr≤2000000000)(p:dF×Int)
  (hp:p=(match nA e f l (jc f (bJ q) fr l l.length) q with|none=>(e,1)|some x=>(x,0))):tu [gL e,aH f l, .aM (some 7) (ints q),vI fr] [] []=some (kR p):=by
 have h1:=hh.first
 have h2:=hh.len
 have e0:=gG e h
 have e2:=Wi q (by omega)
 have hts:(⟨(bJ q).toArray⟩:ByteArray).size≤1000000:=by
  have:=Gg q
  show(bJ q).toArray.size≤1000000
  rw [List.size_toArray];omega
 have e3:=abh f l hh ⟨(bJ q).toArray⟩ hts fr hfr
 have hdl:(⟨(bJ q).toArray⟩:ByteArray).data.toList=bJ q:=rfl
 rw [hdl]at e3
 have e4:=adM e h hh (jc f (bJ q) fr l l.length) q hm hq hq2 (by
  rcases Jm (sub:=bJ q) (fr:=fr) (l:=l) h1.1 l.length with h|⟨k,h3,h4⟩
  ·exact .inl h
  ·exact .inr (by omega))
 generalize jc f (bJ q) fr l l.length=n at*
 generalize hE:tu _ _ _=R
 unfold tu at hE
 clear h hh
 cases hs:nA e f l n q with
 | none=>
  rw [hs]at e4 hp
  subst hp
  simp [-au,func112,f112,e0,e2,e3,e4]at hE
  exact hE.symm
 | some x=>
  rw [hs]at e4 hp
  subst hp
  simp [-au,func112,f112,e2,e3,e4]at hE
  exact hE.symm
end
section
variable (e:dF) (h:fV e) {f:Int} {l:List ByteArray} (hh:iQ f l) (hm:e.bQ=3)
include h hh hm
theorem Jw (q:List Int)(fr:Int)(hq:q.all dn=true)(hq2:q.length≤41)(hfr: -2≤fr∧fr≤2000000000):tu [gL e,aH f l, .aM (some 7) (ints q),vI (if e.lV=0 then gI f l else fr)] [] []=some (kR (Je e f l q fr)):=by
 have h1:=hh.first
 have h2:=hh.len
 have hlast:0≤gI f l∧gI f l≤1000000059:=by unfold gI;split<;>omega
 exact adN e h hh q (if e.lV=0 then gI f l else fr) hm hq hq2 (by split<;>omega) _ rfl
theorem GR (k r:Int)(hk:jk k r=true)(p:dF×Int)(hp:
  (k=1∧tu [gL e,aH f l, .aM (some 7) (ints (e.bO++ [r])),vI (if e.lV=0 then gI f l else e.lV)] [] []=some (kR p))∨
  (k=2∧r=114∧e.bO= []∧p.1=e∧p.2=1)∨
  (k=2∧r=114∧¬e.bO= []∧tu [gL e,aH f l, .aM (some 7) (ints e.bO),vI (if e.lV=0 then gI f l else e.lV-1)] [] []=some (kR p))∨
  (k=5∧e.bO= []∧p.1=e∧p.2=1)∨
  (k=4∧uU [gL e] [] []=some ⟨gO p.1,[],hO p.1⟩∧p.2=2)∨
  (k=2∧(r=103∨r=99)∧uU [gL {e with ak:=e.bX,kr:=0,gX:=⟨[],0⟩}] [] []=some ⟨gO p.1,[],hO p.1⟩∧p.2=1)∨
  (¬k=1∧¬k=4∧¬k=5∧((k=2∧¬r=114∧¬r=103∧¬r=99)∨¬k=2)∧uU [gL e] [] []=some ⟨gO p.1,[],hO p.1⟩∧p.2=0)):
  jH [gL e,aH f l,aK k r] [] []=some (kR p):=by
 have ea:=tZ e (fA.2 h)
 have eb:=uE f l hh
 have ec:=rA k r
 rw [hk]at ec
 have eL:=Jp f l hh
 have e0:=gG e h
 have hhit:=h.hit
 have w1:=bM (e.lV-1) (by omega)
 have Kq:=h.ql
 have e5:=lK e.bX.av (some 0) e.bX.At (by have:=(bS h.back).1;omega)
 have ej:=fun i j k=>tY e.bO [r] [] i j k (by simp;omega)
 simp only [N8,aZ,List.append_nil]at ej
 obtain⟨p1,p2⟩:=p
 simp only at hp
 clear h hh hk
 generalize hE:jH _ _ _=R
 unfold jH at hE
 by_cases hz:e.lV=0
 ·simp only [if_pos hz]at hp
  simp only [gL,gO,hO,hm,hz,aZ,show aG []= []from rfl]at ea e0 hp hE
  rcases hp with⟨rfl,e1⟩|⟨rfl,rfl,z1,z2,rfl⟩|⟨rfl,rfl,z1,e1⟩|⟨rfl,z1,z2,rfl⟩|⟨rfl,e1,rfl⟩|⟨rfl,rfl|rfl,e1,rfl⟩|⟨d1,d2,d3,⟨rfl,d4,d5,d6⟩|d4,e1,rfl⟩
  ·simp [-au,func39,f39,ea,eb,ec,eL,w1,ej,e1]at hE
   exact hE.symm
  ·rw [z2]
   simp only [gL,gO,hO,z1,aZ]at ea e0 hE
   simp [-au,func39,f39,ea,eb,ec,eL,e0,w1]at hE
   simp only [kR,gL,gO,hO,hm,hz,z1,aZ]
   exact hE.symm
  ·simp [-au,func39,f39,ea,eb,ec,eL,w1,z1,e1]at hE
   exact hE.symm
  ·rw [z2]
   simp only [gL,gO,hO,z1,aZ]at ea e0 hE
   simp [-au,func39,f39,ea,eb,ec,eL,e0,w1]at hE
   simp only [kR,gL,gO,hO,hm,hz,z1,aZ]
   exact hE.symm
  ·simp [-au,func39,f39,ea,eb,ec,eL,w1,e1]at hE
   exact hE.symm
  ·simp [-au,func39,f39,ea,eb,ec,eL,w1,e0,e5,e1]at hE
   exact hE.symm
  ·simp [-au,func39,f39,ea,eb,ec,eL,w1,e0,e5,e1]at hE
   exact hE.symm
  ·simp [-au,func39,f39,ea,eb,ec,eL,w1,e1,d4,d5,d6]at hE
   exact hE.symm
  ·simp [-au,func39,f39,ea,eb,ec,eL,w1,e1,d1,d2,d3,d4]at hE
   exact hE.symm
 ·simp only [if_neg hz]at hp
  simp only [gL,gO,hO,hm,aZ,show aG []= []from rfl]at ea e0 hp hE
  rcases hp with⟨rfl,e1⟩|⟨rfl,rfl,z1,z2,rfl⟩|⟨rfl,rfl,z1,e1⟩|⟨rfl,z1,z2,rfl⟩|⟨rfl,e1,rfl⟩|⟨rfl,rfl|rfl,e1,rfl⟩|⟨d1,d2,d3,⟨rfl,d4,d5,d6⟩|d4,e1,rfl⟩
  ·simp [-au,func39,f39,ea,eb,ec,eL,w1,ej,e1,hz]at hE
   exact hE.symm
  ·rw [z2]
   simp only [gL,gO,hO,z1,aZ]at ea e0 hE
   simp [-au,func39,f39,ea,eb,ec,eL,e0,w1,hz]at hE
   simp only [kR,gL,gO,hO,hm,z1,aZ]
   exact hE.symm
  ·simp [-au,func39,f39,ea,eb,ec,eL,w1,z1,e1,hz]at hE
   exact hE.symm
  ·rw [z2]
   simp only [gL,gO,hO,z1,aZ]at ea e0 hE
   simp [-au,func39,f39,ea,eb,ec,eL,e0,w1,hz]at hE
   simp only [kR,gL,gO,hO,hm,z1,aZ]
   exact hE.symm
  ·simp [-au,func39,f39,ea,eb,ec,eL,w1,e1,hz]at hE
   exact hE.symm
  ·simp [-au,func39,f39,ea,eb,ec,eL,w1,e0,e5,e1,hz]at hE
   exact hE.symm
  ·simp [-au,func39,f39,ea,eb,ec,eL,w1,e0,e5,e1,hz]at hE
   exact hE.symm
  ·simp [-au,func39,f39,ea,eb,ec,eL,w1,e1,d4,d5,d6,hz]at hE
   exact hE.symm
  ·simp [-au,func39,f39,ea,eb,ec,eL,w1,e1,d1,d2,d3,d4,hz]at hE
   exact hE.symm
end
section
variable (e:dF) (h:fV e) {f:Int} {l:List ByteArray} (hh:iQ f l) (hm:e.bQ=3)
include h hh hm
theorem TU (r:Int)(hk:jk 5 r=true)(hq:¬e.bO= []):jH [gL e,aH f l,aK 5 r] [] []=some (kX e 5 ({e with bO:=e.bO.dropLast},0)):=by
 have ea:=tZ e (fA.2 h)
 have eb:=uE f l hh
 have ec:=rA 5 r
 rw [hk]at ec
 have eL:=Jp f l hh
 have e0:=gG e h
 have hhit:=h.hit
 have w0:=bM (e.lV-1) (by omega)
 have Kq:=h.ql
 have hpos:=List.length_pos_iff.2 hq
 have w1:=bM ((e.bO.length:Int)-1) (by omega)
 have k1:((e.bO.length:Int)-1).toNat=e.bO.length-1:=by omega
 have k3:¬(e.bO.length:Int)=0:=by omega
 have k4:¬e.bO.length=0:=by omega
 have k6:(1:Int)≤e.bO.length:=by omega
 have k7:(e.bO.length:Int)-1≤e.bO.length:=by omega
 rw [List.dropLast_eq_take]
 by_cases h1:e.bO.length=1
 ·have hw:yt e 5:=⟨hm,rfl,h1⟩
  unfold kX
  rw [if_pos hw]
  have k5:¬0<e.bO.length-1:=by omega
  clear h hh
  generalize hE:jH _ _ _=R
  unfold jH at hE
  by_cases hz:e.lV=0
  ·simp only [gL,gO,hO,hm,hz]at ea e0 hE
   simp [-au,func39,f39,ea,eb,ec,eL,e0,w0,w1,k1,k3,k4,k5,k6,k7,hpos,hq]at hE
   simp only [hm,hz]
   exact hE.symm
  ·simp only [gL,gO,hO,hm]at ea e0 hE
   simp [-au,func39,f39,ea,eb,ec,eL,e0,w0,w1,k1,k3,k4,k5,k6,k7,hpos,hq,hz]at hE
   simp only [gL,gO,hO,hm]
   exact hE.symm
 ·have hw:¬yt e 5:=fun q=>h1 q.2.2
  unfold kX
  rw [if_neg hw]
  have k5:0<e.bO.length-1:=by omega
  clear h hh
  generalize hE:jH _ _ _=R
  unfold jH at hE
  by_cases hz:e.lV=0
  ·simp only [gL,gO,hO,hm,hz]at ea e0 hE
   simp [-au,func39,f39,ea,eb,ec,eL,e0,w0,w1,k1,k3,k4,k5,k6,k7,hpos,hq]at hE
   simp only [hm,hz]
   exact hE.symm
  ·simp only [gL,gO,hO,hm]at ea e0 hE
   simp [-au,func39,f39,ea,eb,ec,eL,e0,w0,w1,k1,k3,k4,k5,k6,k7,hpos,hq,hz]at hE
   simp only [gL,gO,hO,hm]
   exact hE.symm
theorem Yt (k r:Int)(hk:jk k r=true):jH [gL e,aH f l,aK k r] [] []=some (kX e k (zu e f l k r)):=by
 have hhit:=h.hit
 have Kq:=h.ql
 unfold zu
 by_cases c5:k=5
 ·subst c5
  rw [if_neg (by decide),if_neg (by omega),if_pos rfl]
  by_cases hq:e.bO= []
  ·have hw:¬yt e 5:=fun q=>by have:=q.2.2;rw [hq]at this;simp at this
   rw [if_pos hq,kX,if_neg hw]
   exact GR e h hh hm 5 r hk _ (.inr (.inr (.inr (.inl ⟨rfl,hq,rfl,rfl⟩))))
  ·rw [if_neg hq]
   exact TU e h hh hm r hk hq
 have hw:¬yt e k:=fun q=>c5 q.2.1
 rw [kX,if_neg hw]
 refine GR e h hh hm k r hk _ ?_
 by_cases c1:k=1
 ·rw [if_pos c1]
  have hp:dn r=true:=by subst c1;simpa [jk] using hk
  exact .inl ⟨c1,Jw e h hh hm (e.bO++ [r]) e.lV (by rw [List.all_append,h.qp];simp [hp]) (by simp;omega) (by omega)⟩
 rw [if_neg c1]
 by_cases c2:k=2∧r=114
 ·rw [if_pos c2]
  by_cases hq:e.bO= []
  ·rw [if_pos hq];exact .inr (.inl ⟨c2.1,c2.2,hq,rfl,rfl⟩)
  ·rw [if_neg hq];exact .inr (.inr (.inl ⟨c2.1,c2.2,hq,Jw e h hh hm e.bO (e.lV-1) h.qp (by omega) (by omega)⟩))
 rw [if_neg c2,if_neg c5]
 refine .inr (.inr (.inr (.inr ?_)))
 have eL:=abj e h hm
 by_cases c4:k=4
 ·rw [if_pos c4];exact .inl ⟨c4,eL,rfl⟩
 rw [if_neg c4]
 by_cases c3:k=2∧(r=103∨r=99)
 ·rw [if_pos c3]
  exact .inr (.inl ⟨c3.1,c3.2,abj _ (h.broke hm) hm,rfl⟩)
 rw [if_neg c3]
 refine .inr (.inr ⟨c1,c4,c5,?_,eL,rfl⟩)
 by_cases c6:k=2
 ·exact .inl ⟨c6,fun q=>c2 ⟨c6,q⟩,fun q=>c3 ⟨c6, .inl q⟩,fun q=>c3 ⟨c6, .inr q⟩⟩
 ·exact .inr c6
end
def Kj (e:dF)(k r:Int):Prop:=(e.bQ=0∧k=2∧r=95)∨(e.bQ=2∧k=1∧e.fC=0∧e.Op=0∧r=117)
instance (e:dF) (k r:Int):Decidable (Kj e k r):=inferInstanceAs (Decidable ((e.bQ=0∧k=2∧r=95)∨(e.bQ=2∧k=1∧e.fC=0∧e.Op=0∧r=117)))
section
variable (e:dF) (h:fV e) {f:Int} {l:List ByteArray} (hh:iQ f l)
include h hh
theorem aiw (k r:Int)(hk:jk k r=true)(hy:eU [gL e] [] []=some (kR (mU e)))(hu:Kj e k r→iM [gL e] [] []=some (kR (nK e))):iU [gL e,aH f l,aK k r] [] []=some (kX e k (vZ e f l k r)):=by
 unfold vZ
 by_cases m0:e.bQ=0
 ·have hw:¬yt e k:=fun q=>by have:=q.1;omega
  rw [if_pos m0,kX,if_neg hw]
  have e1:=aaQ e h hh k r hk m0 hy fun q1 q2=>hu (.inl ⟨m0,q1,q2⟩)
  generalize DY e f l k r=p at*
  clear h hh hy hu
  generalize hE:iU _ _ _=R
  unfold iU at hE
  simp only [gL,gO,hO,m0]at e1 hE
  simp [-au,func8,f8,e1]at hE
  exact hE.symm
 rw [if_neg m0]
 by_cases m3:e.bQ=3
 ·rw [if_pos m3]
  have e1:=Yt e h hh m3 k r hk
  generalize zu e f l k r=p at*
  clear h hh hy hu
  unfold kX at*
  generalize hE:iU _ _ _=R
  unfold iU at hE
  simp only [gL,gO,hO,m3]at e1 hE
  by_cases hw:yt e k
  ·rw [if_pos hw]at e1⊢
   simp [-au,func8,f8,e1]at hE
   exact hE.symm
  ·rw [if_neg hw]at e1⊢
   simp [-au,func8,f8,e1]at hE
   exact hE.symm
 rw [if_neg m3]
 have hw:¬yt e k:=fun q=>m3 q.1
 rw [kX,if_neg hw]
 have e1:=aiq e h hh k r hk (by rcases h.mode with q|q|q<;>omega) fun q1 q2 q3 q4 q5=>hu (.inr ⟨q1,q2,q3,q4,q5⟩)
 generalize viE e f l k r=p at*
 clear h hh hy hu
 generalize hE:iU _ _ _=R
 simp [iU, -au,func8,f8,e1,m0,m3]at hE
 exact hE.symm
end
theorem abl (l:List dL)(h:iG l=true):zR [.agg [.aM (some 0) (aC l)]] [] []=some ⟨.agg [.own 0],[],[(0,aC (kS l))]⟩:=by
 obtain⟨hl,hp⟩:=wS h
 have e1:=dH l (EI h)
 rw [h]at e1
 have e3:=Lp l (some 0) (by omega) (fun p hq=>by have:=(hp p hq).2.1;omega)
 have hrow:∀r∈aC l,∃q,r= [D.l q]:=fun r hr=>by
  obtain⟨i,hi⟩:=List.getElem?_of_mem hr
  have hlt:i<l.length:=by have:=(List.getElem?_eq_some_iff.1 hi).1;simpa using this
  rw [dX hlt]at hi
  injection hi with hi
  exact⟨_,hi.symm⟩
 unfold zR
 simp only
 rw [if_pos ⟨e1,e3,hrow,by simp;omega⟩,Nv]
section
variable (e:dF) (h:fV e)
include h
theorem Qz:eU [gL e] [] []=some (kR (mU e)):=by
 obtain⟨h1,h2,h3,h4⟩:=h.aS
 have e1:pE [.agg [.aM (some 0) (aC e.aL.aA)]] [] []=some ⟨.own 0,[],[(0,ints (bE e.aL.aA))]⟩:=Gv e.aL.aA h.ring
 have hr:=SX h.ring
 have e2:=abl e.aL.aA h.ring
 have e3:pE [.agg [.aM (some 0) (aC (kS e.aL.aA))]] [] []=some ⟨.own 0,[],[(0,ints (bE (kS e.aL.aA)))]⟩:=Gv _ hr
 have e4:=jB e h
 have e5:=gG e h
 obtain⟨t1,t2⟩:=xW h.ring
 obtain⟨t3,t4⟩:=xW hr
 have w:=bM (e.ak.At-(bE e.aL.aA).length) (by omega)
 have hlen:=h.line
 unfold mU
 by_cases hc:P9 e=true
 ·obtain⟨c1,c2,c3,c4⟩:e.iO=3∧¬bE e.aL.aA= []∧(bE e.aL.aA).length≤aS e∧(e.ak.av.drop (aS e-(bE e.aL.aA).length)).take (bE e.aL.aA).length=bE e.aL.aA:=by
   simpa [P9] using hc
  obtain⟨q1,q2,q3⟩:=tX h.line (show aS e-(bE e.aL.aA).length≤aS e by omega) h2
  have e6:=Cq e.ak.av e.ak.At h.line (aS e-(bE e.aL.aA).length) (aS e) (by omega) h2
  have hca:cutAt e.ak.At ((aS e-(bE e.aL.aA).length:Nat):Int) (aS e:Int)=((aS e-(bE e.aL.aA).length:Nat):Int):=by
   unfold cutAt;rw [if_pos (by omega)];omega
  rw [hca]at e6 q1
  have e7:=Co (nW e.ak.av (aS e-(bE e.aL.aA).length) (aS e)) (bE (kS e.aL.aA)) ((aS e-(bE e.aL.aA).length:Nat):Int) q1 t3 (by omega)
  rw [Int.toNat_natCast]at e7
  have hsame:=Gu (bE e.aL.aA) (bE e.aL.aA) (by omega) (by omega)
  rw [decide_eq_true rfl]at hsame
  have hF:((aS e-(bE e.aL.aA).length:Nat):Int)=e.ak.At-(bE e.aL.aA).length:=by omega
  have k1:(e.ak.At-((bE e.aL.aA).length:Int)).toNat=aS e-(bE e.aL.aA).length:=by omega
  have k2:e.ak.At.toNat=aS e:=rfl
  have k3:aS e-(aS e-(bE e.aL.aA).length)=(bE e.aL.aA).length:=by omega
  have k4:0≤e.ak.At-((bE e.aL.aA).length:Int):=by omega
  have k5:e.ak.At-((bE e.aL.aA).length:Int)≤e.ak.At:=by omega
  have k6:e.ak.At≤e.ak.av.length:=by omega
  have k7:¬e.ak.At<((bE e.aL.aA).length:Int):=by omega
  have k8:¬((bE e.aL.aA).length:Int)=0:=by have:=List.length_pos_iff.2 c2;omega
  have k9:0≤e.ak.At:=by omega
  have kA:((bE e.aL.aA).length:Int)≤e.ak.At:=by omega
  rw [hF,←h1]at e6
  by_cases hl:(nW e.ak.av (aS e-(bE e.aL.aA).length) (aS e)).length+(bE (kS e.aL.aA)).length≤400
  ·rw [if_pos ⟨hc,hl⟩]
   rw [if_pos hl]at e7
   obtain⟨-,z2, -, -⟩:=bS q1
   have e8:=qC {e with aL:=⟨kS e.aL.aA⟩} (h.Nh hr) (Al (nW e.ak.av (aS e-(bE e.aL.aA).length) (aS e)) (aS e-(bE e.aL.aA).length) (bE (kS e.aL.aA))) (((aS e-(bE e.aL.aA).length:Nat):Int)+(bE (kS e.aL.aA)).length) 3 ((zx hl z2 t3 (by omega)).2 _ (by omega) (by omega)) (by omega)
   generalize Al (nW e.ak.av (aS e-(bE e.aL.aA).length) (aS e)) (aS e-(bE e.aL.aA).length) (bE (kS e.aL.aA))=Y at*
   unfold nW at e7
   rw [hF]at e7 e8
   generalize hX:e.ak.av.take (aS e-(bE e.aL.aA).length)++e.ak.av.drop (aS e)=X at*
   rw [hF]
   generalize sF {e with aL:=⟨kS e.aL.aA⟩} Y (e.ak.At-(bE e.aL.aA).length+(bE (kS e.aL.aA)).length) 3=p at*
   generalize bE (kS e.aL.aA)=tn at*
   generalize bE e.aL.aA=tp at*
   generalize kS e.aL.aA=tr at*
   clear h hlen
   generalize hE:eU _ _ _=R
   unfold eU at hE
   simp only [gL,gO,hO,c1]at e4 e5 e8 hE
   simp [-au,func190,f190,e1,e2,e3,e5,e6,e7,e8,hsame,w,k1,k2,k3,k4,k5,k6,k7,k8,k9,kA,c2,c4]at hE
   exact hE.symm
  ·rw [if_neg (fun q=>hl q.2)]
   rw [if_neg hl]at e7
   unfold nW at e7
   rw [hF]at e7
   generalize hX:e.ak.av.take (aS e-(bE e.aL.aA).length)++e.ak.av.drop (aS e)=X at*
   generalize dI e=p at*
   generalize bE (kS e.aL.aA)=tn at*
   generalize bE e.aL.aA=tp at*
   generalize kS e.aL.aA=tr at*
   clear h hlen
   generalize hE:eU _ _ _=R
   unfold eU at hE
   simp only [gL,gO,hO,c1]at e4 e5 hE
   simp [-au,func190,f190,e1,e2,e3,e4,e6,e7,hsame,w,k1,k2,k3,k4,k5,k6,k7,k8,k9,kA,c2,c4]at hE
   exact hE.symm
 ·rw [if_neg (fun q=>hc q.1)]
  generalize dI e=p at*
  have hc':¬(e.iO=3∧¬bE e.aL.aA= []∧(bE e.aL.aA).length≤aS e∧(e.ak.av.drop (aS e-(bE e.aL.aA).length)).take (bE e.aL.aA).length=bE e.aL.aA):=fun q=>hc (by simpa [P9] using q)
  by_cases c1:e.iO=3
  ·by_cases c2:bE e.aL.aA= []
   ·rw [c2]at e1
    simp only [aZ]at e1
    generalize hE:eU _ _ _=R
    unfold eU at hE
    simp only [gL,gO,hO,c1]at e4 hE
    simp [-au,func190,f190,e1,e4]at hE
    exact hE.symm
   ·have k8:¬((bE e.aL.aA).length:Int)=0:=by have:=List.length_pos_iff.2 c2;omega
    by_cases c3:(bE e.aL.aA).length≤aS e
    ·have c4:¬(e.ak.av.drop (aS e-(bE e.aL.aA).length)).take (bE e.aL.aA).length=bE e.aL.aA:=fun q=>hc' ⟨c1,c2,c3,q⟩
     have hsame:=Gu ((e.ak.av.drop (aS e-(bE e.aL.aA).length)).take (bE e.aL.aA).length) (bE e.aL.aA) (by simp;omega) (by omega)
     rw [decide_eq_false c4]at hsame
     have k1:(e.ak.At-((bE e.aL.aA).length:Int)).toNat=aS e-(bE e.aL.aA).length:=by omega
     have k2:e.ak.At.toNat=aS e:=rfl
     have k3:aS e-(aS e-(bE e.aL.aA).length)=(bE e.aL.aA).length:=by omega
     have k4:0≤e.ak.At-((bE e.aL.aA).length:Int):=by omega
     have k5:e.ak.At-((bE e.aL.aA).length:Int)≤e.ak.At:=by omega
     have k6:e.ak.At≤e.ak.av.length:=by omega
     have k7:¬e.ak.At<((bE e.aL.aA).length:Int):=by omega
     have k9:0≤e.ak.At:=by omega
     have kA:((bE e.aL.aA).length:Int)≤e.ak.At:=by omega
     generalize bE e.aL.aA=tp at*
     generalize hE:eU _ _ _=R
     unfold eU at hE
     simp only [gL,gO,hO,c1]at e4 hE
     simp [-au,func190,f190,e1,e4,hsame,w,k1,k2,k3,k4,k5,k6,k7,k8,k9,kA,c2]at hE
     exact hE.symm
    ·have k7:e.ak.At<((bE e.aL.aA).length:Int):=by omega
     generalize bE e.aL.aA=tp at*
     generalize hE:eU _ _ _=R
     unfold eU at hE
     simp only [gL,gO,hO,c1]at e4 hE
     simp [-au,func190,f190,e1,e4,k7,k8,c2]at hE
     exact hE.symm
  ·generalize bE e.aL.aA=tp at*
   generalize hE:eU _ _ _=R
   simp [eU, -au,func190,f190,e1,e4,c1]at hE
   exact hE.symm
end
abbrev edU (e:dF):V:= .agg [V.v (.bool e.Vi),vI e.bQ, .own 0,vI e.ak.At,vI e.bD,vI e.Op,vI e.bN,vI e.fC,vI e.dY,vI e.bL,vI e.iO, .own 1, .aM none [],vI e.kr, .own 2,vI e.gX.At, .own 3,vI e.lV, .own 4,vI e.bX.At]
abbrev kRu (p:dF×Int):Cw:=⟨.fT [edU p.1,vI p.2],[],[(0,ints p.1.ak.av),(1,aC p.1.aL.aA),(2,ints p.1.gX.av),(3,ints p.1.bO),(4,ints p.1.bX.av)]⟩
theorem EN (l:List fH)(x:fH)(h:jT (l++ [x])=true):C9 [.agg [.aM (some 0) (aG (l++ [x]))]] [] []=some (if l= []then⟨.fT [.agg [.aM none []], .agg [.own 0,vI x.At],V.v (.bool true)],[],[(0,ints x.av)]⟩else⟨.fT [.agg [.own 0], .agg [.own 1,vI x.At],V.v (.bool true)],[],[(0,aG l),(1,ints x.av)]⟩):=by
 obtain⟨hl,hp⟩:=pI h
 have e1:=Lv (l++ [x]) h
 have e3:=Jl (l++ [x]) (some 0) (by omega) (fun p hq=>by have:=(bS (hp p hq)).1;omega)
 rw [←wz]at e1 e3⊢
 have hw:∀r∈aG l,r.length=2:=fun r hr=>by
  obtain⟨i,hi⟩:=List.getElem?_of_mem hr
  have hlt:i<l.length:=by have:=(List.getElem?_eq_some_iff.1 hi).1;simpa using this
  rw [dW hlt]at hi
  injection hi with hi
  rw [←hi];rfl
 refine ahC ?_
 unfold AZ
 simp only [List.getLast?_concat]
 rw [if_pos ⟨e1,e3,by rw [List.dropLast_concat];exact hw,rfl,by simp at hl⊢;omega⟩,List.dropLast_concat]
 by_cases h0:l= []
 ·subst h0;rw [if_pos (show aG []= []from rfl),if_pos rfl]
 ·rw [if_neg h0,if_neg (fun q=>h0 (List.eq_nil_of_length_eq_zero (by rw [←abF,q];rfl)))]
theorem TV:C9 [.agg [.aM (some 0) []]] [] []=some ⟨.fT [.agg [.own 0], .agg [.own 1,vI 0],V.v (.bool false)],[],[(0,[]),(1,[])]⟩:=by
 have e1:=Lv [] rfl
 simp only [show aG []= []from rfl]at e1
 refine(afr rfl).trans ?_
 simp [F5,func256,f256,e1]
section
variable (e:dF) (h:fV e)
include h
theorem adO (hl:¬e.fD.bT.length=1):iM [gL e] [] []=some (kR (nK e)):=by
 by_cases h0:e.fD.bT= []
 ·have e1:=TV
  have e2:=jB e h
  have:nK e=dI e:=by unfold nK;rw [h0];rfl
  rw [this]
  generalize dI e=p at*
  generalize hE:iM _ _ _=R
  unfold iM at hE
  simp only [gL,gO,hO,h0,show aG []= []from rfl]at e2 hE
  simp [-au,func199,f199,e1,e2]at hE
  exact hE.symm
 ·obtain⟨l,x,hx⟩:∃l x,e.fD.bT=l++ [x]:=⟨_,_,(List.dropLast_concat_getLast h0).symm⟩
  have hu:=h.undo
  rw [hx]at hu
  have hlx:¬l= []:=fun q=>hl (by rw [hx,q];rfl)
  have e1:=EN l x hu
  rw [if_neg hlx,←hx]at e1
  have e2:=gG e h
  have e3:=wh e
  have hta:0≤x.At∧x.At≤1000:=by have:=bS ((pI hu).2 x (by simp));omega
  have e7:=qJ {e with bD:=0,Op:=0,bN:=0,fC:=0,iO:=0,ak:=x,fD:=⟨l⟩} hta
  have:nK e=({sj e 0 with ak:=⟨x.av,jl e.bQ x.av x.At⟩,fD:=⟨l⟩},0):=by unfold nK;rw [hx];simp
  rw [this]
  unfold sj
  simp only [gL]at e7
  generalize hE:iM _ _ _=R
  unfold iM at hE
  simp only [gL]at e2 e3 hE
  simp [-au,func199,f199,e1,e2,e3,e7]at hE
  exact hE.symm
theorem abm (hl:e.fD.bT.length=1):iM [gL e] [] []=some (kRu (nK e)):=by
 obtain⟨x,hx⟩:=List.length_eq_one_iff.1 hl
 have hu:=h.undo
 rw [hx]at hu
 have e1:=EN [] x hu
 rw [if_pos rfl,List.nil_append,←hx]at e1
 have e2:=gG e h
 have e3:=wh e
 have hta:0≤x.At∧x.At≤1000:=by have:=bS ((pI hu).2 x (by simp));omega
 have e7:=qJ {e with bD:=0,Op:=0,bN:=0,fC:=0,iO:=0,ak:=x,fD:=⟨[]⟩} hta
 have:nK e=({sj e 0 with ak:=⟨x.av,jl e.bQ x.av x.At⟩,fD:=⟨[]⟩},0):=by unfold nK;rw [hx];simp
 rw [this]
 unfold sj
 simp only [gL,show aG []= []from rfl]at e7
 generalize hE:iM _ _ _=R
 unfold iM at hE
 simp only [gL]at e2 e3 hE
 simp [-au,func199,f199,e1,e2,e3,e7]at hE
 exact hE.symm
end
section
variable (e:dF) (h:fV e) {f:Int} {l:List ByteArray} (hh:iQ f l)
include h hh
theorem TW (k r:Int)(hu:Kj e k r):vZ e f l k r=nK e:=by
 unfold vZ
 rcases hu with⟨m,rfl,rfl⟩|⟨m,rfl,hw,ho,rfl⟩
 ·rw [if_pos m]
  unfold DY pO KL ig
  simp
 ·rw [if_neg (by omega),if_neg (by omega)]
  unfold viE tV Gn zY
  have hm:gN e.ak.av (aS e) 117 (gW e)=none:=by unfold gN;simp
  simp [m,hw,ho,hm,iq,opC,show iZ 117= -1 from by decide]
theorem agh (k r:Int)(hk:jk k r=true)(hu:Kj e k r)(hl:e.fD.bT.length=1):iU [gL e,aH f l,aK k r] [] []=some (kRu (vZ e f l k r)):=by
 rw [TW e h hh k r hu]
 have eu:=abm e h hl
 obtain⟨h1,h2,h3,h4⟩:=h.aS
 have ea:=tZ e (fA.2 h)
 have eb:=uE f l hh
 have ec:=rA k r
 rw [hk]at ec
 rcases hu with⟨m,rfl,rfl⟩|⟨m,rfl,hw,ho,rfl⟩
 ·have e2:=Js e h hh 2 95 hk (.inl m)
  have en:=iy e
  obtain⟨n1,n2,n3⟩:=fM e h
  rw [show pO e f l 2 95=none from by unfold pO ig;simp]at e2
  simp only [kRo,Ji,vC,aZ,show aC []= []from rfl,show aG []= []from rfl]at e2
  generalize nK e=p at*
  clear h hh
  have e3:bY [gL e,aH f l,vI 95] [] []=some (kRu p):=by
   generalize hE:bY _ _ _=R
   simp [bY, -au,func109,f109,en,eu]at hE
   exact hE.symm
  have e4:iH [gL e,aH f l,aK 2 95] [] []=some (kRu p):=by
   generalize hE:iH _ _ _=R
   unfold iH at hE
   simp only [gL,m]at ea e2 e3 hE
   simp [-au,func38,f38,ea,eb,ec,e2,e3]at hE
   exact hE.symm
  generalize hE:iU _ _ _=R
  unfold iU at hE
  simp only [gL,m]at e4 hE
  simp [-au,func8,f8,e4]at hE
  exact hE.symm
 ·have e0:=gG e h
  have eh:=Tt 117
  rw [show iZ 117= -1 from by decide]at eh
  have em:=Dw e.ak.av (some 0) (aS e) 1 h2 (by omega) (by omega) 117
  rw [←h1,Int.natCast_one,show gN e.ak.av (aS e) 117 1=none from by unfold gN;simp]at em
  have eN:=Bg e h
  obtain⟨n1,n2,n3⟩:=h.gW
  generalize nK e=p at*
  generalize gW e=nn at*
  have e3:nI [gL e,aH f l,vI 117] [] []=some (kRu p):=by
   clear h hh
   generalize hE:nI _ _ _=R
   simp [nI, -au,func267,f267,eN,eu]at hE
   exact hE.symm
  have e4:gY [gL e,aH f l,vI 117] [] []=some (kRu p):=by
   clear h hh
   generalize hE:gY _ _ _=R
   unfold gY at hE
   simp only [mR]at em
   simp only [gL,gO,hO,ho]at e0 e3 hE
   simp [-au,func205,f205,e0,eh,em,e3]at hE
   exact hE.symm
  have e5:jS [gL e,aH f l,aK 1 117] [] []=some (kRu p):=by
   clear h hh
   generalize hE:jS _ _ _=R
   unfold jS at hE
   simp only [gL,gO,hO,hw]at e4 hE
   simp [-au,func116,f116,e4]at hE
   exact hE.symm
  have e6:ng [gL e,aH f l,aK 1 117] [] []=some (kRu p):=by
   clear h hh
   generalize hE:ng _ _ _=R
   unfold ng at hE
   simp only [gL,m]at ea e5 hE
   simp [-au,func40,f40,ea,eb,ec,e5]at hE
   exact hE.symm
  clear h hh
  generalize hE:iU _ _ _=R
  unfold iU at hE
  simp only [gL,m]at e6 hE
  simp [-au,func8,f8,e6]at hE
  exact hE.symm
end
def aeK (e:dF)(k r:Int):Prop:=Kj e k r∧e.fD.bT.length=1
instance (e:dF) (k r:Int):Decidable (aeK e k r):=inferInstanceAs (Decidable (Kj e k r∧e.fD.bT.length=1))
def kY (e:dF)(k r:Int)(p:dF×Int):Cw:=if aeK e k r then kRu p else kX e k p
theorem agi (e:dF)(h:fV e){f:Int}{l:List ByteArray}(hh:iQ f l)(k r:Int)(hk:jk k r=true):iU [gL e,aH f l,aK k r] [] []=some (kY e k r (vZ e f l k r)):=by
 unfold kY
 by_cases hw:aeK e k r
 ·rw [if_pos hw];exact agh e h hh k r hk hw.1 hw.2
 ·rw [if_neg hw];exact aiw e h hh k r hk (Qz e h) fun q=>adO e h fun z=>hw ⟨q,z⟩
theorem U0 (f:Int)(l:List ByteArray)(hl:l.length≤1000000000):nN [.agg [vI f, .aM (some 0) (strs l)]] [] []=some ⟨V.v (.bool (Ad f l)),[],[]⟩:=by
 have hbe:Ad f l=((l.all fun s=>iq (s.size:Int) 1 1000)&&(decide (1≤f)&&(decide (f≤1000000000)&&decide (l.length≤60)))):=by
  unfold Ad iq
  cases (l.all fun s=>decide (1≤(s.size:Int))&&decide ((s.size:Int)≤1000))<;>cases decide (1≤f)<;>cases decide (f≤1000000000)<;>cases decide (l.length≤60)<;>rfl
 rw [hbe]
 generalize hE:nN _ _ _=R
 simp [nN,func70,f70]at hE
 rcases lg (fun s:ByteArray=>iq (s.size:Int) 1 1000) l with hall|⟨hall,N,hN,h1,h2⟩
 ·rw [hall,Bool.true_and]
  rw [aF (fun j=> .on ⟨[(8,V.v (.int .i64 ((j:Int)))),(7,V.v (.int .i64 ((l.length:Int)))),(6, .aM (some 0) (strs l)),(1, .ref 1 0)],[(1,[vI f, .aM (some 0) (strs l)])],[],[]⟩) l.length ?_ ?_]at hE
  ·by_cases c1:1≤f
   ·by_cases c2:f≤1000000000
    ·by_cases c3:l.length≤60
     ·have c4:(l.length:Int)≤60:=by omega
      simp [c1,c2,c4]at hE
      simp [c1,c2,c3]
      exact hE.symm
     ·have c4:¬(l.length:Int)≤60:=by omega
      simp [c1,c2,c4]at hE
      simp [c1,c2,c3]
      exact hE.symm
    ·simp [c1,c2]at hE
     simp [c1,c2]
     exact hE.symm
   ·simp [c1]at hE
    simp [c1]
    exact hE.symm
  ·simp
  ·intro j hj
   have hw:=bM ((j:Int)+1) (by omega)
   have e:=bB.1 (List.all_eq_true.1 hall l[j] (List.getElem_mem hj))
   have q5:¬(l[j].size:Int)<1:=by omega
   have q6:¬(1000:Int)<l[j].size:=by omega
   simp [hj,hw,q5,q6]
 ·rw [hall,Bool.false_and]
  rw [aF (fun j=> .on ⟨[(8,V.v (.int .i64 ((j:Int)))),(7,V.v (.int .i64 ((l.length:Int)))),(6, .aM (some 0) (strs l)),(1, .ref 1 0)],[(1,[vI f, .aM (some 0) (strs l)])],[],[]⟩) N ?_ ?_]at hE
  ·by_cases q5:(l[N].size:Int)<1
   ·simp [hN,q5]at hE
    exact hE.symm
   ·have q6:(1000:Int)<l[N].size:=Classical.byContradiction fun q=>by
     rw [bB.2 ⟨by omega,by omega⟩]at h1;cases h1
    simp [hN,q5,q6]at hE
    exact hE.symm
  ·simp
  ·intro j hj
   have hjl:j<l.length:=by omega
   have hw:=bM ((j:Int)+1) (by omega)
   have e:=bB.1 (h2 j hjl hj)
   have q5:¬(l[j].size:Int)<1:=by omega
   have q6:¬(1000:Int)<l[j].size:=by omega
   simp [hjl,hw,q5,q6]
theorem abn (e:dF)(hsm:e.sm)(f:Int)(l:List ByteArray)(hl:l.length≤1000000000)(k r:Int)(h:OX e f l k r=false):iU [gL e,aH f l,aK k r] [] []=some (kR (vC,0)):=by
 have e1:=LH e hsm
 have e2:=U0 f l hl
 have e3:=rA k r
 simp only [kR,gL,gO,hO,vC,aZ,show aC []= []from rfl,show aG []= []from rfl]
 have three:(e.ok=false)∨(e.ok=true∧Ad f l=false)∨(e.ok=true∧Ad f l=true∧jk k r=false):=by
  unfold OX at h
  cases h1:e.ok
  ·exact .inl rfl
  ·cases h2:Ad f l
   ·exact .inr (.inl ⟨rfl,rfl⟩)
   ·rw [h1,h2]at h;exact .inr (.inr ⟨rfl,rfl,by simpa using h⟩)
 by_cases m0:e.bQ=0
 ·have e4:iH [gL e,aH f l,aK k r] [] []=some ⟨.fT [.agg [V.v (.bool false),vI 0, .own 0,vI 0,vI 0,vI 0,vI 0,vI 0,vI 0,vI 0,vI 0, .own 1, .own 2,vI 0, .own 3,vI 0, .own 4,vI 0, .own 5,vI 0],vI 0],[],[(0,[]),(1,[]),(2,[]),(3,[]),(4,[]),(5,[])]⟩:=by
   unfold iH
   rcases three with t1|⟨t1,t2⟩|⟨t1,t2,t3⟩
   ·rw [t1]at e1
    simp [func38,f38,e1]
   ·rw [t1]at e1;rw [t2]at e2
    simp [func38,f38,e1,e2]
   ·rw [t1]at e1;rw [t2]at e2;rw [t3]at e3
    simp [func38,f38,e1,e2,e3]
  generalize hE:iU _ _ _=R
  unfold iU at hE
  simp only [gL,gO,hO,m0]at e4 hE
  simp [-au,func8,f8,e4]at hE
  exact hE.symm
 by_cases m3:e.bQ=3
 ·have e4:jH [gL e,aH f l,aK k r] [] []=some ⟨.fT [.agg [V.v (.bool false),vI 0, .own 0,vI 0,vI 0,vI 0,vI 0,vI 0,vI 0,vI 0,vI 0, .own 1, .own 2,vI 0, .own 3,vI 0, .own 4,vI 0, .own 5,vI 0],vI 0],[],[(0,[]),(1,[]),(2,[]),(3,[]),(4,[]),(5,[])]⟩:=by
   unfold jH
   rcases three with t1|⟨t1,t2⟩|⟨t1,t2,t3⟩
   ·rw [t1]at e1
    simp [func39,f39,e1]
   ·rw [t1]at e1;rw [t2]at e2
    simp [func39,f39,e1,e2]
   ·rw [t1]at e1;rw [t2]at e2;rw [t3]at e3
    simp [func39,f39,e1,e2,e3]
  generalize hE:iU _ _ _=R
  unfold iU at hE
  simp only [gL,gO,hO,m3]at e4 hE
  simp [-au,func8,f8,e4]at hE
  exact hE.symm
 have e4:ng [gL e,aH f l,aK k r] [] []=some ⟨.fT [.agg [V.v (.bool false),vI 0, .own 0,vI 0,vI 0,vI 0,vI 0,vI 0,vI 0,vI 0,vI 0, .own 1, .own 2,vI 0, .own 3,vI 0, .own 4,vI 0, .own 5,vI 0],vI 0],[],[(0,[]),(1,[]),(2,[]),(3,[]),(4,[]),(5,[])]⟩:=by
  unfold ng
  rcases three with t1|⟨t1,t2⟩|⟨t1,t2,t3⟩
  ·rw [t1]at e1
   simp [func40,f40,e1]
  ·rw [t1]at e1;rw [t2]at e2
   simp [func40,f40,e1,e2]
  ·rw [t1]at e1;rw [t2]at e2;rw [t3]at e3
   simp [func40,f40,e1,e2,e3]
 generalize hE:iU _ _ _=R
 simp [iU, -au,func8,f8,e4,m0,m3]at hE
 exact hE.symm
theorem Yu (e:dF)(hsm:e.sm)(f:Int)(l:List ByteArray)(hl:l.length≤1000000000)(k r:Int):iU [gL e,aH f l,aK k r] [] []=some (if OX e f l k r=true then kY e k r (vZ e f l k r)else kR (vC,0)):=by
 cases h:OX e f l k r
 ·rw [if_neg (by decide)]
  exact abn e hsm f l hl k r h
 ·rw [if_pos rfl]
  simp only [OX,Bool.and_eq_true]at h
  have he:=fA.1 h.1
  exact agi e he (Ki.1 h.2.1) k r h.2.2
set_option maxRecDepth 100000
theorem OY (r:List (List D))(k:gB r=true)(s:sD r=true):BA [.aM (some 0) r, .aM (some 1) r] [] []=some ⟨V.v (.bool true),[],[]⟩:=by
 obtain⟨l,rfl⟩:=EY k
 have hb:l.length≤1000000000:=by simpa using ny s
 simp [BA,func24,f24]
 rw [aF (fun k=> .on ⟨[(5,V.v (.int .i64 ((k:Int)))),(1, .aM (some 1) (ints l)),(0, .aM (some 0) (ints l))],[],[],[]⟩) l.length ?_ ?_]
 ·simp
 ·simp
 ·intro j hj
  have hw:=bM (j+1) (by omega)
  have hs:=uP s (aQ hj)
  simp at hs
  simp [hj,hw,hs,aQ hj]
theorem Wz (r0:List (List D))(v1:Int)(k0:gB r0=true)(s0:sD r0=true):ED [.agg [.aM (some 0) r0,vI v1], .agg [.aM (some 1) r0,vI v1]] [] []=some ⟨V.v (.bool true),[],[]⟩:=by
 simp [ED,func58,f58,OY,k0,s0]
theorem adP (r0:List (List D))(k0:gB r0=true)(s0:sD r0=true):Gc [.agg [.aM (some 0) r0], .agg [.aM (some 1) r0]] [] []=some ⟨V.v (.bool true),[],[]⟩:=by
 simp [Gc,func212,f212,OY,k0,s0]
theorem abo (r:List (List D))(k:iE r=true)(s:sD r=true):Dc [.aM (some 0) r, .aM (some 1) r] [] []=some ⟨V.v (.bool true),[],[]⟩:=by
 obtain⟨l,rfl⟩:=zk k
 have hb:l.length≤1000000000:=by simpa using ny s
 simp [Dc,func127,f127]
 rw [aF (fun k=> .on ⟨[(5,V.v (.int .i64 ((k:Int)))),(1, .aM (some 1) (aC l)),(0, .aM (some 0) (aC l))],[],[],[]⟩) l.length ?_ ?_]
 ·simp
 ·simp
 ·intro j hj
  have hw:=bM (j+1) (by omega)
  have hs:=uP s (dX hj)
  simp at hs
  simp [hj,hw,hs,dX hj,adP]
theorem agj (r0:List (List D))(k0:iE r0=true)(s0:sD r0=true):J2 [.agg [.aM (some 0) r0], .agg [.aM (some 1) r0]] [] []=some ⟨V.v (.bool true),[],[]⟩:=by
 simp [J2,func59,f59,abo,k0,s0]
theorem adQ (r:List (List D))(k:jd r=true)(s:sD r=true):Gd [.aM (some 0) r, .aM (some 1) r] [] []=some ⟨V.v (.bool true),[],[]⟩:=by
 obtain⟨l,rfl⟩:=AA k
 have hb:l.length≤1000000000:=by simpa using ny s
 simp [Gd,func128,f128]
 rw [aF (fun k=> .on ⟨[(5,V.v (.int .i64 ((k:Int)))),(1, .aM (some 1) (aG l)),(0, .aM (some 0) (aG l))],[],[],[]⟩) l.length ?_ ?_]
 ·simp
 ·simp
 ·intro j hj
  have hw:=bM (j+1) (by omega)
  have hs:=uP s (dW hj)
  simp at hs
  simp [hj,hw,hs,dW hj,Wz]
theorem agk (r0:List (List D))(k0:jd r0=true)(s0:sD r0=true):J3 [.agg [.aM (some 0) r0], .agg [.aM (some 1) r0]] [] []=some ⟨V.v (.bool true),[],[]⟩:=by
 simp [J3,func60,f60,adQ,k0,s0]
theorem QV (v0:Bool)(v1:Int)(r2:List (List D))(v3:Int)(v4:Int)(v5:Int)(v6:Int)(v7:Int)(v8:Int)(v9:Int)(v10:Int)(LJ:List (List D))(LK:List (List D))(v13:Int)(NJ:List (List D))(v15:Int)(r16:List (List D))(v17:Int)(Pg:List (List D))(v19:Int)(k2:gB r2=true)(s2:sD r2=true)(k11:iE LJ=true)(s11:sD LJ=true)(k12:jd LK=true)(s12:sD LK=true)(k14:gB NJ=true)(s14:sD NJ=true)(k16:gB r16=true)(s16:sD r16=true)(k18:gB Pg=true)(s18:sD Pg=true):QO [.agg [V.v (.bool v0),vI v1, .aM (some 0) r2,vI v3,vI v4,vI v5,vI v6,vI v7,vI v8,vI v9,vI v10, .aM (some 1) LJ, .aM (some 2) LK,vI v13, .aM (some 3) NJ,vI v15, .aM (some 4) r16,vI v17, .aM (some 5) Pg,vI v19], .agg [V.v (.bool v0),vI v1, .aM (some 6) r2,vI v3,vI v4,vI v5,vI v6,vI v7,vI v8,vI v9,vI v10, .aM (some 7) LJ, .aM (some 8) LK,vI v13, .aM (some 9) NJ,vI v15, .aM (some 10) r16,vI v17, .aM (some 11) Pg,vI v19]] [] []=some ⟨V.v (.bool true),[],[]⟩:=by
 simp [QO,func15,f15,Wz,agj,agk,OY,k2,s2,k11,s11,k12,s12,k14,s14,k16,s16,k18,s18]
theorem Yv (r:List (List D))(k:uX r=true)(s:sD r=true):Ba [.aM (some 0) r, .aM (some 1) r] [] []=some ⟨V.v (.bool true),[],[]⟩:=by
 obtain⟨l,rfl⟩:=Rh k
 have hb:l.length≤1000000000:=by simpa using ny s
 simp [Ba,func61,f61]
 rw [aF (fun k=> .on ⟨[(5,V.v (.int .i64 ((k:Int)))),(1, .aM (some 1) (strs l)),(0, .aM (some 0) (strs l))],[],[],[]⟩) l.length ?_ ?_]
 ·simp
 ·simp
 ·intro j hj
  have hw:=bM (j+1) (by omega)
  have hs:=uP s (l7 hj)
  simp at hs
  simp [hj,hw,hs,l7 hj]
theorem agl (v0:Int)(r1:List (List D))(k1:uX r1=true)(s1:sD r1=true):J4 [.agg [vI v0, .aM (some 0) r1], .agg [vI v0, .aM (some 1) r1]] [] []=some ⟨V.v (.bool true),[],[]⟩:=by
 simp [J4,func16,f16,Yv,k1,s1]
def upTo (z:List D)(rows:List (List D))(j:Nat):List (List D):=rows.take j++List.replicate (rows.length-j) z
theorem Kk (z:List D)(rows:List (List D)):List.replicate rows.length z=upTo z rows 0:=by simp [upTo]
theorem Ny (z:List D)(rows:List (List D)):upTo z rows rows.length=rows:=by simp [upTo]
@[simp] theorem Nz {z:List D}{rows:List (List D)}{j:Nat}(h:j≤rows.length):(upTo z rows j).length=rows.length:=by simp [upTo];omega
theorem aix {z:List D}{rows:List (List D)}{j:Nat}(h:j<rows.length):(upTo z rows j)[j]?=some z:=by
 unfold upTo
 rw [List.getElem?_append_right (by simp;omega),List.getElem?_replicate,if_pos (by simp;omega)]
theorem QW {z:List D}{rows:List (List D)}{j:Nat}(h:j<rows.length)(h':j<(upTo z rows j).length):(upTo z rows j)[j]=z:=by
 have:=aix (z:=z) h
 rw [List.getElem?_eq_getElem h']at this
 injection this
theorem NA {z r:List D}{rows:List (List D)}{j:Nat}(h:rows[j]?=some r):(upTo z rows j).set j r=upTo z rows (j+1):=by
 have hj:j<rows.length:=(List.getElem?_eq_some_iff.1 h).1
 unfold upTo
 rw [List.set_append_right _ _ (by simp;omega)]
 rw [show rows.length-j=(rows.length-(j+1))+1 by omega,List.replicate_succ,List.take_add_one,h]
 have:j-(List.take j rows).length=0:=by simp;omega
 rw [this,List.set_cons_zero]
 simp
theorem runs (n:Nat)(x0:Int)(hx0:0≤x0)(Pm:Nat→Int→Int→Prop)(H:∀j x,j<n→0≤x→x≤x0→∃m,Pm j x m∧-1≤m∧m≤x):
  ∃xs:Nat→Int,xs 0=x0∧(((∀j,j≤n→0≤xs j∧xs j≤x0)∧∀j,j<n→Pm j (xs j) (xs (j+1)))∨∃N,N<n∧(∀j,j≤N→0≤xs j∧xs j≤x0)∧(∀j,j≤N→Pm j (xs j) (xs (j+1)))∧xs (N+1)= -1):=by
 have H':∀j x,∃m,j<n→0≤x→x≤x0→Pm j x m∧-1≤m∧m≤x:=fun j x=>by
  by_cases h:j<n∧0≤x∧x≤x0
  ·obtain⟨m,hm⟩:=H j x h.1 h.2.1 h.2.2;exact⟨m,fun _ _ _=>hm⟩
  ·exact⟨0,fun a b c=>absurd ⟨a,b,c⟩ h⟩
 let xs:Nat→Int:=fun j=>Nat.rec x0 (fun j x=>Classical.choose (H' j x)) j
 have hs:∀j,xs (j+1)=Classical.choose (H' j (xs j)):=fun j=>rfl
 have hp:∀j,j<n→0≤xs j→xs j≤x0→Pm j (xs j) (xs (j+1))∧-1≤xs (j+1)∧xs (j+1)≤xs j:=fun j a b c=>by
  rw [hs];exact Classical.choose_spec (H' j (xs j)) a b c
 refine⟨xs,rfl,?_⟩
 have all:∀k,k≤n→((∀j,j≤k→0≤xs j∧xs j≤x0)∧∀j,j<k→Pm j (xs j) (xs (j+1)))∨∃N,N<n∧(∀j,j≤N→0≤xs j∧xs j≤x0)∧(∀j,j≤N→Pm j (xs j) (xs (j+1)))∧xs (N+1)= -1:=by
  intro k
  induction k with
  | zero=>
   intro _
   refine .inl ⟨fun j hj=>?_,fun j hj=>by omega⟩
   have:j=0:=by omega
   subst this
   exact⟨hx0,Int.le_refl _⟩
  | succ k ih=>
   intro hk
   rcases ih (by omega)with⟨h1,h2⟩|h
   ·obtain⟨a,b,c⟩:=hp k (by omega) (h1 k (Nat.le_refl _)).1 (h1 k (Nat.le_refl _)).2
    have hpm:∀j,j<k+1→Pm j (xs j) (xs (j+1)):=fun j hj=>by
     rcases Nat.lt_or_ge j k with h|h
     ·exact h2 j h
     ·obtain rfl:j=k:=by omega
      exact a
    by_cases hn:xs (k+1)<0
    ·exact .inr ⟨k,by omega,h1,fun j hj=>hpm j (by omega),by omega⟩
    ·refine .inl ⟨fun j hj=>?_,hpm⟩
     rcases Nat.lt_or_ge j (k+1)with h|h
     ·exact h1 j (by omega)
     ·obtain rfl:j=k+1:=by omega
      have:=(h1 k (Nat.le_refl _)).2
      omega
   ·exact .inr h
 exact all n (Nat.le_refl _)
theorem yh.TY {α:Type}(C:yh α)(l:List α)(j:Nat)(x:α):(C.rows l).set j (C.enc x)=C.rows (l.set j x):=by
 show(l.map C.enc).set j (C.enc x)=(l.set j x).map C.enc
 rw [List.map_set]
theorem aj8 {α:Type}(n:Nat)(I:Nat→α→Prop)(a0:α)(h0:I 0 a0)(Pm:Nat→α→α→Prop)(H:∀j a,j<n→I j a→∃b,Pm j a b∧I (j+1) b):
  ∃xs:Nat→α,xs 0=a0∧(∀j,j≤n→I j (xs j))∧∀j,j<n→Pm j (xs j) (xs (j+1)):=by
 have H':∀j a,∃b,j<n→I j a→Pm j a b∧I (j+1) b:=fun j a=>by
  by_cases h:j<n∧I j a
  ·obtain⟨b,hb⟩:=H j a h.1 h.2;exact⟨b,fun _ _=>hb⟩
  ·exact⟨a0,fun x y=>absurd ⟨x,y⟩ h⟩
 let xs:Nat→α:=fun j=>Nat.rec a0 (fun j x=>Classical.choose (H' j x)) j
 have hs:∀j,xs (j+1)=Classical.choose (H' j (xs j)):=fun j=>rfl
 have hI:∀j,j≤n→I j (xs j):=by
  intro j
  induction j with
  | zero=>intro _;exact h0
  | succ j ih=>intro hj;rw [hs];exact(Classical.choose_spec (H' j (xs j)) (by omega) (ih (by omega))).2
 exact⟨xs,rfl,hI,fun j hj=>by rw [hs];exact(Classical.choose_spec (H' j (xs j)) hj (hI j (by omega))).1⟩
def mE (k:Int)(n:Nat):List Int:=(List.range n).map fun i:Nat=>k+(i:Int)
@[simp] theorem adR (k:Int)(n:Nat):(mE k n).length=n:=by simp [mE]
theorem agm {k:Int}{n j:Nat}(h:j<(mE k n).length):(mE k n)[j]=k+j:=by simp [mE]
theorem abp (k:Int)(n:Nat):mE k (n+1)=mE k n++ [k+n]:=by simp [mE,List.range_succ]
theorem aiy {α:Type}(p:List α)(l:List α)(x:α)(h:p.length<l.length):(p++l.drop p.length).set p.length x=(p++ [x])++l.drop (p.length+1):=by
 rw [List.set_append_right _ _ (Nat.le_refl _),Nat.sub_self,List.drop_eq_getElem_cons h,List.set_cons_zero,List.append_assoc];rfl
theorem agn (l:List Int)(j:Nat)(x:Int):(ints l).set j [D.a (.int .i64 x)]=ints (l.set j x):=by
 show(l.map _).set j _=(l.set j x).map _
 rw [List.map_set];rfl
def D6 (k:Int)(l:List Int)(j:Nat):List Int:=mE k j++l.drop j
theorem abq (k:Int)(l:List Int):D6 k l 0=l:=by simp [D6,mE]
theorem adS (k:Int)(l:List Int):D6 k l l.length=mE k l.length:=by simp [D6]
theorem T9 {k:Int}{l:List Int}{j:Nat}(h:j≤l.length):(D6 k l j).length=l.length:=by simp [D6];omega
theorem adT {k:Int}{l:List Int}{j:Nat}(h:j<l.length):(ints (D6 k l j)).set j [D.a (.int .i64 (k+j))]=ints (D6 k l (j+1)):=by
 rw [agn]
 have:=aiy (mE k j) l (k+j) (by simpa using h)
 rw [adR]at this
 unfold D6
 rw [this,←abp]
theorem ug (l:List Int)(k:Int)(hl:l.length≤1000000000)(hk:0≤k∧k≤9000000000000000000):nJ [.own 0,vI k] [] [ints l]=some ⟨vI (k+l.length),[],[(0,ints (mE k l.length))]⟩:=by
 simp [nJ,func27,f27]
 rw [aF (fun j=> .on ⟨[(5,V.v (.int .i64 ((j:Int)))),(1,V.v (.int .i64 (k+j))),(0, .own 1000000000)],[],[(1000000000,ints (D6 k l j))],[]⟩) l.length ?_ ?_]
 ·simp [T9 (k:=k) (Nat.le_refl _),adS]
 ·simp [abq]
 ·intro j hj
  have hw:=bM (j+1) (by omega)
  have hw2:=bM (k+j+1) (by omega)
  have hw3:=bM (k+j) (by omega)
  have hlen:=T9 (k:=k) (l:=l) (j:=j) (by omega)
  simp [hj,hw,hw2,hw3,hlen,adT hj]
  omega
theorem Ae (n:Nat)(k:Int)(hl:n≤1000000000)(hk:0≤k∧k≤9000000000000000000):tH [.aM (some 0) (ints (mE k n)),vI k] [] []=some ⟨vI (k+n),[],[]⟩:=by
 simp [tH,func28,f28]
 rw [aF (fun j=> .on ⟨[(5,V.v (.int .i64 ((j:Int)))),(1,V.v (.int .i64 (k+j))),(0, .aM (some 0) (ints (mE k n)))],[],[],[]⟩) n ?_ ?_]
 ·simp
 ·simp
 ·intro j hj
  have hw:=bM (j+1) (by omega)
  have hw2:=bM (k+j+1) (by omega)
  have hw3:=bM (k+j) (by omega)
  simp [hj,hw,hw2,hw3,agm]
  omega
theorem NC (r:List (List D))(k:gB r=true)(s:sD r=true)(x:Int)(hx:0≤x∧x≤7000000000000000000):∃y r',nJ [.own 0,vI x] [] [r]=some ⟨vI y,[],[(0,r')]⟩∧x≤y∧y≤x+1000000000:=by
 obtain⟨l,rfl⟩:=EY k
 have hb:l.length≤1000000000:=by simpa using ny s
 exact⟨_,_,ug l x hb (by omega),by omega,by omega⟩
theorem GA (r0:List (List D))(v1:Int)(k0:gB r0=true)(s0:sD r0=true)(x:Int)(hx:0≤x∧x≤6999999998999999999):∃y r0',wO [.agg [.own 0,vI v1],vI x] [] [r0]=some ⟨vI y,[],[(0,r0')]⟩∧x≤y∧y≤x+1000000001:=by
 unfold wO
 obtain⟨y0,q0,e0,a0,b0⟩:=NC r0 k0 s0 x ⟨by omega,by omega⟩
 exact⟨y0,q0,by simp [func62,f62,e0],by omega,by omega⟩
theorem Qi (m:List dL)(j:Nat)(x:dL):(aC m).set j [.l (ints x.av)]=aC (m.set j x):=jF.TY m j x
theorem Ua (r:List (List D))(k:iE r=true)(s:sD r=true)(x:Int)(hx:0≤x∧x≤7000000000000000000):∃y r',pG [.own 0,vI x] [] [r]=some ⟨vI y,[],[(0,r')]⟩∧x≤y∧y≤x+1000000000000000000:=by
 obtain⟨l,rfl⟩:=zk k
 have hb:l.length≤1000000000:=by simpa using ny s
 obtain⟨xs,x0,hI,hP⟩:=aj8 l.length (fun j (a:Int×List dL)=>a.2.length=l.length∧(∀i,j≤i→a.2[i]?=l[i]?)∧x≤a.1∧a.1≤x+1000000000*j) (x,l) ⟨rfl,fun _ _=>rfl,by omega,by omega⟩ (fun j a b=> ∀h:j<a.2.length,b=(a.1+((a.2[j]'h).av.length:Int),a.2.set j ⟨mE (a.1) (a.2[j]'h).av.length⟩)) (fun j a hj ⟨h1,h2,h3,h4⟩=>by
  have hj':j<a.2.length:=by omega
  have e:=h2 j (Nat.le_refl _)
  rw [List.getElem?_eq_getElem hj',List.getElem?_eq_getElem hj]at e
  injection e with e
  have hs:=uP s (dX hj)
  simp only [oK,uz,IZ,EF,Bool.and_true,Bool.true_and,Bool.and_eq_true]at hs
  have hs0:=hs
  have hl0:l[j].av.length≤1000000000:=by simpa using uD hs0
  refine⟨(a.1+((a.2[j]'hj').av.length:Int),a.2.set j ⟨mE (a.1) (a.2[j]'hj').av.length⟩),fun _=>rfl,by simpa using h1,fun i hi=>?_,?_,?_⟩
  ·simp only
   rw [List.getElem?_set_ne (by omega)];exact h2 i (by omega)
  ·simp only [e];omega
  ·simp only [e];push_cast;omega)
 refine⟨(xs l.length).1,aC (xs l.length).2,?_,(hI _ (Nat.le_refl _)).2.2.1,?_⟩
 ·simp [pG,func129,f129]
  rw [aF (fun j=> .on ⟨[(5,V.v (.int .i64 ((j:Int)))),(1,V.v (.int .i64 ((xs j).1))),(0, .own 1000000000)],[],[(1000000000,aC (xs j).2)],[]⟩) l.length ?_ ?_]
  ·have h1:=(hI l.length (Nat.le_refl _)).1
   simp [h1]
  ·simp [x0]
  ·intro j hj
   obtain⟨h1,h2,h3,h4⟩:=hI j (by omega)
   have hj':j<(xs j).2.length:=by omega
   have hq:=hP j hj hj'
   have e:=h2 j (Nat.le_refl _)
   rw [List.getElem?_eq_getElem hj',List.getElem?_eq_getElem hj]at e
   injection e with e
   have hs:=uP s (dX hj)
   simp only [oK,uz,IZ,EF,Bool.and_true,Bool.true_and,Bool.and_eq_true]at hs
   have hs0:=hs
   have hl0:l[j].av.length≤1000000000:=by simpa using uD hs0
   have hw:=bM (j+1) (by omega)
   rw [e]at hq
   generalize xs (j+1)=b at hq
   subst hq
   generalize xs j=a at*
   obtain⟨x1,m⟩:=a
   simp only at*
   have hm0:=ug l[j].av (x1) hl0 (by omega)
   have hv0:=bM (x1+(l[j].av.length:Int)) (by omega)
   have hset:=Qi m j ⟨mE (x1) l[j].av.length⟩
   simp only at hset hj'
   simp [h1,hj,hj',hw,e,hset,hm0,hv0]
 ·have:=(hI l.length (Nat.le_refl _)).2.2.2
  omega
theorem Yw (r0:List (List D))(k0:iE r0=true)(s0:sD r0=true)(x:Int)(hx:0≤x∧x≤6000000000000000000):∃y r0',wP [.agg [.own 0],vI x] [] [r0]=some ⟨vI y,[],[(0,r0')]⟩∧x≤y∧y≤x+1000000000000000000:=by
 unfold wP
 obtain⟨y0,q0,e0,a0,b0⟩:=Ua r0 k0 s0 x ⟨by omega,by omega⟩
 exact⟨y0,q0,by simp [func63,f63,e0],by omega,by omega⟩
theorem Ub (m:List fH)(j:Nat)(x:fH):(aG m).set j [.l (ints x.av), .a (.int .i64 x.At)]=aG (m.set j x):=kG.TY m j x
theorem U3 (r:List (List D))(k:jd r=true)(s:sD r=true)(x:Int)(hx:0≤x∧x≤7000000000000000000):∃y r',qW [.own 0,vI x] [] [r]=some ⟨vI y,[],[(0,r')]⟩∧x≤y∧y≤x+1000000001000000000:=by
 obtain⟨l,rfl⟩:=AA k
 have hb:l.length≤1000000000:=by simpa using ny s
 obtain⟨xs,x0,hI,hP⟩:=aj8 l.length (fun j (a:Int×List fH)=>a.2.length=l.length∧(∀i,j≤i→a.2[i]?=l[i]?)∧x≤a.1∧a.1≤x+1000000001*j) (x,l) ⟨rfl,fun _ _=>rfl,by omega,by omega⟩ (fun j a b=> ∀h:j<a.2.length,b=(a.1+((a.2[j]'h).av.length:Int)+1,a.2.set j ⟨mE (a.1) (a.2[j]'h).av.length,a.1+((a.2[j]'h).av.length:Int)⟩)) (fun j a hj ⟨h1,h2,h3,h4⟩=>by
  have hj':j<a.2.length:=by omega
  have e:=h2 j (Nat.le_refl _)
  rw [List.getElem?_eq_getElem hj',List.getElem?_eq_getElem hj]at e
  injection e with e
  have hs:=uP s (dW hj)
  simp only [oK,uz,IZ,EF,Bool.and_true,Bool.true_and,Bool.and_eq_true]at hs
  have hs0:=hs
  have hl0:l[j].av.length≤1000000000:=by simpa using uD hs0
  refine⟨(a.1+((a.2[j]'hj').av.length:Int)+1,a.2.set j ⟨mE (a.1) (a.2[j]'hj').av.length,a.1+((a.2[j]'hj').av.length:Int)⟩),fun _=>rfl,by simpa using h1,fun i hi=>?_,?_,?_⟩
  ·simp only
   rw [List.getElem?_set_ne (by omega)];exact h2 i (by omega)
  ·simp only [e];omega
  ·simp only [e];push_cast;omega)
 refine⟨(xs l.length).1,aG (xs l.length).2,?_,(hI _ (Nat.le_refl _)).2.2.1,?_⟩
 ·simp [qW,func130,f130]
  rw [aF (fun j=> .on ⟨[(5,V.v (.int .i64 ((j:Int)))),(1,V.v (.int .i64 ((xs j).1))),(0, .own 1000000000)],[],[(1000000000,aG (xs j).2)],[]⟩) l.length ?_ ?_]
  ·have h1:=(hI l.length (Nat.le_refl _)).1
   simp [h1]
  ·simp [x0]
  ·intro j hj
   obtain⟨h1,h2,h3,h4⟩:=hI j (by omega)
   have hj':j<(xs j).2.length:=by omega
   have hq:=hP j hj hj'
   have e:=h2 j (Nat.le_refl _)
   rw [List.getElem?_eq_getElem hj',List.getElem?_eq_getElem hj]at e
   injection e with e
   have hs:=uP s (dW hj)
   simp only [oK,uz,IZ,EF,Bool.and_true,Bool.true_and,Bool.and_eq_true]at hs
   have hs0:=hs
   have hl0:l[j].av.length≤1000000000:=by simpa using uD hs0
   have hw:=bM (j+1) (by omega)
   rw [e]at hq
   generalize xs (j+1)=b at hq
   subst hq
   generalize xs j=a at*
   obtain⟨x1,m⟩:=a
   simp only at*
   have hm0:=ug l[j].av (x1) hl0 (by omega)
   have hv0:=bM (x1+(l[j].av.length:Int)) (by omega)
   have hv1:=bM (x1+(l[j].av.length:Int)+1) (by omega)
   have hset:=Ub m j ⟨mE (x1) l[j].av.length,x1+(l[j].av.length:Int)⟩
   simp only at hset hj'
   simp [h1,hj,hj',hw,e,hset,hm0,hv0,hv1]
 ·have:=(hI l.length (Nat.le_refl _)).2.2.2
  omega
theorem Yx (r0:List (List D))(k0:jd r0=true)(s0:sD r0=true)(x:Int)(hx:0≤x∧x≤5999999999000000000):∃y r0',wQ [.agg [.own 0],vI x] [] [r0]=some ⟨vI y,[],[(0,r0')]⟩∧x≤y∧y≤x+1000000001000000000:=by
 unfold wQ
 obtain⟨y0,q0,e0,a0,b0⟩:=U3 r0 k0 s0 x ⟨by omega,by omega⟩
 exact⟨y0,q0,by simp [func64,f64,e0],by omega,by omega⟩
theorem adU (v0:Bool)(v1:Int)(r2:List (List D))(v3:Int)(v4:Int)(v5:Int)(v6:Int)(v7:Int)(v8:Int)(v9:Int)(v10:Int)(LJ:List (List D))(LK:List (List D))(v13:Int)(NJ:List (List D))(v15:Int)(r16:List (List D))(v17:Int)(Pg:List (List D))(v19:Int)(k2:gB r2=true)(s2:sD r2=true)(k11:iE LJ=true)(s11:sD LJ=true)(k12:jd LK=true)(s12:sD LK=true)(k14:gB NJ=true)(s14:sD NJ=true)(k16:gB r16=true)(s16:sD r16=true)(k18:gB Pg=true)(s18:sD Pg=true)(x:Int)(hx:0≤x∧x≤4999999994999999987):∃y r2' anw anx anz anA anB,wR [.agg [V.v (.bool v0),vI v1, .own 0,vI v3,vI v4,vI v5,vI v6,vI v7,vI v8,vI v9,vI v10, .own 1, .own 2,vI v13, .own 3,vI v15, .own 4,vI v17, .own 5,vI v19],vI x] [] [r2,LJ,LK,NJ,r16,Pg]=some ⟨vI y,[],[(0,r2'),(1,anw),(2,anx),(3,anz),(4,anA),(5,anB)]⟩∧x≤y∧y≤x+2000000005000000013:=by
 unfold wR
 obtain⟨y0,q2,e0,a0,b0⟩:=GA r2 v3 k2 s2 x ⟨by omega,by omega⟩
 obtain⟨y1,OC,e1,a1,b1⟩:=Yw LJ k11 s11 y0 ⟨by omega,by omega⟩
 obtain⟨y2,OD,e2,a2,b2⟩:=Yx LK k12 s12 y1 ⟨by omega,by omega⟩
 obtain⟨y3,q14,e3,a3,b3⟩:=GA NJ v15 k14 s14 y2 ⟨by omega,by omega⟩
 obtain⟨y4,q16,e4,a4,b4⟩:=NC r16 k16 s16 y3 ⟨by omega,by omega⟩
 obtain⟨y5,q18,e5,a5,b5⟩:=GA Pg v19 k18 s18 y4 ⟨by omega,by omega⟩
 exact⟨y5,q2,OC,OD,q14,q16,q18,by simp [func17,f17,e0,e1,e2,e3,e4,e5],by omega,by omega⟩
end Go.Proofs.YtlpdjhiggpblcaaGreat
