/- Part 15 of a proof in several texts (an abstract evaluator, what the functions compute). -/
import Derived.Test.YtlpdjhiggpblcaaGreatPkFnEdOk14
import Derived.HandedShaped
import Derived.ProofKit
import Derived.Shelf.Vars
open Go.Proofs.Tryz
namespace Go.Proofs.YtlpdjhiggpblcaaGreat
set_option linter.unusedSectionVars false
set_option linter.unusedSimpArgs false
set_option linter.unusedVariables false
open Go.RowKit
set_option maxHeartbeats 8000000
set_option maxRecDepth 10000
theorem RO (e:dB)(hsm:e.sm):sI [gL e] [] []=some ⟨V.v (.bool e.ok),[],[]⟩:=
 acC e.Vi e.bV e.ak.av e.ak.At e.bH e.Op e.bU e.fT e.eY e.bT e.iZ e.aI.aA e.gH.eX e.kF e.iM.av e.iM.At e.bP e.nH e.dH.av e.dH.At hsm.h1 hsm.h2 hsm.h3 hsm.h4 hsm.h5 hsm.h6
section
variable (e:dB) (h:fV e) {f:Int} {l:List ByteArray} (hh:gX f l)
include h hh
theorem abK (n:Int)(q:List Int)(hm:e.bV=3)(hq:q.all bS=true)(hq2:q.length≤41)(hn:n=0∨(f≤n∧n≤f+l.length-1)):BI [gL e,aH f l,vI n, .aP (some 7) (ints q)] [] []=some (sR (mI e f l n q)):=by
 have h1:=hh.first
 have h2:=hh.len
 have e1:=uq e (fA.2 h)
 have e2:=gB e h
 have e3:=IQ f l hh n (by omega)
 have e4:=Ur q (by omega)
 have e5:=kU e.dH.av (some 0) e.dH.At (by have:=(bX h.back).1;omega)
 have hdl:(⟨(bI q).toArray⟩:ByteArray).data.toList=bI q:=rfl
 have hts:(⟨(bI q).toArray⟩:ByteArray).size≤1000000:=by
  have:=FE q
  show(bI q).toArray.size≤1000000
  rw [List.size_toArray];omega
 generalize hE:BI _ _ _=R
 unfold BI at hE
 cases hg:p9 f l n with
 | none=>
  rw [hg]at e3
  have hx:mI e f l n q=none:=by unfold mI;rw [hg];split<;>rfl
  rw [hx]
  have hzl:=qh ⟨#[]⟩ (by decide)
  have hz:mP ⟨#[]⟩=some []:=by
   unfold mP
   obtain⟨q1,q2⟩:=xM reads_nil
   rw [q1,q2,if_pos ⟨rfl,by decide⟩]
  rw [hz]at hzl
  simp only [bn,List.length_nil,Int.natCast_zero]at hzl
  have e7:=Oz ⟨#[]⟩ ⟨(bI q).toArray⟩ (by decide) hts
  generalize Ju ⟨#[]⟩ (⟨(bI q).toArray⟩:ByteArray).data.toList=rt at*
  clear h hh
  simp only [gL,gO,hO,hm]at e1 e2 hE
  simp [-au,func201,f201,e1,e3,hzl,e4,e7]at hE
  exact hE.symm
 | some s=>
  rw [hg]at e3
  have hss:=sw hh hg
  have e7:=Oz s ⟨(bI q).toArray⟩ (by omega) hts
  rw [hdl]at e7
  have e8:=qh s (by omega)
  cases hl:mP s with
  | none=>
   rw [hl]at e8
   have hx:mI e f l n q=none:=by unfold mI;rw [hg];simp only [hl];split<;>rfl
   rw [hx]
   generalize Ju s (bI q)=rt at*
   clear h hh
   simp only [gL,gO,hO,hm]at e1 e2 hE
   simp [-au,func201,f201,e1,e3,e8,e4,e7]at hE
   exact hE.symm
  | some t=>
   rw [hl]at e8
   obtain⟨to1,to2⟩:=Jm hl
   have htl:t.length≤400:=by simp only [dF,Bool.and_eq_true,decide_eq_true_eq]at to1;exact to1.1
   by_cases hi:0≤Lib.index s.data.toList (bI q)
   ·have hrt:Ju s (bI q)=((sM (s.extract 0 (Lib.index s.data.toList (bI q)).toNat)).length:Int):=if_pos hi
    rw [hrt]at e7
    have hok:=fun JA:q.length≤40=>fV.shown (x:= {e with iM:=if e.kF=0 then e.dH else e.iM,ak:=⟨t,(sM (s.extract 0 (Lib.index s.data.toList (bI q)).toNat)).length⟩,bP:=q,nH:=n,kF:=n,gH:=⟨[]⟩}) h hm hh hq (by unfold mI;rw [if_pos JA,hg];simp only [hl];rw [if_pos hi])
    have hx:mI e f l n q=if q.length≤40 then some {e with iM:=if e.kF=0 then e.dH else e.iM,ak:=⟨t,(sM (s.extract 0 (Lib.index s.data.toList (bI q)).toNat)).length⟩,bP:=q,nH:=n,kF:=n,gH:=⟨[]⟩}else none:=by
     unfold mI;rw [hg];simp only [hl];rw [if_pos hi]
    rw [hx]
    generalize (sM (s.extract 0 (Lib.index s.data.toList (bI q)).toNat)).length=front at*
    have ag8:∀w:iG,w.av.length≤400→dB.sm {e with iM:=w,ak:=⟨t,(front:Int)⟩,bP:=q,nH:=n,kF:=n,gH:=⟨[]⟩}:=fun w hw=>⟨by show t.length≤1000000000;omega,by show w.av.length≤1000000000;omega,(dB.acw (fA.2 h)).h3,by show q.length≤1000000000;omega,(dB.acw (fA.2 h)).h5,rfl⟩
    have g1:q.length≤4611686018427387904:=by omega
    have g2:q.length*8≤140737488355328:=by omega
    have hf0:¬(front:Int)<0:=by omega
    by_cases hn0:e.kF=0
    ·rw [if_pos hn0]at hok⊢
     have e9:=RO _ (ag8 e.dH (bX h.back).1)
     have hok':dB.ok {e with iM:=e.dH,ak:=⟨t,(front:Int)⟩,bP:=q,nH:=n,kF:=n,gH:=⟨[]⟩}=decide (q.length≤40):=by
      by_cases JA:q.length≤40
      ·rw [decide_eq_true JA];exact fA.2 (hok JA)
      ·rw [decide_eq_false JA]
       cases hz:dB.ok {e with iM:=e.dH,ak:=⟨t,(front:Int)⟩,bP:=q,nH:=n,kF:=n,gH:=⟨[]⟩}with
       | false=>rfl
       | true=>exact absurd (fA.1 hz).ql JA
     rw [hok']at e9
     clear hok hok' ag8 h hh hx
     simp only [gL,gO,hO,hm,bn,show aS []= []from rfl]at e1 e2 e9 hE
     by_cases JA:q.length≤40
     ·rw [if_pos JA]
      rw [decide_eq_true JA]at e9
      simp only [gL,gO,hO,hn0]at e1 e2 hE
      simp [-au,func201,f201,e1,e2,e3,e4,e5,e7,e8,e9,g1,g2,hf0]at hE
      simp only [sR,hm]
      exact hE.symm
     ·rw [if_neg JA]
      rw [decide_eq_false JA]at e9
      simp only [gL,gO,hO,hn0]at e1 e2 hE
      simp [-au,func201,f201,e1,e2,e3,e4,e5,e7,e8,e9,g1,g2,hf0]at hE
      exact hE.symm
    ·rw [if_neg hn0]at hok⊢
     have e9:=RO _ (ag8 e.iM (bX h.own).1)
     have hok':dB.ok {e with iM:=e.iM,ak:=⟨t,(front:Int)⟩,bP:=q,nH:=n,kF:=n,gH:=⟨[]⟩}=decide (q.length≤40):=by
      by_cases JA:q.length≤40
      ·rw [decide_eq_true JA];exact fA.2 (hok JA)
      ·rw [decide_eq_false JA]
       cases hz:dB.ok {e with iM:=e.iM,ak:=⟨t,(front:Int)⟩,bP:=q,nH:=n,kF:=n,gH:=⟨[]⟩}with
       | false=>rfl
       | true=>exact absurd (fA.1 hz).ql JA
     rw [hok']at e9
     clear hok hok' ag8 h hh hx
     simp only [gL,gO,hO,hm,bn,show aS []= []from rfl]at e1 e2 e9 hE
     by_cases JA:q.length≤40
     ·rw [if_pos JA]
      rw [decide_eq_true JA]at e9
      simp [-au,func201,f201,e1,e2,e3,e4,e7,e8,e9,g1,g2,hf0,hn0]at hE
      simp only [sR,hm]
      exact hE.symm
     ·rw [if_neg JA]
      rw [decide_eq_false JA]at e9
      simp [-au,func201,f201,e1,e2,e3,e4,e7,e8,e9,g1,g2,hf0,hn0]at hE
      exact hE.symm
   ·have hrt:Ju s (bI q)= -1:=if_neg hi
    rw [hrt]at e7
    have hx:mI e f l n q=none:=by unfold mI;rw [hg];simp only [hl];rw [if_neg hi];split<;>rfl
    rw [hx]
    clear h hh
    simp only [gL,gO,hO,hm]at e1 e2 hE
    simp [-au,func201,f201,e1,e3,e8,e4,e7]at hE
    exact hE.symm
theorem abL (q:List Int)(fr:Int)(hm:e.bV=3)(hq:q.all bS=true)(hq2:q.length≤41)(hfr: -2≤fr∧fr≤2000000000)(p:dB×Int)
  (hp:p=(match mI e f l (iW f (bI q) fr l l.length) q with|none=>(e,1)|some x=>(x,0))):tO [gL e,aH f l, .aP (some 7) (ints q),vI fr] [] []=some (kR p):=by
 have h1:=hh.first
 have h2:=hh.len
 have e0:=gB e h
 have e2:=Ur q (by omega)
 have hts:(⟨(bI q).toArray⟩:ByteArray).size≤1000000:=by
  have:=FE q
  show(bI q).toArray.size≤1000000
  rw [List.size_toArray];omega
 have e3:=Zn f l hh ⟨(bI q).toArray⟩ hts fr hfr
 have hdl:(⟨(bI q).toArray⟩:ByteArray).data.toList=bI q:=rfl
 rw [hdl]at e3
 have e4:=abK e h hh (iW f (bI q) fr l l.length) q hm hq hq2 (by
  rcases IE (sub:=bI q) (fr:=fr) (l:=l) h1.1 l.length with h|⟨k,h3,h4⟩
  ·exact .inl h
  ·exact .inr (by omega))
 generalize iW f (bI q) fr l l.length=n at*
 generalize hE:tO _ _ _=R
 unfold tO at hE
 clear h hh
 cases hs:mI e f l n q with
 | none=>
  rw [hs]at e4 hp
  subst hp
  simp [-au,func112,f112,e0,e2,e3,e4]at hE
  exact hE.symm
 | some x=>
  rw [hs]at e4 hp
  subst hp
  simp [-au,func112,f112,e2,e3,e4]at hE
  exact hE.symm
end
section
variable (e:dB) (h:fV e) {f:Int} {l:List ByteArray} (hh:gX f l) (hm:e.bV=3)
include h hh hm
theorem IX (q:List Int)(fr:Int)(hq:q.all bS=true)(hq2:q.length≤41)(hfr: -2≤fr∧fr≤2000000000):tO [gL e,aH f l, .aP (some 7) (ints q),vI (if e.nH=0 then gF f l else fr)] [] []=some (kR (BN e f l q fr)):=by
 have h1:=hh.first
 have h2:=hh.len
 have hlast:0≤gF f l∧gF f l≤1000000059:=by unfold gF;split<;>omega
 exact abL e h hh q (if e.nH=0 then gF f l else fr) hm hq hq2 (by split<;>omega) _ rfl
theorem Gc (k r:Int)(hk:jh k r=true)(p:dB×Int)(hp:
  (k=1∧tO [gL e,aH f l, .aP (some 7) (ints (e.bP++ [r])),vI (if e.nH=0 then gF f l else e.nH)] [] []=some (kR p))∨
  (k=2∧r=114∧e.bP= []∧p.1=e∧p.2=1)∨
  (k=2∧r=114∧¬e.bP= []∧tO [gL e,aH f l, .aP (some 7) (ints e.bP),vI (if e.nH=0 then gF f l else e.nH-1)] [] []=some (kR p))∨
  (k=5∧e.bP= []∧p.1=e∧p.2=1)∨
  (k=4∧uT [gL e] [] []=some ⟨gO p.1,[],hO p.1⟩∧p.2=2)∨
  (k=2∧(r=103∨r=99)∧uT [gL {e with ak:=e.dH,kF:=0,iM:=⟨[],0⟩}] [] []=some ⟨gO p.1,[],hO p.1⟩∧p.2=1)∨
  (¬k=1∧¬k=4∧¬k=5∧((k=2∧¬r=114∧¬r=103∧¬r=99)∨¬k=2)∧uT [gL e] [] []=some ⟨gO p.1,[],hO p.1⟩∧p.2=0)):
  kQ [gL e,aH f l,aK k r] [] []=some (kR p):=by
 have ea:=uq e (fA.2 h)
 have eb:=oJ f l hh
 have ec:=o9 k r
 rw [hk]at ec
 have eL:=IL f l hh
 have e0:=gB e h
 have hhit:=h.hit
 have w1:=bM (e.nH-1) (by omega)
 have JA:=h.ql
 have e5:=kU e.dH.av (some 0) e.dH.At (by have:=(bX h.back).1;omega)
 have ej:=fun i j k=>uo e.bP [r] [] i j k (by simp;omega)
 simp only [I8,bn,List.append_nil]at ej
 obtain⟨p1,p2⟩:=p
 simp only at hp
 clear h hh hk
 generalize hE:kQ _ _ _=R
 unfold kQ at hE
 by_cases hz:e.nH=0
 ·simp only [if_pos hz]at hp
  simp only [gL,gO,hO,hm,hz,bn,show aS []= []from rfl]at ea e0 hp hE
  rcases hp with⟨rfl,e1⟩|⟨rfl,rfl,z1,z2,rfl⟩|⟨rfl,rfl,z1,e1⟩|⟨rfl,z1,z2,rfl⟩|⟨rfl,e1,rfl⟩|⟨rfl,rfl|rfl,e1,rfl⟩|⟨d1,d2,d3,⟨rfl,d4,d5,d6⟩|d4,e1,rfl⟩
  ·simp [-au,func39,f39,ea,eb,ec,eL,w1,ej,e1]at hE
   exact hE.symm
  ·rw [z2]
   simp only [gL,gO,hO,z1,bn]at ea e0 hE
   simp [-au,func39,f39,ea,eb,ec,eL,e0,w1]at hE
   simp only [kR,gL,gO,hO,hm,hz,z1,bn]
   exact hE.symm
  ·simp [-au,func39,f39,ea,eb,ec,eL,w1,z1,e1]at hE
   exact hE.symm
  ·rw [z2]
   simp only [gL,gO,hO,z1,bn]at ea e0 hE
   simp [-au,func39,f39,ea,eb,ec,eL,e0,w1]at hE
   simp only [kR,gL,gO,hO,hm,hz,z1,bn]
   exact hE.symm
  ·simp [-au,func39,f39,ea,eb,ec,eL,w1,e1]at hE
   exact hE.symm
  ·simp [-au,func39,f39,ea,eb,ec,eL,w1,e0,e5,e1]at hE
   exact hE.symm
  ·simp [-au,func39,f39,ea,eb,ec,eL,w1,e0,e5,e1]at hE
   exact hE.symm
  ·simp [-au,func39,f39,ea,eb,ec,eL,w1,e1,d4,d5,d6]at hE
   exact hE.symm
  ·simp [-au,func39,f39,ea,eb,ec,eL,w1,e1,d1,d2,d3,d4]at hE
   exact hE.symm
 ·simp only [if_neg hz]at hp
  simp only [gL,gO,hO,hm,bn,show aS []= []from rfl]at ea e0 hp hE
  rcases hp with⟨rfl,e1⟩|⟨rfl,rfl,z1,z2,rfl⟩|⟨rfl,rfl,z1,e1⟩|⟨rfl,z1,z2,rfl⟩|⟨rfl,e1,rfl⟩|⟨rfl,rfl|rfl,e1,rfl⟩|⟨d1,d2,d3,⟨rfl,d4,d5,d6⟩|d4,e1,rfl⟩
  ·simp [-au,func39,f39,ea,eb,ec,eL,w1,ej,e1,hz]at hE
   exact hE.symm
  ·rw [z2]
   simp only [gL,gO,hO,z1,bn]at ea e0 hE
   simp [-au,func39,f39,ea,eb,ec,eL,e0,w1,hz]at hE
   simp only [kR,gL,gO,hO,hm,z1,bn]
   exact hE.symm
  ·simp [-au,func39,f39,ea,eb,ec,eL,w1,z1,e1,hz]at hE
   exact hE.symm
  ·rw [z2]
   simp only [gL,gO,hO,z1,bn]at ea e0 hE
   simp [-au,func39,f39,ea,eb,ec,eL,e0,w1,hz]at hE
   simp only [kR,gL,gO,hO,hm,z1,bn]
   exact hE.symm
  ·simp [-au,func39,f39,ea,eb,ec,eL,w1,e1,hz]at hE
   exact hE.symm
  ·simp [-au,func39,f39,ea,eb,ec,eL,w1,e0,e5,e1,hz]at hE
   exact hE.symm
  ·simp [-au,func39,f39,ea,eb,ec,eL,w1,e0,e5,e1,hz]at hE
   exact hE.symm
  ·simp [-au,func39,f39,ea,eb,ec,eL,w1,e1,d4,d5,d6,hz]at hE
   exact hE.symm
  ·simp [-au,func39,f39,ea,eb,ec,eL,w1,e1,d1,d2,d3,d4,hz]at hE
   exact hE.symm
end
section
variable (e:dB) (h:fV e) {f:Int} {l:List ByteArray} (hh:gX f l) (hm:e.bV=3)
include h hh hm
theorem RP (r:Int)(hk:jh 5 r=true)(hq:¬e.bP= []):kQ [gL e,aH f l,aK 5 r] [] []=some (kX e 5 ({e with bP:=e.bP.dropLast},0)):=by
 have ea:=uq e (fA.2 h)
 have eb:=oJ f l hh
 have ec:=o9 5 r
 rw [hk]at ec
 have eL:=IL f l hh
 have e0:=gB e h
 have hhit:=h.hit
 have w0:=bM (e.nH-1) (by omega)
 have JA:=h.ql
 have hpos:=List.length_pos_iff.2 hq
 have w1:=bM ((e.bP.length:Int)-1) (by omega)
 have k1:((e.bP.length:Int)-1).toNat=e.bP.length-1:=by omega
 have k3:¬(e.bP.length:Int)=0:=by omega
 have k4:¬e.bP.length=0:=by omega
 have k6:(1:Int)≤e.bP.length:=by omega
 have k7:(e.bP.length:Int)-1≤e.bP.length:=by omega
 rw [List.dropLast_eq_take]
 by_cases h1:e.bP.length=1
 ·have hw:xO e 5:=⟨hm,rfl,h1⟩
  unfold kX
  rw [if_pos hw]
  have k5:¬0<e.bP.length-1:=by omega
  clear h hh
  generalize hE:kQ _ _ _=R
  unfold kQ at hE
  by_cases hz:e.nH=0
  ·simp only [gL,gO,hO,hm,hz]at ea e0 hE
   simp [-au,func39,f39,ea,eb,ec,eL,e0,w0,w1,k1,k3,k4,k5,k6,k7,hpos,hq]at hE
   simp only [hm,hz]
   exact hE.symm
  ·simp only [gL,gO,hO,hm]at ea e0 hE
   simp [-au,func39,f39,ea,eb,ec,eL,e0,w0,w1,k1,k3,k4,k5,k6,k7,hpos,hq,hz]at hE
   simp only [gL,gO,hO,hm]
   exact hE.symm
 ·have hw:¬xO e 5:=fun q=>h1 q.2.2
  unfold kX
  rw [if_neg hw]
  have k5:0<e.bP.length-1:=by omega
  clear h hh
  generalize hE:kQ _ _ _=R
  unfold kQ at hE
  by_cases hz:e.nH=0
  ·simp only [gL,gO,hO,hm,hz]at ea e0 hE
   simp [-au,func39,f39,ea,eb,ec,eL,e0,w0,w1,k1,k3,k4,k5,k6,k7,hpos,hq]at hE
   simp only [hm,hz]
   exact hE.symm
  ·simp only [gL,gO,hO,hm]at ea e0 hE
   simp [-au,func39,f39,ea,eb,ec,eL,e0,w0,w1,k1,k3,k4,k5,k6,k7,hpos,hq,hz]at hE
   simp only [gL,gO,hO,hm]
   exact hE.symm
theorem WM (k r:Int)(hk:jh k r=true):kQ [gL e,aH f l,aK k r] [] []=some (kX e k (sN e f l k r)):=by
 have hhit:=h.hit
 have JA:=h.ql
 unfold sN
 by_cases c5:k=5
 ·subst c5
  rw [if_neg (by decide),if_neg (by omega),if_pos rfl]
  by_cases hq:e.bP= []
  ·have hw:¬xO e 5:=fun q=>by have:=q.2.2;rw [hq]at this;simp at this
   rw [if_pos hq,kX,if_neg hw]
   exact Gc e h hh hm 5 r hk _ (.inr (.inr (.inr (.inl ⟨rfl,hq,rfl,rfl⟩))))
  ·rw [if_neg hq]
   exact RP e h hh hm r hk hq
 have hw:¬xO e k:=fun q=>c5 q.2.1
 rw [kX,if_neg hw]
 refine Gc e h hh hm k r hk _ ?_
 by_cases c1:k=1
 ·rw [if_pos c1]
  have hp:bS r=true:=by subst c1;simpa [jh] using hk
  exact .inl ⟨c1,IX e h hh hm (e.bP++ [r]) e.nH (by rw [List.all_append,h.qp];simp [hp]) (by simp;omega) (by omega)⟩
 rw [if_neg c1]
 by_cases c2:k=2∧r=114
 ·rw [if_pos c2]
  by_cases hq:e.bP= []
  ·rw [if_pos hq];exact .inr (.inl ⟨c2.1,c2.2,hq,rfl,rfl⟩)
  ·rw [if_neg hq];exact .inr (.inr (.inl ⟨c2.1,c2.2,hq,IX e h hh hm e.bP (e.nH-1) h.qp (by omega) (by omega)⟩))
 rw [if_neg c2,if_neg c5]
 refine .inr (.inr (.inr (.inr ?_)))
 have eL:=Zo e h hm
 by_cases c4:k=4
 ·rw [if_pos c4];exact .inl ⟨c4,eL,rfl⟩
 rw [if_neg c4]
 by_cases c3:k=2∧(r=103∨r=99)
 ·rw [if_pos c3]
  exact .inr (.inl ⟨c3.1,c3.2,Zo _ (h.broke hm) hm,rfl⟩)
 rw [if_neg c3]
 refine .inr (.inr ⟨c1,c4,c5,?_,eL,rfl⟩)
 by_cases c6:k=2
 ·exact .inl ⟨c6,fun q=>c2 ⟨c6,q⟩,fun q=>c3 ⟨c6, .inl q⟩,fun q=>c3 ⟨c6, .inr q⟩⟩
 ·exact .inr c6
end
def Jv (e:dB)(k r:Int):Prop:=(e.bV=0∧k=2∧r=95)∨(e.bV=2∧k=1∧e.fT=0∧e.Op=0∧r=117)
instance (e:dB) (k r:Int):Decidable (Jv e k r):=inferInstanceAs (Decidable ((e.bV=0∧k=2∧r=95)∨(e.bV=2∧k=1∧e.fT=0∧e.Op=0∧r=117)))
section
variable (e:dB) (h:fV e) {f:Int} {l:List ByteArray} (hh:gX f l)
include h hh
theorem af7 (k r:Int)(hk:jh k r=true)(hy:eB [gL e] [] []=some (kR (jO e)))(hu:Jv e k r→iI [gL e] [] []=some (kR (mQ e))):lJ [gL e,aH f l,aK k r] [] []=some (kX e k (ug e f l k r)):=by
 unfold ug
 by_cases m0:e.bV=0
 ·have hw:¬xO e k:=fun q=>by have:=q.1;omega
  rw [if_pos m0,kX,if_neg hw]
  have e1:=Zk e h hh k r hk m0 hy fun q1 q2=>hu (.inl ⟨m0,q1,q2⟩)
  generalize xI e f l k r=p at*
  clear h hh hy hu
  generalize hE:lJ _ _ _=R
  unfold lJ at hE
  simp only [gL,gO,hO,m0]at e1 hE
  simp [-au,func8,f8,e1]at hE
  exact hE.symm
 rw [if_neg m0]
 by_cases m3:e.bV=3
 ·rw [if_pos m3]
  have e1:=WM e h hh m3 k r hk
  generalize sN e f l k r=p at*
  clear h hh hy hu
  unfold kX at*
  generalize hE:lJ _ _ _=R
  unfold lJ at hE
  simp only [gL,gO,hO,m3]at e1 hE
  by_cases hw:xO e k
  ·rw [if_pos hw]at e1⊢
   simp [-au,func8,f8,e1]at hE
   exact hE.symm
  ·rw [if_neg hw]at e1⊢
   simp [-au,func8,f8,e1]at hE
   exact hE.symm
 rw [if_neg m3]
 have hw:¬xO e k:=fun q=>m3 q.1
 rw [kX,if_neg hw]
 have e1:=af5 e h hh k r hk (by rcases h.mode with q|q|q<;>omega) fun q1 q2 q3 q4 q5=>hu (.inr ⟨q1,q2,q3,q4,q5⟩)
 generalize viE e f l k r=p at*
 clear h hh hy hu
 generalize hE:lJ _ _ _=R
 simp [lJ, -au,func8,f8,e1,m0,m3]at hE
 exact hE.symm
end
theorem Zp (l:List eT)(h:eZ l=true):zx [.agg [.aP (some 0) (aC l)]] [] []=some ⟨.agg [.own 0],[],[(0,aC (lC l))]⟩:=by
 obtain⟨hl,hp⟩:=yO h
 have e1:=dK l (Ee h)
 rw [h]at e1
 have e3:=FC l (some 0) (by omega) (fun p hq=>by have:=(hp p hq).2.1;omega)
 have hrow:∀r∈aC l,∃q,r= [D.l q]:=fun r hr=>by
  obtain⟨i,hi⟩:=List.getElem?_of_mem hr
  have hlt:i<l.length:=by have:=(List.getElem?_eq_some_iff.1 hi).1;simpa using this
  rw [jq hlt]at hi
  injection hi with hi
  exact⟨_,hi.symm⟩
 unfold zx
 simp only
 rw [if_pos ⟨e1,e3,hrow,by simp;omega⟩,Mi]
section
variable (e:dB) (h:fV e)
include h
theorem OT:eB [gL e] [] []=some (kR (jO e)):=by
 obtain⟨h1,h2,h3,h4⟩:=h.aR
 have e1:pX [.agg [.aP (some 0) (aC e.aI.aA)]] [] []=some ⟨.own 0,[],[(0,ints (bE e.aI.aA))]⟩:=FV e.aI.aA h.ring
 have hr:=Q0 h.ring
 have e2:=Zp e.aI.aA h.ring
 have e3:pX [.agg [.aP (some 0) (aC (lC e.aI.aA))]] [] []=some ⟨.own 0,[],[(0,ints (bE (lC e.aI.aA)))]⟩:=FV _ hr
 have e4:=jD e h
 have e5:=gB e h
 obtain⟨t1,t2⟩:=xL h.ring
 obtain⟨t3,t4⟩:=xL hr
 have w:=bM (e.ak.At-(bE e.aI.aA).length) (by omega)
 have hlen:=h.line
 unfold jO
 by_cases hc:Oo e=true
 ·obtain⟨c1,c2,c3,c4⟩:e.iZ=3∧¬bE e.aI.aA= []∧(bE e.aI.aA).length≤aR e∧(e.ak.av.drop (aR e-(bE e.aI.aA).length)).take (bE e.aI.aA).length=bE e.aI.aA:=by
   simpa [Oo] using hc
  obtain⟨q1,q2,q3⟩:=um h.line (show aR e-(bE e.aI.aA).length≤aR e by omega) h2
  have e6:=BR e.ak.av e.ak.At h.line (aR e-(bE e.aI.aA).length) (aR e) (by omega) h2
  have hca:cutAt e.ak.At ((aR e-(bE e.aI.aA).length:Nat):Int) (aR e:Int)=((aR e-(bE e.aI.aA).length:Nat):Int):=by
   unfold cutAt;rw [if_pos (by omega)];omega
  rw [hca]at e6 q1
  have e7:=BQ (oD e.ak.av (aR e-(bE e.aI.aA).length) (aR e)) (bE (lC e.aI.aA)) ((aR e-(bE e.aI.aA).length:Nat):Int) q1 t3 (by omega)
  rw [Int.toNat_natCast]at e7
  have hsame:=FU (bE e.aI.aA) (bE e.aI.aA) (by omega) (by omega)
  rw [decide_eq_true rfl]at hsame
  have hF:((aR e-(bE e.aI.aA).length:Nat):Int)=e.ak.At-(bE e.aI.aA).length:=by omega
  have k1:(e.ak.At-((bE e.aI.aA).length:Int)).toNat=aR e-(bE e.aI.aA).length:=by omega
  have k2:e.ak.At.toNat=aR e:=rfl
  have k3:aR e-(aR e-(bE e.aI.aA).length)=(bE e.aI.aA).length:=by omega
  have k4:0≤e.ak.At-((bE e.aI.aA).length:Int):=by omega
  have k5:e.ak.At-((bE e.aI.aA).length:Int)≤e.ak.At:=by omega
  have k6:e.ak.At≤e.ak.av.length:=by omega
  have k7:¬e.ak.At<((bE e.aI.aA).length:Int):=by omega
  have k8:¬((bE e.aI.aA).length:Int)=0:=by have:=List.length_pos_iff.2 c2;omega
  have k9:0≤e.ak.At:=by omega
  have kA:((bE e.aI.aA).length:Int)≤e.ak.At:=by omega
  rw [hF,←h1]at e6
  by_cases hl:(oD e.ak.av (aR e-(bE e.aI.aA).length) (aR e)).length+(bE (lC e.aI.aA)).length≤400
  ·rw [if_pos ⟨hc,hl⟩]
   rw [if_pos hl]at e7
   obtain⟨-,z2, -, -⟩:=bX q1
   have e8:=qO {e with aI:=⟨lC e.aI.aA⟩} (h.Md hr) (zR (oD e.ak.av (aR e-(bE e.aI.aA).length) (aR e)) (aR e-(bE e.aI.aA).length) (bE (lC e.aI.aA))) (((aR e-(bE e.aI.aA).length:Nat):Int)+(bE (lC e.aI.aA)).length) 3 ((yY hl z2 t3 (by omega)).2 _ (by omega) (by omega)) (by omega)
   generalize zR (oD e.ak.av (aR e-(bE e.aI.aA).length) (aR e)) (aR e-(bE e.aI.aA).length) (bE (lC e.aI.aA))=Y at*
   unfold oD at e7
   rw [hF]at e7 e8
   generalize hX:e.ak.av.take (aR e-(bE e.aI.aA).length)++e.ak.av.drop (aR e)=X at*
   rw [hF]
   generalize sO {e with aI:=⟨lC e.aI.aA⟩} Y (e.ak.At-(bE e.aI.aA).length+(bE (lC e.aI.aA)).length) 3=p at*
   generalize bE (lC e.aI.aA)=tn at*
   generalize bE e.aI.aA=tp at*
   generalize lC e.aI.aA=tr at*
   clear h hlen
   generalize hE:eB _ _ _=R
   unfold eB at hE
   simp only [gL,gO,hO,c1]at e4 e5 e8 hE
   simp [-au,func190,f190,e1,e2,e3,e5,e6,e7,e8,hsame,w,k1,k2,k3,k4,k5,k6,k7,k8,k9,kA,c2,c4]at hE
   exact hE.symm
  ·rw [if_neg (fun q=>hl q.2)]
   rw [if_neg hl]at e7
   unfold oD at e7
   rw [hF]at e7
   generalize hX:e.ak.av.take (aR e-(bE e.aI.aA).length)++e.ak.av.drop (aR e)=X at*
   generalize dM e=p at*
   generalize bE (lC e.aI.aA)=tn at*
   generalize bE e.aI.aA=tp at*
   generalize lC e.aI.aA=tr at*
   clear h hlen
   generalize hE:eB _ _ _=R
   unfold eB at hE
   simp only [gL,gO,hO,c1]at e4 e5 hE
   simp [-au,func190,f190,e1,e2,e3,e4,e6,e7,hsame,w,k1,k2,k3,k4,k5,k6,k7,k8,k9,kA,c2,c4]at hE
   exact hE.symm
 ·rw [if_neg (fun q=>hc q.1)]
  generalize dM e=p at*
  have hc':¬(e.iZ=3∧¬bE e.aI.aA= []∧(bE e.aI.aA).length≤aR e∧(e.ak.av.drop (aR e-(bE e.aI.aA).length)).take (bE e.aI.aA).length=bE e.aI.aA):=fun q=>hc (by simpa [Oo] using q)
  by_cases c1:e.iZ=3
  ·by_cases c2:bE e.aI.aA= []
   ·rw [c2]at e1
    simp only [bn]at e1
    generalize hE:eB _ _ _=R
    unfold eB at hE
    simp only [gL,gO,hO,c1]at e4 hE
    simp [-au,func190,f190,e1,e4]at hE
    exact hE.symm
   ·have k8:¬((bE e.aI.aA).length:Int)=0:=by have:=List.length_pos_iff.2 c2;omega
    by_cases c3:(bE e.aI.aA).length≤aR e
    ·have c4:¬(e.ak.av.drop (aR e-(bE e.aI.aA).length)).take (bE e.aI.aA).length=bE e.aI.aA:=fun q=>hc' ⟨c1,c2,c3,q⟩
     have hsame:=FU ((e.ak.av.drop (aR e-(bE e.aI.aA).length)).take (bE e.aI.aA).length) (bE e.aI.aA) (by simp;omega) (by omega)
     rw [decide_eq_false c4]at hsame
     have k1:(e.ak.At-((bE e.aI.aA).length:Int)).toNat=aR e-(bE e.aI.aA).length:=by omega
     have k2:e.ak.At.toNat=aR e:=rfl
     have k3:aR e-(aR e-(bE e.aI.aA).length)=(bE e.aI.aA).length:=by omega
     have k4:0≤e.ak.At-((bE e.aI.aA).length:Int):=by omega
     have k5:e.ak.At-((bE e.aI.aA).length:Int)≤e.ak.At:=by omega
     have k6:e.ak.At≤e.ak.av.length:=by omega
     have k7:¬e.ak.At<((bE e.aI.aA).length:Int):=by omega
     have k9:0≤e.ak.At:=by omega
     have kA:((bE e.aI.aA).length:Int)≤e.ak.At:=by omega
     generalize bE e.aI.aA=tp at*
     generalize hE:eB _ _ _=R
     unfold eB at hE
     simp only [gL,gO,hO,c1]at e4 hE
     simp [-au,func190,f190,e1,e4,hsame,w,k1,k2,k3,k4,k5,k6,k7,k8,k9,kA,c2]at hE
     exact hE.symm
    ·have k7:e.ak.At<((bE e.aI.aA).length:Int):=by omega
     generalize bE e.aI.aA=tp at*
     generalize hE:eB _ _ _=R
     unfold eB at hE
     simp only [gL,gO,hO,c1]at e4 hE
     simp [-au,func190,f190,e1,e4,k7,k8,c2]at hE
     exact hE.symm
  ·generalize bE e.aI.aA=tp at*
   generalize hE:eB _ _ _=R
   simp [eB, -au,func190,f190,e1,e4,c1]at hE
   exact hE.symm
end
abbrev edU (e:dB):V:= .agg [V.v (.bool e.Vi),vI e.bV, .own 0,vI e.ak.At,vI e.bH,vI e.Op,vI e.bU,vI e.fT,vI e.eY,vI e.bT,vI e.iZ, .own 1, .aP none [],vI e.kF, .own 2,vI e.iM.At, .own 3,vI e.nH, .own 4,vI e.dH.At]
abbrev kRu (p:dB×Int):Ay:=⟨.fK [edU p.1,vI p.2],[],[(0,ints p.1.ak.av),(1,aC p.1.aI.aA),(2,ints p.1.iM.av),(3,ints p.1.bP),(4,ints p.1.dH.av)]⟩
theorem El (l:List iG)(x:iG)(h:jB (l++ [x])=true):Cz [.agg [.aP (some 0) (aS (l++ [x]))]] [] []=some (if l= []then⟨.fK [.agg [.aP none []], .agg [.own 0,vI x.At],V.v (.bool true)],[],[(0,ints x.av)]⟩else⟨.fK [.agg [.own 0], .agg [.own 1,vI x.At],V.v (.bool true)],[],[(0,aS l),(1,ints x.av)]⟩):=by
 obtain⟨hl,hp⟩:=rH h
 have e1:=KI (l++ [x]) h
 have e3:=IK (l++ [x]) (some 0) (by omega) (fun p hq=>by have:=(bX (hp p hq)).1;omega)
 rw [←vW]at e1 e3⊢
 have hw:∀r∈aS l,r.length=2:=fun r hr=>by
  obtain⟨i,hi⟩:=List.getElem?_of_mem hr
  have hlt:i<l.length:=by have:=(List.getElem?_eq_some_iff.1 hi).1;simpa using this
  rw [iR hlt]at hi
  injection hi with hi
  rw [←hi];rfl
 refine afq ?_
 unfold Am
 simp only [List.getLast?_concat]
 rw [if_pos ⟨e1,e3,by rw [List.dropLast_concat];exact hw,rfl,by simp at hl⊢;omega⟩,List.dropLast_concat]
 by_cases h0:l= []
 ·subst h0;rw [if_pos (show aS []= []from rfl),if_pos rfl]
 ·rw [if_neg h0,if_neg (fun q=>h0 (List.eq_nil_of_length_eq_zero (by rw [←ZG,q];rfl)))]
theorem RQ:Cz [.agg [.aP (some 0) []]] [] []=some ⟨.fK [.agg [.own 0], .agg [.own 1,vI 0],V.v (.bool false)],[],[(0,[]),(1,[])]⟩:=by
 have e1:=KI [] rfl
 simp only [show aS []= []from rfl]at e1
 refine(ado rfl).trans ?_
 simp [Fw,func256,f256,e1]
section
variable (e:dB) (h:fV e)
include h
theorem abM (hl:¬e.gH.eX.length=1):iI [gL e] [] []=some (kR (mQ e)):=by
 by_cases h0:e.gH.eX= []
 ·have e1:=RQ
  have e2:=jD e h
  have:mQ e=dM e:=by unfold mQ;rw [h0];rfl
  rw [this]
  generalize dM e=p at*
  generalize hE:iI _ _ _=R
  unfold iI at hE
  simp only [gL,gO,hO,h0,show aS []= []from rfl]at e2 hE
  simp [-au,func199,f199,e1,e2]at hE
  exact hE.symm
 ·obtain⟨l,x,hx⟩:∃l x,e.gH.eX=l++ [x]:=⟨_,_,(List.dropLast_concat_getLast h0).symm⟩
  have hu:=h.undo
  rw [hx]at hu
  have hlx:¬l= []:=fun q=>hl (by rw [hx,q];rfl)
  have e1:=El l x hu
  rw [if_neg hlx,←hx]at e1
  have e2:=gB e h
  have e3:=vS e
  have hta:0≤x.At∧x.At≤1000:=by have:=bX ((rH hu).2 x (by simp));omega
  have e7:=qW {e with bH:=0,Op:=0,bU:=0,fT:=0,iZ:=0,ak:=x,gH:=⟨l⟩} hta
  have:mQ e=({sK e 0 with ak:=⟨x.av,jl e.bV x.av x.At⟩,gH:=⟨l⟩},0):=by unfold mQ;rw [hx];simp
  rw [this]
  unfold sK
  simp only [gL]at e7
  generalize hE:iI _ _ _=R
  unfold iI at hE
  simp only [gL]at e2 e3 hE
  simp [-au,func199,f199,e1,e2,e3,e7]at hE
  exact hE.symm
theorem Zq (hl:e.gH.eX.length=1):iI [gL e] [] []=some (kRu (mQ e)):=by
 obtain⟨x,hx⟩:=List.length_eq_one_iff.1 hl
 have hu:=h.undo
 rw [hx]at hu
 have e1:=El [] x hu
 rw [if_pos rfl,List.nil_append,←hx]at e1
 have e2:=gB e h
 have e3:=vS e
 have hta:0≤x.At∧x.At≤1000:=by have:=bX ((rH hu).2 x (by simp));omega
 have e7:=qW {e with bH:=0,Op:=0,bU:=0,fT:=0,iZ:=0,ak:=x,gH:=⟨[]⟩} hta
 have:mQ e=({sK e 0 with ak:=⟨x.av,jl e.bV x.av x.At⟩,gH:=⟨[]⟩},0):=by unfold mQ;rw [hx];simp
 rw [this]
 unfold sK
 simp only [gL,show aS []= []from rfl]at e7
 generalize hE:iI _ _ _=R
 unfold iI at hE
 simp only [gL]at e2 e3 hE
 simp [-au,func199,f199,e1,e2,e3,e7]at hE
 exact hE.symm
end
section
variable (e:dB) (h:fV e) {f:Int} {l:List ByteArray} (hh:gX f l)
include h hh
theorem abN (k r:Int)(hu:Jv e k r):ug e f l k r=mQ e:=by
 unfold ug
 rcases hu with⟨m,rfl,rfl⟩|⟨m,rfl,hw,ho,rfl⟩
 ·rw [if_pos m]
  unfold xI lY CO fZ
  simp
 ·rw [if_neg (by omega),if_neg (by omega)]
  unfold viE oz vR rX
  have hm:gM e.ak.av (aR e) 117 (gW e)=none:=by unfold gM;simp
  simp [m,hw,ho,hm,gY,opC,show iV 117= -1 from by decide]
theorem aea (k r:Int)(hk:jh k r=true)(hu:Jv e k r)(hl:e.gH.eX.length=1):lJ [gL e,aH f l,aK k r] [] []=some (kRu (ug e f l k r)):=by
 rw [abN e h hh k r hu]
 have eu:=Zq e h hl
 obtain⟨h1,h2,h3,h4⟩:=h.aR
 have ea:=uq e (fA.2 h)
 have eb:=oJ f l hh
 have ec:=o9 k r
 rw [hk]at ec
 rcases hu with⟨m,rfl,rfl⟩|⟨m,rfl,hw,ho,rfl⟩
 ·have e2:=IV e h hh 2 95 hk (.inl m)
  have en:=iy e
  obtain⟨n1,n2,n3⟩:=fJ e h
  rw [show lY e f l 2 95=none from by unfold lY fZ;simp]at e2
  simp only [kRo,Iz,u6,bn,show aC []= []from rfl,show aS []= []from rfl]at e2
  generalize mQ e=p at*
  clear h hh
  have e3:bY [gL e,aH f l,vI 95] [] []=some (kRu p):=by
   generalize hE:bY _ _ _=R
   simp [bY, -au,func109,f109,en,eu]at hE
   exact hE.symm
  have e4:iX [gL e,aH f l,aK 2 95] [] []=some (kRu p):=by
   generalize hE:iX _ _ _=R
   unfold iX at hE
   simp only [gL,m]at ea e2 e3 hE
   simp [-au,func38,f38,ea,eb,ec,e2,e3]at hE
   exact hE.symm
  generalize hE:lJ _ _ _=R
  unfold lJ at hE
  simp only [gL,m]at e4 hE
  simp [-au,func8,f8,e4]at hE
  exact hE.symm
 ·have e0:=gB e h
  have eh:=RH 117
  rw [show iV 117= -1 from by decide]at eh
  have em:=CX e.ak.av (some 0) (aR e) 1 h2 (by omega) (by omega) 117
  rw [←h1,Int.natCast_one,show gM e.ak.av (aR e) 117 1=none from by unfold gM;simp]at em
  have eN:=Aw e h
  obtain⟨n1,n2,n3⟩:=h.gW
  generalize mQ e=p at*
  generalize gW e=nn at*
  have e3:nU [gL e,aH f l,vI 117] [] []=some (kRu p):=by
   clear h hh
   generalize hE:nU _ _ _=R
   simp [nU, -au,func267,f267,eN,eu]at hE
   exact hE.symm
  have e4:ig [gL e,aH f l,vI 117] [] []=some (kRu p):=by
   clear h hh
   generalize hE:ig _ _ _=R
   unfold ig at hE
   simp only [mR]at em
   simp only [gL,gO,hO,ho]at e0 e3 hE
   simp [-au,func205,f205,e0,eh,em,e3]at hE
   exact hE.symm
  have e5:jQ [gL e,aH f l,aK 1 117] [] []=some (kRu p):=by
   clear h hh
   generalize hE:jQ _ _ _=R
   unfold jQ at hE
   simp only [gL,gO,hO,hw]at e4 hE
   simp [-au,func116,f116,e4]at hE
   exact hE.symm
  have e6:oZ [gL e,aH f l,aK 1 117] [] []=some (kRu p):=by
   clear h hh
   generalize hE:oZ _ _ _=R
   unfold oZ at hE
   simp only [gL,m]at ea e5 hE
   simp [-au,func40,f40,ea,eb,ec,e5]at hE
   exact hE.symm
  clear h hh
  generalize hE:lJ _ _ _=R
  unfold lJ at hE
  simp only [gL,m]at e6 hE
  simp [-au,func8,f8,e6]at hE
  exact hE.symm
end
def acD (e:dB)(k r:Int):Prop:=Jv e k r∧e.gH.eX.length=1
instance (e:dB) (k r:Int):Decidable (acD e k r):=inferInstanceAs (Decidable (Jv e k r∧e.gH.eX.length=1))
def kY (e:dB)(k r:Int)(p:dB×Int):Ay:=if acD e k r then kRu p else kX e k p
theorem aeb (e:dB)(h:fV e){f:Int}{l:List ByteArray}(hh:gX f l)(k r:Int)(hk:jh k r=true):lJ [gL e,aH f l,aK k r] [] []=some (kY e k r (ug e f l k r)):=by
 unfold kY
 by_cases hw:acD e k r
 ·rw [if_pos hw];exact aea e h hh k r hk hw.1 hw.2
 ·rw [if_neg hw];exact af7 e h hh k r hk (OT e h) fun q=>abM e h fun z=>hw ⟨q,z⟩
section
variable (e:dB) (f:Int) (l:List ByteArray) (k r:Int) (n:Nat)
theorem WO (f u:Nat):(Dp e f u).1.Vi=e.Vi:=by unfold Dp;(first|refine iT (fun _=>?_) (fun _=>?_)|split)<;>rfl
theorem Em (f u:Nat)(how:Int):(lH e f u how).1.Vi=e.Vi:=by unfold lH;(first|refine iT (fun _=>?_) (fun _=>?_)|split)<;>rfl
theorem WQ (u:List Int)(last:Int):(Au e u last).1.Vi=e.Vi:=by unfold Au;(first|refine iT (fun _=>?_) (fun _=>?_)|split)<;>rfl
theorem zL (b:Int):(jF e f l b).1.Vi=e.Vi:=by
 unfold jF
 cases h:qK e f l b with
 | none=>rfl
 | some x=>
  unfold qK at h
  split at h
  ·injection h with h;subst h;rfl
  ·split at h
   ·cases h
   ·injection h with h;subst h;rfl
theorem Zr:(mQ e).1.Vi=e.Vi:=by unfold mQ;(first|refine iT (fun _=>?_) (fun _=>?_)|split)<;>rfl
theorem af8:(BM e).1.Vi=e.Vi:=by
 unfold BM;split
 ·rfl
 ·exact WQ _ _ _
theorem WR:(jO e).1.Vi=e.Vi:=by unfold jO;(first|refine iT (fun _=>?_) (fun _=>?_)|split)<;>rfl
theorem af9:(zY e r).1.Vi=e.Vi:=by
 unfold zY
 (first|refine iT (fun _=>?_) (fun _=>?_)|split)
 ·rfl
 (first|refine iT (fun _=>?_) (fun _=>?_)|split)
 ·rfl
 (first|refine iT (fun _=>?_) (fun _=>?_)|split)
 ·rfl
 (first|refine iT (fun _=>?_) (fun _=>?_)|split)
 ·exact Em _ _ _ _
 (first|refine iT (fun _=>?_) (fun _=>?_)|split)
 ·exact WR _
 (repeat' (first|refine iT (fun _=>?_) (fun _=>?_)|split))
 all_goals rfl
theorem aga:(Ir e).1.Vi=e.Vi:=by unfold Ir;(first|refine iT (fun _=>?_) (fun _=>?_)|split)<;>rfl
theorem agb:(CO e f l r).1.Vi=e.Vi:=by
 unfold CO
 (first|refine iT (fun _=>?_) (fun _=>?_)|split)
 ·rfl
 (first|refine iT (fun _=>?_) (fun _=>?_)|split)
 ·rfl
 (first|refine iT (fun _=>?_) (fun _=>?_)|split)
 ·rfl
 (first|refine iT (fun _=>?_) (fun _=>?_)|split)
 ·rfl
 (first|refine iT (fun _=>?_) (fun _=>?_)|split)
 ·exact zL _ _ _ _
 (first|refine iT (fun _=>?_) (fun _=>?_)|split)
 ·exact zL _ _ _ _
 (first|refine iT (fun _=>?_) (fun _=>?_)|split)
 ·exact Em _ _ _ _
 (first|refine iT (fun _=>?_) (fun _=>?_)|split)
 ·exact af8 _
 (first|refine iT (fun _=>?_) (fun _=>?_)|split)
 ·exact aga _
 (first|refine iT (fun _=>?_) (fun _=>?_)|split)
 ·exact Zr _
 (first|refine iT (fun _=>?_) (fun _=>?_)|split)<;>rfl
theorem SX {p:dB×Int}(hp:fZ e r=some p):p.1.Vi=e.Vi:=by
 unfold fZ at hp
 (first|(rcases iE hp with⟨_,hp⟩|⟨_,hp⟩)|split at hp)
 ·injection hp with hp;subst hp;rfl
 (first|(rcases iE hp with⟨_,hp⟩|⟨_,hp⟩)|split at hp)
 ·injection hp with hp;subst hp;rfl
 (first|(rcases iE hp with⟨_,hp⟩|⟨_,hp⟩)|split at hp)
 ·injection hp with hp;subst hp
  (first|refine iT (fun _=>?_) (fun _=>?_)|split)
  ·rfl
  ·exact WO _ _ _
 (first|(rcases iE hp with⟨_,hp⟩|⟨_,hp⟩)|split at hp)
 ·injection hp with hp;subst hp;exact Em _ _ _ _
 (first|(rcases iE hp with⟨_,hp⟩|⟨_,hp⟩)|split at hp)
 ·injection hp with hp;subst hp;exact Em _ _ _ _
 ·cases hp
theorem UJ {p:dB×Int}(hp:lY e f l k r=some p):p.1.Vi=e.Vi:=by
 unfold lY at hp
 (first|(rcases iE hp with⟨_,hp⟩|⟨_,hp⟩)|split at hp)
 ·injection hp with hp;subst hp;exact WQ _ _ _
 (first|(rcases iE hp with⟨_,hp⟩|⟨_,hp⟩)|split at hp)
 ·injection hp with hp;subst hp;exact WQ _ _ _
 (first|(rcases iE hp with⟨_,hp⟩|⟨_,hp⟩)|split at hp)
 ·injection hp with hp;subst hp;rfl
 (first|(rcases iE hp with⟨_,hp⟩|⟨_,hp⟩)|split at hp)
 ·exact SX e r hp
 (first|(rcases iE hp with⟨_,hp⟩|⟨_,hp⟩)|split at hp)
 ·injection hp with hp;subst hp;exact WO _ _ _
 (first|(rcases iE hp with⟨_,hp⟩|⟨_,hp⟩)|split at hp)
 ·injection hp with hp;subst hp;exact WO _ _ _
 (first|(rcases iE hp with⟨_,hp⟩|⟨_,hp⟩)|split at hp)
 ·injection hp with hp;subst hp;rfl
 (first|(rcases iE hp with⟨_,hp⟩|⟨_,hp⟩)|split at hp)
 ·injection hp with hp;subst hp;rfl
 (first|(rcases iE hp with⟨_,hp⟩|⟨_,hp⟩)|split at hp)
 ·injection hp with hp;subst hp;rfl
 (first|(rcases iE hp with⟨_,hp⟩|⟨_,hp⟩)|split at hp)
 ·injection hp with hp;subst hp;rfl
 (first|(rcases iE hp with⟨_,hp⟩|⟨_,hp⟩)|split at hp)
 ·injection hp with hp;subst hp;exact zL _ _ _ _
 (first|(rcases iE hp with⟨_,hp⟩|⟨_,hp⟩)|split at hp)
 ·injection hp with hp;subst hp;exact zL _ _ _ _
 ·cases hp
theorem aec:(xI e f l k r).1.Vi=e.Vi:=by
 unfold xI
 cases hp:lY e f l k r with
 | some p=>exact UJ e f l k r hp
 | none=>
  simp only
  (first|refine iT (fun _=>?_) (fun _=>?_)|split)
  ·exact af9 _ _
  (first|refine iT (fun _=>?_) (fun _=>?_)|split)
  ·exact Em _ _ _ _
  (first|refine iT (fun _=>?_) (fun _=>?_)|split)
  ·exact agb _ _ _ _
  ·rfl
theorem rQ (op:Int)(f u:Nat):(gZ e op f u).1.Vi=e.Vi:=by unfold gZ;(repeat' (first|refine iT (fun _=>?_) (fun _=>?_)|split));all_goals rfl
theorem RS (u:Nat)(b:Bool):(qL e u b).1.Vi=e.Vi:=by
 unfold qL;split
 ·rfl
 ·exact rQ _ _ _ _
theorem KN (how:Int):(nN e r how n).1.Vi=e.Vi:=by
 unfold nN;split
 ·rfl
 ·exact RS _ _ _
theorem abO:(rO e k r n).1.Vi=e.Vi:=by
 unfold rO
 (first|refine iT (fun _=>?_) (fun _=>?_)|split)
 ·rfl
 (first|refine iT (fun _=>?_) (fun _=>?_)|split)
 ·(first|refine iT (fun _=>?_) (fun _=>?_)|split)<;>rfl
 (first|refine iT (fun _=>?_) (fun _=>?_)|split)
 ·rfl
 ·rw [KN]
theorem FY:(jR e r n).1.Vi=e.Vi:=by unfold jR;split<;>exact RS _ _ _
theorem Zt:(qM e f l k r n).1.Vi=e.Vi:=by
 unfold qM
 (first|refine iT (fun _=>?_) (fun _=>?_)|split)
 ·rfl
 (first|refine iT (fun _=>?_) (fun _=>?_)|split)
 ·(first|refine iT (fun _=>?_) (fun _=>?_)|split)<;>rfl
 (first|refine iT (fun _=>?_) (fun _=>?_)|split)
 ·exact zL _ _ _ _
 (first|refine iT (fun _=>?_) (fun _=>?_)|split)
 ·exact zL _ _ _ _
 (first|refine iT (fun _=>?_) (fun _=>?_)|split)
 ·exact FY _ _ _
 (first|refine iT (fun _=>?_) (fun _=>?_)|split)
 ·exact FY _ _ _
 (first|refine iT (fun _=>?_) (fun _=>?_)|split)
 ·exact FY _ _ _
 (first|refine iT (fun _=>?_) (fun _=>?_)|split)
 ·exact FY _ _ _
 (first|refine iT (fun _=>?_) (fun _=>?_)|split)
 ·exact rQ _ _ _ _
 (repeat' (first|refine iT (fun _=>?_) (fun _=>?_)|split))
 all_goals rfl
theorem UK (a:Nat):(uP e a n).1.Vi=e.Vi:=by unfold uP;(first|refine iT (fun _=>?_) (fun _=>?_)|split)<;>rfl
theorem WS:(nY e n).1.Vi=e.Vi:=by unfold nY;(first|refine iT (fun _=>?_) (fun _=>?_)|split)<;>rfl
theorem aed {p:dB×Int}(hp:vR e r n=some p):p.1.Vi=e.Vi:=by
 unfold vR at hp
 (first|(rcases iE hp with⟨_,hp⟩|⟨_,hp⟩)|split at hp)
 ·injection hp with hp;subst hp;rfl
 (first|(rcases iE hp with⟨_,hp⟩|⟨_,hp⟩)|split at hp)
 ·injection hp with hp;subst hp;rfl
 (first|(rcases iE hp with⟨_,hp⟩|⟨_,hp⟩)|split at hp)
 ·injection hp with hp;subst hp
  (first|refine iT (fun _=>?_) (fun _=>?_)|split)
  ·rfl
  ·exact KN _ _ _ _
 (first|(rcases iE hp with⟨_,hp⟩|⟨_,hp⟩)|split at hp)
 ·injection hp with hp;subst hp
  (first|refine iT (fun _=>?_) (fun _=>?_)|split)
  ·rfl
  ·exact KN _ _ _ _
 (first|(rcases iE hp with⟨_,hp⟩|⟨_,hp⟩)|split at hp)
 ·injection hp with hp;subst hp;rfl
 ·cases hp
theorem aee:(zS e r).1.Vi=e.Vi:=by unfold zS;(repeat' (first|refine iT (fun _=>?_) (fun _=>?_)|split));all_goals rfl
theorem Zu:(rX e f l r n).1.Vi=e.Vi:=by
 unfold rX
 (first|refine iT (fun _=>?_) (fun _=>?_)|split)
 ·exact rQ _ _ _ _
 (first|refine iT (fun _=>?_) (fun _=>?_)|split)
 ·exact rQ _ _ _ _
 (first|refine iT (fun _=>?_) (fun _=>?_)|split)
 ·exact rQ _ _ _ _
 (first|refine iT (fun _=>?_) (fun _=>?_)|split)
 ·exact rQ _ _ _ _
 (first|refine iT (fun _=>?_) (fun _=>?_)|split)
 ·exact rQ _ _ _ _
 (first|refine iT (fun _=>?_) (fun _=>?_)|split)
 ·exact rQ _ _ _ _
 (first|refine iT (fun _=>?_) (fun _=>?_)|split)
 ·rfl
 (first|refine iT (fun _=>?_) (fun _=>?_)|split)
 ·exact UK _ _ _
 (first|refine iT (fun _=>?_) (fun _=>?_)|split)
 ·exact UK _ _ _
 (first|refine iT (fun _=>?_) (fun _=>?_)|split)
 ·exact WS _ _
 (first|refine iT (fun _=>?_) (fun _=>?_)|split)
 ·exact Zr _
 (first|refine iT (fun _=>?_) (fun _=>?_)|split)
 ·exact zL _ _ _ _
 (first|refine iT (fun _=>?_) (fun _=>?_)|split)
 ·exact zL _ _ _ _
 (first|refine iT (fun _=>?_) (fun _=>?_)|split)
 ·rfl
 ·exact aee _ _
theorem Zv:(oz e f l r n).1.Vi=e.Vi:=by
 unfold oz
 cases hb:vR e r n with
 | some p=>exact aed e r n hb
 | none=>
  simp only
  (first|refine iT (fun _=>?_) (fun _=>?_)|split)
  ·exact rQ _ _ _ _
  (first|refine iT (fun _=>?_) (fun _=>?_)|split)
  ·exact RS _ _ _
  (first|refine iT (fun _=>?_) (fun _=>?_)|split)
  ·rfl
  ·exact Zu _ _ _ _ _
theorem aif:(viE e f l k r).1.Vi=e.Vi:=by
 unfold viE
 (first|refine iT (fun _=>?_) (fun _=>?_)|split)
 ·cases hp:lY e f l k r with
  | some p=>exact UJ e f l k r hp
  | none=>
   simp only
   (first|refine iT (fun _=>?_) (fun _=>?_)|split)<;>rfl
 (first|refine iT (fun _=>?_) (fun _=>?_)|split)
 ·exact abO _ _ _ _
 (first|refine iT (fun _=>?_) (fun _=>?_)|split)
 ·exact Zt _ _ _ _ _ _
 ·exact Zv _ _ _ _ _
theorem Zw (q:List Int)(fr:Int):(BN e f l q fr).1.Vi=e.Vi:=by
 unfold BN
 (first|refine iT (fun _=>?_) (fun _=>?_)|split)
 ·rfl
 ·rename_i x hs
  unfold mI at hs
  split at hs
  ·split at hs
   ·cases hs
   split at hs
   ·cases hs
   split at hs
   ·injection hs with hs;subst hs;rfl
   ·cases hs
  ·cases hs
theorem abP:(sN e f l k r).1.Vi=e.Vi:=by
 unfold sN
 (first|refine iT (fun _=>?_) (fun _=>?_)|split)
 ·exact Zw _ _ _ _ _
 (first|refine iT (fun _=>?_) (fun _=>?_)|split)
 ·(first|refine iT (fun _=>?_) (fun _=>?_)|split)
  ·rfl
  ·exact Zw _ _ _ _ _
 (first|refine iT (fun _=>?_) (fun _=>?_)|split)
 ·(first|refine iT (fun _=>?_) (fun _=>?_)|split)<;>rfl
 (first|refine iT (fun _=>?_) (fun _=>?_)|split)
 ·rfl
 (first|refine iT (fun _=>?_) (fun _=>?_)|split)<;>rfl
theorem aef:(ug e f l k r).1.Vi=e.Vi:=by
 unfold ug
 (first|refine iT (fun _=>?_) (fun _=>?_)|split)
 ·exact aec _ _ _ _ _
 (first|refine iT (fun _=>?_) (fun _=>?_)|split)
 ·exact abP _ _ _ _ _
 ·exact aif _ _ _ _ _
end
theorem RU (b:List UInt8)(i h:Int)(hb:b.length≤1048576)(hi:0≤i∧i≤b.length):∃k r i' h',AJ [.ref 0 0] [fH b i h] []=some ⟨.agg [vI k,vI r],[fH b i' h'],[]⟩∧0≤i'∧i'≤b.length:=by
 obtain⟨k,i1,h1,e1,r1,j1⟩:=bD b i h 12 hb hi (by omega)
 unfold fH at e1
 generalize hE:AJ [.ref 0 0] [fH b i h] []=R
 unfold AJ fH at hE
 by_cases k5:k<5
 ·obtain⟨x,i2,h2,e2,r2,j2⟩:=Ii b i1 h1 hb j1
  unfold fH at e2
  simp [func86,f86,e1,k5,e2]at hE
  exact⟨_,_,_,_,hE.symm,j2⟩
 by_cases k7:k<7
 ·obtain⟨q,i2,h2,e2,r2,j2⟩:=bD b i1 h1 18 hb j1 (by omega)
  unfold fH at e2
  obtain⟨m,rfl⟩:=Int.eq_ofNat_of_zero_le r2.1
  have hm2:(m:Int)<18:=by omega
  have hm:m=0∨m=1∨m=2∨m=3∨m=4∨m=5∨m=6∨m=7∨m=8∨m=9∨m=10∨m=11∨m=12∨m=13∨m=14∨m=15∨m=16∨m=17:=by omega
  rcases hm with rfl|rfl|rfl|rfl|rfl|rfl|rfl|rfl|rfl|rfl|rfl|rfl|rfl|rfl|rfl|rfl|rfl|rfl<;>
   (simp [func86,f86,e1,k5,k7,e2]at hE;exact⟨_,_,_,_,hE.symm,j2⟩)
 by_cases k8:k=7
 ·subst k8
  obtain⟨q,i2,h2,e2,r2,j2⟩:=bD b i1 h1 12 hb j1 (by omega)
  unfold fH at e2
  obtain⟨m,rfl⟩:=Int.eq_ofNat_of_zero_le r2.1
  have hm2:(m:Int)<12:=by omega
  have hm:m=0∨m=1∨m=2∨m=3∨m=4∨m=5∨m=6∨m=7∨m=8∨m=9∨m=10∨m=11:=by omega
  rcases hm with rfl|rfl|rfl|rfl|rfl|rfl|rfl|rfl|rfl|rfl|rfl|rfl<;>
   (simp [func86,f86,e1,e2]at hE;exact⟨_,_,_,_,hE.symm,j2⟩)
 obtain⟨q,i2,h2,e2,r2,j2⟩:=bD b i1 h1 13 hb j1 (by omega)
 unfold fH at e2
 have w:=bM (4+q) (by omega)
 simp [func86,f86,e1,k5,k7,k8,e2,w]at hE
 exact⟨_,_,_,_,hE.symm,j2⟩
theorem abQ (b:List UInt8)(i h:Int)(hb:b.length≤1048576)(hi:0≤i∧i≤b.length):∃k r i' h',DX [.ref 0 0] [fH b i h] []=some ⟨.agg [vI k,vI r],[fH b i' h'],[]⟩∧0≤i'∧i'≤b.length:=by
 obtain⟨k,i1,h1,e1,r1,j1⟩:=bD b i h 8 hb hi (by omega)
 unfold fH at e1
 generalize hE:DX [.ref 0 0] [fH b i h] []=R
 unfold DX fH at hE
 by_cases k3:k<3
 ·obtain⟨q,i2,h2,e2,r2,j2⟩:=bD b i1 h1 17 hb j1 (by omega)
  unfold fH at e2
  obtain⟨m,rfl⟩:=Int.eq_ofNat_of_zero_le r2.1
  have hm2:(m:Int)<17:=by omega
  have hm:m=0∨m=1∨m=2∨m=3∨m=4∨m=5∨m=6∨m=7∨m=8∨m=9∨m=10∨m=11∨m=12∨m=13∨m=14∨m=15∨m=16:=by omega
  rcases hm with rfl|rfl|rfl|rfl|rfl|rfl|rfl|rfl|rfl|rfl|rfl|rfl|rfl|rfl|rfl|rfl|rfl<;>
   (simp [func32,f32,e1,k3,e2]at hE;exact⟨_,_,_,_,hE.symm,j2⟩)
 by_cases k5:k<5
 ·obtain⟨q,i2,h2,e2,r2,j2⟩:=bD b i1 h1 10 hb j1 (by omega)
  unfold fH at e2
  obtain⟨m,rfl⟩:=Int.eq_ofNat_of_zero_le r2.1
  have hm2:(m:Int)<10:=by omega
  have hm:m=0∨m=1∨m=2∨m=3∨m=4∨m=5∨m=6∨m=7∨m=8∨m=9:=by omega
  rcases hm with rfl|rfl|rfl|rfl|rfl|rfl|rfl|rfl|rfl|rfl<;>
   (simp [func32,f32,e1,k3,k5,e2]at hE;exact⟨_,_,_,_,hE.symm,j2⟩)
 by_cases k6:k=5
 ·subst k6
  obtain⟨q,i2,h2,e2,r2,j2⟩:=bD b i1 h1 13 hb j1 (by omega)
  unfold fH at e2
  have w:=bM (4+q) (by omega)
  simp [func32,f32,e1,e2,w]at hE
  exact⟨_,_,_,_,hE.symm,j2⟩
 obtain⟨x,y,i2,h2,e2,j2⟩:=RU b i1 h1 hb j1
 unfold fH at e2
 simp [func32,f32,e1,k3,k5,k6,e2]at hE
 exact⟨_,_,_,_,hE.symm,j2⟩
theorem abR (b:List UInt8)(i h:Int)(hb:b.length≤1048576)(hi:0≤i∧i≤b.length):∃k r i' h',DY [.ref 0 0] [fH b i h] []=some ⟨.agg [vI k,vI r],[fH b i' h'],[]⟩∧0≤i'∧i'≤b.length:=by
 obtain⟨k,i1,h1,e1,r1,j1⟩:=bD b i h 10 hb hi (by omega)
 unfold fH at e1
 generalize hE:DY [.ref 0 0] [fH b i h] []=R
 unfold DY fH at hE
 by_cases k8:k<8
 ·obtain⟨q,i2,h2,e2,r2,j2⟩:=bD b i1 h1 45 hb j1 (by omega)
  unfold fH at e2
  obtain⟨m,rfl⟩:=Int.eq_ofNat_of_zero_le r2.1
  have hm2:(m:Int)<45:=by omega
  have hm:m=0∨m=1∨m=2∨m=3∨m=4∨m=5∨m=6∨m=7∨m=8∨m=9∨m=10∨m=11∨m=12∨m=13∨m=14∨m=15∨m=16∨m=17∨m=18∨m=19∨m=20∨m=21∨m=22∨m=23∨m=24∨m=25∨m=26∨m=27∨m=28∨m=29∨m=30∨m=31∨m=32∨m=33∨m=34∨m=35∨m=36∨m=37∨m=38∨m=39∨m=40∨m=41∨m=42∨m=43∨m=44:=by omega
  rcases hm with rfl|rfl|rfl|rfl|rfl|rfl|rfl|rfl|rfl|rfl|rfl|rfl|rfl|rfl|rfl|rfl|rfl|rfl|rfl|rfl|rfl|rfl|rfl|rfl|rfl|rfl|rfl|rfl|rfl|rfl|rfl|rfl|rfl|rfl|rfl|rfl|rfl|rfl|rfl|rfl|rfl|rfl|rfl|rfl|rfl<;>
   (simp [func33,f33,e1,k8,e2]at hE;exact⟨_,_,_,_,hE.symm,j2⟩)
 by_cases k9:k=8
 ·subst k9
  obtain⟨q,i2,h2,e2,r2,j2⟩:=bD b i1 h1 13 hb j1 (by omega)
  unfold fH at e2
  have w:=bM (4+q) (by omega)
  simp [func33,f33,e1,e2,w]at hE
  exact⟨_,_,_,_,hE.symm,j2⟩
 obtain⟨x,y,i2,h2,e2,j2⟩:=RU b i1 h1 hb j1
 unfold fH at e2
 simp [func33,f33,e1,k8,k9,e2]at hE
 exact⟨_,_,_,_,hE.symm,j2⟩
section
variable (P:Program) (G:List (FuncId×Bool×aN)) (gh:mg)
theorem aeg (r:Option (Ex×Q))(k k':Q→Option (Ex×Q)):Bd (Bd r k) k'=Bd r fun q=>Bd (k q) k':=by
 cases r with
 | none=>rfl
 | some x=>obtain⟨e,q⟩:=x;cases e<;>rfl
theorem ag9 (r:Option (Ex×Q)):Bd r (fun q=>some (.normal,q))=r:=by
 cases r with
 | none=>rfl
 | some x=>obtain⟨e,q⟩:=x;cases e<;>rfl
theorem WT:∀(l m:List Code) (q:Q),F9 P G gh (l++m) q=Bd (F9 P G gh l q) fun q=>F9 P G gh m q
 | [],m,q=>rfl
 | c::l,m,q=>by
  show Bd (Eo P G gh c q) (fun q=>F9 P G gh (l++m) q)=Bd (Bd (Eo P G gh c q) fun q=>F9 P G gh l q) _
  rw [aeg]
  congr 1
  funext q
  exact WT l m q
theorem agc:∀(c:Code) (q:Q),Eo P G gh c q=F9 P G gh (jg c) q:=by
 intro c
 induction c with
 | seq a b iha ihb=>
  intro q
  show _=F9 P G gh (jg a++jg b) q
  rw [WT,←iha]
  have:(fun q=>F9 P G gh (jg b) q)=fun q=>Eo P G gh b q:=funext fun q=>(ihb q).symm
  rw [this]
  cases q with
  | off=>cases a<;>rfl
  | on s=>rfl
 | _=>intro q;exact(ag9 _).symm
theorem Zx {f:FuncId}{fn:Func}{c:Code}(h1:P.funcs[f]?=some fn)(h2:fn.body=some c)(args:List V)(boxes:List (List V))(trees:List (List (List D))):
  aG P G gh f args boxes trees=grd (args.length≤1000∧boxes.length≤1000∧trees.length≤1000) (bnd (F9 P G gh ((partsOf P f).drop 0) (.on {env:=(bO 0 (args.map jS)).reverse,box:=(bO aU (boxes.map ny)).reverse,tree:=(bO aU trees).reverse,dG:= []})) (J8 P fn boxes.length trees.length)):=by
 have hp:partsOf P f=jg c:=by unfold partsOf;rw [h1];simp only [h2]
 unfold aG
 rw [h1,aY,h2,aY,hp,List.drop_zero,←agc]
theorem WU (f:FuncId)(args:List V)(boxes:List (List V))(trees:List (List (List D))):
  aG P G gh f args boxes trees=bnd P.funcs[f]? fun fn=>bnd fn.body fun _=>grd (args.length≤1000∧boxes.length≤1000∧trees.length≤1000) (bnd (F9 P G gh ((partsOf P f).drop 0) (.on {env:=(bO 0 (args.map jS)).reverse,box:=(bO aU (boxes.map ny)).reverse,tree:=(bO aU trees).reverse,dG:= []})) (J8 P fn boxes.length trees.length)):=by
 cases h1:P.funcs[f]? with
 | none=>unfold aG;rw [h1];rfl
 | some fn=>
  cases h2:fn.body with
  | none=>unfold aG;rw [h1,aY,h2,aY,h2];rfl
  | some c=>rw [Zx P G gh h1 h2,aY,h2,aY]
theorem aha (l:List Code)(i n:Nat)(q:Q):F9 P G gh (l.drop i) q=Bd (F9 P G gh ((l.drop i).take n) q) fun q=>F9 P G gh (l.drop (i+n)) q:=by
 rw [←WT,←List.drop_drop,List.take_append_drop]
theorem Jw {l:List Code}{i n:Nat}{q q':Q}(h:F9 P G gh ((l.drop i).take n) q=some (.normal,q')):F9 P G gh (l.drop i) q=F9 P G gh (l.drop (i+n)) q':=by
 rw [aha P G gh l i n q,h];rfl
end
def aii (r:Int):List Int:=if r=9 then [94,73]else if r=10 then [94,74]else if bS r then [r]else []
def shown (t:List Int):List Int:=t.flatMap aii
set_option maxRecDepth 100000
noncomputable def RX:List (FuncId×Bool×aN):= [(77,false,jv),(76,false,Ht),(78,false,Bo),(79,false,yu),(80,false,rz),(81,false,sW),(82,false,nD),(83,false,sZ)]
def BX:mg:=⟨[],[],[(5,[],[(3,[0,1]),(9,[7])])],[(6,[3,2,0],[1000000000,3,2]),(9,[3,2,0],[1000000000,3,2]),(12,[3,2,0],[1000000000,3,2]),(15,[3,2,0],[1000000000,3,2]),(18,[3,2,0],[1000000000,3,2]),(22,[3,2,0],[1000000000,3,2]),(29,[3,2,0],[1000000000,3,2])]⟩
def SY (e:dB):List V:= [V.v (.bool e.Vi),vI e.bV, .own 2000000000,vI e.ak.At,vI e.bH,vI e.Op,vI e.bU,vI e.fT,vI e.eY,vI e.bT,vI e.iZ, .own 2000000001, .own 2000000002,vI e.kF, .own 2000000003,vI e.iM.At, .own 2000000004,vI e.nH, .own 2000000005,vI e.dH.At]
def Nq (t:List (Nat×V))(b:List UInt8)(i h:Int)(e:dB):Q:=
 .on ⟨t++ [(3, .ref 3 0),(2, .ref 2 0),(0, .ref 1000000000 0)],[(1000000000,[.aP (some 0) (nK b),vI i,vI h]),(3,SY e),(2,[V.v (.bool false),vI 0, .own 2000000006,vI 0,vI 0,vI 0,vI 0,vI 0,vI 0,vI 0,vI 0, .own 2000000007, .own 2000000008,vI 0, .own 2000000009,vI 0, .own 2000000010,vI 0, .own 2000000011,vI 0])],
  [(2000000011,[]),(2000000010,[]),(2000000009,[]),(2000000008,[]),(2000000007,[]),(2000000006,[]),(2000000005,ints e.dH.av),(2000000004,ints e.bP),(2000000003,ints e.iM.av),(2000000002,aS e.gH.eX),(2000000001,aC e.aI.aA),(2000000000,ints e.ak.av)],[]⟩
structure EdI (e:dB):Prop where
 line:bN e.ak.av e.ak.At=true
 ring:eZ e.aI.aA=true
 undo:jB e.gH.eX=true
 last:0≤e.iZ∧e.iZ<4
 mode:e.bV=if e.Vi then 1 else 0
 op:e.Op=0∧e.bU=0∧e.fT=0
 uj:e.bP= []∧e.nH=0∧e.dH=⟨[],0⟩
 cnt:0≤e.bH∧e.bH≤4
 find:dI e.eY e.bT=true
 own:(e.kF=0∧e.iM=⟨[],0⟩)∨(0<e.kF∧e.kF≤6∧bN e.iM.av e.iM.At=true)
theorem En {l:List Int}{a:Nat}(h1:l.all fP=true)(h2:l.length≤16)(h3:a≤l.length):bN l a=true:=by
 have q1:gY (a:Int) 0 (l.length:Int)=true:=bA.2 (by omega)
 simp [bN,dF,h1,q1];omega
theorem aij (b:List UInt8)(i h:Int)(hb:b.length≤1048576)(hi:0≤i∧i≤b.length):∃(z:Int) (e:dB) (i' h':Int),F9 prog RX BX (((partsOf prog 30).drop 0).take 7) (.on ⟨[(0, .ref 1000000000 0)],[(1000000000,fH b i h)],[],[]⟩)=some (.normal,Nq [(29, .ref 3 10),(28,V.v (.int .i64 z)),(27, .ref 1000000000 0)] b i' h' e)∧EdI e∧0≤i'∧i'≤b.length:=by
 obtain⟨x,i1,h1,e1,r1,j1⟩:=bD b i h 2 hb hi (by omega)
 obtain⟨l,a,i2,h2,e2,r2,r3,r4,j2⟩:=CF b i1 h1 hb j1
 obtain⟨rg,i3,h3,e3,r5,j3⟩:=Yt b i2 h2 hb j2
 obtain⟨y,i4,h4,e4,r6,j4⟩:=bD b i3 h3 2 hb j3 (by omega)
 obtain⟨l',a',i5,h5,e5,r7,r8,r9,j5⟩:=CF b i4 h4 hb j4
 have hlo:bN l' a'=true:=En r7 r8 r9
 have hl0:bN l a=true:=En r2 r3 r4
 have e6:=VT l' a' hlo
 unfold fH at e1 e2 e3 e4 e5
 generalize hE:F9 _ _ _ _ _=R
 unfold fH at hE
 have hm:(if x=0 then 1 else 0:Int)=if(x==0)=true then 1 else 0:=by by_cases h:x=0<;>simp [h]
 by_cases hy:y=0
 ·subst hy
  obtain⟨z,i6,h6,e7,r10,j6⟩:=bD b i5 h5 4 hb j5 (by omega)
  unfold fH at e7
  simp [partsOf,func30,f30,jg,RX,BX,e1,e2,e3,e4,e5,e6,e7,Yu]at hE
  refine⟨z,{u6 with Vi:=x==0,bV:=if x=0 then 1 else 0,ak:=⟨l,a⟩,iZ:=z,aI:=⟨rg⟩,gH:=⟨[⟨l',a'⟩]⟩},i6,h6,hE.symm,⟨hl0,r5,by simp [jB,CG,hlo],r10,hm,⟨rfl,rfl,rfl⟩,⟨rfl,rfl,rfl⟩,⟨by simp [u6],by simp [u6]⟩,by simp [u6,dI], .inl ⟨rfl,rfl⟩⟩,j6⟩
 ·obtain⟨z,i6,h6,e7,r10,j6⟩:=bD b i4 h4 4 hb j4 (by omega)
  unfold fH at e7
  simp [partsOf,func30,f30,jg,RX,BX,e1,e2,e3,e4,hy,e7,Yu]at hE
  refine⟨z,{u6 with Vi:=x==0,bV:=if x=0 then 1 else 0,ak:=⟨l,a⟩,iZ:=z,aI:=⟨rg⟩},i6,h6,hE.symm,⟨hl0,r5,rfl,r10,hm,⟨rfl,rfl,rfl⟩,⟨rfl,rfl,rfl⟩,⟨by simp [u6],by simp [u6]⟩,by simp [u6,dI], .inl ⟨rfl,rfl⟩⟩,j6⟩
theorem aik (b:List UInt8)(i h z:Int)(e:dB)(he:EdI e)(hb:b.length≤1048576)(hi:0≤i∧i≤b.length):∃(z':Int) (e':dB) (i' h':Int),F9 prog RX BX (((partsOf prog 30).drop 7).take 3) (Nq [(29, .ref 3 10),(28,V.v (.int .i64 z)),(27, .ref 1000000000 0)] b i h e)=some (.normal,Nq [(39,V.v (.bool (z'==0))),(38,V.v (.int .i64 z')),(37, .ref 1000000000 0)] b i' h' e')∧EdI e'∧0≤i'∧i'≤b.length:=by
 obtain⟨x,i1,h1,e1,r1,j1⟩:=bD b i h 3 hb hi (by omega)
 unfold fH at e1
 generalize hE:F9 _ _ _ _ _=R
 by_cases hx:x=0
 ·subst hx
  obtain⟨y,i2,h2,e2,r2,j2⟩:=bD b i1 h1 4 hb j1 (by omega)
  obtain⟨z',i3,h3,e3,r3,j3⟩:=bD b i2 h2 3 hb j2 (by omega)
  unfold fH at e2 e3
  have w:=bM (1+y) (by omega)
  simp [partsOf,func30,f30,jg,RX,BX,Nq,SY,e1,e2,e3,w]at hE
  exact⟨z',{e with bH:=1+y},i3,h3,hE.symm,{he with cnt:=by simp only;omega},j3⟩
 ·obtain⟨z',i3,h3,e3,r3,j3⟩:=bD b i1 h1 3 hb j1 (by omega)
  unfold fH at e3
  simp [partsOf,func30,f30,jg,RX,BX,Nq,SY,e1,hx,e3]at hE
  exact⟨z',e,i3,h3,hE.symm,he,j3⟩
theorem ail (b:List UInt8)(i h z:Int)(e:dB)(he:EdI e)(hb:b.length≤1048576)(hi:0≤i∧i≤b.length):∃(z':Int) (e':dB) (i' h':Int),F9 prog RX BX (((partsOf prog 30).drop 10).take 2) (Nq [(39,V.v (.bool (z==0))),(38,V.v (.int .i64 z)),(37, .ref 1000000000 0)] b i h e)=some (.normal,Nq [(48,V.v (.bool (z'==0))),(47,V.v (.int .i64 z')),(46, .ref 1000000000 0)] b i' h' e')∧EdI e'∧0≤i'∧i'≤b.length:=by
 generalize hE:F9 _ _ _ _ _=R
 by_cases hx:z=0
 ·subst hx
  obtain⟨x,i1,h1,e1,r1,j1⟩:=Ii b i h hb hi
  obtain⟨y,i2,h2,e2,r2,j2⟩:=bD b i1 h1 4 hb j1 (by omega)
  obtain⟨z',i3,h3,e3,r3,j3⟩:=bD b i2 h2 4 hb j2 (by omega)
  unfold fH at e1 e2 e3
  simp [partsOf,func30,f30,jg,RX,BX,Nq,SY,e1,e2,e3]at hE
  refine⟨z',{e with eY:=x,bT:=y},i3,h3,hE.symm,{he with find:=?_},j3⟩
  have q1:gY y 0 3=true:=bA.2 (by omega)
  have q2:x≠0:=fun e=>by rw [e]at r1;revert r1;decide
  simp [dI,q1,q2,r1]
 ·obtain⟨z',i3,h3,e3,r3,j3⟩:=bD b i h 4 hb hi (by omega)
  unfold fH at e3
  simp [partsOf,func30,f30,jg,RX,BX,Nq,SY,hx,e3]at hE
  exact⟨z',e,i3,h3,hE.symm,he,j3⟩
def T1 (x:Int):List (Nat×V):= [(62,V.v (.bool (decide (0<x)))),(61,V.v (.bool (decide (0<x)))),(60,V.v (.int .i64 x)),(59, .ref 1000000000 0),(58,V.v (.bool true)),(57,V.v (.bool true)),(56, .ref 3 0)]
def T0:List (Nat×V):= [(62,V.v (.bool false)),(61, .fK []),(60, .fK []),(59, .fK []),(58,V.v (.bool false)),(57,V.v (.bool false)),(56, .ref 3 0)]
theorem ain (b:List UInt8)(i h z:Int)(e:dB)(he:EdI e)(hb:b.length≤1048576)(hi:0≤i∧i≤b.length):∃(t:List (Nat×V)) (e':dB) (i' h':Int),F9 prog RX BX (((partsOf prog 30).drop 12).take 2) (Nq [(48,V.v (.bool (z==0))),(47,V.v (.int .i64 z)),(46, .ref 1000000000 0)] b i h e)=some (.normal,Nq t b i' h' e')∧((e'.Vi=true∧∃x,0≤x∧x<3∧t=T1 x)∨(e'.Vi=false∧t=T0))∧EdI e'∧0≤i'∧i'≤b.length:=by
 generalize hE:F9 _ _ _ _ _=R
 by_cases hx:z=0
 ·subst hx
  obtain⟨x,i1,h1,e1,r1,j1⟩:=bD b i h 6 hb hi (by omega)
  obtain⟨l,a,i2,h2,e2,r2,r3,r4,j2⟩:=CF b i1 h1 hb j1
  obtain⟨z',i3,h3,e3,r5,j3⟩:=bD b i2 h2 3 hb j2 (by omega)
  unfold fH at e1 e2 e3
  have w:=bM (1+x) (by omega)
  have hown:EdI {e with kF:=1+x,iM:=⟨l,a⟩}:= {he with own:= .inr ⟨by simp only;omega,by simp only;omega,En r2 r3 r4⟩}
  cases hv:e.Vi with
  | true=>
   simp [partsOf,func30,f30,jg,RX,BX,Nq,SY,e1,e2,e3,w,hv]at hE
   exact⟨T1 z',{e with kF:=1+x,iM:=⟨l,a⟩},i3,h3,by rw [←hE];simp [Nq,SY,T1,hv], .inl ⟨hv,z',r5.1,r5.2,rfl⟩,hown,j3⟩
  | false=>
   simp [partsOf,func30,f30,jg,RX,BX,Nq,SY,e1,e2,w,hv]at hE
   exact⟨T0,{e with kF:=1+x,iM:=⟨l,a⟩},i2,h2,by rw [←hE];simp [Nq,SY,T0,hv], .inr ⟨hv,rfl⟩,hown,j2⟩
 ·obtain⟨z',i3,h3,e3,r5,j3⟩:=bD b i h 3 hb hi (by omega)
  unfold fH at e3
  cases hv:e.Vi with
  | true=>
   simp [partsOf,func30,f30,jg,RX,BX,Nq,SY,e3,hx,hv]at hE
   exact⟨T1 z',e,i3,h3,by rw [←hE];simp [Nq,SY,T1,hv], .inl ⟨hv,z',r5.1,r5.2,rfl⟩,he,j3⟩
  | false=>
   simp [partsOf,func30,f30,jg,RX,BX,Nq,SY,hx,hv]at hE
   exact⟨T0,e,i,h,by rw [←hE];simp [Nq,SY,T0,hv], .inr ⟨hv,rfl⟩,he,hi⟩
theorem abS (e:dB)(hl:e.ak.av.length≤400):∃a',nD [.agg [V.v (.bool e.Vi),vI e.bV, .aP (some 0) (ints e.ak.av),vI e.ak.At,vI e.bH,vI e.Op,vI e.bU,vI e.fT,vI e.eY,vI e.bT,vI e.iZ, .aP (some 1) (aC e.aI.aA), .aP (some 2) (aS e.gH.eX),vI e.kF, .aP (some 3) (ints e.iM.av),vI e.iM.At, .aP (some 4) (ints e.bP),vI e.nH, .aP (some 5) (ints e.dH.av),vI e.dH.At]] [] []=some ⟨.agg [V.v (.bool e.Vi),vI e.bV, .aP (some 0) (ints e.ak.av),vI a',vI e.bH,vI e.Op,vI e.bU,vI e.fT,vI e.eY,vI e.bT,vI e.iZ, .aP (some 1) (aC e.aI.aA), .aP (some 2) (aS e.gH.eX),vI e.kF, .aP (some 3) (ints e.iM.av),vI e.iM.At, .aP (some 4) (ints e.bP),vI e.nH, .aP (some 5) (ints e.dH.av),vI e.dH.At],[],[]⟩∧a'=if e.bV=2∧e.ak.At=e.ak.av.length∧0<e.ak.At then e.ak.At-1 else e.ak.At:=by
 refine⟨_,?_,rfl⟩
 unfold nD
 by_cases h1:e.bV=2
 ·by_cases h2:e.ak.At=e.ak.av.length
  ·by_cases h3:e.ak.av= []
   ·simp [func82,f82,h1,h2,h3]
   ·have h4:0<e.ak.av.length:=List.length_pos_iff.2 h3
    have w:=bM ((e.ak.av.length:Int)-1) (by omega)
    simp [func82,f82,h1,h2,h3,h4,w]
  ·simp [func82,f82,h1,h2]
 ·simp [func82,f82,h1]
theorem Ut (e:dB)(line:bN e.ak.av e.ak.At=true)(ring:eZ e.aI.aA=true)(undo:jB e.gH.eX=true)(last:0≤e.iZ∧e.iZ<4)(cnt:0≤e.bH∧e.bH≤4)(find:dI e.eY e.bT=true)
  (own:(e.kF=0∧e.iM=⟨[],0⟩)∨(0<e.kF∧e.kF≤6∧bN e.iM.av e.iM.At=true)) (uV:0≤e.bU∧e.bU≤4) (md:eU e.Vi e.bV e.ak.av e.ak.At e.Op e.bU e.fT=true) (q1:e.bP.length≤40) (q2:e.bP.all bS=true) (hit:0≤e.nH∧e.nH≤6)
  (bk:bN e.dH.av e.dH.At=true) (sk:fu e.bV e.bP e.nH e.dH.av e.dH.At=true):e.ok=true:=by
 have a1:gY e.bH 0 999=true:=bA.2 (by omega)
 have a2:gY e.bU 0 999=true:=bA.2 (by omega)
 have a3:gY e.iZ 0 3=true:=bA.2 (by omega)
 have a4:gY e.nH 0 1000000060=true:=bA.2 (by omega)
 have a5:gY e.kF 0 1000000060=true:=bA.2 (by rcases own with⟨h,_⟩|⟨h1,h2,_⟩<;>omega)
 have a6:bN e.iM.av e.iM.At=true:=by
  rcases own with⟨_,h⟩|⟨_,_,h⟩
  ·rw [h];decide
  ·exact h
 have a7:(e.kF != 0||nE e.iM.av e.iM.At)=true:=by
  rcases own with⟨_,h⟩|⟨h,_,_⟩
  ·rw [h];simp [nE]
  ·have:e.kF≠0:=by omega
   simp [this]
 simp only [dB.ok,fQ,line,a6,bk,a1,a2,md,find,a3,ring,undo,a5,a4,a7,q2,sk,decide_eq_true q1,Bool.and_self]
noncomputable def CY:aN:=aG prog RX BX 30
theorem Zy (b:List UInt8)(i h:Int)(hb:b.length≤1048576)(hi:0≤i∧i≤b.length):∃(e:dB) (i' h':Int),CY [.ref 0 0] [fH b i h] []=some ⟨(gO e),[fH b i' h'],(hO e)⟩∧e.ok=true∧0≤i'∧i'≤b.length:=by
 obtain⟨z1,e1,i1,h1,s1,p1,j1⟩:=aij b i h hb hi
 obtain⟨z2,e2,i2,h2,s2,p2,j2⟩:=aik b i1 h1 z1 e1 p1 hb j1
 obtain⟨z3,e3,i3,h3,s3,p3,j3⟩:=ail b i2 h2 z2 e2 p2 hb j2
 obtain⟨t,e,i4,h4,s4,ht,p4,j4⟩:=ain b i3 h3 z3 e3 p3 hb j3
 generalize hE:CY _ _ _=R
 unfold CY at hE
 rw [WU]at hE
 have hq:(Q.on {env:=(bO 0 (List.map jS [V.ref 0 0])).reverse,box:=(bO aU (List.map ny [fH b i h])).reverse,tree:=(bO aU []).reverse,dG:= []})= .on ⟨[(0, .ref 1000000000 0)],[(1000000000,fH b i h)],[],[]⟩:=rfl
 rw [hq,Jw _ _ _ s1,Jw _ _ _ s2,Jw _ _ _ s3,Jw _ _ _ s4]at hE
 clear s1 s2 s3 s4 hq
 have els:(e.Vi=true∧t=T1 0)∨(e.Vi=false∧t=T0)→∃(e:dB) (i' h':Int),R=some ⟨(gO e),[fH b i' h'],(hO e)⟩∧e.ok=true∧0≤i'∧i'≤b.length:=by
  intro hh
  obtain⟨y,i5,h5,d1,r1,j5⟩:=bD b i4 h4 4 hb j4 (by omega)
  unfold fH at d1
  by_cases hy:y=0
  ·subst hy
   obtain⟨q,i6,h6,d2,r2,r3,j6⟩:=LQ b i5 h5 2 hb j5 (by omega)
   obtain⟨x,i7,h7,d3,r4,j7⟩:=bD b i6 h6 6 hb j6 (by omega)
   obtain⟨l,a,i8,h8,d4,r5,r6,r7,j8⟩:=CF b i7 h7 hb j7
   unfold fH at d2 d3 d4
   rcases hh with⟨hv,rfl⟩|⟨hv,rfl⟩
   ·simp [partsOf,func30,f30,jg,RX,BX,Nq,SY,T1,d1,d2,d3,d4]at hE
    refine⟨{e with bV:=3,bP:=q,nH:=x,dH:=⟨l,a⟩},i8,h8,hE.symm,Ut _ p4.line p4.ring p4.undo p4.last p4.cnt p4.find p4.own ?_ ?_ ?_ ?_ ?_ ?_ ?_,j8⟩
    ·simp only [p4.op.2.1];omega
    ·simp [eU,p4.op.1,p4.op.2.1,p4.op.2.2]
    ·simp only;omega
    ·exact r2
    ·simp only;omega
    ·exact En r5 r6 r7
    ·simp [fu]
   ·simp [partsOf,func30,f30,jg,RX,BX,Nq,SY,T0,d1,d2,d3,d4]at hE
    refine⟨{e with bV:=3,bP:=q,nH:=x,dH:=⟨l,a⟩},i8,h8,hE.symm,Ut _ p4.line p4.ring p4.undo p4.last p4.cnt p4.find p4.own ?_ ?_ ?_ ?_ ?_ ?_ ?_,j8⟩
    ·simp only [p4.op.2.1];omega
    ·simp [eU,p4.op.1,p4.op.2.1,p4.op.2.2]
    ·simp only;omega
    ·exact r2
    ·simp only;omega
    ·exact En r5 r6 r7
    ·simp [fu]
  ·rcases hh with⟨hv,rfl⟩|⟨hv,rfl⟩
   ·simp [partsOf,func30,f30,jg,RX,BX,Nq,SY,T1,d1,hy]at hE
    refine⟨e,i5,h5,hE.symm,Ut _ p4.line p4.ring p4.undo p4.last p4.cnt p4.find p4.own ?_ ?_ ?_ ?_ ?_ ?_ ?_,j5⟩
    ·simp only [p4.op.2.1];omega
    ·simp [eU,p4.op.1,p4.op.2.1,p4.op.2.2,p4.mode,hv]
    ·simp [p4.uj.1]
    ·simp [p4.uj.1]
    ·simp only [p4.uj.2.1];omega
    ·rw [p4.uj.2.2];decide
    ·simp [fu,p4.uj.1,p4.uj.2.1,p4.uj.2.2,nE]
   ·simp [partsOf,func30,f30,jg,RX,BX,Nq,SY,T0,d1,hy]at hE
    refine⟨e,i5,h5,hE.symm,Ut _ p4.line p4.ring p4.undo p4.last p4.cnt p4.find p4.own ?_ ?_ ?_ ?_ ?_ ?_ ?_,j5⟩
    ·simp only [p4.op.2.1];omega
    ·simp [eU,p4.op.1,p4.op.2.1,p4.op.2.2,p4.mode,hv]
    ·simp [p4.uj.1]
    ·simp [p4.uj.1]
    ·simp only [p4.uj.2.1];omega
    ·rw [p4.uj.2.2];decide
    ·simp [fu,p4.uj.1,p4.uj.2.1,p4.uj.2.2,nE]
 rcases ht with⟨hv,x,hx0,hx1,rfl⟩|⟨hv,rfl⟩
 rotate_left
 ·exact els (.inr ⟨hv,rfl⟩)
 by_cases hx:x=0
 ·subst hx;exact els (.inl ⟨hv,rfl⟩)
 clear els
 have hx2:0<x:=by omega
 have hll:e.ak.av.length≤400∧0≤e.ak.At∧e.ak.At≤e.ak.av.length:=by
  have:=p4.line
  simp only [bN,dF,Bool.and_eq_true,decide_eq_true_eq]at this
  have:=MG this.2
  omega
 obtain⟨a',c1,c2⟩:=abS {e with bV:=2} hll.1
 simp only at c1 c2
 have hcl:(0≤a'∧a'≤e.ak.av.length)∧(a'≠e.ak.av.length∨e.ak.av.length=0):=by
  rw [c2]
  by_cases q1:e.ak.At=e.ak.av.length∧0<e.ak.At
  ·rw [if_pos ⟨trivial,q1⟩];exact⟨⟨by omega,by omega⟩, .inl (by omega)⟩
  ·rw [if_neg (fun h=>q1 h.2)]
   refine⟨⟨by omega,by omega⟩,?_⟩
   by_cases q2:e.ak.At=e.ak.av.length
   ·right;have:¬0<e.ak.At:=fun h=>q1 ⟨q2,h⟩
    omega
   ·left;exact q2
 have hat:atEnd e.ak.av a'=false:=by
  rcases hcl.2 with h|h
  ·simp [atEnd,h]
  ·simp [atEnd,h]
 have hli:bN e.ak.av a'=true:=by
  have:=p4.line
  simp only [bN,Bool.and_eq_true]at this⊢
  exact⟨this.1,bA.2 hcl.1⟩
 obtain⟨k,i5,h5,d1,r1,j5⟩:=bD b i4 h4 8 hb j4 (by omega)
 unfold fH at d1
 have fin:∀(op uV wt i h:Int),(op==0||opC op)=true→(wt==0||wI wt)=true→0≤uV∧uV≤4→(op=0→uV=0)→0≤i∧i≤b.length→R=some ⟨.agg [V.v (.bool e.Vi),vI 2, .own 0,vI a',vI e.bH,vI op,vI uV,vI wt,vI e.eY,vI e.bT,vI e.iZ, .own 1, .own 2,vI e.kF, .own 3,vI e.iM.At, .own 4,vI e.nH, .own 5,vI e.dH.At],[fH b i h],(hO e)⟩→∃(e:dB) (i' h':Int),R=some ⟨(gO e),[fH b i' h'],(hO e)⟩∧e.ok=true∧0≤i'∧i'≤b.length:=by
  intro op uV wt i h o1 o2 o3 o4 ji hR
  refine⟨{e with bV:=2,ak:=⟨e.ak.av,a'⟩,Op:=op,bU:=uV,fT:=wt},i,h,hR,Ut _ hli p4.ring p4.undo p4.last p4.cnt p4.find p4.own o3 ?_ ?_ ?_ ?_ ?_ ?_,ji⟩
  ·have:(op != 0||uV==0)=true:=by by_cases h:op=0<;>simp [h,o4]
   simp [eU,hv,hat,o1,o2,this]
  ·simp [p4.uj.1]
  ·simp [p4.uj.1]
  ·simp only [p4.uj.2.1];omega
  ·rw [p4.uj.2.2];decide
  ·simp [fu,p4.uj.1,p4.uj.2.1,p4.uj.2.2,nE]
 have ko:k=0∨k=1∨k=2∨3≤k:=by omega
 by_cases k3:3≤k
 ·have k4:¬k<3:=by omega
  obtain⟨u,i6,h6,d2,r2,j6⟩:=bD b i5 h5 4 hb j5 (by omega)
  unfold fH at d2
  by_cases hu:u=0
  ·subst hu
   obtain⟨v,i7,h7,d3,r3,j7⟩:=bD b i6 h6 5 hb j6 (by omega)
   unfold fH at d3
   have vo:v=0∨v=1∨v=2∨v=3∨v=4:=by omega
   rcases vo with rfl|rfl|rfl|rfl|rfl<;>
    (simp [partsOf,func30,f30,jg,RX,BX,Nq,SY,T1,hx2,c1,d1,d2,d3,k4]at hE
     exact fin _ _ _ _ _ (by rw [p4.op.1];rfl) (by decide) (by rw [p4.op.2.1];decide) (fun _=>p4.op.2.1) j7 hE.symm)
  ·simp [partsOf,func30,f30,jg,RX,BX,Nq,SY,T1,hx2,c1,d1,d2,hu,k4]at hE
   exact fin _ _ _ _ _ (by rw [p4.op.1];rfl) (by rw [p4.op.2.2];rfl) (by rw [p4.op.2.1];decide) (fun _=>p4.op.2.1) j6 hE.symm
 ·have k4:k=0∨k=1∨k=2:=by omega
  obtain⟨n,i6,h6,d2,r2,j6⟩:=bD b i5 h5 4 hb j5 (by omega)
  obtain⟨u,i7,h7,d3,r3,j7⟩:=bD b i6 h6 4 hb j6 (by omega)
  unfold fH at d2 d3
  by_cases hu:u=0
  ·subst hu
   obtain⟨v,i8,h8,d4,r4,j8⟩:=bD b i7 h7 5 hb j7 (by omega)
   unfold fH at d4
   have vo:v=0∨v=1∨v=2∨v=3∨v=4:=by omega
   rcases k4 with rfl|rfl|rfl<;>rcases vo with rfl|rfl|rfl|rfl|rfl<;>
    (simp [partsOf,func30,f30,jg,RX,BX,Nq,SY,T1,hx2,c1,d1,d2,d3,d4]at hE
     exact fin _ _ _ _ _ (by decide) (by decide) (by omega) (fun h=>absurd h (by decide)) j8 hE.symm)
  ·rcases k4 with rfl|rfl|rfl<;>
    (simp [partsOf,func30,f30,jg,RX,BX,Nq,SY,T1,hx2,c1,d1,d2,d3,hu]at hE
     exact fin _ _ _ _ _ (by decide) (by rw [p4.op.2.2];rfl) (by omega) (fun h=>absurd h (by decide)) j7 hE.symm)
set_option maxHeartbeats 16000000
theorem S9 (b:List UInt8)(hb:b.length≤1048576):∃(e:dB) (f:Int) (l:List ByteArray) (k r:Int),
  wX [.aP (some 0) (nK b)] [] []=some ⟨.fK [gO e, .agg [vI f, .own 6],aK k r],[],[(0,ints e.ak.av),(1,aC e.aI.aA),(2,aS e.gH.eX),(3,ints e.iM.av),(4,ints e.bP),(5,ints e.dH.av),(6,strs l)]⟩∧fV e∧gX f l∧jh k r=true:=by
 obtain⟨h0,e0⟩:=aaL b hb
 obtain⟨e,i1,h1,e1,r1,j1⟩:=Zy b 0 h0 hb (by omega)
 rw [←show Kr=CY from rfl]at e1
 obtain⟨f,l,i2,h2,e2,r2,r3,j2⟩:=Yv b i1 h1 hb j1
 obtain⟨k,r,i3,h3,e3,j3⟩:=abQ b i2 h2 hb j2
 have e4:=o9 k r
 unfold fH at e0 e1 e2 e3
 generalize hE:wX _ _ _=R
 unfold wX at hE
 cases hv:e.Vi
 ·simp only [gO,hv]at e1
  cases hk:jh k r
  ·rw [hk]at e4
   simp [-au,func6,f6,e0,e1,e2,e3,e4]at hE
   refine⟨e,f,l,8,0,?_,fA.1 r1,r2,by decide⟩
   simp only [gO,hv];exact hE.symm
  ·rw [hk]at e4
   simp [-au,func6,f6,e0,e1,e2,e3,e4]at hE
   refine⟨e,f,l,k,r,?_,fA.1 r1,r2,hk⟩
   simp only [gO,hv];exact hE.symm
 ·simp only [gO,hv]at e1
  obtain⟨k,r,i4,h4,e5,j4⟩:=abR b i3 h3 hb j3
  have e4:=o9 k r
  unfold fH at e5
  cases hk:jh k r
  ·rw [hk]at e4
   simp [-au,func6,f6,e0,e1,e2,e3,e4,e5]at hE
   refine⟨e,f,l,8,0,?_,fA.1 r1,r2,by decide⟩
   simp only [gO,hv];exact hE.symm
  ·rw [hk]at e4
   simp [-au,func6,f6,e0,e1,e2,e3,e4,e5]at hE
   refine⟨e,f,l,k,r,?_,fA.1 r1,r2,hk⟩
   simp only [gO,hv];exact hE.symm
theorem aeh (b:List UInt8)(hok:okR [.l (nK b)]=true):A8 [.aP (some 0) (nK b)] [] []=some ⟨V.v (.bool true),[],[]⟩:=by
 by_cases h1:1048576<b.length
 ·have h1':(1048576:Int)<b.length:=by omega
  simp [A8,func3,f3,h1,h1']
 have h1':¬(1048576:Int)<b.length:=by omega
 obtain⟨e,f,l,k,r,hM,he,hh,hk⟩:=S9 b (by omega)
 have hI:=af3 e he hh k r hk
 have hS:=aeb e he hh k r hk
 have o1:=Im e (fA.2 he)
 have hp:=fV.key he hh hk
 have o2:=Im _ (fA.2 hp)
 have ha:=abx e f l k r
 have hvi:=aef e f l k r
 have hwq:= @aic e f l k r
 unfold kY kX at hS
 unfold kX at hI
 generalize ug e f l k r=p at*
 obtain⟨x,a⟩:=p
 obtain⟨ha1,ha2⟩:0≤a∧a≤5:=ha
 simp only at hvi o2 hwq
 have three:(tK [gL e,aH f l,aK k r] [] []=some (kR (x,a))∧(lJ [gL e,aH f l,aK k r] [] []=some (kR (x,a))∨lJ [gL e,aH f l,aK k r] [] []=some (kRu (x,a))))∨(x.bP= []∧tK [gL e,aH f l,aK k r] [] []=some (kRw (x,a))∧lJ [gL e,aH f l,aK k r] [] []=some (kRw (x,a))):=by
  by_cases c1:acD e k r
  ·have hn:¬xO e k:=fun q=>by rcases c1.1 with z|z<;>have:=q.1<;>omega
   rw [if_pos c1]at hS
   rw [if_neg hn]at hI
   exact .inl ⟨hI, .inr hS⟩
  ·rw [if_neg c1]at hS
   by_cases c2:xO e k
   ·rw [if_pos c2]at hS hI
    exact .inr ⟨hwq c2,hI,hS⟩
   ·rw [if_neg c2]at hS hI
    exact .inl ⟨hI, .inl hS⟩
 clear hS hI he hp hwq hok
 simp only [gL,hvi]at o2
 rcases three with⟨hI,hS|hS⟩|⟨hq,hI,hS⟩
 ·simp [A8, -au,func3,f3,h1,h1',hM,hI,hS,o1,o2,ha1,ha2,hvi]
 ·simp [A8, -au,func3,f3,h1,h1',hM,hI,hS,o1,o2,ha1,ha2,hvi]
 ·simp only [hq,bn]at o2
  simp [A8, -au,func3,f3,h1,h1',hM,hI,hS,o1,o2,ha1,ha2,hvi]
open Go.ChangeShapes Go.WideShapes Go.ChangeAt Go.RowKit
theorem akQ {W:World}(h:W.ShapedOpen prog):ZW W:=⟨trivial,Tryz.laysM144.s1_3 W h⟩
end Go.Proofs.YtlpdjhiggpblcaaGreat
