/- Part 13 of a proof in several texts (an abstract evaluator, what the functions compute). -/
import Derived.Test.YtlpdjhiggpblcaaGreatPkEdKeys12
import Derived.Test.YtlpdjhiggpblcaaGreatRows
import Derived.Test.YtlpdjhiggpblcaaGreatChecked
import Derived.ProofKit
import Derived.OpenShut
import Derived.Handy
import Derived.ShutString
import Derived.ChangeOld
import Derived.Deep.Slices
open Go.Proofs.Tryz
namespace Go.Proofs.YtlpdjhiggpblcaaGreat
set_option linter.unusedSectionVars false
set_option linter.unusedSimpArgs false
set_option linter.unusedVariables false
open Go.RowKit
set_option maxHeartbeats 8000000
set_option maxRecDepth 10000
section
variable (e:dw) (h:fO e) {f:Int} {l:List ByteArray} (hh:iB f l)
include h hh
theorem Vg (k:Int)(r:Int)(hk:k=3∨k=7∨k=15∨k=16):bn [gL e,aH f l,aK k r] [] []=some (kR (yH, -1)):=by
 have en:=iC e
 clear h hh
 simp only [kR,gL,gO,hO,yH,aZ,show aC []= []from rfl,show aG []= []from rfl]
 generalize hE:bn _ _ _=R
 unfold bn at hE
 rcases hk with rfl|rfl|rfl|rfl<;>(simp [-ak,func188,f188,en]at hE;exact hE.symm)
theorem YB (r:Int)(c1:¬r=99)(c2:¬r=108)(c3:¬r=100)(c4:¬r=117)(c5:¬r=119):bn [gL e,aH f l,aK 2 r] [] []=some (kR (yH, -1)):=by
 have en:=iC e
 clear h hh
 simp only [kR,gL,gO,hO,yH,aZ,show aC []= []from rfl,show aG []= []from rfl]
 generalize hE:bn _ _ _=R
 simp [bn, -ak,func188,f188,en,c1,c2,c3,c4,c5]at hE
 exact hE.symm
theorem abe (k r:Int)(hk:ji k r=true):bn [gL e,aH f l,aK k r] [] []=some (kR ((p8 e f l k r).getD (yH, -1))):=by
 unfold p8
 by_cases c1:k=1
 ·rw [if_pos c1];subst c1
  exact adD e h hh r (oG (by simpa [ji] using hk))
 rw [if_neg c1]
 by_cases c6:k=6
 ·rw [if_pos c6];subst c6;exact adE e h hh r
 rw [if_neg c6]
 by_cases c4:k=4
 ·rw [if_pos c4];subst c4;exact adF e h hh r
 rw [if_neg c4]
 by_cases c2:k=2
 ·rw [if_pos c2]
  subst c2
  unfold iq
  by_cases r1:r=99
  ·rw [if_pos r1];subst r1;exact abd e h hh
  rw [if_neg r1]
  by_cases r2:r=108
  ·rw [if_pos r2];subst r2;exact Yy e h hh
  rw [if_neg r2]
  by_cases r3:r=100
  ·rw [if_pos r3]
   subst r3
   by_cases hz:e.au.av.length=0
   ·rw [if_pos hz];exact Vf e h hh hz
   ·rw [if_neg hz];exact Ve e h hh hz
  rw [if_neg r3]
  by_cases r4:r=117
  ·rw [if_pos r4];subst r4;exact Yz e h hh
  rw [if_neg r4]
  by_cases r5:r=119
  ·rw [if_pos r5]
   subst r5
   obtain⟨h1,h2,h3,h4⟩:=h.aS
   have hv:=Lp e.au.av (some 0) (aS e) true h2 (by omega)
   rw [←h1]at hv
   exact YA e h hh hv
  rw [if_neg r5]
  exact YB e h hh r r1 r2 r3 r4 r5
 rw [if_neg c2]
 by_cases c5:k=5
 ·rw [if_pos c5];subst c5;exact adG e h hh r
 rw [if_neg c5]
 by_cases c14:k=14
 ·rw [if_pos c14];subst c14;exact aa6 e h hh r
 rw [if_neg c14]
 by_cases c11:k=11
 ·rw [if_pos c11];subst c11;exact aa7 e h hh r
 rw [if_neg c11]
 by_cases c10:k=10
 ·rw [if_pos c10];subst c10;exact aa8 e h hh r
 rw [if_neg c10]
 by_cases c12:k=12
 ·rw [if_pos c12];subst c12;exact aa9 e h hh r
 rw [if_neg c12]
 by_cases c13:k=13
 ·rw [if_pos c13];subst c13;exact abb e h hh r
 rw [if_neg c13]
 by_cases c8:k=8
 ·rw [if_pos c8];subst c8;exact adH e h hh r
 rw [if_neg c8]
 by_cases c9:k=9
 ·rw [if_pos c9];subst c9;exact adI e h hh r
 rw [if_neg c9]
 refine Vg e h hh k r ?_
 by_cases c3:k=3
 ·exact .inl c3
 ·have hr:iw k 4 16=true:=by
   unfold ji at hk
   rw [if_neg c1,if_neg c2,if_neg c3,Bool.and_eq_true]at hk
   exact hk.1
  have:=bC.1 hr
  omega
end
def AOk (a:Int):Prop:=0≤a∧a≤5
theorem N9:AOk 0:=⟨by decide,by decide⟩
theorem Oa:AOk 1:=⟨by decide,by decide⟩
theorem Ob:AOk 2:=⟨by decide,by decide⟩
theorem Oc:AOk 3:=⟨by decide,by decide⟩
theorem Od:AOk 4:=⟨by decide,by decide⟩
theorem Oe:AOk 5:=⟨by decide,by decide⟩
theorem akh {c:Prop} [Decidable c]{a b:dw×Int}(ha:c→AOk a.2)(hb:¬c→AOk b.2):AOk (if c then a else b).2:=by
 by_cases hc:c
 ·rw [if_pos hc];exact ha hc
 ·rw [if_neg hc];exact hb hc
section
variable (e:dw) (f:Int) (l:List ByteArray) (k r:Int) (n:Nat)
theorem T9 (f u:Nat):AOk (GQ e f u).2:=by unfold GQ;(first|refine akh (fun _=>?_) (fun _=>?_)|split)<;>(first|exact N9|exact Oa|exact Ob|exact Oc|exact Od|exact Oe)
theorem Ua (f u:Nat)(how:Int):AOk (mJ e f u how).2:=by unfold mJ;(first|refine akh (fun _=>?_) (fun _=>?_)|split)<;>(first|exact N9|exact Oa|exact Ob|exact Oc|exact Od|exact Oe)
theorem abf (u:List Int)(last:Int):AOk (Da e u last).2:=by unfold Da;(first|refine akh (fun _=>?_) (fun _=>?_)|split)<;>(first|exact N9|exact Oa|exact Ob|exact Oc|exact Od|exact Oe)
theorem Xb (b:Int):AOk (jO e f l b).2:=by
 unfold jO
 cases h:uz e f l b with
 | none=>(first|exact N9|exact Oa|exact Ob|exact Oc|exact Od|exact Oe)
 | some x=>
  unfold uz at h
  split at h
  ·injection h with h;subst h;(first|exact N9|exact Oa|exact Ob|exact Oc|exact Od|exact Oe)
  ·split at h
   ·cases h
   ·injection h with h;subst h;(first|exact N9|exact Oa|exact Ob|exact Oc|exact Od|exact Oe)
theorem Ub {p:dw×Int}(hp:iq e r=some p):AOk p.2:=by
 unfold iq at hp
 (first|(rcases lF hp with⟨_,hp⟩|⟨_,hp⟩)|split at hp)
 ·injection hp with hp;subst hp;(first|exact N9|exact Oa|exact Ob|exact Oc|exact Od|exact Oe)
 (first|(rcases lF hp with⟨_,hp⟩|⟨_,hp⟩)|split at hp)
 ·injection hp with hp;subst hp;(first|exact N9|exact Oa|exact Ob|exact Oc|exact Od|exact Oe)
 (first|(rcases lF hp with⟨_,hp⟩|⟨_,hp⟩)|split at hp)
 ·injection hp with hp;subst hp
  (first|refine akh (fun _=>?_) (fun _=>?_)|split)
  ·(first|exact N9|exact Oa|exact Ob|exact Oc|exact Od|exact Oe)
  ·exact T9 _ _ _
 (first|(rcases lF hp with⟨_,hp⟩|⟨_,hp⟩)|split at hp)
 ·injection hp with hp;subst hp;exact Ua _ _ _ _
 (first|(rcases lF hp with⟨_,hp⟩|⟨_,hp⟩)|split at hp)
 ·injection hp with hp;subst hp;exact Ua _ _ _ _
 ·cases hp
theorem adJ {p:dw×Int}(hp:p8 e f l k r=some p):AOk p.2:=by
 unfold p8 at hp
 (first|(rcases lF hp with⟨_,hp⟩|⟨_,hp⟩)|split at hp)
 ·injection hp with hp;subst hp;exact abf _ _ _
 (first|(rcases lF hp with⟨_,hp⟩|⟨_,hp⟩)|split at hp)
 ·injection hp with hp;subst hp;exact abf _ _ _
 (first|(rcases lF hp with⟨_,hp⟩|⟨_,hp⟩)|split at hp)
 ·injection hp with hp;subst hp;(first|exact N9|exact Oa|exact Ob|exact Oc|exact Od|exact Oe)
 (first|(rcases lF hp with⟨_,hp⟩|⟨_,hp⟩)|split at hp)
 ·exact Ub e r hp
 (first|(rcases lF hp with⟨_,hp⟩|⟨_,hp⟩)|split at hp)
 ·injection hp with hp;subst hp;exact T9 _ _ _
 (first|(rcases lF hp with⟨_,hp⟩|⟨_,hp⟩)|split at hp)
 ·injection hp with hp;subst hp;exact T9 _ _ _
 (first|(rcases lF hp with⟨_,hp⟩|⟨_,hp⟩)|split at hp)
 ·injection hp with hp;subst hp;(first|exact N9|exact Oa|exact Ob|exact Oc|exact Od|exact Oe)
 (first|(rcases lF hp with⟨_,hp⟩|⟨_,hp⟩)|split at hp)
 ·injection hp with hp;subst hp;(first|exact N9|exact Oa|exact Ob|exact Oc|exact Od|exact Oe)
 (first|(rcases lF hp with⟨_,hp⟩|⟨_,hp⟩)|split at hp)
 ·injection hp with hp;subst hp;(first|exact N9|exact Oa|exact Ob|exact Oc|exact Od|exact Oe)
 (first|(rcases lF hp with⟨_,hp⟩|⟨_,hp⟩)|split at hp)
 ·injection hp with hp;subst hp;(first|exact N9|exact Oa|exact Ob|exact Oc|exact Od|exact Oe)
 (first|(rcases lF hp with⟨_,hp⟩|⟨_,hp⟩)|split at hp)
 ·injection hp with hp;subst hp;exact Xb _ _ _ _
 (first|(rcases lF hp with⟨_,hp⟩|⟨_,hp⟩)|split at hp)
 ·injection hp with hp;subst hp;exact Xb _ _ _ _
 ·cases hp
end
theorem nJ (k r:Int):xK [aK k r] [] []=some ⟨V.v (.bool (ji k r)),[],[]⟩:=by
 have ep:=aW r
 generalize hE:xK _ _ _=R
 unfold xK at hE
 unfold ji
 by_cases c1:k=1
 ·subst c1
  simp [func34,f34,ep]at hE
  rw [←hE]
  simp
 by_cases c2:k=2
 ·subst c2
  by_cases r1:r=95
  ·subst r1
   simp [func34,f34]at hE
   rw [←hE]
   simp
  by_cases r2:97≤r
  ·by_cases r3:r≤122
   ·have q:iw r 97 122=true:=bC.2 ⟨r2,r3⟩
    by_cases r4:r=104
    ·subst r4;simp [func34,f34]at hE;rw [←hE];simp
    by_cases r5:r=105
    ·subst r5;simp [func34,f34]at hE;rw [←hE];simp
    by_cases r6:r=106
    ·subst r6;simp [func34,f34]at hE;rw [←hE];simp
    by_cases r7:r=109
    ·subst r7;simp [func34,f34]at hE;rw [←hE];simp
    simp [func34,f34,r1,r2,r3,r4,r5,r6,r7]at hE
    rw [←hE]
    simp [q,r1,r4,r5,r6,r7]
   ·have q:iw r 97 122=false:=by cases q:iw r 97 122;rfl;exact absurd (bC.1 q).2 r3
    simp [func34,f34,r1,r2,r3]at hE
    rw [←hE]
    simp [q,r1]
  ·have q:iw r 97 122=false:=by cases q:iw r 97 122;rfl;exact absurd (bC.1 q).1 r2
   simp [func34,f34,r1,r2]at hE
   rw [←hE]
   simp [q,r1]
 by_cases c3:k=3
 ·subst c3
  by_cases r2:33≤r
  ·by_cases r3:r≤126
   ·have q:iw r 33 126=true:=bC.2 ⟨r2,r3⟩
    simp [func34,f34,r2,r3]at hE
    rw [←hE]
    simp [q]
   ·have q:iw r 33 126=false:=by cases q:iw r 33 126;rfl;exact absurd (bC.1 q).2 r3
    simp [func34,f34,r2,r3]at hE
    rw [←hE]
    simp [q]
  ·have q:iw r 33 126=false:=by cases q:iw r 33 126;rfl;exact absurd (bC.1 q).1 r2
   simp [func34,f34,r2]at hE
   rw [←hE]
   simp [q]
 by_cases r2:4≤k
 ·by_cases r3:k≤16
  ·have q:iw k 4 16=true:=bC.2 ⟨r2,r3⟩
   simp [func34,f34,c1,c2,c3,r2,r3]at hE
   rw [←hE]
   simp [q,c1,c2,c3]
   by_cases r0:r=0<;>simp [r0]
  ·have q:iw k 4 16=false:=by cases q:iw k 4 16;rfl;exact absurd (bC.1 q).2 r3
   simp [func34,f34,c1,c2,c3,r2,r3]at hE
   rw [←hE]
   simp [q,c1,c2,c3]
 ·have q:iw k 4 16=false:=by cases q:iw k 4 16;rfl;exact absurd (bC.1 q).1 r2
  simp [func34,f34,c1,c2,c3,r2]at hE
  rw [←hE]
  simp [q,c1,c2,c3]
section
variable (e:dw) (h:fO e)
include h
theorem adK:wm [gL e] [] []=some (kR (JB e)):=by
 have e1:=G6 e.aM.aA h.ring
 obtain⟨t1,t2⟩:=yC h.ring
 unfold JB
 by_cases hc:bE e.aM.aA= []
 ·rw [if_pos hc]
  have e2:=jD e h
  rw [hc]at e1
  simp only [aZ]at e1
  generalize dJ e=p at*
  clear h
  generalize hE:wm _ _ _=R
  simp [wm, -ak,func197,f197,e1,e2]at hE
  exact hE.symm
 ·rw [if_neg hc]
  have e2:=Pz e h (bE e.aM.aA) 3 t1 (by omega) (by omega)
  have hc0:¬((bE e.aM.aA).length:Int)=0:=by have:=List.length_pos_iff.2 hc;omega
  generalize Da e (bE e.aM.aA) 3=p at*
  generalize bE e.aM.aA=u at*
  clear h
  generalize hE:wm _ _ _=R
  simp [wm, -ak,func197,f197,e1,e2,hc,hc0]at hE
  exact hE.symm
theorem G8 (hm:¬e.bR=3):nH [gL e] [] []=some (kR (CU e)):=by
 obtain⟨q1,q2, -⟩:=h.Pt.resolve_left hm
 have e1:=fV e h
 have e2:=wE e
 have e3:=lT e.au.av (some 0) e.au.At (by have:=(bU h.line).1;omega)
 clear h
 generalize hE:nH _ _ _=R
 unfold nH at hE
 simp only [gL,gO,hO,q1,q2,aZ]at e1 e2 hE
 simp [-ak,func200,f200,e1,e2,e3]at hE
 exact hE.symm
variable {f:Int} {l:List ByteArray} (hh:iB f l)
include hh
theorem JU (k r:Int)(hk:ji k r=true)(hm:e.bR=0∨e.bR=1):qR [gL e,aH f l,aK k r] [] []=some (kRo (p8 e f l k r)):=by
 have e1:=sD e (fD.2 h)
 have e2:=uP f l hh
 have e3:=nJ k r
 rw [hk]at e3
 have e4:=abe e h hh k r hk
 cases hp:p8 e f l k r with
 | none=>
  rw [hp]at e4
  simp only [Option.getD_none,kR,yH,aZ,show aC []= []from rfl,show aG []= []from rfl]at e4
  simp only [kRo,JI,yH,aZ,show aC []= []from rfl,show aG []= []from rfl]
  clear h hh
  generalize hE:qR _ _ _=R
  unfold qR at hE
  rcases hm with hm|hm
  ·simp only [gL,gO,hO,hm]at e1 e4 hE
   simp [-ak,func104,f104,e1,e2,e3,e4]at hE
   exact hE.symm
  ·simp only [gL,gO,hO,hm]at e1 e4 hE
   simp [-ak,func104,f104,e1,e2,e3,e4]at hE
   exact hE.symm
 | some p=>
  rw [hp]at e4
  simp only [Option.getD_some]at e4
  have ha:¬p.2<0:=by
   have:=adJ e f l k r hp
   unfold AOk at this
   omega
  clear h hh
  generalize hE:qR _ _ _=R
  unfold qR at hE
  rcases hm with hm|hm
  ·simp only [gL,gO,hO,hm]at e1 e4 hE
   simp [-ak,func104,f104,e1,e2,e3,e4,ha]at hE
   exact hE.symm
  ·simp only [gL,gO,hO,hm]at e1 e4 hE
   simp [-ak,func104,f104,e1,e2,e3,e4,ha]at hE
   exact hE.symm
end
theorem Mt (t:List Int)(n a:Nat)(ha:a≤t.length)(ht:t.length≤2000)(hn:n≤999):gq [vI (a:Int),vI (n:Int), .fn 156 [.ref 0 0]] [[.aL (some 0) (ints t)]] []=some ⟨vI (((dG (fE t) n a:Nat):Int)),[[.aL (some 0) (ints t)]],[]⟩:=by
 have e1:∀p:Nat,p≤t.length→lN [vI (p:Int), .ref 0 0] [[.aL (some 0) (ints t)]] []=some ⟨vI (((fE t p:Nat):Int)),[[.aL (some 0) (ints t)]],[]⟩:=fun p hp=>by
  have h:=QI t (some 0) p hp ht
  simp [lN,func156,f156,h,show List.range' 0 1= [0]from rfl]
 have hle:∀j,dG (fE t) j a≤t.length:=fun j=>sw (fun a ha=>Nat.le_trans Au ha) j a ha
 generalize hE:gq _ _ _=R
 simp [gq,func91,f91]at hE
 rw [aD (fun j=> .on ⟨[(8,V.v (.int .i64 ((j:Int)))),(7,V.v (.int .i64 ((n:Int)))),(2, .fn 156 [.ref 1000000000 0]),(0,V.v (.int .i64 (((dG (fE t) j a:Nat):Int))))],[(1000000000,[.aL (some 0) (ints t)])],[],[]⟩) n ?_ ?_]at hE
 ·simp [show List.range' 0 1= [0]from rfl]at hE
  exact hE.symm
 ·simp [dG]
 ·intro j hj
  have hw:=bN ((j:Int)+1) (by omega)
  have e2:=e1 _ (hle j)
  rw [pX]
  generalize dG (fE t) j a=p at*
  simp [hj,hw,e2,show List.range' 0 1= [0]from rfl]
theorem CZ (t:List Int)(n a:Nat)(ha:a≤t.length)(ht:t.length≤2000)(hn:n≤999):gq [vI (a:Int),vI (n:Int), .fn 157 [.ref 0 0]] [[.aL (some 0) (ints t)]] []=some ⟨vI (((dG (ig t) n a:Nat):Int)),[[.aL (some 0) (ints t)]],[]⟩:=by
 have e1:∀p:Nat,p≤t.length→lQ [vI (p:Int), .ref 0 0] [[.aL (some 0) (ints t)]] []=some ⟨vI (((ig t p:Nat):Int)),[[.aL (some 0) (ints t)]],[]⟩:=fun p hp=>by
  have h:=W9 t (some 0) p hp ht
  simp [lQ,func157,f157,h,show List.range' 0 1= [0]from rfl]
 have hle:∀j,dG (ig t) j a≤t.length:=fun j=>sw (fun a ha=>(xu ha).2) j a ha
 generalize hE:gq _ _ _=R
 simp [gq,func91,f91]at hE
 rw [aD (fun j=> .on ⟨[(8,V.v (.int .i64 ((j:Int)))),(7,V.v (.int .i64 ((n:Int)))),(2, .fn 157 [.ref 1000000000 0]),(0,V.v (.int .i64 (((dG (ig t) j a:Nat):Int))))],[(1000000000,[.aL (some 0) (ints t)])],[],[]⟩) n ?_ ?_]at hE
 ·simp [show List.range' 0 1= [0]from rfl]at hE
  exact hE.symm
 ·simp [dG]
 ·intro j hj
  have hw:=bN ((j:Int)+1) (by omega)
  have e2:=e1 _ (hle j)
  rw [pX]
  generalize dG (ig t) j a=p at*
  simp [hj,hw,e2,show List.range' 0 1= [0]from rfl]
theorem Og (t:List Int)(n a:Nat)(ha:a≤t.length)(ht:t.length≤2000)(hn:n≤999):gq [vI (a:Int),vI (n:Int), .fn 92 [.ref 0 0]] [[.aL (some 0) (ints t)]] []=some ⟨vI (((dG (fE t) n a:Nat):Int)),[[.aL (some 0) (ints t)]],[]⟩:=by
 have e1:∀p:Nat,p≤t.length→mX [vI (p:Int), .ref 0 0] [[.aL (some 0) (ints t)]] []=some ⟨vI (((fE t p:Nat):Int)),[[.aL (some 0) (ints t)]],[]⟩:=fun p hp=>by
  have h:=QI t (some 0) p hp ht
  simp [mX,func92,f92,h,show List.range' 0 1= [0]from rfl]
 have hle:∀j,dG (fE t) j a≤t.length:=fun j=>sw (fun a ha=>Nat.le_trans Au ha) j a ha
 generalize hE:gq _ _ _=R
 simp [gq,func91,f91]at hE
 rw [aD (fun j=> .on ⟨[(8,V.v (.int .i64 ((j:Int)))),(7,V.v (.int .i64 ((n:Int)))),(2, .fn 92 [.ref 1000000000 0]),(0,V.v (.int .i64 (((dG (fE t) j a:Nat):Int))))],[(1000000000,[.aL (some 0) (ints t)])],[],[]⟩) n ?_ ?_]at hE
 ·simp [show List.range' 0 1= [0]from rfl]at hE
  exact hE.symm
 ·simp [dG]
 ·intro j hj
  have hw:=bN ((j:Int)+1) (by omega)
  have e2:=e1 _ (hle j)
  rw [pX]
  generalize dG (fE t) j a=p at*
  simp [hj,hw,e2,show List.range' 0 1= [0]from rfl]
theorem DV (t:List Int)(big:Bool)(n a:Nat)(ha:a≤t.length)(ht:t.length≤2000)(hn:n≤999):gq [vI (a:Int),vI (n:Int), .fn 237 [.ref 0 0, .ref 1 0]] [[.aL (some 0) (ints t)],[V.v (.bool big)]] []=some ⟨vI (((dG (GN t big) n a:Nat):Int)),[[.aL (some 0) (ints t)],[V.v (.bool big)]],[]⟩:=by
 have e1:∀p:Nat,p≤t.length→mY [vI (p:Int), .ref 0 0, .ref 1 0] [[.aL (some 0) (ints t)],[V.v (.bool big)]] []=some ⟨vI (((GN t big p:Nat):Int)),[[.aL (some 0) (ints t)],[V.v (.bool big)]],[]⟩:=fun p hp=>by
  have h:=aaX t (some 0) p big hp ht
  simp [mY,func237,f237,h,show List.range' 0 2= [0,1]from rfl]
 have hle:∀j,dG (GN t big) j a≤t.length:=fun j=>sw (fun a ha=>(Rw ha).2) j a ha
 generalize hE:gq _ _ _=R
 simp [gq,func91,f91]at hE
 rw [aD (fun j=> .on ⟨[(8,V.v (.int .i64 ((j:Int)))),(7,V.v (.int .i64 ((n:Int)))),(2, .fn 237 [.ref 1000000000 0, .ref 1000000001 0]),(0,V.v (.int .i64 (((dG (GN t big) j a:Nat):Int))))],[(1000000001,[V.v (.bool big)]),(1000000000,[.aL (some 0) (ints t)])],[],[]⟩) n ?_ ?_]at hE
 ·simp [show List.range' 0 2= [0,1]from rfl]at hE
  exact hE.symm
 ·simp [dG]
 ·intro j hj
  have hw:=bN ((j:Int)+1) (by omega)
  have e2:=e1 _ (hle j)
  rw [pX]
  generalize dG (GN t big) j a=p at*
  simp [hj,hw,e2,show List.range' 0 2= [0,1]from rfl]
theorem DW (t:List Int)(big:Bool)(n a:Nat)(ha:a≤t.length)(ht:t.length≤2000)(hn:n≤999):gq [vI (a:Int),vI (n:Int), .fn 239 [.ref 0 0, .ref 1 0]] [[.aL (some 0) (ints t)],[V.v (.bool big)]] []=some ⟨vI (((dG (lD t big) n a:Nat):Int)),[[.aL (some 0) (ints t)],[V.v (.bool big)]],[]⟩:=by
 have e1:∀p:Nat,p≤t.length→mZ [vI (p:Int), .ref 0 0, .ref 1 0] [[.aL (some 0) (ints t)],[V.v (.bool big)]] []=some ⟨vI (((lD t big p:Nat):Int)),[[.aL (some 0) (ints t)],[V.v (.bool big)]],[]⟩:=fun p hp=>by
  have h:=Lm t (some 0) p big hp ht
  simp [mZ,func239,f239,h,show List.range' 0 2= [0,1]from rfl]
 have hle:∀j,dG (lD t big) j a≤t.length:=fun j=>sw (fun a ha=>Nat.le_trans Cg ha) j a ha
 generalize hE:gq _ _ _=R
 simp [gq,func91,f91]at hE
 rw [aD (fun j=> .on ⟨[(8,V.v (.int .i64 ((j:Int)))),(7,V.v (.int .i64 ((n:Int)))),(2, .fn 239 [.ref 1000000000 0, .ref 1000000001 0]),(0,V.v (.int .i64 (((dG (lD t big) j a:Nat):Int))))],[(1000000001,[V.v (.bool big)]),(1000000000,[.aL (some 0) (ints t)])],[],[]⟩) n ?_ ?_]at hE
 ·simp [show List.range' 0 2= [0,1]from rfl]at hE
  exact hE.symm
 ·simp [dG]
 ·intro j hj
  have hw:=bN ((j:Int)+1) (by omega)
  have e2:=e1 _ (hle j)
  rw [pX]
  generalize dG (lD t big) j a=p at*
  simp [hj,hw,e2,show List.range' 0 2= [0,1]from rfl]
theorem DX (t:List Int)(big:Bool)(n a:Nat)(ha:a≤t.length)(ht:t.length≤2000)(hn:n≤999):gq [vI (a:Int),vI (n:Int), .fn 240 [.ref 0 0, .ref 1 0]] [[.aL (some 0) (ints t)],[V.v (.bool big)]] []=some ⟨vI (((dG (yu t big) n a:Nat):Int)),[[.aL (some 0) (ints t)],[V.v (.bool big)]],[]⟩:=by
 have e1:∀p:Nat,p≤t.length→ng [vI (p:Int), .ref 0 0, .ref 1 0] [[.aL (some 0) (ints t)],[V.v (.bool big)]] []=some ⟨vI (((yu t big p:Nat):Int)),[[.aL (some 0) (ints t)],[V.v (.bool big)]],[]⟩:=fun p hp=>by
  have h:=Yo t (some 0) p big hp ht
  simp [ng,func240,f240,h,show List.range' 0 2= [0,1]from rfl]
 have hle:∀j,dG (yu t big) j a≤t.length:=fun j=>sw (fun a ha=>NU.1) j a ha
 generalize hE:gq _ _ _=R
 simp [gq,func91,f91]at hE
 rw [aD (fun j=> .on ⟨[(8,V.v (.int .i64 ((j:Int)))),(7,V.v (.int .i64 ((n:Int)))),(2, .fn 240 [.ref 1000000000 0, .ref 1000000001 0]),(0,V.v (.int .i64 (((dG (yu t big) j a:Nat):Int))))],[(1000000001,[V.v (.bool big)]),(1000000000,[.aL (some 0) (ints t)])],[],[]⟩) n ?_ ?_]at hE
 ·simp [show List.range' 0 2= [0,1]from rfl]at hE
  exact hE.symm
 ·simp [dG]
 ·intro j hj
  have hw:=bN ((j:Int)+1) (by omega)
  have e2:=e1 _ (hle j)
  rw [pX]
  generalize dG (yu t big) j a=p at*
  simp [hj,hw,e2,show List.range' 0 2= [0,1]from rfl]
section
variable (e:dw) (h:fO e)
include h
theorem Eo (n:Nat)(hn:n≤1000):pQ [gL e,vI (n:Int),V.v (.bool true)] [] []=some ⟨vI (((dG (ig e.au.av) n (aS e):Nat):Int)),[],[]⟩:=by
 obtain⟨h1,h2,h3,h4⟩:=h.aS
 have hu:=fun j=>NV (fun a ha=>xu (t:=e.au.av) ha) j (aS e) h2
 generalize hE:pQ _ _ _=R
 simp [pQ, -ak,func107,f107]at hE
 rw [aD (fun j=> .on ⟨[(8,V.v (.int .i64 ((j:Int)))),(7,V.v (.int .i64 (((dG (ig e.au.av) j (aS e):Nat):Int)))),(3, .ref 3 0),(2,V.v (.bool true)),(1,V.v (.int .i64 ((n:Int))))],[(3,[V.v (.bool e.Vi),vI e.bR, .aL (some 0) (ints e.au.av),vI e.au.At,vI e.bA,vI e.Op,vI e.bH,vI e.eY,vI e.dN,vI e.bG,vI e.iA, .aL (some 1) (aC e.aM.aA), .aL (some 2) (aG e.eO.bP),vI e.jT, .aL (some 3) (ints e.gG.av),vI e.gG.At, .aL (some 4) (ints e.bI),vI e.kV, .aL (some 5) (ints e.bT.av),vI e.bT.At])],[],[]⟩) n ?_ ?_]at hE
 ·simp at hE
  exact hE.symm
 ·simp [dG,←h1]
 ·intro j hj
  have hw:=bN ((j:Int)+1) (by omega)
  have e2:=agx e.au.av (some 0) (dG (ig e.au.av) j (aS e)) (hu j).2 (by omega)
  rw [pX]
  generalize dG (ig e.au.av) j (aS e)=a at*
  simp [hj,hw,e2]
theorem Hz (n:Nat)(hn:n≤1000):pQ [gL e,vI (n:Int),V.v (.bool false)] [] []=some ⟨vI (((dG (fE e.au.av) n (aS e):Nat):Int)),[],[]⟩:=by
 obtain⟨h1,h2,h3,h4⟩:=h.aS
 have hu:=fun j=>GX (f:=fE e.au.av) (fun _=>Au) j (aS e)
 generalize hE:pQ _ _ _=R
 simp [pQ, -ak,func107,f107]at hE
 rw [aD (fun j=> .on ⟨[(8,V.v (.int .i64 ((j:Int)))),(7,V.v (.int .i64 (((dG (fE e.au.av) j (aS e):Nat):Int)))),(3, .ref 3 0),(2,V.v (.bool false)),(1,V.v (.int .i64 ((n:Int))))],[(3,[V.v (.bool e.Vi),vI e.bR, .aL (some 0) (ints e.au.av),vI e.au.At,vI e.bA,vI e.Op,vI e.bH,vI e.eY,vI e.dN,vI e.bG,vI e.iA, .aL (some 1) (aC e.aM.aA), .aL (some 2) (aG e.eO.bP),vI e.jT, .aL (some 3) (ints e.gG.av),vI e.gG.At, .aL (some 4) (ints e.bI),vI e.kV, .aL (some 5) (ints e.bT.av),vI e.bT.At])],[],[]⟩) n ?_ ?_]at hE
 ·simp at hE
  exact hE.symm
 ·simp [dG,←h1]
 ·intro j hj
  have hw:=bN ((j:Int)+1) (by omega)
  have hle:=hu j
  have e2:=aaY e.au.av (some 0) (dG (fE e.au.av) j (aS e)) (by omega) (by omega)
  rw [pX]
  generalize dG (fE e.au.av) j (aS e)=a at*
  simp [hj,hw,e2]
end
theorem abg (t:List Int)(a:Int)(h:bV t a=true)(f nk:Nat)(h1:f≤nk)(h2:nk≤t.length)(how:Int)(hw:0≤how∧how≤2):Ai [.agg [.aL (some 0) (ints t),vI a],vI (f:Int),vI (nk:Int),vI how] [] []=some ⟨.fU [.agg [.own 0,vI (nk:Int)],V.v (.bool true)],[],[(0,ints (jM t f how (nk-f)).1)]⟩:=by
 have hl:=bU h
 have e1:=TL t a h f nk
 rw [decide_eq_true ⟨by omega,by omega,by omega⟩]at e1
 have e2:=uG t [] [] (some 0) (some 1) (some 2) (by simp;omega)
 simp only [List.append_nil,aZ]at e2
 have q1:¬how<0:=by omega
 have q2:¬2<how:=by omega
 generalize hE:Ai _ _ _=R
 simp [Ai,func251,f251,e1,e2,q1,q2]at hE
 rw [aD (fun j=> .on ⟨[(12,V.v (.int .i64 (((f+j:Nat):Int)))),(11,V.v (.bool ((jM t f how j).2))),(10, .own 2000000000),(8, .ref 8 0),(3,V.v (.int .i64 how)),(2,V.v (.int .i64 ((nk:Int))))],[(8,[.own 2000000001,vI 0])],[(2000000001,[]),(2000000000,ints (jM t f how j).1)],[]⟩) (nk-f) ?_ ?_]at hE
 ·have q2:(f:Int)+((nk-f:Nat):Int)=nk:=by omega
  have q3:f+(nk-f)=nk:=by omega
  simp [q2,q3]at hE
  exact hE.symm
 ·simp [jM]
 ·intro j hj
  have hjl:f+j<(jM t f how j).1.length:=by rw [uo];omega
  have hq:f+j<nk:=by omega
  have hq2:(f:Int)+j<nk:=by omega
  have hjt:f+j<t.length:=by omega
  have hq3:(f:Int)+j<t.length:=by omega
  have hlen:=uo t f how j
  have hw1:=bN ((f:Int)+(j+1)) (by omega)
  have hs:(f:Int)+j+1=(f:Int)+(j+1):=by omega
  rw [jM]
  have hgd:(jM t f how j).1.getD (f+j) 0=(jM t f how j).1[f+j]:=by rw [List.getD_eq_getElem?_getD,List.getElem?_eq_getElem hjl];rfl
  rw [hgd]
  generalize hX:jM t f how j=X at*
  obtain⟨u,fst⟩:=X
  simp only at hjl hlen hgd⊢
  have hgu:=aQ hjl
  generalize hr:u[f+j]=r at*
  have hself:u.set (f+j) r=u:=by rw [←hr];exact List.set_getElem_self hjl
  have hset:∀x:Int,(ints u).set (f+j) [.a (.int .i64 x)]=ints (u.set (f+j) x):=fun x=>zC u (f+j) x
  have Va:0≤(f:Int)+j:=by omega
  have H6:((f:Int)+j).toNat=f+j:=by omega
  by_cases s1:97≤r
  ·by_cases s2:r≤122
   ·have c1:iw r 97 122=true:=bC.2 ⟨s1,s2⟩
    have c2:iw r 65 90=false:=by cases q:iw r 65 90;rfl;have:=bC.1 q;omega
    have g1:65≤r:=by omega
    have g2:¬r≤90:=by omega
    have w1:=bN (r-32) (by omega)
    have il:isLet r=true:=by unfold isLet;rw [c1];rfl
    have u1:upI r=r-32:=by unfold upI;rw [if_pos c1]
    have u2:NR r=r:=by unfold NR;rw [if_neg (by rw [c2];decide)]
    by_cases c3:how=1
    ·simp [hq,hq2,hq3,hjt,hlen,hgu,hr,Va,H6,s1,s2,g1,g2,w1,il,u1,c3,hw1,hs,hset]
    ·by_cases c4:how=2
     ·cases fst
      ·simp [hq,hq2,hq3,hjt,hlen,hgu,hr,Va,H6,s1,s2,g1,g2,w1,il,u2,c4,hw1,hs,hset,hself]
      ·simp [hq,hq2,hq3,hjt,hlen,hgu,hr,Va,H6,s1,s2,g1,g2,w1,il,u1,c4,hw1,hs,hset]
     ·simp [hq,hq2,hq3,hjt,hlen,hgu,hr,Va,H6,s1,s2,g1,g2,w1,il,u2,c3,c4,hw1,hs,hset,hself]
   ·have c1:iw r 97 122=false:=by cases q:iw r 97 122;rfl;have:=bC.1 q;omega
    have c2:iw r 65 90=false:=by cases q:iw r 65 90;rfl;have:=bC.1 q;omega
    have g1:65≤r:=by omega
    have g2:¬r≤90:=by omega
    have il:isLet r=false:=by unfold isLet;rw [c1,c2];rfl
    simp [hq,hq2,hq3,hjt,hlen,hgu,hr,Va,H6,s1,s2,g1,g2,il,hw1,hs,hset]
  ·have c1:iw r 97 122=false:=by cases q:iw r 97 122;rfl;have:=bC.1 q;omega
   have u1:upI r=r:=by unfold upI;rw [if_neg (by rw [c1];decide)]
   by_cases g1:65≤r
   ·by_cases g2:r≤90
    ·have c2:iw r 65 90=true:=bC.2 ⟨g1,g2⟩
     have w1:=bN (r+32) (by omega)
     have il:isLet r=true:=by unfold isLet;rw [c1,c2];rfl
     have u2:NR r=r+32:=by unfold NR;rw [if_pos c2]
     by_cases c3:how=1
     ·simp [hq,hq2,hq3,hjt,hlen,hgu,hr,Va,H6,s1,g1,g2,w1,il,u1,c3,hw1,hs,hset,hself]
     ·by_cases c4:how=2
      ·cases fst
       ·simp [hq,hq2,hq3,hjt,hlen,hgu,hr,Va,H6,s1,g1,g2,w1,il,u2,c4,hw1,hs,hset]
       ·simp [hq,hq2,hq3,hjt,hlen,hgu,hr,Va,H6,s1,g1,g2,w1,il,u1,c4,hw1,hs,hset,hself]
      ·simp [hq,hq2,hq3,hjt,hlen,hgu,hr,Va,H6,s1,g1,g2,w1,il,u2,c3,c4,hw1,hs,hset]
    ·have c2:iw r 65 90=false:=by cases q:iw r 65 90;rfl;have:=bC.1 q;omega
     have il:isLet r=false:=by unfold isLet;rw [c1,c2];rfl
     simp [hq,hq2,hq3,hjt,hlen,hgu,hr,Va,H6,s1,g1,g2,il,hw1,hs,hset]
   ·have c2:iw r 65 90=false:=by cases q:iw r 65 90;rfl;have:=bC.1 q;omega
    have il:isLet r=false:=by unfold isLet;rw [c1,c2];rfl
    simp [hq,hq2,hq3,hjt,hlen,hgu,hr,Va,H6,s1,g1,il,hw1,hs,hset]
section
variable (e:dw) (h:fO e)
include h
theorem adL (how:Int)(hw:0≤how∧how≤2):CK [gL e,vI how] [] []=some (kR (Lj e how)):=by
 obtain⟨h1,h2,h3,h4⟩:=h.aS
 have hwo:=xu h2
 have e1:=Eo e h 1 (by omega)
 have e2:=abg e.au.av e.au.At h.line (aS e) (ig e.au.av (aS e)) hwo.1 hwo.2 how hw
 rw [←h1]at e2
 have hl:=uo e.au.av (aS e) how (ig e.au.av (aS e)-aS e)
 have e3:=qM e h (jM e.au.av (aS e) how (ig e.au.av (aS e)-aS e)).1 (ig e.au.av (aS e)) 0 (gI (by omega) (BF h4 _ _ _) (by omega) (by omega)) (by omega)
 unfold Lj wD
 simp only [dG,Int.natCast_one]at e1
 generalize (jM e.au.av (aS e) how (ig e.au.av (aS e)-aS e)).1=u at*
 generalize ig e.au.av (aS e)=b at*
 generalize sW e u b 0=p at*
 clear h h2 h3 h4 hwo hl
 generalize hE:CK _ _ _=R
 simp [CK, -ak,func191,f191,e1,e2,e3]at hE
 exact hE.symm
end
theorem Uc (r:Int):Jq [vI r] [] []=some ⟨vI (jd r),[],[]⟩:=by
 unfold Jq jd
 by_cases c1:r=102
 ·subst c1;simp [func262,f262]
 by_cases c2:r=70
 ·subst c2;simp [func262,f262]
 by_cases c3:r=116
 ·subst c3;simp [func262,f262]
 by_cases c4:r=84
 ·subst c4;simp [func262,f262]
 simp [func262,f262,c1,c2,c3,c4]
theorem Ay (n:Nat)(h:1≤n∧n≤999):Al [vI (n:Int)] [] []=some ⟨vI (n:Int),[],[]⟩:=by
 have c1:¬(n:Int)<1:=by omega
 have c2:¬(999:Int)<n:=by omega
 simp [Al,func281,f281,c1,c2]
theorem adM (how:Int):Gw [vI how] [] []=some ⟨vI (uR how),[],[]⟩:=by
 unfold Gw uR
 by_cases c1:how=0
 ·subst c1;simp [func265,f265]
 by_cases c2:how=1
 ·subst c2;simp [func265,f265]
 by_cases c3:how=2
 ·subst c3;simp [func265,f265]
 simp [func265,f265,c1,c2,c3]
theorem aki (t:List Int)(i:Option Nat)(a b:Nat)(w:Bool)(ha:a≤t.length)(hb:b≤t.length)(ht:t.length≤2000):Nz [.aL i (ints t),vI (a:Int),vI (b:Int),V.v (.bool w)] [] []=some ⟨.fU [vI (((min a b:Nat):Int)),vI (((yw t.length a b w:Nat):Int))],[],[]⟩:=by
 have e1:=dn (a:Int) t.length (by omega)
 have e2:=dn (b:Int) t.length (by omega)
 rw [show max 0 (min (a:Int) t.length)=a by omega]at e1
 rw [show max 0 (min (b:Int) t.length)=b by omega]at e2
 unfold yw
 generalize hE:Nz _ _ _=R
 unfold Nz at hE
 by_cases hab:b<a
 ·have adN:(b:Int)<a:=by omega
  rw [show min a b=b by omega,show max a b=a by omega]
  cases w
  ·rw [if_neg (by simp)]
   simp [func286,f286,e1,e2,hab,adN]at hE
   exact hE.symm
  ·by_cases hc:a<t.length
   ·have hc2:(a:Int)<t.length:=by omega
    have w1:=bN ((a:Int)+1) (by omega)
    rw [if_pos ⟨rfl,hc⟩]
    simp [func286,f286,e1,e2,hab,adN,hc,hc2,w1]at hE
    exact hE.symm
   ·have hc2:¬(a:Int)<t.length:=by omega
    rw [if_neg (fun q=>hc q.2)]
    simp [func286,f286,e1,e2,hab,adN,hc,hc2]at hE
    exact hE.symm
 ·have adN:¬(b:Int)<a:=by omega
  rw [show min a b=a by omega,show max a b=b by omega]
  cases w
  ·rw [if_neg (by simp)]
   simp [func286,f286,e1,e2,hab,adN]at hE
   exact hE.symm
  ·by_cases hc:b<t.length
   ·have hc2:(b:Int)<t.length:=by omega
    have w1:=bN ((b:Int)+1) (by omega)
    rw [if_pos ⟨rfl,hc⟩]
    simp [func286,f286,e1,e2,hab,adN,hc,hc2,w1]at hE
    exact hE.symm
   ·have hc2:¬(b:Int)<t.length:=by omega
    rw [if_neg (fun q=>hc q.2)]
    simp [func286,f286,e1,e2,hab,adN,hc,hc2]at hE
    exact hE.symm
theorem BH (e:dw)(h:fO e):xZ [gL e] [] []=some ⟨vI (((gY e:Nat):Int)),[],[]⟩:=by
 obtain⟨n1,n2,n3⟩:=h.gY
 have hc:=h.cnt
 have ho:=h.zD
 have hmul:max e.bA 1*max e.bH 1≤999*999:=Int.mul_le_mul (by omega) (by omega) (by omega) (by omega)
 have aiO:0≤max e.bA 1*max e.bH 1:=Int.mul_nonneg (by omega) (by omega)
 have e1:=iC e
 generalize hE:xZ _ _ _=R
 unfold xZ at hE
 by_cases c:0<e.bH
 ·have hm:max e.bH 1=e.bH:=by omega
  rw [hm]at hmul aiO n3
  have w:=bN (max e.bA 1*e.bH) (by omega)
  have e2:=dn (max e.bA 1*e.bH) 999 (by omega)
  rw [show max 0 (min (max e.bA 1*e.bH) 999)=((gY e:Nat):Int) by omega]at e2
  simp [func208,f208,e1,e2,c,w]at hE
  exact hE.symm
 ·have hm:max e.bH 1=1:=by omega
  rw [hm,Int.mul_one]at n3
  have e2:=dn (max e.bA 1) 999 (by omega)
  rw [show max 0 (min (max e.bA 1) 999)=((gY e:Nat):Int) by omega]at e2
  simp [func208,f208,e1,e2,c]at hE
  exact hE.symm
theorem Xc (t:List Int)(i:Option Nat)(a:Nat)(r how step look:Int)(ha:a≤t.length)(ht:t.length≤2000)(hst:(how=0∧step=1∧look=0)∨(how=1∧step= -1∧look=0)∨(how=2∧step=1∧look=1)∨(how=3∧step= -1∧look= -1))(N:Nat)(P:Nat→Int)(res:Int)
  (h0:P 0=a+step) (hs:∀j,j<N→P (j+1)=P j+step) (hb:∀j,j≤N→-2≤P j∧P j≤2001)
  (hr:∀j,j<N→0≤P j∧P j<t.length∧(P j+look<0∨(0≤P j+look∧t.length≤P j+look)∨∃(q:Nat) (hq:q<t.length),P j+look=q∧¬t[q]=r))
  (he:(res= -1∧(P N<0∨(0≤P N∧t.length≤P N)))∨(res=P N∧0≤P N∧P N<t.length∧∃(q:Nat) (hq:q<t.length),P N+look=q∧t[q]=r)):
  wW [.aL i (ints t),vI (a:Int),vI r,vI how] [] []=some ⟨vI res,[],[]⟩:=by
 have TM:=dn (a:Int) t.length (by omega)
 rw [show max 0 (min (a:Int) t.length)=a by omega]at TM
 have hstep:step=1∨step= -1:=by rcases hst with q|q|q|q<;>simp [q.2.1]
 have w0:IntKind.i64.wrap ((a:Int)+step)=a+step:=bN _ (by clear he hr hb hs h0;rcases hstep with rfl|rfl<;>omega)
 have st:∃w,wW [.aL i (ints t),vI (a:Int),vI r,vI how] [] []=w:=⟨_,rfl⟩
 obtain⟨R,hE⟩:=st
 rw [hE]
 unfold wW at hE
 rcases hst with⟨rfl,rfl,rfl⟩|⟨rfl,rfl,rfl⟩|⟨rfl,rfl,rfl⟩|⟨rfl,rfl,rfl⟩
 all_goals
  simp [func282,f282,TM,w0]at hE
  first
   | (rw [aD (fun j=> .on ⟨[(11,V.v (.int .i64 (P j))),(10,V.v (.int .i64 0)),(9,V.v (.int .i64 1)),(2,V.v (.int .i64 r)),(0, .aL i (ints t))],[],[],[]⟩) N ?_ ?_]at hE;rotate_left;(· (simp [h0];done)))
   | (rw [aD (fun j=> .on ⟨[(11,V.v (.int .i64 (P j))),(10,V.v (.int .i64 0)),(9,V.v (.int .i64 ((-1)))),(2,V.v (.int .i64 r)),(0, .aL i (ints t))],[],[],[]⟩) N ?_ ?_]at hE;rotate_left;(· (simp [h0];done)))
   | (rw [aD (fun j=> .on ⟨[(11,V.v (.int .i64 (P j))),(10,V.v (.int .i64 1)),(9,V.v (.int .i64 1)),(2,V.v (.int .i64 r)),(0, .aL i (ints t))],[],[],[]⟩) N ?_ ?_]at hE;rotate_left;(· (simp [h0];done)))
   | (rw [aD (fun j=> .on ⟨[(11,V.v (.int .i64 (P j))),(10,V.v (.int .i64 ((-1)))),(9,V.v (.int .i64 ((-1)))),(2,V.v (.int .i64 r)),(0, .aL i (ints t))],[],[],[]⟩) N ?_ ?_]at hE;rotate_left;(· (simp [h0];done)))
  ·intro j hj
   have b1:=hb j (by omega)
   have s1:=hs j hj
   obtain⟨r1,r2,r3⟩:=hr j hj
   rw [s1]
   generalize P j=x at*
   clear hb hs hr he s1
   have w3:=bN x (by omega)
   have w4:=bN (x+1) (by omega)
   have w5:=bN (x+ -1) (by omega)
   try simp only [Int.add_zero]at r3
   rcases r3 with q|⟨q0,q⟩|⟨k,hk,q0,q⟩
   ·have q':¬(0:Int)≤_:=Int.not_le.2 q
    first|(exfalso;omega)|simp [r1,r2,w3,w4,w5,q,q']
   ·have q':¬_<(t.length:Int):=Int.not_lt.2 q
    first|(exfalso;omega)|simp [r1,r2,w3,w4,w5,q0,q']
   ·have q1:(0:Int)≤k:=by omega
    have q2:(k:Int)<t.length:=by omega
    have w6:=bN (k:Int) (by omega)
    have w7:=bN ((k:Int)+1) (by omega)
    have w8:=bN ((k:Int)+ -1) (by omega)
    simp [r1,r2,w3,w4,w5,w6,w7,w8,q0,q1,q2,hk,aQ hk,q]
  ·have b1:=hb N (Nat.le_refl _)
   clear hb hs hr
   generalize P N=x at*
   clear h0
   have w3:=bN x (by omega)
   have w4:=bN (x+1) (by omega)
   have w5:=bN (x+ -1) (by omega)
   try simp only [Int.add_zero]at he
   rcases he with⟨rfl,q|⟨q0,q⟩⟩|⟨rfl,q1,q2,k,hk,q0,q⟩
   ·have q':¬0≤x:=Int.not_le.2 q
    simp [q']at hE
    exact hE.symm
   ·have q':¬x<(t.length:Int):=Int.not_lt.2 q
    simp [q0,q']at hE
    exact hE.symm
   ·have q3:(0:Int)≤k:=by omega
    have q4:(k:Int)<t.length:=by omega
    have w6:=bN (k:Int) (by omega)
    have w7:=bN ((k:Int)+1) (by omega)
    have w8:=bN ((k:Int)+ -1) (by omega)
    simp [q1,q2,q3,q4,w3,w4,w5,w6,w7,w8,q0,hk,aQ hk,q]at hE
    first
     | exact hE.symm
     | (rw [q0];exact hE.symm)
theorem JV (t:List Int)(i:Option Nat)(a:Nat)(r how:Int)(h:a≤t.length)(ht:t.length≤2000)(hw:0≤how∧how≤3):wW [.aL i (ints t),vI (a:Int),vI r,vI how] [] []=some ⟨vI (uS (jC t r how a)),[],[]⟩:=by
 rcases(by omega:how=0∨how=1∨how=2∨how=3)with rfl|rfl|rfl|rfl
 ·unfold jC
  rw [if_pos rfl]
  obtain⟨k1,k2,k3⟩:=cB (fun j=>decide (¬t.getD (a+1+j) 0=r)) (t.length-(a+1))
  generalize gP (fun j=>decide (¬t.getD (a+1+j) 0=r)) (t.length-(a+1))=k at*
  simp only
  refine Xc t i a r 0 1 0 h ht (.inl ⟨rfl,rfl,rfl⟩) k (fun j=>(a:Int)+1+j) _ (by simp) (fun j _=>by omega) (fun j _=>by omega) (fun j hj=>⟨by omega,by omega, .inr (.inr ⟨a+1+j,by omega,by omega,?_⟩)⟩) ?_
  ·have:=of_decide_eq_true (k2 j hj)
   rwa [getD_at (by omega)]at this
  ·by_cases q:a+1+k<t.length
   ·rw [if_pos q]
    refine .inr ⟨by simp only [uS];omega,by omega,by omega,a+1+k,q,by omega,?_⟩
    have:=of_decide_eq_false (k3.resolve_left (by omega))
    rwa [Classical.not_not,getD_at q]at this
   ·rw [if_neg q]
    exact .inl ⟨rfl, .inr ⟨by omega,by omega⟩⟩
 ·unfold jC
  rw [if_neg (by decide),if_pos rfl]
  obtain⟨k1,k2,k3⟩:=cB (fun j=>decide (¬t.getD (a-1-j) 0=r)) a
  generalize gP (fun j=>decide (¬t.getD (a-1-j) 0=r)) a=k at*
  simp only
  refine Xc t i a r 1 (-1) 0 h ht (.inr (.inl ⟨rfl,rfl,rfl⟩)) k (fun j=>(a:Int)+ -1-j) _ (by simp) (fun j _=>by omega) (fun j _=>by omega) (fun j hj=>⟨by omega,by omega, .inr (.inr ⟨a-1-j,by omega,by omega,?_⟩)⟩) ?_
  ·have:=of_decide_eq_true (k2 j hj)
   rwa [getD_at (by omega)]at this
  ·by_cases q:k<a
   ·rw [if_pos q]
    refine .inr ⟨by simp only [uS];omega,by omega,by omega,a-1-k,by omega,by omega,?_⟩
    have:=of_decide_eq_false (k3.resolve_left (by omega))
    rwa [Classical.not_not,getD_at (by omega)]at this
   ·rw [if_neg q]
    exact .inl ⟨rfl, .inl (by omega)⟩
 ·unfold jC
  rw [if_neg (by decide),if_neg (by decide),if_pos rfl]
  obtain⟨k1,k2,k3⟩:=cB (fun j=>decide (¬t.getD (a+2+j) 0=r)) (t.length-(a+2))
  generalize gP (fun j=>decide (¬t.getD (a+2+j) 0=r)) (t.length-(a+2))=k at*
  simp only
  by_cases q:a+2+k<t.length
  ·rw [if_pos q]
   refine Xc t i a r 2 1 1 h ht (.inr (.inr (.inl ⟨rfl,rfl,rfl⟩))) k (fun j=>(a:Int)+1+j) _ (by simp) (fun j _=>by omega) (fun j _=>by omega) (fun j hj=>⟨by omega,by omega, .inr (.inr ⟨a+2+j,by omega,by omega,?_⟩)⟩) (.inr ⟨by simp only [uS];omega,by omega,by omega,a+2+k,q,by omega,?_⟩)
   ·have:=of_decide_eq_true (k2 j hj)
    rwa [getD_at (by omega)]at this
   ·have:=of_decide_eq_false (k3.resolve_left (by omega))
    rwa [Classical.not_not,getD_at q]at this
  ·rw [if_neg q]
   refine Xc t i a r 2 1 1 h ht (.inr (.inr (.inl ⟨rfl,rfl,rfl⟩))) (t.length-(a+1)) (fun j=>(a:Int)+1+j) _ (by simp) (fun j _=>by omega) (fun j _=>by omega) (fun j hj=>⟨by omega,by omega,?_⟩) (.inl ⟨rfl, .inr ⟨by omega,by omega⟩⟩)
   by_cases c:a+2+j<t.length
   ·refine .inr (.inr ⟨a+2+j,c,by omega,?_⟩)
    have:=of_decide_eq_true (k2 j (by omega))
    rwa [getD_at c]at this
   ·exact .inr (.inl ⟨by omega,by omega⟩)
 ·unfold jC
  rw [if_neg (by decide),if_neg (by decide),if_neg (by decide),if_pos rfl]
  obtain⟨k1,k2,k3⟩:=cB (fun j=>decide (¬t.getD (a-2-j) 0=r)) (a-1)
  generalize gP (fun j=>decide (¬t.getD (a-2-j) 0=r)) (a-1)=k at*
  simp only
  by_cases q:k<a-1
  ·rw [if_pos q]
   refine Xc t i a r 3 (-1) (-1) h ht (.inr (.inr (.inr ⟨rfl,rfl,rfl⟩))) k (fun j=>(a:Int)+ -1-j) _ (by simp) (fun j _=>by omega) (fun j _=>by omega) (fun j hj=>⟨by omega,by omega, .inr (.inr ⟨a-2-j,by omega,by omega,?_⟩)⟩) (.inr ⟨by simp only [uS];omega,by omega,by omega,a-2-k,by omega,by omega,?_⟩)
   ·have:=of_decide_eq_true (k2 j hj)
    rwa [getD_at (by omega)]at this
   ·have:=of_decide_eq_false (k3.resolve_left (by omega))
    rwa [Classical.not_not,getD_at (by omega)]at this
  ·rw [if_neg q]
   refine Xc t i a r 3 (-1) (-1) h ht (.inr (.inr (.inr ⟨rfl,rfl,rfl⟩))) a (fun j=>(a:Int)+ -1-j) _ (by simp) (fun j _=>by omega) (fun j _=>by omega) (fun j hj=>⟨by omega,by omega,?_⟩) (.inl ⟨rfl, .inl (by omega)⟩)
   by_cases c:j<a-1
   ·refine .inr (.inr ⟨a-2-j,by omega,by omega,?_⟩)
    have:=of_decide_eq_true (k2 j (by omega))
    rwa [getD_at (by omega)]at this
   ·exact .inl (by omega)
abbrev mR (o:Option (Nat×Bool)):A9:=match o with
 | some p=>⟨.fU [vI (p.1:Int),V.v (.bool p.2),V.v (.bool true)],[],[]⟩
 | none=>⟨.fU [vI 0,V.v (.bool false),V.v (.bool false)],[],[]⟩
section
variable (t:List Int) (i:Option Nat) (a n:Nat) (ha:a≤t.length) (ht:t.length≤2000) (hn:1≤n∧n≤999)
include ha ht hn
theorem Vh:aT [.aL i (ints t),vI (a:Int),vI 104,vI (n:Int)] [] []=some ⟨.fU [vI (((a-n:Nat):Int)),V.v (.bool false),V.v (.bool true)],[],[]⟩:=by
 have m1:max 0 (min (a:Int) t.length)=a:=by omega
 have m2:max 1 (min (n:Int) 999)=n:=by omega
 have w:=bN ((a:Int)-n) (by omega)
 have m3:max ((a:Int)-n) 0=((a-n:Nat):Int):=by omega
 generalize hE:aT _ _ _=R
 simp [aT,func183,f183,fF,eU,m1,m2,w,m3]at hE
 exact hE.symm
theorem Q9:aT [.aL i (ints t),vI (a:Int),vI 108,vI (n:Int)] [] []=some ⟨.fU [vI (((min (a+n) t.length:Nat):Int)),V.v (.bool false),V.v (.bool true)],[],[]⟩:=by
 have m1:max 0 (min (a:Int) t.length)=a:=by omega
 have m2:max 1 (min (n:Int) 999)=n:=by omega
 have w:=bN ((a:Int)+n) (by omega)
 have m3:min ((a:Int)+n) t.length=((min (a+n) t.length:Nat):Int):=by omega
 generalize hE:aT _ _ _=R
 simp [aT,func183,f183,fF,eU,m1,m2,w,m3]at hE
 exact hE.symm
theorem Ud:aT [.aL i (ints t),vI (a:Int),vI 32,vI (n:Int)] [] []=some ⟨.fU [vI (((min (a+n) t.length:Nat):Int)),V.v (.bool false),V.v (.bool true)],[],[]⟩:=by
 have m1:max 0 (min (a:Int) t.length)=a:=by omega
 have m2:max 1 (min (n:Int) 999)=n:=by omega
 have w:=bN ((a:Int)+n) (by omega)
 have m3:min ((a:Int)+n) t.length=((min (a+n) t.length:Nat):Int):=by omega
 generalize hE:aT _ _ _=R
 simp [aT,func183,f183,fF,eU,m1,m2,w,m3]at hE
 exact hE.symm
theorem Ra:aT [.aL i (ints t),vI (a:Int),vI 119,vI (n:Int)] [] []=some ⟨.fU [vI (((dG (GN t false) n a:Nat):Int)),V.v (.bool false),V.v (.bool true)],[],[]⟩:=by
 have m1:max 0 (min (a:Int) t.length)=a:=by omega
 have m2:max 1 (min (n:Int) 999)=n:=by omega
 have e2:=DV t false n a ha ht hn.2
 have q:iw 119 65 90=false:=by decide
 generalize hE:aT _ _ _=R
 simp [aT,func183,f183,fF,eU,m1,m2,q,e2]at hE
 exact hE.symm
theorem Ue:aT [.aL i (ints t),vI (a:Int),vI 87,vI (n:Int)] [] []=some ⟨.fU [vI (((dG (GN t true) n a:Nat):Int)),V.v (.bool false),V.v (.bool true)],[],[]⟩:=by
 have m1:max 0 (min (a:Int) t.length)=a:=by omega
 have m2:max 1 (min (n:Int) 999)=n:=by omega
 have e2:=DV t true n a ha ht hn.2
 have q:iw 87 65 90=true:=by decide
 generalize hE:aT _ _ _=R
 simp [aT,func183,f183,fF,eU,m1,m2,q,e2]at hE
 exact hE.symm
theorem Uf:aT [.aL i (ints t),vI (a:Int),vI 98,vI (n:Int)] [] []=some ⟨.fU [vI (((dG (lD t false) n a:Nat):Int)),V.v (.bool false),V.v (.bool true)],[],[]⟩:=by
 have m1:max 0 (min (a:Int) t.length)=a:=by omega
 have m2:max 1 (min (n:Int) 999)=n:=by omega
 have e2:=DW t false n a ha ht hn.2
 have q:iw 98 65 90=false:=by decide
 generalize hE:aT _ _ _=R
 simp [aT,func183,f183,fF,eU,m1,m2,q,e2]at hE
 exact hE.symm
theorem Ug:aT [.aL i (ints t),vI (a:Int),vI 66,vI (n:Int)] [] []=some ⟨.fU [vI (((dG (lD t true) n a:Nat):Int)),V.v (.bool false),V.v (.bool true)],[],[]⟩:=by
 have m1:max 0 (min (a:Int) t.length)=a:=by omega
 have m2:max 1 (min (n:Int) 999)=n:=by omega
 have e2:=DW t true n a ha ht hn.2
 have q:iw 66 65 90=true:=by decide
 generalize hE:aT _ _ _=R
 simp [aT,func183,f183,fF,eU,m1,m2,q,e2]at hE
 exact hE.symm
theorem Rb:aT [.aL i (ints t),vI (a:Int),vI 101,vI (n:Int)] [] []=some ⟨.fU [vI (((dG (yu t false) n a:Nat):Int)),V.v (.bool (decide (0<t.length))),V.v (.bool true)],[],[]⟩:=by
 have m1:max 0 (min (a:Int) t.length)=a:=by omega
 have m2:max 1 (min (n:Int) 999)=n:=by omega
 have e2:=DX t false n a ha ht hn.2
 have q:iw 101 65 90=false:=by decide
 generalize hE:aT _ _ _=R
 simp [aT,func183,f183,fF,eU,m1,m2,q,e2]at hE
 exact hE.symm
theorem Uh:aT [.aL i (ints t),vI (a:Int),vI 69,vI (n:Int)] [] []=some ⟨.fU [vI (((dG (yu t true) n a:Nat):Int)),V.v (.bool (decide (0<t.length))),V.v (.bool true)],[],[]⟩:=by
 have m1:max 0 (min (a:Int) t.length)=a:=by omega
 have m2:max 1 (min (n:Int) 999)=n:=by omega
 have e2:=DX t true n a ha ht hn.2
 have q:iw 69 65 90=true:=by decide
 generalize hE:aT _ _ _=R
 simp [aT,func183,f183,fF,eU,m1,m2,q,e2]at hE
 exact hE.symm
theorem Ui:aT [.aL i (ints t),vI (a:Int),vI 48,vI (n:Int)] [] []=some ⟨.fU [vI 0,V.v (.bool false),V.v (.bool true)],[],[]⟩:=by
 have m1:max 0 (min (a:Int) t.length)=a:=by omega
 have m2:max 1 (min (n:Int) 999)=n:=by omega
 generalize hE:aT _ _ _=R
 simp [aT,func183,f183,fF,eU,m1,m2]at hE
 exact hE.symm
theorem Uj:aT [.aL i (ints t),vI (a:Int),vI 36,vI (n:Int)] [] []=some ⟨.fU [vI (((t.length-1:Nat):Int)),V.v (.bool (decide (0<t.length))),V.v (.bool true)],[],[]⟩:=by
 have m1:max 0 (min (a:Int) t.length)=a:=by omega
 have m2:max 1 (min (n:Int) 999)=n:=by omega
 have w:=bN ((t.length:Int)-1) (by omega)
 have m3:max ((t.length:Int)-1) 0=((t.length-1:Nat):Int):=by omega
 generalize hE:aT _ _ _=R
 simp [aT,func183,f183,fF,eU,m1,m2,w,m3]at hE
 exact hE.symm
theorem Rc:aT [.aL i (ints t),vI (a:Int),vI 124,vI (n:Int)] [] []=some ⟨.fU [vI (((min (n-1) t.length:Nat):Int)),V.v (.bool false),V.v (.bool true)],[],[]⟩:=by
 have m1:max 0 (min (a:Int) t.length)=a:=by omega
 have m2:max 1 (min (n:Int) 999)=n:=by omega
 have w:=bN ((n:Int)-1) (by omega)
 have m3:min ((n:Int)-1) t.length=((min (n-1) t.length:Nat):Int):=by omega
 generalize hE:aT _ _ _=R
 simp [aT,func183,f183,fF,eU,m1,m2,w,m3]at hE
 exact hE.symm
theorem JW:aT [.aL i (ints t),vI (a:Int),vI 94,vI (n:Int)] [] []=some ⟨.fU [vI (((AP t:Nat):Int)),V.v (.bool false),V.v (.bool true)],[],[]⟩:=by
 have m1:max 0 (min (a:Int) t.length)=a:=by omega
 have m2:max 1 (min (n:Int) 999)=n:=by omega
 have hc:∀j (h:j<t.length),pI [vI (t[j])] [] []=some ⟨vI (kS (t.getD j 0)),[],[]⟩:=fun j hj=>by rw [getD_at hj];exact GU _
 unfold AP
 obtain⟨k1,k2,k3⟩:=cB (fun j=>decide (kS (t.getD j 0)=0)) t.length
 generalize gP (fun j=>decide (kS (t.getD j 0)=0)) t.length=k at*
 generalize hcf:(fun j=>kS (t.getD j 0))=cf
 have TJ:∀j,kS (t.getD j 0)=cf j:=fun j=>by rw [←hcf]
 simp only [TJ]at hc k2 k3
 generalize hE:aT _ _ _=R
 simp [aT,func183,f183,fF,eU,m1,m2]at hE
 rw [aD (fun j=> .on ⟨[(13,V.v (.int .i64 ((j:Int)))),(11,V.v (.int .i64 ((t.length:Int)))),(4, .ref 4 0)],[(4,[.aL i (ints t)])],[],[]⟩) k ?_ ?_]at hE
 ·rcases k3 with q|q
  ·subst q
   simp at hE
   exact hE.symm
  ·have q':¬cf k=0:=of_decide_eq_false q
   by_cases hk:k<t.length
   ·have e2:=hc k hk
    simp [hk,aQ hk,e2,q']at hE
    exact hE.symm
   ·have hke:k=t.length:=by omega
    subst hke
    simp at hE
    exact hE.symm
 ·simp
 ·intro j hj
  have h1:j<t.length:=by omega
  have e2:=hc j h1
  have q:cf j=0:=of_decide_eq_true (k2 j hj)
  have hw:=bN ((j:Int)+1) (by omega)
  simp [h1,aQ h1,e2,q,hw]
theorem PG (r:Int)(h:gQ t a r n=none):aT [.aL i (ints t),vI (a:Int),vI r,vI (n:Int)] [] []=some ⟨.fU [vI 0,V.v (.bool false),V.v (.bool false)],[],[]⟩:=by
 have key:¬r=104∧¬r=108∧¬r=32∧¬r=119∧¬r=87∧¬r=98∧¬r=66∧¬r=101∧¬r=69∧¬r=48∧¬r=94∧¬r=36∧¬r=124:=by
  unfold gQ at h
  refine⟨?_,?_,?_,?_,?_,?_,?_,?_,?_,?_,?_,?_,?_⟩<;>(rintro rfl;simp at h)
 obtain⟨c1,c2,c3,c4,c5,c6,c7,c8,c9,c10,c11,c12,c13⟩:=key
 have m1:max 0 (min (a:Int) t.length)=a:=by omega
 have m2:max 1 (min (n:Int) 999)=n:=by omega
 generalize hE:aT _ _ _=R
 simp [aT,func183,f183,fF,eU,m1,m2,c1,c2,c3,c4,c5,c6,c7,c8,c9,c10,c11,c12,c13]at hE
 exact hE.symm
theorem QO (r:Int):aT [.aL i (ints t),vI (a:Int),vI r,vI (n:Int)] [] []=some (mR (gQ t a r n)):=by
 by_cases h:gQ t a r n=none
 ·rw [h];exact PG t i a n ha ht hn r h
 unfold gQ at h⊢
 by_cases abh:r=104
 ·rw [if_pos abh];subst abh;exact Vh t i a n ha ht hn
 rw [if_neg abh]at h⊢
 by_cases YC:r=108∨r=32
 ·rw [if_pos YC]
  rcases YC with rfl|rfl
  ·exact Q9 t i a n ha ht hn
  ·exact Ud t i a n ha ht hn
 rw [if_neg YC]at h⊢
 by_cases c119:r=119∨r=87
 ·rw [if_pos c119]
  rcases c119 with rfl|rfl
  ·exact Ra t i a n ha ht hn
  ·exact Ue t i a n ha ht hn
 rw [if_neg c119]at h⊢
 by_cases YD:r=98∨r=66
 ·rw [if_pos YD]
  rcases YD with rfl|rfl
  ·exact Uf t i a n ha ht hn
  ·exact Ug t i a n ha ht hn
 rw [if_neg YD]at h⊢
 by_cases G9:r=101∨r=69
 ·rw [if_pos G9]
  rcases G9 with rfl|rfl
  ·exact Rb t i a n ha ht hn
  ·exact Uh t i a n ha ht hn
 rw [if_neg G9]at h⊢
 by_cases c48:r=48
 ·rw [if_pos c48];subst c48;exact Ui t i a n ha ht hn
 rw [if_neg c48]at h⊢
 by_cases c94:r=94
 ·rw [if_pos c94];subst c94;exact JW t i a n ha ht hn
 rw [if_neg c94]at h⊢
 by_cases c36:r=36
 ·rw [if_pos c36];subst c36;exact Uj t i a n ha ht hn
 rw [if_neg c36]at h⊢
 by_cases c124:r=124
 ·rw [if_pos c124];subst c124;exact Rc t i a n ha ht hn
 rw [if_neg c124]at h⊢
 exact absurd rfl h
end
theorem Uk (t:List Int)(r how:Int):∀(m a:Nat),a≤t.length→(∃p,uq t r how m a=some p∧∃xs:Nat→Nat,xs 0=a∧xs m=p∧(∀j,j<m→jC t r how (xs j)=some (xs (j+1)))∧∀j,j≤m→xs j≤t.length)∨(uq t r how m a=none∧∃(N:Nat) (xs:Nat→Nat),N<m∧xs 0=a∧(∀j,j<N→jC t r how (xs j)=some (xs (j+1)))∧(∀j,j≤N→xs j≤t.length)∧jC t r how (xs N)=none):=by
 intro m
 induction m with
 | zero=>intro a ha;exact .inl ⟨a,rfl,fun _=>a,rfl,rfl,fun j hj=>by omega,fun _ _=>ha⟩
 | succ m ih=>
  intro a ha
  unfold uq
  cases hf:jC t r how a with
  | none=>exact .inr ⟨rfl,0,fun _=>a,by omega,rfl,fun j hj=>by omega,fun _ _=>ha,hf⟩
  | some b=>
   have hb:=QJ ha hf
   rcases ih b (by omega)with⟨p,h1,xs,x0,xm,xs1,xs2⟩|⟨h1,N,xs,hN,x0,xs1,xs2,xs3⟩
   ·refine .inl ⟨p,h1,fun j=>match j with|0=>a|j+1=>xs j,rfl,xm,fun j hj=>?_,fun j hj=>?_⟩
    ·cases j with
     | zero=>show jC t r how a=some (xs 0);rw [x0];exact hf
     | succ j=>exact xs1 j (by omega)
    ·cases j with
     | zero=>exact ha
     | succ j=>exact xs2 j (by omega)
   ·refine .inr ⟨h1,N+1,fun j=>match j with|0=>a|j+1=>xs j,by omega,rfl,fun j hj=>?_,fun j hj=>?_,xs3⟩
    ·cases j with
     | zero=>show jC t r how a=some (xs 0);rw [x0];exact hf
     | succ j=>exact xs1 j (by omega)
    ·cases j with
     | zero=>exact ha
     | succ j=>exact xs2 j (by omega)
theorem Xd (t:List Int)(i:Option Nat)(a n:Nat)(r how:Int)(ha:a≤t.length)(ht:t.length≤2000)(hn:1≤n∧n≤999)(hw:0≤how∧how≤3):BQ [.aL i (ints t),vI (a:Int),vI r,vI how,vI (n:Int)] [] []=some ⟨.fU [vI (uS (uq t r how n a)),V.v (.bool ((uq t r how n a).isSome))],[],[]⟩:=by
 have m1:max 0 (min (a:Int) t.length)=a:=by omega
 have m2:max 1 (min (n:Int) 999)=n:=by omega
 generalize hE:BQ _ _ _=R
 simp [BQ,func178,f178,fF,m1,m2]at hE
 rcases Uk t r how n a ha with⟨p,h1,xs,x0,xm,xs1,xs2⟩|⟨h1,N,xs,hN,x0,xs1,xs2,xs3⟩
 ·rw [aD (fun j=> .on ⟨[(19,V.v (.int .i64 ((j:Int)))),(18,V.v (.int .i64 ((n:Int)))),(3,V.v (.int .i64 how)),(2,V.v (.int .i64 r)),(1,V.v (.int .i64 ((xs j:Int)))),(0, .aL i (ints t))],[],[],[]⟩) n ?_ ?_]at hE
  ·rw [h1]
   simp [xm]at hE
   exact hE.symm
  ·simp [x0]
  ·intro j hj
   have e2:=JF t (some 0) (xs j) r how (xs2 j (by omega)) ht hw
   rw [xs1 j hj]at e2
   simp only [uS]at e2
   have hw2:=bN ((j:Int)+1) (by omega)
   have hn0:¬(xs (j+1):Int)<0:=by omega
   simp [hj,e2,hw2,hn0]
 ·rw [aD (fun j=> .on ⟨[(19,V.v (.int .i64 ((j:Int)))),(18,V.v (.int .i64 ((n:Int)))),(3,V.v (.int .i64 how)),(2,V.v (.int .i64 r)),(1,V.v (.int .i64 ((xs j:Int)))),(0, .aL i (ints t))],[],[],[]⟩) N ?_ ?_]at hE
  ·rw [h1]
   have e2:=JF t (some 0) (xs N) r how (xs2 N (by omega)) ht hw
   rw [xs3]at e2
   simp only [uS]at e2
   simp [hN,e2]at hE
   exact hE.symm
  ·simp [x0]
  ·intro j hj
   have e2:=JF t (some 0) (xs j) r how (xs2 j (by omega)) ht hw
   rw [xs1 j hj]at e2
   simp only [uS]at e2
   have hw2:=bN ((j:Int)+1) (by omega)
   have hn0:¬(xs (j+1):Int)<0:=by omega
   have hjn:j<n:=by omega
   simp [hjn,e2,hw2,hn0]
theorem aiR (t:List Int)(i:Option Nat)(a b:Nat)(w:Bool)(ha:a≤t.length)(hb:b≤t.length)(ht:t.length≤2000):Nv [.aL i (ints t),vI (a:Int),vI (b:Int),V.v (.bool w)] [] []=some ⟨.fU [vI (((min a b:Nat):Int)),vI (((yw t.length a b w:Nat):Int))],[],[]⟩:=by
 have m1:max 0 (min (a:Int) t.length)=a:=by omega
 have m2:max 0 (min (b:Int) t.length)=b:=by omega
 have m3:min (a:Int) b=((min a b:Nat):Int):=by omega
 have m4:max (a:Int) b=((max a b:Nat):Int):=by omega
 unfold yw
 generalize hE:Nv _ _ _=R
 unfold Nv at hE
 cases w
 ·rw [if_neg (by simp)]
  simp [func242,f242,fF,m1,m2,m3,m4]at hE
  exact hE.symm
 ·by_cases hc:max a b<t.length
  ·have w1:=bN (((max a b:Nat):Int)+1) (by omega)
   have hci:((max a b:Nat):Int)<t.length:=by omega
   rw [if_pos ⟨rfl,hc⟩]
   generalize max a b=M at*
   generalize min a b=m at*
   simp [func242,f242,fF,m1,m2,m3,m4,w1,hc,hci]at hE
   exact hE.symm
  ·have hci:¬((max a b:Nat):Int)<t.length:=by omega
   rw [if_neg (fun q=>hc q.2)]
   generalize max a b=M at*
   generalize min a b=m at*
   simp [func242,f242,fF,m1,m2,m3,m4,hc,hci]at hE
   exact hE.symm
theorem Xe (r:Int):Jl [vI r] [] []=some ⟨vI (jd r),[],[]⟩:=by
 unfold Jl jd
 by_cases c1:r=102
 ·subst c1;simp [func177,f177]
 by_cases c2:r=70
 ·subst c2;simp [func177,f177]
 by_cases c3:r=116
 ·subst c3;simp [func177,f177]
 by_cases c4:r=84
 ·subst c4;simp [func177,f177]
 simp [func177,f177,c1,c2,c3,c4]
theorem adO (t:List Int)(i:Option Nat)(a:Nat)(ha:a≤t.length)(ht:t.length≤2000)(r:Int)(f:Nat→Nat)
  (hr:(r=119∧f=GN t false)∨(r=87∧f=GN t true)∨(r=98∧f=lD t false)∨(r=66∧f=lD t true)∨(r=101∧f=yu t false)∨(r=69∧f=yu t true)):
  CP [.aL i (ints t),vI (a:Int),vI r] [] []=some ⟨vI (((f a:Nat):Int)),[],[]⟩:=by
 have e1:=fun b=>aa0 t (some 0) a b ha ht
 have e2:=fun b=>Lp t (some 0) a b ha ht
 have e3:=fun b=>Yu t (some 0) a b ha ht
 unfold CP
 rcases hr with⟨rfl,rfl⟩|⟨rfl,rfl⟩|⟨rfl,rfl⟩|⟨rfl,rfl⟩|⟨rfl,rfl⟩|⟨rfl,rfl⟩
 all_goals simp [func283,f283,e1,e2,e3]
section
variable (t:List Int) (i:Option Nat) (a n:Nat) (ha:a≤t.length) (ht:t.length≤2000) (hn:1≤n∧n≤999)
include ha ht hn
theorem nX (r:Int)(f:Nat→Nat)(w:Bool)(hf:∀a,a≤t.length→f a≤t.length)
  (hr:(r=119∧f=GN t false)∨(r=87∧f=GN t true)∨(r=98∧f=lD t false)∨(r=66∧f=lD t true)∨(r=101∧f=yu t false)∨(r=69∧f=yu t true)) (hw:w=(decide (r=101∨r=69)&&decide (0<t.length))):
  jh [.aL i (ints t),vI (a:Int),vI r,vI (n:Int)] [] []=some ⟨.fU [vI (((dG f n a:Nat):Int)),V.v (.bool w),V.v (.bool true)],[],[]⟩:=by
 have e0:=dn (a:Int) t.length (by omega)
 rw [show max 0 (min (a:Int) t.length)=a by omega]at e0
 have e1:=Ay n hn
 have e2:∀a,a≤t.length→CP [.aL (some 0) (ints t),vI (a:Int),vI r] [] []=some ⟨vI (((f a:Nat):Int)),[],[]⟩:=fun a ha=>adO t (some 0) a ha ht r f hr
 have hq:r=119∨r=87∨r=98∨r=66∨r=101∨r=69:=by
  rcases hr with h|h|h|h|h|h<;>simp [h.1]
 have hle:=sw hf
 clear hr
 generalize hE:jh _ _ _=R
 unfold jh at hE
 rcases hq with rfl|rfl|rfl|rfl|rfl|rfl
 all_goals
  simp [func266,f266,e0,e1]at hE
  first
   | (rw [aD (fun j=> .on ⟨[(12,V.v (.int .i64 ((j:Int)))),(3,V.v (.int .i64 ((n:Int)))),(2,V.v (.int .i64 119)),(1,V.v (.int .i64 (((dG f j a:Nat):Int)))),(0, .aL i (ints t))],[],[],[]⟩) n ?_ ?_]at hE;rotate_left;(· (simp [dG];done)))
   | (rw [aD (fun j=> .on ⟨[(12,V.v (.int .i64 ((j:Int)))),(3,V.v (.int .i64 ((n:Int)))),(2,V.v (.int .i64 87)),(1,V.v (.int .i64 (((dG f j a:Nat):Int)))),(0, .aL i (ints t))],[],[],[]⟩) n ?_ ?_]at hE;rotate_left;(· (simp [dG];done)))
   | (rw [aD (fun j=> .on ⟨[(12,V.v (.int .i64 ((j:Int)))),(3,V.v (.int .i64 ((n:Int)))),(2,V.v (.int .i64 98)),(1,V.v (.int .i64 (((dG f j a:Nat):Int)))),(0, .aL i (ints t))],[],[],[]⟩) n ?_ ?_]at hE;rotate_left;(· (simp [dG];done)))
   | (rw [aD (fun j=> .on ⟨[(12,V.v (.int .i64 ((j:Int)))),(3,V.v (.int .i64 ((n:Int)))),(2,V.v (.int .i64 66)),(1,V.v (.int .i64 (((dG f j a:Nat):Int)))),(0, .aL i (ints t))],[],[],[]⟩) n ?_ ?_]at hE;rotate_left;(· (simp [dG];done)))
   | (rw [aD (fun j=> .on ⟨[(12,V.v (.int .i64 ((j:Int)))),(3,V.v (.int .i64 ((n:Int)))),(2,V.v (.int .i64 101)),(1,V.v (.int .i64 (((dG f j a:Nat):Int)))),(0, .aL i (ints t))],[],[],[]⟩) n ?_ ?_]at hE;rotate_left;(· (simp [dG];done)))
   | (rw [aD (fun j=> .on ⟨[(12,V.v (.int .i64 ((j:Int)))),(3,V.v (.int .i64 ((n:Int)))),(2,V.v (.int .i64 69)),(1,V.v (.int .i64 (((dG f j a:Nat):Int)))),(0, .aL i (ints t))],[],[],[]⟩) n ?_ ?_]at hE;rotate_left;(· (simp [dG];done)))
  ·intro j hj
   have h2:=e2 _ (hle j a ha)
   have hw2:=bN ((j:Int)+1) (by omega)
   rw [pX]
   generalize dG f j a=p at*
   simp [hj,h2,hw2]
  ·subst hw
   by_cases h0:0<t.length
   ·simp [h0]at hE
    simp [h0]
    exact hE.symm
   ·simp [h0]at hE
    simp [h0]
    exact hE.symm
theorem o7 (r:Int)(x:Int)(w:Bool)(h:(r=104∧x=((a-n:Nat):Int)∧w=false)∨((r=108∨r=32)∧x=((min (a+n) t.length:Nat):Int)∧w=false)∨(r=48∧x=0∧w=false)∨(r=36∧x=((t.length-1:Nat):Int)∧w=decide (0<t.length))∨(r=124∧x=((min (n-1) t.length:Nat):Int)∧w=false)):
  jh [.aL i (ints t),vI (a:Int),vI r,vI (n:Int)] [] []=some ⟨.fU [vI x,V.v (.bool w),V.v (.bool true)],[],[]⟩:=by
 have e0:=dn (a:Int) t.length (by omega)
 rw [show max 0 (min (a:Int) t.length)=a by omega]at e0
 have e1:=Ay n hn
 have w1:=bN ((a:Int)-n) (by omega)
 have w2:=bN ((a:Int)+n) (by omega)
 have w3:=bN ((t.length:Int)-1) (by omega)
 have w4:=bN ((n:Int)-1) (by omega)
 have f1:=dn ((a:Int)-n) t.length (by omega)
 rw [show max 0 (min ((a:Int)-n) t.length)=((a-n:Nat):Int) by omega]at f1
 have f2:=dn ((a:Int)+n) t.length (by omega)
 rw [show max 0 (min ((a:Int)+n) t.length)=((min (a+n) t.length:Nat):Int) by omega]at f2
 have f3:=dn ((t.length:Int)-1) t.length (by omega)
 rw [show max 0 (min ((t.length:Int)-1) t.length)=((t.length-1:Nat):Int) by omega]at f3
 have f4:=dn ((n:Int)-1) t.length (by omega)
 rw [show max 0 (min ((n:Int)-1) t.length)=((min (n-1) t.length:Nat):Int) by omega]at f4
 generalize ((a-n:Nat):Int)=y1 at*
 generalize ((min (a+n) t.length:Nat):Int)=y2 at*
 generalize ((t.length-1:Nat):Int)=y3 at*
 generalize ((min (n-1) t.length:Nat):Int)=y4 at*
 generalize hE:jh _ _ _=R
 unfold jh at hE
 rcases h with⟨rfl,rfl,rfl⟩|⟨rfl|rfl,rfl,rfl⟩|⟨rfl,rfl,rfl⟩|⟨rfl,rfl,rfl⟩|⟨rfl,rfl,rfl⟩
 all_goals
  simp [func266,f266,e0,e1,w1,w2,w3,w4,f1,f2,f3,f4]at hE
  exact hE.symm
theorem Ul:jh [.aL i (ints t),vI (a:Int),vI 94,vI (n:Int)] [] []=some ⟨.fU [vI (((AP t:Nat):Int)),V.v (.bool false),V.v (.bool true)],[],[]⟩:=by
 have e0:=dn (a:Int) t.length (by omega)
 rw [show max 0 (min (a:Int) t.length)=a by omega]at e0
 have e1:=Ay n hn
 have hc:∀j (h:j<t.length),kM [vI (t[j])] [] []=some ⟨vI (kS (t.getD j 0)),[],[]⟩:=fun j hj=>by rw [getD_at hj];exact GZ _
 unfold AP
 obtain⟨k1,k2,k3⟩:=cB (fun j=>decide (kS (t.getD j 0)=0)) t.length
 generalize gP (fun j=>decide (kS (t.getD j 0)=0)) t.length=k at*
 generalize hcf:(fun j=>kS (t.getD j 0))=cf
 have TJ:∀j,kS (t.getD j 0)=cf j:=fun j=>by rw [←hcf]
 simp only [TJ]at hc k2 k3
 generalize hE:jh _ _ _=R
 simp [jh,func266,f266,e0,e1]at hE
 rw [aD (fun j=> .on ⟨[(11,V.v (.int .i64 ((j:Int)))),(0, .aL i (ints t))],[],[],[]⟩) k ?_ ?_]at hE
 ·rcases k3 with q|q
  ·subst q
   simp at hE
   exact hE.symm
  ·have q':¬cf k=0:=of_decide_eq_false q
   by_cases hk:k<t.length
   ·have e2:=hc k hk
    simp [hk,aQ hk,e2,q']at hE
    exact hE.symm
   ·have hke:k=t.length:=by omega
    subst hke
    simp at hE
    exact hE.symm
 ·simp
 ·intro j hj
  have h1:j<t.length:=by omega
  have e2:=hc j h1
  have q:cf j=0:=of_decide_eq_true (k2 j hj)
  have hw:=bN ((j:Int)+1) (by omega)
  simp [h1,aQ h1,e2,q,hw]
theorem DY (r:Int):jh [.aL i (ints t),vI (a:Int),vI r,vI (n:Int)] [] []=some (mR (gQ t a r n)):=by
 unfold gQ
 by_cases abh:r=104
 ·rw [if_pos abh];exact o7 t i a n ha ht hn _ _ _ (.inl ⟨abh,rfl,rfl⟩)
 rw [if_neg abh]
 by_cases YC:r=108∨r=32
 ·rw [if_pos YC];exact o7 t i a n ha ht hn _ _ _ (.inr (.inl ⟨YC,rfl,rfl⟩))
 rw [if_neg YC]
 by_cases c119:r=119∨r=87
 ·rw [if_pos c119]
  rcases c119 with rfl|rfl
  ·exact nX t i a n ha ht hn 119 _ _ (fun a ha=>(Rw ha).2) (.inl ⟨rfl,rfl⟩) (by simp)
  ·exact nX t i a n ha ht hn 87 _ _ (fun a ha=>(Rw ha).2) (.inr (.inl ⟨rfl,rfl⟩)) (by simp)
 rw [if_neg c119]
 by_cases YD:r=98∨r=66
 ·rw [if_pos YD]
  rcases YD with rfl|rfl
  ·exact nX t i a n ha ht hn 98 _ _ (fun a ha=>Nat.le_trans Cg ha) (.inr (.inr (.inl ⟨rfl,rfl⟩))) (by simp)
  ·exact nX t i a n ha ht hn 66 _ _ (fun a ha=>Nat.le_trans Cg ha) (.inr (.inr (.inr (.inl ⟨rfl,rfl⟩)))) (by simp)
 rw [if_neg YD]
 by_cases G9:r=101∨r=69
 ·rw [if_pos G9]
  rcases G9 with rfl|rfl
  ·exact nX t i a n ha ht hn 101 _ _ (fun a ha=>NU.1) (.inr (.inr (.inr (.inr (.inl ⟨rfl,rfl⟩))))) (by simp)
  ·exact nX t i a n ha ht hn 69 _ _ (fun a ha=>NU.1) (.inr (.inr (.inr (.inr (.inr ⟨rfl,rfl⟩))))) (by simp)
 rw [if_neg G9]
 by_cases c48:r=48
 ·rw [if_pos c48];exact o7 t i a n ha ht hn _ _ _ (.inr (.inr (.inl ⟨c48,rfl,rfl⟩)))
 rw [if_neg c48]
 by_cases c94:r=94
 ·rw [if_pos c94];subst c94;exact Ul t i a n ha ht hn
 rw [if_neg c94]
 by_cases c36:r=36
 ·rw [if_pos c36];exact o7 t i a n ha ht hn _ _ _ (.inr (.inr (.inr (.inl ⟨c36,rfl,rfl⟩))))
 rw [if_neg c36]
 by_cases c124:r=124
 ·rw [if_pos c124];exact o7 t i a n ha ht hn _ _ _ (.inr (.inr (.inr (.inr ⟨c124,rfl,rfl⟩))))
 rw [if_neg c124]
 have e0:=dn (a:Int) t.length (by omega)
 rw [show max 0 (min (a:Int) t.length)=a by omega]at e0
 have e1:=Ay n hn
 have c1:¬r=108:=fun q=>YC (.inl q)
 have c2:¬r=32:=fun q=>YC (.inr q)
 have c3:¬r=119:=fun q=>c119 (.inl q)
 have c4:¬r=87:=fun q=>c119 (.inr q)
 have c5:¬r=98:=fun q=>YD (.inl q)
 have c6:¬r=66:=fun q=>YD (.inr q)
 have c7:¬r=101:=fun q=>G9 (.inl q)
 have c8:¬r=69:=fun q=>G9 (.inr q)
 generalize hE:jh _ _ _=R
 simp [jh,func266,f266,e0,e1,abh,c1,c2,c3,c4,c5,c6,c7,c8,c48,c94,c36,c124]at hE
 exact hE.symm
end
theorem Xf (t:List Int)(i:Option Nat)(a n:Nat)(r how:Int)(ha:a≤t.length)(ht:t.length≤2000)(hn:1≤n∧n≤999)(hw:0≤how∧how≤3):BU [.aL i (ints t),vI (a:Int),vI r,vI how,vI (n:Int)] [] []=some ⟨.fU [vI (uS (uq t r how n a)),V.v (.bool ((uq t r how n a).isSome))],[],[]⟩:=by
 have e0:=dn (a:Int) t.length (by omega)
 rw [show max 0 (min (a:Int) t.length)=a by omega]at e0
 have e1:=Ay n hn
 generalize hE:BU _ _ _=R
 simp [BU,func263,f263,e0,e1]at hE
 rcases Uk t r how n a ha with⟨p,h1,xs,x0,xm,xs1,xs2⟩|⟨h1,N,xs,hN,x0,xs1,xs2,xs3⟩
 ·rw [aD (fun j=> .on ⟨[(12,V.v (.int .i64 ((j:Int)))),(4,V.v (.int .i64 ((n:Int)))),(3,V.v (.int .i64 how)),(2,V.v (.int .i64 r)),(1,V.v (.int .i64 ((xs j:Int)))),(0, .aL i (ints t))],[],[],[]⟩) n ?_ ?_]at hE
  ·rw [h1]
   simp [xm,e1]at hE
   exact hE.symm
  ·simp [x0]
  ·intro j hj
   have e2:=JV t (some 0) (xs j) r how (xs2 j (by omega)) ht hw
   rw [xs1 j hj]at e2
   simp only [uS]at e2
   have hw2:=bN ((j:Int)+1) (by omega)
   have hn0:¬(xs (j+1):Int)<0:=by omega
   simp [e1,hj,e2,hw2,hn0]
 ·rw [aD (fun j=> .on ⟨[(12,V.v (.int .i64 ((j:Int)))),(4,V.v (.int .i64 ((n:Int)))),(3,V.v (.int .i64 how)),(2,V.v (.int .i64 r)),(1,V.v (.int .i64 ((xs j:Int)))),(0, .aL i (ints t))],[],[],[]⟩) N ?_ ?_]at hE
  ·rw [h1]
   have e2:=JV t (some 0) (xs N) r how (xs2 N (by omega)) ht hw
   rw [xs3]at e2
   simp only [uS]at e2
   simp [e1,hN,e2]at hE
   exact hE.symm
  ·simp [x0]
  ·intro j hj
   have e2:=JV t (some 0) (xs j) r how (xs2 j (by omega)) ht hw
   rw [xs1 j hj]at e2
   simp only [uS]at e2
   have hw2:=bN ((j:Int)+1) (by omega)
   have hn0:¬(xs (j+1):Int)<0:=by omega
   have hjn:j<n:=by omega
   simp [e1,hjn,e2,hw2,hn0]
section
variable (e:dw) (h:fO e)
include h
theorem adP (r:Int)(hy:eX [gL e] [] []=some (kR (nu e))):jk [gL e,vI r] [] []=some (kR (Hy e r)):=by
 obtain⟨h1,h2,h3,h4⟩:=h.aS
 obtain⟨n1,n2,n3⟩:=fM e h
 have en:=iC e
 unfold Hy
 by_cases cd:iw r 48 57=true
 ·rw [if_pos cd]
  have hr2:=bC.1 cd
  have hc:=h.cnt
  have e0:=fV e h
  have w1:=bN (e.bA*10) (by omega)
  have w2:=bN (e.bA*10+r) (by omega)
  have w3:=bN (e.bA*10+r-48) (by omega)
  have e1:=dn (e.bA*10+r-48) 999 (by omega)
  rw [show max 0 (min (e.bA*10+r-48) 999)=min (10*e.bA+r-48) 999 by omega]at e1
  unfold JC
  clear h
  generalize hE:jk _ _ _=R
  simp [jk, -ak,func105,f105,e0,e1,w1,w2,w3,hr2.1,hr2.2]at hE
  exact hE.symm
 rw [if_neg cd]
 have cd:iw r 48 57=false:=by simpa using cd
 have nd:¬48≤r∨(48≤r∧¬r≤57):=KM cd
 by_cases c1:r=98
 ·rw [if_pos c1]
  subst c1
  have e1:=Hz e h (gU e) (by omega)
  rw [n1]at e1
  have e2:=qN e h (dG (fE e.au.av) (gU e) (aS e))
  generalize dG (fE e.au.av) (gU e) (aS e)=u at*
  generalize zG e u=p at*
  clear h
  generalize hE:jk _ _ _=R
  simp [jk, -ak,func105,f105,en,e1,e2]at hE
  exact hE.symm
 rw [if_neg c1]
 by_cases c2:r=102
 ·rw [if_pos c2]
  subst c2
  have e1:=Eo e h (gU e) (by omega)
  rw [n1]at e1
  have e2:=qN e h (dG (ig e.au.av) (gU e) (aS e))
  generalize dG (ig e.au.av) (gU e) (aS e)=u at*
  generalize zG e u=p at*
  clear h
  generalize hE:jk _ _ _=R
  simp [jk, -ak,func105,f105,en,e1,e2]at hE
  exact hE.symm
 rw [if_neg c2]
 by_cases c3:r=100
 ·rw [if_pos c3]
  subst c3
  have e1:=Eo e h (gU e) (by omega)
  rw [n1]at e1
  have hu:=NV (fun a ha=>xu (t:=e.au.av) ha) (gU e) (aS e) h2
  have e2:=CY e h e.au.At (dG (ig e.au.av) (gU e) (aS e)) 1 (aS e) (dG (ig e.au.av) (gU e) (aS e)) (by omega) (by omega) hu.1 (by omega)
  generalize dG (ig e.au.av) (gU e) (aS e)=u at*
  generalize mJ e (aS e) u 1=p at*
  clear h
  generalize hE:jk _ _ _=R
  simp [jk, -ak,func105,f105,en,e1,e2]at hE
  exact hE.symm
 rw [if_neg c3]
 by_cases c4:r=121
 ·rw [if_pos c4]
  subst c4
  generalize nu e=p at*
  clear h
  generalize hE:jk _ _ _=R
  simp [jk, -ak,func105,f105,en,hy]at hE
  exact hE.symm
 rw [if_neg c4]
 have cs:∀(r how:Int),(r=117∧how=1)∨(r=108∧how=0)∨(r=99∧how=2)→jk [gL e,vI r] [] []=some (kR (Lj e how)):=fun r how hr=>by
  have e1:=adL e h how (by omega)
  generalize Lj e how=p at*
  clear h
  generalize hE:jk _ _ _=R
  unfold jk at hE
  rcases hr with⟨rfl,rfl⟩|⟨rfl,rfl⟩|⟨rfl,rfl⟩<;>(simp [-ak,func105,f105,en,e1]at hE;exact hE.symm)
 by_cases c5:r=117
 ·rw [if_pos c5];exact cs r 1 (.inl ⟨c5,rfl⟩)
 rw [if_neg c5]
 by_cases c6:r=108
 ·rw [if_pos c6];exact cs r 0 (.inr (.inl ⟨c6,rfl⟩))
 rw [if_neg c6]
 by_cases c7:r=99
 ·rw [if_pos c7];exact cs r 2 (.inr (.inr ⟨c7,rfl⟩))
 rw [if_neg c7]
 have e1:=jD e h
 generalize dJ e=p at*
 clear h
 generalize hE:jk _ _ _=R
 unfold jk at hE
 rcases nd with d1|⟨d1,d2⟩
 ·simp [-ak,func105,f105,en,e1,d1,c1,c2,c3,c4,c5,c6,c7]at hE
  exact hE.symm
 ·simp [-ak,func105,f105,en,e1,d1,d2,c1,c2,c3,c4,c5,c6,c7]at hE
  exact hE.symm
end
section
variable (e:dw) (h:fO e) {f:Int} {l:List ByteArray} (hh:iB f l)
include h hh
theorem adQ:bY [gL e,aH f l,vI 97] [] []=some (kR (zG e 0)):=by
 obtain⟨h1,h2,h3,h4⟩:=h.aS
 obtain⟨n1,n2,n3⟩:=fM e h
 have en:=iC e
 have e1:=qN e h 0
 generalize zG e 0=p at*
 clear h hh
 generalize hE:bY _ _ _=R
 simp [bY, -ak,func109,f109,en,e1]at hE
 exact hE.symm
theorem abj:bY [gL e,aH f l,vI 101] [] []=some (kR (zG e e.au.av.length)):=by
 obtain⟨h1,h2,h3,h4⟩:=h.aS
 obtain⟨n1,n2,n3⟩:=fM e h
 have en:=iC e
 have e1:=qN e h e.au.av.length
 generalize zG e e.au.av.length=p at*
 clear h hh
 generalize hE:bY _ _ _=R
 simp [bY, -ak,func109,f109,en,e1]at hE
 exact hE.symm
theorem adR:bY [gL e,aH f l,vI 98] [] []=some (kR (zG e (e.au.At-gU e))):=by
 obtain⟨h1,h2,h3,h4⟩:=h.aS
 obtain⟨n1,n2,n3⟩:=fM e h
 have en:=iC e
 rw [n1]
 have e1:=qN e h (e.au.At-max e.bA 1)
 have w1:=bN (e.au.At-max e.bA 1) (by omega)
 generalize zG e (e.au.At-max e.bA 1)=p at*
 clear h hh
 generalize hE:bY _ _ _=R
 simp [bY, -ak,func109,f109,en,e1,w1]at hE
 exact hE.symm
theorem abk:bY [gL e,aH f l,vI 102] [] []=some (kR (zG e (e.au.At+gU e))):=by
 obtain⟨h1,h2,h3,h4⟩:=h.aS
 obtain⟨n1,n2,n3⟩:=fM e h
 have en:=iC e
 rw [n1]
 have e1:=qN e h (e.au.At+max e.bA 1)
 have w1:=bN (e.au.At+max e.bA 1) (by omega)
 generalize zG e (e.au.At+max e.bA 1)=p at*
 clear h hh
 generalize hE:bY _ _ _=R
 simp [bY, -ak,func109,f109,en,e1,w1]at hE
 exact hE.symm
theorem abl:bY [gL e,aH f l,vI 112] [] []=some (kR (jO e f l (-1))):=by
 obtain⟨h1,h2,h3,h4⟩:=h.aS
 obtain⟨n1,n2,n3⟩:=fM e h
 have en:=iC e
 have e1:=uH e h hh (-1) (.inr rfl)
 generalize jO e f l (-1)=p at*
 clear h hh
 generalize hE:bY _ _ _=R
 simp [bY, -ak,func109,f109,en,e1]at hE
 exact hE.symm
theorem abm:bY [gL e,aH f l,vI 110] [] []=some (kR (jO e f l 1)):=by
 obtain⟨h1,h2,h3,h4⟩:=h.aS
 obtain⟨n1,n2,n3⟩:=fM e h
 have en:=iC e
 have e1:=uH e h hh 1 (.inl rfl)
 generalize jO e f l 1=p at*
 clear h hh
 generalize hE:bY _ _ _=R
 simp [bY, -ak,func109,f109,en,e1]at hE
 exact hE.symm
theorem abn:bY [gL e,aH f l,vI 107] [] []=some (kR (mJ e (aS e) e.au.av.length 1)):=by
 obtain⟨h1,h2,h3,h4⟩:=h.aS
 obtain⟨n1,n2,n3⟩:=fM e h
 have en:=iC e
 have e1:=CY e h e.au.At e.au.av.length 1 (aS e) e.au.av.length (by omega) (by omega) (by omega) (by omega)
 generalize mJ e (aS e) e.au.av.length 1=p at*
 clear h hh
 generalize hE:bY _ _ _=R
 simp [bY, -ak,func109,f109,en,e1]at hE
 exact hE.symm
theorem abo:bY [gL e,aH f l,vI 121] [] []=some (kR (JB e)):=by
 obtain⟨h1,h2,h3,h4⟩:=h.aS
 obtain⟨n1,n2,n3⟩:=fM e h
 have en:=iC e
 have e1:=adK e h
 generalize JB e=p at*
 clear h hh
 generalize hE:bY _ _ _=R
 simp [bY, -ak,func109,f109,en,e1]at hE
 exact hE.symm
theorem adS (hu:iP [gL e] [] []=some (kR (nQ e))):bY [gL e,aH f l,vI 95] [] []=some (kR (nQ e)):=by
 obtain⟨h1,h2,h3,h4⟩:=h.aS
 obtain⟨n1,n2,n3⟩:=fM e h
 have en:=iC e
 generalize nQ e=p at*
 clear h hh
 generalize hE:bY _ _ _=R
 simp [bY, -ak,func109,f109,en,hu]at hE
 exact hE.symm
theorem abp (hm:¬e.bR=3):bY [gL e,aH f l,vI 114] [] []=some (kR (CU e)):=by
 obtain⟨h1,h2,h3,h4⟩:=h.aS
 obtain⟨n1,n2,n3⟩:=fM e h
 have en:=iC e
 have e1:=G8 e h hm
 generalize CU e=p at*
 clear h hh
 generalize hE:bY _ _ _=R
 simp [bY, -ak,func109,f109,en,e1]at hE
 exact hE.symm
end
theorem Um (t:List Int)(a:Int)(h:bV t a=true)(h2:t.length<2∨a=0):tY [.agg [.aL (some 0) (ints t),vI a]] [] []=some ⟨.fU [.agg [.own 0,vI 0],V.v (.bool false)],[],[(0,[])]⟩:=by
 have e1:=wu t a h
 unfold tY
 by_cases c:t.length<2
 ·have l2:(t.length:Int)<2:=by omega
  simp [func198,f198,e1,l2]
 ·have l2:¬(t.length:Int)<2:=by omega
  have a0:a=0:=h2.resolve_left c
  subst a0
  simp [func198,f198,e1,l2]
section
variable (e:dw) (h:fO e) {f:Int} {l:List ByteArray} (hh:iB f l)
include h hh
theorem abq:bY [gL e,aH f l,vI 116] [] []=some (kR (TI e)):=by
 obtain⟨h1,h2,h3,h4⟩:=h.aS
 have en:=iC e
 unfold TI
 by_cases hc:e.au.av.length<2∨e.au.At=0
 ·rw [if_pos hc]
  have e1:=Um _ _ h.line hc
  have e2:=BG e h [] 0 0 rfl (by omega)
  simp only [aZ]at e2
  generalize dJ e=p at*
  clear h hh
  generalize hE:bY _ _ _=R
  simp [bY, -ak,func109,f109,en,e1,e2]at hE
  exact hE.symm
 ·rw [if_neg hc]
  have hl:=Ml e.au.av (min (aS e) (e.au.av.length-1))
  have e1:=aa1 e.au.av e.au.At h.line (by omega) (min (aS e) (e.au.av.length-1)) (by omega) (by omega)
  have e2:=qM e h (swapAt e.au.av (min (aS e) (e.au.av.length-1))) ((min (aS e) (e.au.av.length-1):Nat)+1) 0 (gI (by omega) (GL h4 (by omega)) (by omega) (by omega)) (by omega)
  unfold wD
  generalize swapAt e.au.av (min (aS e) (e.au.av.length-1))=u at*
  generalize ((min (aS e) (e.au.av.length-1):Nat):Int)+1=b at*
  generalize sW e u b 0=p at*
  clear h hh
  generalize hE:bY _ _ _=R
  simp [bY, -ak,func109,f109,en,e1,e2]at hE
  exact hE.symm
theorem adT (r:Int)(hm:¬e.bR=3)(hu:r=95→iP [gL e] [] []=some (kR (nQ e))):bY [gL e,aH f l,vI r] [] []=some (kR (Ll e f l r)):=by
 unfold Ll
 by_cases c97:r=97
 ·rw [if_pos c97];subst c97;exact adQ e h hh
 rw [if_neg c97]
 by_cases G9:r=101
 ·rw [if_pos G9];subst G9;exact abj e h hh
 rw [if_neg G9]
 by_cases YD:r=98
 ·rw [if_pos YD];subst YD;exact adR e h hh
 rw [if_neg YD]
 by_cases YE:r=102
 ·rw [if_pos YE];subst YE;exact abk e h hh
 rw [if_neg YE]
 by_cases KZ:r=112
 ·rw [if_pos KZ];subst KZ;exact abl e h hh
 rw [if_neg KZ]
 by_cases YF:r=110
 ·rw [if_pos YF];subst YF;exact abm e h hh
 rw [if_neg YF]
 by_cases c107:r=107
 ·rw [if_pos c107];subst c107;exact abn e h hh
 rw [if_neg c107]
 by_cases YG:r=121
 ·rw [if_pos YG];subst YG;exact abo e h hh
 rw [if_neg YG]
 by_cases c116:r=116
 ·rw [if_pos c116];subst c116;exact abq e h hh
 rw [if_neg c116]
 by_cases c95:r=95
 ·rw [if_pos c95];subst c95;exact adS e h hh (hu rfl)
 rw [if_neg c95]
 by_cases K3:r=114
 ·rw [if_pos K3];subst K3;exact abp e h hh hm
 rw [if_neg K3]
 have en:=iC e
 have e1:=jD e h
 generalize dJ e=p at*
 clear h hh
 generalize hE:bY _ _ _=R
 simp [bY, -ak,func109,f109,en,e1,c97,G9,YD,YE,KZ,YF,c107,YG,c116,c95,K3]at hE
 exact hE.symm
end
section
variable (e:dw) (h:fO e) {f:Int} {l:List ByteArray} (hh:iB f l)
include h hh
theorem abr (k r:Int)(hk:ji k r=true)(hm:e.bR=0)(hy:eX [gL e] [] []=some (kR (nu e)))(hu:k=2→r=95→iP [gL e] [] []=some (kR (nQ e))):jg [gL e,aH f l,aK k r] [] []=some (kR (Em e f l k r)):=by
 obtain⟨h1,h2,h3,h4⟩:=h.aS
 obtain⟨n1,n2,n3⟩:=fM e h
 have ea:=sD e (fD.2 h)
 have eb:=uP f l hh
 have ec:=nJ k r
 rw [hk]at ec
 have e2:=JU e h hh k r hk (.inl hm)
 have en:=iC e
 unfold Em
 cases hp:p8 e f l k r with
 | some p=>
  rw [hp]at e2
  simp only
  clear h hh
  generalize hE:jg _ _ _=R
  unfold jg at hE
  simp only [gL,gO,hO,hm]at ea e2 hE
  simp [-ak,func38,f38,ea,eb,ec,e2]at hE
  exact hE.symm
 | none=>
  rw [hp]at e2
  simp only [kRo,JI,yH,aZ,show aC []= []from rfl,show aG []= []from rfl]at e2
  simp only
  by_cases c3:k=3
  ·rw [if_pos c3]
   subst c3
   have e3:=adP e h r hy
   generalize Hy e r=p at*
   clear h hh
   generalize hE:jg _ _ _=R
   unfold jg at hE
   simp only [gL,gO,hO,hm]at ea e2 e3 hE
   simp [-ak,func38,f38,ea,eb,ec,e2,e3]at hE
   exact hE.symm
  rw [if_neg c3]
  by_cases c15:k=15
  ·rw [if_pos c15]
   subst c15
   have e3:=Hz e h (gU e) (by omega)
   rw [n1]at e3
   have hd:=GX (f:=fE e.au.av) (fun _=>Au) (gU e) (aS e)
   have e4:=CY e h (dG (fE e.au.av) (gU e) (aS e)) e.au.At 2 (dG (fE e.au.av) (gU e) (aS e)) (aS e) (by omega) (by omega) hd (by omega)
   generalize mJ e (dG (fE e.au.av) (gU e) (aS e)) (aS e) 2=p at*
   generalize dG (fE e.au.av) (gU e) (aS e)=u at*
   clear h hh
   generalize hE:jg _ _ _=R
   unfold jg at hE
   simp only [gL,gO,hO,hm]at ea e2 e3 e4 en hE
   simp [-ak,func38,f38,ea,eb,ec,e2,e3,e4,en]at hE
   exact hE.symm
  rw [if_neg c15]
  by_cases c2:k=2
  ·rw [if_pos c2]
   subst c2
   have e3:=adT e h hh r (by omega) (hu rfl)
   generalize Ll e f l r=p at*
   clear h hh
   generalize hE:jg _ _ _=R
   unfold jg at hE
   simp only [gL,gO,hO,hm]at ea e2 e3 hE
   simp [-ak,func38,f38,ea,eb,ec,e2,e3]at hE
   exact hE.symm
  rw [if_neg c2]
  have e3:=jD e h
  generalize dJ e=p at*
  clear h hh
  generalize hE:jg _ _ _=R
  unfold jg at hE
  simp only [gL,gO,hO,hm]at ea e2 e3 hE
  simp [-ak,func38,f38,ea,eb,ec,e2,e3,c2,c3,c15]at hE
  exact hE.symm
end
section
variable (e:dw) (h:fO e) (hm:e.bR=2)
include h hm
theorem agC (f u:Nat)(h1:f≤u)(h2:u≤e.au.av.length):EW [gL e,vI (f:Int),vI (u:Int)] [] []=some ⟨V.v (.bool true),[],[]⟩:=by
 have e3:=CW e.au.av e.au.At h.line f u h1 h2
 generalize hE:EW _ _ _=R
 simp [EW, -ak,func269,f269,e3]at hE
 exact hE.symm
theorem yE (a:Nat)(ha:a≤e.au.av.length):l7 [gL e,vI (a:Int)] [] []=some (kR (oZ e a,0)):=by
 obtain⟨h1,h2,h3,h4⟩:=h.aS
 have e1:=qN e h a
 have e2:=dn (a:Int) e.au.av.length (by omega)
 have hq:max 0 (min (a:Int) e.au.av.length)=a:=by omega
 rw [hq]at e2
 unfold zG wD TH at e1
 rw [hq]at e1
 unfold Proofs.YtlpdjhiggpblcaaGreat.oZ
 simp only [sW,sU]at e1⊢
 generalize sS e e.au.av 0=ul at*
 generalize jq e.bR e.au.av a=ia at*
 clear h
 generalize hE:l7 _ _ _=R
 simp [l7, -ak,func270,f270,e1,e2]at hE
 exact hE.symm
end
section
variable (e:dw) (h:fO e) (hm:e.bR=2)
include h hm
theorem uT (op:Int)(hop:opC op=true)(f u:Nat)(h1:f≤u)(h2:u≤e.au.av.length):iZ [gL e,vI op,vI (f:Int),vI (u:Int)] [] []=some (kR (iU e op f u)):=by
 obtain⟨a1,a2,a3,a4⟩:=h.aS
 have ea:=sD e (fD.2 h)
 have ec:=agC e h hm f u h1 h2
 have hq:op=100∨op=99∨op=121:=by simp only [opC,Bool.or_eq_true,beq_iff_eq]at hop;omega
 unfold iU
 by_cases hfu:f=u
 ·rw [if_pos hfu]
  subst hfu
  by_cases hc:op=99
  ·rw [if_pos hc]
   subst hc
   have e1:=yE e h hm f h2
   generalize oZ e f=p at*
   clear h
   generalize hE:iZ _ _ _=R
   unfold iZ at hE
   simp only [gL,gO,hO,hm]at ea ec e1 hE
   simp [-ak,func207,f207,ea,ec,e1]at hE
   exact hE.symm
  ·rw [if_neg hc]
   have e1:=jD e h
   generalize dJ e=p at*
   clear h
   generalize hE:iZ _ _ _=R
   unfold iZ at hE
   simp only [gL,gO,hO,hm]at ea ec e1 hE
   rcases hq with rfl|rfl|rfl
   ·simp [-ak,func207,f207,ea,ec,e1]at hE
    exact hE.symm
   ·exact absurd rfl hc
   ·simp [-ak,func207,f207,ea,ec,e1]at hE
    exact hE.symm
 rw [if_neg hfu]
 have hfi:¬(f:Int)=u:=by omega
 have e1:=CW e.au.av e.au.At h.line f u h1 h2
 obtain⟨c1,c2,c3⟩:=uF h.line h1 h2
 have hgo:=JG h.line (f:=f) (u:=u)
 have e2:=fV e h
 have e3:=TN e.aM.aA ((e.au.av.drop f).take (u-f)) 0 h.ring hgo (by omega)
 have hr:=GK h.ring hgo 0
 have h':=h.NW hr
 by_cases hy:op=121
 ·rw [if_pos hy]
  subst hy
  have e4:=qN _ h' f
  unfold zG at e4
  rw [show TH (f:Int) e.au.av.length=f from by unfold TH;omega]at e4
  generalize (e.au.av.drop f).take (u-f)=gone at*
  generalize ou e.aM.aA gone 0=rg at*
  generalize wD {e with aM:=⟨rg⟩} e.au.av f=p at*
  generalize e.au.av.take f++e.au.av.drop u=X at*
  clear h h' hr hgo
  generalize hE:iZ _ _ _=R
  unfold iZ at hE
  simp only [gL,gO,hO,hm]at ea ec e2 e4 hE
  simp [-ak,func207,f207,ea,ec,e1,e2,e3,e4,hfi]at hE
  exact hE.symm
 rw [if_neg hy]
 unfold oz at c1 c3⊢
 have e4:=Pv (e.au.av.take f++e.au.av.drop u) (cutAt e.au.At f u) f c1
 rw [show max 0 (min (f:Int) (e.au.av.take f++e.au.av.drop u).length)=f by have:=(bU c3).2.2.2;omega]at e4
 have e5:=qM _ h' (e.au.av.take f++e.au.av.drop u) f 0 c3 (by omega)
 generalize (e.au.av.drop f).take (u-f)=gone at*
 generalize ou e.aM.aA gone 0=rg at*
 generalize e.au.av.take f++e.au.av.drop u=X at*
 unfold wD
 simp only [sW,sU]at e5⊢
 generalize sS {e with aM:=⟨rg⟩} X 0=ul at*
 generalize jq e.bR X f=ia at*
 clear h h' hr hgo
 generalize hE:iZ _ _ _=R
 unfold iZ at hE
 by_cases hc:op=99
 ·rw [if_pos hc]
  subst hc
  simp only [gL,gO,hO,hm]at ea ec e2 e5 hE
  simp [-ak,func207,f207,ea,ec,e1,e2,e3,e4,e5,hfi]at hE
  exact hE.symm
 ·rw [if_neg hc]
  have aoo:op=100:=by omega
  subst aoo
  simp only [gL,gO,hO,hm]at ea ec e2 e5 hE
  simp [-ak,func207,f207,ea,ec,e1,e2,e3,e4,e5,hfi]at hE
  simp only [kR,gL,gO,hO,hm]
  exact hE.symm
end
section
variable (e:dw) (h:fO e)
include h
theorem akj:Gl [gL e] [] []=some (kR (JB e)):=by
 have e1:pJ [.agg [.aL (some 0) (aC e.aM.aA)]] [] []=some ⟨.own 0,[],[(0,ints (bE e.aM.aA))]⟩:=GJ e.aM.aA h.ring
 obtain⟨t1,t2⟩:=yC h.ring
 unfold JB
 by_cases hc:bE e.aM.aA= []
 ·rw [if_pos hc]
  have e2:=mq e h
  rw [hc]at e1
  simp only [aZ]at e1
  generalize dJ e=p at*
  generalize hE:Gl _ _ _=R
  simp [Gl, -ak,func167,f167,e1,e2]at hE
  exact hE.symm
 ·rw [if_neg hc]
  have e2:=Xa e h (bE e.aM.aA) 3 t1 (by omega)
  generalize Da e (bE e.aM.aA) 3=p at*
  generalize bE e.aM.aA=u at*
  generalize hE:Gl _ _ _=R
  simp [Gl, -ak,func167,f167,e1,e2,hc]at hE
  exact hE.symm
theorem agD (i:Option Nat):BP [.aL i (ints e.au.av),vI e.au.At] [] []=some ⟨vI (((ig e.au.av (aS e):Nat):Int)),[],[]⟩:=by
 obtain⟨h1,h2,h3,h4⟩:=h.aS
 rw [h1]
 exact W9 _ _ _ h2 (by omega)
theorem YH (r how:Int)(hr:(r=117∧how=1)∨(r=108∧how=0)∨(r=99∧how=2)):fG [gL e,vI r] [] []=some (kR (Lj e how)):=by
 obtain⟨h1,h2,h3,h4⟩:=h.aS
 have hw:=xu h2
 have e1:=agD e h (some 0)
 have e2:=aaU e.au.av e.au.At h.line (aS e) (ig e.au.av (aS e)) hw.1 hw.2 how (by omega)
 rw [←h1]at e2
 have hl:=uo e.au.av (aS e) how (ig e.au.av (aS e)-aS e)
 have e3:=JJ e h (jM e.au.av (aS e) how (ig e.au.av (aS e)-aS e)).1 (ig e.au.av (aS e)) (gI (by omega) (BF h4 _ _ _) (by omega) (by omega))
 unfold Lj
 generalize (jM e.au.av (aS e) how (ig e.au.av (aS e)-aS e)).1=u at*
 generalize ig e.au.av (aS e)=b at*
 generalize wD e u b=p at*
 have d1:iw 117 48 57=false:=by decide
 have d2:iw 99 48 57=false:=by decide
 have d3:iw 108 48 57=false:=by decide
 clear h h2 h3 h4 hw hl
 generalize hE:fG _ _ _=R
 unfold fG at hE
 rcases hr with⟨rfl,rfl⟩|⟨rfl,rfl⟩|⟨rfl,rfl⟩
 ·simp [func90,f90,lV,d1,e1,e2,e3]at hE
  exact hE.symm
 ·simp [func90,f90,lV,d3,e1,e2,e3]at hE
  exact hE.symm
 ·simp [func90,f90,lV,d2,e1,e2,e3]at hE
  exact hE.symm
theorem akk:∀(f:Int) (l:List ByteArray),bS [gL e,aH f l,vI 116] [] []=some (kR (TI e)):=fun f l=>by
 obtain⟨h1,h2,h3,h4⟩:=h.aS
 unfold TI
 by_cases hc:e.au.av.length<2∨e.au.At=0
 ·rw [if_pos hc]
  exact N7 e (Oy.of (fD.2 h)) f l (TG _ _ h.line hc)
 ·rw [if_neg hc]
  have hl:=Ml e.au.av (min (aS e) (e.au.av.length-1))
  have e1:=aaV e.au.av e.au.At h.line (by omega) (min (aS e) (e.au.av.length-1)) (by omega) (by omega)
  have e2:=JJ e h (swapAt e.au.av (min (aS e) (e.au.av.length-1))) ((min (aS e) (e.au.av.length-1):Nat)+1) (gI (by omega) (GL h4 (by omega)) (by omega) (by omega))
  exact TU e _ f _ l _ _ e1 e2
theorem afd:zM [gL e] [] []=some (kR (nQ e)):=by
 unfold nQ
 by_cases h0:e.eO.bP= []
 ·have:e.eO.bP.getLast?=none:=by rw [h0];rfl
  rw [this]
  exact ads e (fD.2 h) h0
 ·rw [List.getLast?_eq_some_getLast h0]
  exact akb e (fD.2 h) h0
theorem YI:Gm [gL e] [] []=some (kR (CU e)):=by
 have e1:=zF e (Oy.of (fD.2 h)) 0
 have e2:=j5 e.au.av (some 0) e.au.At (by have:=(bU h.line).1;omega)
 generalize hE:Gm _ _ _=R
 simp [Gm,func170,f170,e1,e2]at hE
 exact hE.symm
theorem aiS (r:Int)(hr:iw r 48 57=true):fG [gL e,vI r] [] []=some (kR (JC e r)):=by
 have hr2:=bC.1 hr
 have hc:=h.cnt
 have e0:=eF e h
 have w1:=bN (10*e.bA) (by omega)
 have w2:=bN (10*e.bA+r) (by omega)
 have w3:=bN (10*e.bA+r-48) (by omega)
 unfold JC
 generalize hE:fG _ _ _=R
 simp [fG,func90,f90,lV,hr,e0,w1,w2,w3]at hE
 exact hE.symm
theorem akl (r:Int)(hr:¬r=121):fG [gL e,vI r] [] []=some (kR (Hy e r)):=by
 obtain⟨h1,h2,h3,h4⟩:=h.aS
 obtain⟨n1,n2,n3⟩:=fM e h
 unfold Hy
 by_cases cd:iw r 48 57=true
 ·rw [if_pos cd];exact aiS e h r cd
 rw [if_neg cd]
 have cd:iw r 48 57=false:=by simpa using cd
 by_cases c1:r=98
 ·rw [if_pos c1]
  subst c1
  have e1:=Mt e.au.av (gU e) (aS e) h2 (by omega) n3
  rw [n1,←h1]at e1
  have e2:=zH e h (dG (fE e.au.av) (gU e) (aS e))
  have e3:=vL e.au.av (some 0) e.au.At (dG (fE e.au.av) (gU e) (aS e)) (by omega)
  generalize dG (fE e.au.av) (gU e) (aS e)=u at*
  generalize zG e u=p at*
  clear h h2 h3 h4
  generalize hE:fG _ _ _=R
  simp [fG,func90,f90,lV,cd,e1,e2,e3,show List.range' 0 1= [0]from rfl]at hE
  exact hE.symm
 rw [if_neg c1]
 by_cases c2:r=102
 ·rw [if_pos c2]
  subst c2
  have e1:=CZ e.au.av (gU e) (aS e) h2 (by omega) n3
  rw [n1,←h1]at e1
  have e2:=zH e h (dG (ig e.au.av) (gU e) (aS e))
  have e3:=vL e.au.av (some 0) e.au.At (dG (ig e.au.av) (gU e) (aS e)) (by omega)
  generalize dG (ig e.au.av) (gU e) (aS e)=u at*
  generalize zG e u=p at*
  clear h h2 h3 h4
  generalize hE:fG _ _ _=R
  simp [fG,func90,f90,lV,cd,e1,e2,e3,show List.range' 0 1= [0]from rfl]at hE
  exact hE.symm
 rw [if_neg c2]
 by_cases c3:r=100
 ·rw [if_pos c3]
  subst c3
  have e1:=CZ e.au.av (gU e) (aS e) h2 (by omega) n3
  have hu:=NV (fun a ha=>xu (t:=e.au.av) ha) (gU e) (aS e) h2
  have e2:=JR e h e.au.At (dG (ig e.au.av) (gU e) (aS e)) (aS e) (dG (ig e.au.av) (gU e) (aS e)) 1 h1 rfl (by omega) hu.1 hu.2
  rw [n1,←h1]at e1
  generalize dG (ig e.au.av) (gU e) (aS e)=u at*
  generalize mJ e (aS e) u 1=p at*
  clear h h2 h3 h4 hu
  generalize hE:fG _ _ _=R
  simp [fG,func90,f90,lV,cd,e1,e2,show List.range' 0 1= [0]from rfl]at hE
  exact hE.symm
 rw [if_neg c3,if_neg hr]
 by_cases c4:r=117
 ·rw [if_pos c4];exact YH e h r 1 (.inl ⟨c4,rfl⟩)
 rw [if_neg c4]
 by_cases c5:r=108
 ·rw [if_pos c5];exact YH e h r 0 (.inr (.inl ⟨c5,rfl⟩))
 rw [if_neg c5]
 by_cases c6:r=99
 ·rw [if_pos c6];exact YH e h r 2 (.inr (.inr ⟨c6,rfl⟩))
 rw [if_neg c6]
 have e1:=mq e h
 generalize dJ e=p at*
 generalize hE:fG _ _ _=R
 simp [fG,func90,f90,lV,cd,e1,c1,c2,c3,c4,c5,c6,hr]at hE
 exact hE.symm
end
theorem Fe (t:List Int)(i:Option Nat)(a:Int)(b:Nat)(h:t.length≤1000000)(hb:b≤t.length):rD [.agg [.aL i (ints t),vI a],vI (b:Int)] [] []=some ⟨.agg [.own 0,vI (b:Int)],[],[(0,ints t)]⟩:=by
 have e1:=vL t i a b h
 rw [show max 0 (min (b:Int) t.length)=b from by omega]at e1
 exact e1
section
variable (e:dw) (h:fO e) (hm:e.bR=2)
include h hm
theorem uU (op:Int)(hop:opC op=true)(f u:Nat)(h1:f≤u)(h2:u≤e.au.av.length):lS [gL e,vI op,vI (f:Int),vI (u:Int)] [] []=some (kR (iU e op f u)):=by
 obtain⟨a1,a2,a3,a4⟩:=h.aS
 unfold iU
 by_cases hfu:f=u
 ·rw [if_pos hfu]
  subst hfu
  by_cases hc:op=99
  ·rw [if_pos hc]
   subst hc
   have e1:=Fe e.au.av (some 0) e.au.At f (by omega) h2
   have e2:=Px e h e.au.av f 0 (h.Mr h2)
   have e3:=Pp (sW e e.au.av f 0) f
   unfold Proofs.YtlpdjhiggpblcaaGreat.oZ
   simp only [sW,sU]at e2 e3⊢
   generalize sS e e.au.av 0=ul at*
   generalize jq e.bR e.au.av f=ia at*
   clear h
   generalize hE:lS _ _ _=R
   simp [lS, -ak,func181,f181,e1,e2,e3]at hE
   exact hE.symm
  ·rw [if_neg hc]
   have e1:=mq e h
   generalize dJ e=p at*
   generalize hE:lS _ _ _=R
   simp [lS, -ak,func181,f181,e1,hc]at hE
   exact hE.symm
 rw [if_neg hfu]
 have hfi:¬(f:Int)=u:=by omega
 have e1:=CS e.au.av e.au.At h.line f u (by omega) h2
 obtain⟨c1,c2,c3⟩:=uF h.line h1 h2
 have hgo:=JG h.line (f:=f) (u:=u)
 have e2:=eF e h
 have e3:=TD e.aM.aA ((e.au.av.drop f).take (u-f)) 0 h.ring hgo (by omega)
 have hr:=GK h.ring hgo 0
 have h':=h.NW hr
 have hcl:=(bU c3).1
 unfold oz at c3 hcl⊢
 by_cases hy:op=121
 ·rw [if_pos hy]
  subst hy
  have e4:=Fe e.au.av (some 0) e.au.At f (by omega) (by omega)
  have e5:=JJ _ h' e.au.av f (h.Mr (by omega))
  generalize (e.au.av.drop f).take (u-f)=gone at*
  generalize ou e.aM.aA gone 0=rg at*
  generalize wD {e with aM:=⟨rg⟩} e.au.av f=p at*
  generalize e.au.av.take f++e.au.av.drop u=X at*
  clear h h' hr hgo
  generalize hE:lS _ _ _=R
  simp [lS, -ak,func181,f181,e1,e2,e3,e4,e5,hfi]at hE
  exact hE.symm
 rw [if_neg hy]
 have e4:=Fe (e.au.av.take f++e.au.av.drop u) (some 0) (cutAt e.au.At f u) f (by omega) (by have:=(bU c3).2.2.2;omega)
 by_cases hc:op=99
 ·rw [if_pos hc]
  subst hc
  have e5:=Px _ h' (e.au.av.take f++e.au.av.drop u) f 0 c3
  generalize (e.au.av.drop f).take (u-f)=gone at*
  generalize ou e.aM.aA gone 0=rg at*
  generalize e.au.av.take f++e.au.av.drop u=X at*
  have e6:=Pp (sW {e with aM:=⟨rg⟩} X f 0) f
  simp only [sW,sU]at e5 e6⊢
  generalize sS {e with aM:=⟨rg⟩} X 0=ul at*
  generalize jq e.bR X f=ia at*
  clear h h' hr hgo
  generalize hE:lS _ _ _=R
  simp [lS, -ak,func181,f181,e1,e2,e3,e4,e5,e6,hfi]at hE
  exact hE.symm
 ·rw [if_neg hc]
  have e5:=Px _ h' (e.au.av.take f++e.au.av.drop u) f 0 c3
  unfold wD
  generalize (e.au.av.drop f).take (u-f)=gone at*
  generalize ou e.aM.aA gone 0=rg at*
  generalize e.au.av.take f++e.au.av.drop u=X at*
  generalize sW {e with aM:=⟨rg⟩} X f 0=p at*
  clear h h' hr hgo
  generalize hE:lS _ _ _=R
  simp [lS, -ak,func181,f181,e1,e2,e3,e4,e5,hfi,hy,hc]at hE
  exact hE.symm
theorem Rx (u:Nat)(w:Bool)(hu:u≤e.au.av.length):Br [gL e,vI (u:Int),V.v (.bool w)] [] []=some (kR (uD e u w)):=by
 obtain⟨a1,a2,a3,a4⟩:=h.aS
 unfold uD
 by_cases hc:e.Op=0
 ·rw [if_pos hc]
  have e1:=vL e.au.av (some 0) e.au.At u (by omega)
  have e2:=zH e h u
  generalize zG e u=p at*
  clear h
  generalize hE:Br _ _ _=R
  unfold Br at hE
  simp only [gL,gO,hO,hc]at e2 hE
  simp [-ak,func184,f184,e1,e2]at hE
  exact hE.symm
 ·rw [if_neg hc]
  have hop:opC e.Op=true:=h.op.resolve_left hc
  have e1:=aiR e.au.av (some 0) (aS e) u w a2 hu (by omega)
  rw [←a1]at e1
  obtain⟨s1,s2⟩:=PD w a2 hu
  have e2:=uU e h hm e.Op hop (min (aS e) u) (yw e.au.av.length (aS e) u w) s1 s2
  generalize iU e e.Op (min (aS e) u) (yw e.au.av.length (aS e) u w)=p at*
  generalize min (aS e) u=m at*
  generalize yw e.au.av.length (aS e) u w=m2 at*
  clear h
  generalize hE:Br _ _ _=R
  simp [Br, -ak,func184,f184,e1,e2,hc]at hE
  exact hE.symm
theorem PI (r how:Int)(n:Nat)(hw:0≤how∧how≤3)(hn:1≤n∧n≤999):wT [gL e,vI r,vI how,vI (n:Int)] [] []=some (kR (rP e r how n)):=by
 obtain⟨a1,a2,a3,a4⟩:=h.aS
 have e1:=Xd e.au.av (some 0) (aS e) n r how a2 (by omega) hn hw
 rw [←a1]at e1
 unfold rP
 cases hf:uq e.au.av r how n (aS e)with
 | none=>
  rw [hf]at e1
  have e2:=mq e h
  show _=some (kR (dJ e))
  generalize dJ e=p at*
  clear h
  simp only [uS,Option.isSome_none]at e1
  generalize hE:wT _ _ _=R
  simp [wT, -ak,func179,f179,e1,e2]at hE
  exact hE.symm
 | some u=>
  rw [hf]at e1
  have hu:=KP n (aS e) u a2 hf
  have e2:=Rx e h hm u (decide (how=0∨how=2)) hu
  show _=some (kR (uD e u (decide (how=0∨how=2))))
  generalize uD e u (decide (how=0∨how=2))=p at*
  clear h
  simp only [uS,Option.isSome_some]at e1
  have hq:how=0∨how=1∨how=2∨how=3:=by omega
  generalize hE:wT _ _ _=R
  unfold wT at hE
  rcases hq with rfl|rfl|rfl|rfl
  all_goals (simp at e2;simp [-ak,func179,f179,e1,e2]at hE;exact hE.symm)
theorem Fg (r:Int)(n:Nat)(hn:1≤n∧n≤999):zq [gL e,vI r,vI (n:Int)] [] []=some (kR (l9 e r n)):=by
 obtain⟨a1,a2,a3,a4⟩:=h.aS
 have e1:=QO e.au.av (some 0) (aS e) n a2 (by omega) hn r
 rw [←a1]at e1
 unfold l9
 cases hf:gQ e.au.av (aS e) r n with
 | none=>
  rw [hf]at e1
  have e2:=Rx e h hm 0 false (by omega)
  show _=some (kR (uD e 0 false))
  generalize uD e 0 false=p at*
  clear h
  simp only [mR]at e1
  simp only [Int.natCast_zero]at e2
  generalize hE:zq _ _ _=R
  simp [zq, -ak,func180,f180,e1,e2]at hE
  exact hE.symm
 | some q=>
  rw [hf]at e1
  have hu:=Aw a2 hf
  have e2:=Rx e h hm q.1 q.2 hu
  show _=some (kR (uD e q.1 q.2))
  generalize uD e q.1 q.2=p at*
  clear h
  simp only [mR]at e1
  generalize hE:zq _ _ _=R
  simp [zq, -ak,func180,f180,e1,e2]at hE
  exact hE.symm
end
section
variable (e:dw) (h:fO e) (hm:e.bR=2)
include h hm
theorem abt (r:Int)(n:Nat)(hn:1≤n∧n≤999)(hw:e.eY=114)(hr:iE r=true)(hl:aS e+n≤e.au.av.length):ni [gL e,aK 1 r,vI (n:Int)] [] []=some (kR (wD e (p9 e.au.av (aS e) r n) (aS e+n-1:Nat))):=by
 obtain⟨a1,a2,a3,a4⟩:=h.aS
 have hrs:=KQ a4 hr (aS e)
 have w1:=bN (e.au.At+n) (by omega)
 have w2:=bN (e.au.At+n-1) (by omega)
 have e1:=Fe e.au.av (some 0) e.au.At (aS e+n-1) (by omega) (by omega)
 have hq:(((aS e+n-1:Nat)):Int)=e.au.At+n-1:=by omega
 rw [hq]at e1
 have hgt:¬(e.au.av.length:Int)<e.au.At+n:=by omega
 have e2:=JJ e h (p9 e.au.av (aS e) r n) (e.au.At+n-1) (gI (by have:=(hrs n).1;omega) (hrs n).2 (by omega) (by have:=(hrs n).1;omega))
 rw [hq]
 generalize wD e (p9 e.au.av (aS e) r n) (e.au.At+n-1)=p at*
 generalize hE:ni _ _ _=R
 unfold ni at hE
 simp only [gL,gO,hO,hw]at e2 hE
 simp [-ak,func101,f101,e1,w1,w2,hgt]at hE
 rw [aD (fun j=> .on ⟨[(10,V.v (.int .i64 (e.au.At+(j:Int)))),(9, .ref 9 0),(8,V.v (.int .i64 e.au.At)),(6, .ref 6 0),(4, .ref 4 0),(3, .ref 3 0),(2,V.v (.int .i64 ((n:Int))))],
   [(9,[.own 2000000000,vI (e.au.At+n-1)]),(6,[V.v (.bool false),vI 0, .own 2000000001,vI 0,vI 0,vI 0,vI 0,vI 0,vI 0,vI 0,vI 0, .own 2000000002, .own 2000000003,vI 0, .own 2000000004,vI 0, .own 2000000005,vI 0, .own 2000000006,vI 0]),(4,[vI 1,vI r]),(3,[V.v (.bool e.Vi),vI e.bR, .aL (some 0) (ints e.au.av),vI e.au.At,vI e.bA,vI e.Op,vI e.bH,vI 114,vI e.dN,vI e.bG,vI e.iA, .aL (some 1) (aC e.aM.aA), .aL (some 2) (aG e.eO.bP),vI e.jT, .aL (some 3) (ints e.gG.av),vI e.gG.At, .aL (some 4) (ints e.bI),vI e.kV, .aL (some 5) (ints e.bT.av),vI e.bT.At])],
   [(2000000006,[]),(2000000005,[]),(2000000004,[]),(2000000003,[]),(2000000002,[]),(2000000001,[]),(2000000000,ints (p9 e.au.av (aS e) r j))],[]⟩) n ?_ ?_]at hE
 ·simp [-ak,w1,e2]at hE
  exact hE.symm
 ·simp [p9]
 ·intro j hj
  have hlen:=(hrs j).1
  have k1:0≤e.au.At+(j:Int):=by omega
  have k2:(e.au.At+(j:Int)).toNat=aS e+j:=by omega
  have k3:e.au.At+(j:Int)<e.au.av.length:=by omega
  have k4:aS e+j<e.au.av.length:=by omega
  have w3:=bN (e.au.At+((j:Int)+1)) (by omega)
  have k5:e.au.At+(j:Int)+1=e.au.At+((j:Int)+1):=by omega
  have hset:∀x:Int,(ints (p9 e.au.av (aS e) r j)).set (aS e+j) [.a (.int .i64 x)]=ints ((p9 e.au.av (aS e) r j).set (aS e+j) x):=fun x=>zC _ _ x
  rw [p9]
  simp [-ak,hj,w1,w3,k1,k2,k3,k4,k5,hlen,hset]
theorem abu (n:Nat)(hn:1≤n∧n≤999):tV [gL e,vI (n:Int)] [] []=some (kR (uQ e n)):=by
 obtain⟨a1,a2,a3,a4⟩:=h.aS
 unfold uQ
 by_cases hz:e.au.av.length=0
 ·rw [if_pos hz]
  have e1:=mq e h
  have hz':e.au.av= []:=List.length_eq_zero_iff.1 hz
  generalize dJ e=p at*
  clear h
  generalize hE:tV _ _ _=R
  unfold tV at hE
  simp only [gL,gO,hO,hz',aZ]at e1 hE
  simp [-ak,func186,f186,e1]at hE
  exact hE.symm
 rw [if_neg hz]
 have hz':¬e.au.av= []:=fun q=>hz (by rw [q];rfl)
 have w1:=bN (e.au.At+n) (by omega)
 have e1:=vL e.au.av (some 0) e.au.At (e.au.At+n) (by omega)
 have hq:max 0 (min (e.au.At+n) e.au.av.length)=((min (aS e+n) e.au.av.length:Nat):Int):=by omega
 rw [hq]at e1
 have hB1:min (aS e+n) e.au.av.length≤e.au.av.length:=by omega
 have hB2:aS e≤min (aS e+n) e.au.av.length:=by omega
 generalize min (aS e+n) e.au.av.length=b at*
 have hfs:=fun j (hj:aS e+j≤e.au.av.length)=>KR a4 (aS e) j hj
 have hfb:=hfs (b-aS e) (by omega)
 have e2:=JJ e h (rQ e.au.av (aS e) (b-aS e)) b (gI (by omega) hfb.2 (by omega) (by omega))
 generalize wD e (rQ e.au.av (aS e) (b-aS e)) b=p at*
 generalize hE:tV _ _ _=R
 simp [tV, -ak,func186,f186,e1,w1,hz']at hE
 rw [aD (fun j=> .on ⟨[(8,V.v (.int .i64 (e.au.At+(j:Int)))),(7, .ref 7 0),(4, .ref 4 0),(2, .ref 2 0)],
   [(7,[.own 2000000000,vI (b:Int)]),(4,[V.v (.bool false),vI 0, .own 2000000001,vI 0,vI 0,vI 0,vI 0,vI 0,vI 0,vI 0,vI 0, .own 2000000002, .own 2000000003,vI 0, .own 2000000004,vI 0, .own 2000000005,vI 0, .own 2000000006,vI 0]),(2,[V.v (.bool e.Vi),vI e.bR, .aL (some 0) (ints e.au.av),vI e.au.At,vI e.bA,vI e.Op,vI e.bH,vI e.eY,vI e.dN,vI e.bG,vI e.iA, .aL (some 1) (aC e.aM.aA), .aL (some 2) (aG e.eO.bP),vI e.jT, .aL (some 3) (ints e.gG.av),vI e.gG.At, .aL (some 4) (ints e.bI),vI e.kV, .aL (some 5) (ints e.bT.av),vI e.bT.At])],
   [(2000000006,[]),(2000000005,[]),(2000000004,[]),(2000000003,[]),(2000000002,[]),(2000000001,[]),(2000000000,ints (rQ e.au.av (aS e) j))],[]⟩) (b-aS e) ?_ ?_]at hE
 ·have hc:¬e.au.At+((b-aS e:Nat):Int)<b:=by omega
  simp [-ak,hc,e2]at hE
  exact hE.symm
 ·simp [rQ]
 ·intro j hj
  have hlen:=(hfs j (by omega)).1
  have k1:0≤e.au.At+(j:Int):=by omega
  have k2:(e.au.At+(j:Int)).toNat=aS e+j:=by omega
  have k3:e.au.At+(j:Int)<e.au.av.length:=by omega
  have k4:aS e+j<e.au.av.length:=by omega
  have k6:e.au.At+(j:Int)<b:=by omega
  have w3:=bN (e.au.At+((j:Int)+1)) (by omega)
  have k5:e.au.At+(j:Int)+1=e.au.At+((j:Int)+1):=by omega
  rw [rQ]
  generalize hX:rQ e.au.av (aS e) j=X at*
  have hjl:aS e+j<X.length:=by omega
  have hgd:X.getD (aS e+j) 0=X[aS e+j]:=by rw [List.getD_eq_getElem?_getD,List.getElem?_eq_getElem hjl];rfl
  rw [hgd]
  have hgu:=aQ hjl
  have hset:∀x:Int,(ints X).set (aS e+j) [.a (.int .i64 x)]=ints (X.set (aS e+j) x):=fun x=>zC _ _ x
  generalize hr:X[aS e+j]=r at*
  unfold aaW
  by_cases c1:iw r 97 122=true
  ·have u1:upI r=r-32:=by unfold upI;rw [if_pos c1]
   simp [-ak,k1,k2,k3,k4,k5,k6,w3,hlen,hset,hgu,hr,fK,uj,um,c1,u1]
  ·by_cases c2:iw r 65 90=true
   ·have u1:NR r=r+32:=by unfold NR;rw [if_pos c2]
    simp [-ak,k1,k2,k3,k4,k5,k6,w3,hlen,hset,hgu,hr,fK,uj,um,c1,c2,u1]
   ·have u1:NR r=r:=by unfold NR;rw [if_neg c2]
    simp [-ak,k1,k2,k3,k4,k5,k6,w3,hlen,hset,hgu,hr,fK,uj,um,c1,c2,u1]
end
theorem Oh (l:List dL):aC (lq l)=(aC l).drop 1++(aC l).take 1:=by
 cases l with
 | nil=>rfl
 | cons p l=>rw [iL];unfold lq;simp [FH,List.drop_succ_cons]
theorem abv (l:List dL)(h:iJ l=true):Ac [.agg [.aL (some 0) (aC l)]] [] []=some ⟨.agg [.own 0],[],[(0,aC (lq l))]⟩:=by
 obtain⟨hl,hp⟩:=xq h
 have e1:=cK l (Fa h)
 rw [h]at e1
 have e3:=Jy l (some 0) (by omega) (fun p hq=>by have:=(hp p hq).2.1;omega)
 have hrow:∀r∈aC l,∃q,r= [D.l q]:=fun r hr=>by
  obtain⟨i,hi⟩:=List.getElem?_of_mem hr
  have hlt:i<l.length:=by have:=(List.getElem?_eq_some_iff.1 hi).1;simpa using this
  rw [dZ hlt]at hi
  injection hi with hi
  exact⟨_,hi.symm⟩
 unfold Ac
 simp only
 rw [if_pos ⟨e1,e3,hrow,by simp;omega⟩,Oh]
section
variable (e:dw) (h:fO e)
include h
theorem abw:jA [gL e] [] []=some (kR (nu e)):=by
 obtain⟨h1,h2,h3,h4⟩:=h.aS
 have e1:pJ [.agg [.aL (some 0) (aC e.aM.aA)]] [] []=some ⟨.own 0,[],[(0,ints (bE e.aM.aA))]⟩:=GJ e.aM.aA h.ring
 have hr:=TK h.ring
 have e2:=abv e.aM.aA h.ring
 have e3:pJ [.agg [.aL (some 0) (aC (lq e.aM.aA))]] [] []=some ⟨.own 0,[],[(0,ints (bE (lq e.aM.aA)))]⟩:=GJ _ hr
 have e4:=mq e h
 have e5:=eF e h
 obtain⟨t1,t2⟩:=yC h.ring
 obtain⟨t3,t4⟩:=yC hr
 have w:=bN (e.au.At-(bE e.aM.aA).length) (by omega)
 have hlen:=h.line
 unfold nu
 by_cases hc:QH e=true
 ·obtain⟨c1,c2,c3,c4⟩:e.iA=3∧¬bE e.aM.aA= []∧(bE e.aM.aA).length≤aS e∧(e.au.av.drop (aS e-(bE e.aM.aA).length)).take (bE e.aM.aA).length=bE e.aM.aA:=by
   simpa [QH] using hc
  obtain⟨q1,q2,q3⟩:=uF h.line (show aS e-(bE e.aM.aA).length≤aS e by omega) h2
  have e6:=CS e.au.av e.au.At h.line (aS e-(bE e.aM.aA).length) (aS e) (by omega) h2
  have hca:cutAt e.au.At ((aS e-(bE e.aM.aA).length:Nat):Int) (aS e:Int)=((aS e-(bE e.aM.aA).length:Nat):Int):=by
   unfold cutAt;rw [if_pos (by omega)];omega
  rw [hca]at e6 q1
  have e7:=CX (oz e.au.av (aS e-(bE e.aM.aA).length) (aS e)) (bE (lq e.aM.aA)) ((aS e-(bE e.aM.aA).length:Nat):Int) q1 t3 (by omega)
  rw [Int.toNat_natCast]at e7
  have hsame:=DR (bE e.aM.aA) (bE e.aM.aA) (by omega) (by omega)
  rw [decide_eq_true rfl]at hsame
  have hF:((aS e-(bE e.aM.aA).length:Nat):Int)=e.au.At-(bE e.aM.aA).length:=by omega
  have k1:(e.au.At-((bE e.aM.aA).length:Int)).toNat=aS e-(bE e.aM.aA).length:=by omega
  have k2:e.au.At.toNat=aS e:=rfl
  have k3:aS e-(aS e-(bE e.aM.aA).length)=(bE e.aM.aA).length:=by omega
  have k4:0≤e.au.At-((bE e.aM.aA).length:Int):=by omega
  have k5:e.au.At-((bE e.aM.aA).length:Int)≤e.au.At:=by omega
  have k6:e.au.At≤e.au.av.length:=by omega
  have k7:¬e.au.At-((bE e.aM.aA).length:Int)<0:=by omega
  have k8:¬((bE e.aM.aA).length:Int)=0:=by have:=List.length_pos_iff.2 c2;omega
  have k9:0≤e.au.At:=by omega
  have kA:((bE e.aM.aA).length:Int)≤e.au.At:=by omega
  rw [hF,←h1]at e6
  by_cases hl:(oz e.au.av (aS e-(bE e.aM.aA).length) (aS e)).length+(bE (lq e.aM.aA)).length≤400
  ·rw [if_pos ⟨hc,hl⟩]
   rw [if_pos hl]at e7
   obtain⟨-,z2, -, -⟩:=bU q1
   have e8:=Px {e with aM:=⟨lq e.aM.aA⟩} (h.NW hr) (AQ (oz e.au.av (aS e-(bE e.aM.aA).length) (aS e)) (aS e-(bE e.aM.aA).length) (bE (lq e.aM.aA))) (((aS e-(bE e.aM.aA).length:Nat):Int)+(bE (lq e.aM.aA)).length) 3 ((zQ hl z2 t3 (by omega)).2 _ (by omega) (by omega))
   generalize AQ (oz e.au.av (aS e-(bE e.aM.aA).length) (aS e)) (aS e-(bE e.aM.aA).length) (bE (lq e.aM.aA))=Y at*
   unfold oz at e7
   rw [hF]at e7 e8
   generalize hX:e.au.av.take (aS e-(bE e.aM.aA).length)++e.au.av.drop (aS e)=X at*
   rw [hF]
   generalize sW {e with aM:=⟨lq e.aM.aA⟩} Y (e.au.At-(bE e.aM.aA).length+(bE (lq e.aM.aA)).length) 3=p at*
   generalize bE (lq e.aM.aA)=tn at*
   generalize bE e.aM.aA=tp at*
   generalize lq e.aM.aA=tr at*
   clear h hlen
   generalize hE:jA _ _ _=R
   unfold jA at hE
   simp only [gL,gO,hO,c1]at e4 e5 e8 hE
   simp [-ak,func160,f160,e1,e2,e3,e5,e6,e7,e8,hsame,w,k1,k2,k3,k4,k5,k6,k7,k8,k9,kA,c2,c4]at hE
   exact hE.symm
  ·rw [if_neg (fun q=>hl q.2)]
   rw [if_neg hl]at e7
   unfold oz at e7
   rw [hF]at e7
   generalize hX:e.au.av.take (aS e-(bE e.aM.aA).length)++e.au.av.drop (aS e)=X at*
   generalize dJ e=p at*
   generalize bE (lq e.aM.aA)=tn at*
   generalize bE e.aM.aA=tp at*
   generalize lq e.aM.aA=tr at*
   clear h hlen
   generalize hE:jA _ _ _=R
   unfold jA at hE
   simp only [gL,gO,hO,c1]at e4 e5 hE
   simp [-ak,func160,f160,e1,e2,e3,e4,e6,e7,hsame,w,k1,k2,k3,k4,k5,k6,k7,k8,k9,kA,c2,c4]at hE
   exact hE.symm
 ·rw [if_neg (fun q=>hc q.1)]
  generalize dJ e=p at*
  have hc':¬(e.iA=3∧¬bE e.aM.aA= []∧(bE e.aM.aA).length≤aS e∧(e.au.av.drop (aS e-(bE e.aM.aA).length)).take (bE e.aM.aA).length=bE e.aM.aA):=fun q=>hc (by simpa [QH] using q)
  by_cases c1:e.iA=3
  ·by_cases c2:bE e.aM.aA= []
   ·rw [c2]at e1
    simp only [aZ]at e1
    have w0:=bN e.au.At (by omega)
    generalize hE:jA _ _ _=R
    unfold jA at hE
    simp only [gL,gO,hO,c1]at e4 hE
    simp [-ak,func160,f160,e1,e4,w0]at hE
    exact hE.symm
   ·have k8:¬((bE e.aM.aA).length:Int)=0:=by have:=List.length_pos_iff.2 c2;omega
    by_cases c3:(bE e.aM.aA).length≤aS e
    ·have c4:¬(e.au.av.drop (aS e-(bE e.aM.aA).length)).take (bE e.aM.aA).length=bE e.aM.aA:=fun q=>hc' ⟨c1,c2,c3,q⟩
     have hsame:=DR ((e.au.av.drop (aS e-(bE e.aM.aA).length)).take (bE e.aM.aA).length) (bE e.aM.aA) (by simp;omega) (by omega)
     rw [decide_eq_false c4]at hsame
     have k1:(e.au.At-((bE e.aM.aA).length:Int)).toNat=aS e-(bE e.aM.aA).length:=by omega
     have k2:e.au.At.toNat=aS e:=rfl
     have k3:aS e-(aS e-(bE e.aM.aA).length)=(bE e.aM.aA).length:=by omega
     have k4:0≤e.au.At-((bE e.aM.aA).length:Int):=by omega
     have k5:e.au.At-((bE e.aM.aA).length:Int)≤e.au.At:=by omega
     have k6:e.au.At≤e.au.av.length:=by omega
     have k7:¬e.au.At-((bE e.aM.aA).length:Int)<0:=by omega
     have k9:0≤e.au.At:=by omega
     have kA:((bE e.aM.aA).length:Int)≤e.au.At:=by omega
     generalize bE e.aM.aA=tp at*
     generalize hE:jA _ _ _=R
     unfold jA at hE
     simp only [gL,gO,hO,c1]at e4 hE
     simp [-ak,func160,f160,e1,e4,hsame,w,k1,k2,k3,k4,k5,k6,k7,k8,k9,kA,c2]at hE
     exact hE.symm
    ·have k7:e.au.At-((bE e.aM.aA).length:Int)<0:=by omega
     generalize bE e.aM.aA=tp at*
     generalize hE:jA _ _ _=R
     unfold jA at hE
     simp only [gL,gO,hO,c1]at e4 hE
     simp [-ak,func160,f160,e1,e4,w,k7,k8,c2]at hE
     exact hE.symm
  ·generalize bE e.aM.aA=tp at*
   generalize hE:jA _ _ _=R
   simp [jA, -ak,func160,f160,e1,e4,w,c1]at hE
   exact hE.symm
theorem agE:fG [gL e,vI 121] [] []=some (kR (nu e)):=by
 have e1:=abw e h
 have d1:iw 121 48 57=false:=by decide
 generalize nu e=p at*
 clear h
 generalize hE:fG _ _ _=R
 simp [fG,func90,f90,lV,d1,e1]at hE
 exact hE.symm
theorem abx (r:Int):fG [gL e,vI r] [] []=some (kR (Hy e r)):=by
 by_cases hr:r=121
 ·subst hr
  have d1:¬iw 121 48 57=true:=by decide
  rw [show Hy e 121=nu e from by unfold Hy;rw [if_neg d1];rfl]
  exact agE e h
 ·exact akl e h r hr
end
noncomputable def iQ:aN:=aI prog [(10,false,Rt),(11,false,EX),(20,false,KG),(12,false,Ru),(13,false,KA),(22,false,KH),(21,false,qI),(23,false,qJ),(15,false,Rv),(24,false,zB),(16,false,KF),(25,false,KI),(17,true,xk),(18,true,DC),(26,true,DK),(27,true,mH),(19,false,Cb),(28,false,qV)] ⟨[],[],[(11,[],[(11,[9])]),(18,[],[]),(20,[],[]),(42,[],[(11,[9])])],[]⟩ 5
theorem PK:aF prog 5 iQ:=sound _ (ah aj7 (ah agc (ah agn (ah aj8 (ah agh (ah agp (ah agq (ah agr (ah aj9 (ah KC (ah agk (ah ags (ah agl (ah aaK (ah aaO (ah Am (ah agm (ah Ap ay)))))))))))))))))) acS func5 (aV (by kernel_rfl))
open Go.ChangeShapes Go.WideShapes Go.ChangeAt Go.RowKit Go.Deep
theorem YJ:ownKnob prog.godebug=none:=by kernel_rfl
theorem He:laidOutB prog=true:=by kernel_rfl
end Go.Proofs.YtlpdjhiggpblcaaGreat
