/- Part 13 of a proof in several texts (an abstract evaluator, what the functions compute). -/
import Derived.Test.YtlpdjhiggpblcaaGreatPkFnEdOk12
open Go.Proofs.Tryz
namespace Go.Proofs.YtlpdjhiggpblcaaGreat
set_option linter.unusedSectionVars false
set_option linter.unusedSimpArgs false
set_option linter.unusedVariables false
open Go.RowKit
set_option maxHeartbeats 8000000
set_option maxRecDepth 10000
abbrev edW (e:dB):V:= .agg [V.v (.bool e.Vi),vI e.bV, .own 0,vI e.ak.At,vI e.bH,vI e.Op,vI e.bU,vI e.fT,vI e.eY,vI e.bT,vI e.iZ, .own 1, .own 2,vI e.kF, .own 3,vI e.iM.At, .aP none [],vI e.nH, .own 4,vI e.dH.At]
abbrev kRw (p:dB×Int):Ay:=⟨.fK [edW p.1,vI p.2],[],[(0,ints p.1.ak.av),(1,aC p.1.aI.aA),(2,aS p.1.gH.eX),(3,ints p.1.iM.av),(4,ints p.1.dH.av)]⟩
def xO (e:dB)(k:Int):Prop:=e.bV=3∧k=5∧e.bP.length=1
instance (e:dB) (k:Int):Decidable (xO e k):=inferInstanceAs (Decidable (e.bV=3∧k=5∧e.bP.length=1))
def kX (e:dB)(k:Int)(p:dB×Int):Ay:=if xO e k then kRw p else kR p
theorem fV.broke {e:dB}(h:fV e)(hm:e.bV=3):fV {e with ak:=e.dH,kF:=0,iM:=⟨[],0⟩}:=by
 refine⟨h.back,rfl,h.back,h.cnt,h.uV,h.mode,?_,h.cmd,h.opz,h.op,h.wait,h.find,h.last,h.ring,h.undo,⟨by show(0:Int)≤0;omega,by show(0:Int)≤1000000060;omega⟩,h.hit, .inr rfl,h.ql,h.qp, .inl hm⟩
 rintro ⟨q1, -⟩
 have q1:e.bV=2:=q1
 omega
section
variable (e:dB) (h:fV e)
include h
theorem O9:Fj [gL e] [] []=some ⟨(gO (xK e)),[],(hO (xK e))⟩:=by
 have e0:=dY e h
 have hl:=bX h.line
 unfold xK
 cases hv:e.Vi with
 | true=>
  have e1:=xF e.ak.av e.ak.At 2 (by omega)
  rw [if_pos rfl]
  generalize jl 2 e.ak.av e.ak.At=ia at*
  clear h
  generalize hE:Fj _ _ _=R
  unfold Fj at hE
  simp only [gL,gO,hO,hv]at e0 hE
  simp [-au,func99,f99,e0,e1]at hE
  exact hE.symm
 | false=>
  have e1:=xF e.ak.av e.ak.At 0 (by omega)
  rw [if_neg (by decide)]
  generalize jl 0 e.ak.av e.ak.At=ia at*
  clear h
  generalize hE:Fj _ _ _=R
  unfold Fj at hE
  simp only [gL,gO,hO,hv]at e0 hE
  simp [-au,func99,f99,e0,e1]at hE
  exact hE.symm
variable {f:Int} {l:List ByteArray} (hh:gX f l) (hm:e.bV=3)
include hh hm
theorem Rv (r:Int)(hk:jh 5 r=true)(hq:¬e.bP= []):dn [gL e,aH f l,aK 5 r] [] []=some (kX e 5 ({e with bP:=e.bP.dropLast},0)):=by
 have e1:=qN e h hh 5 r hk
 have e0:=dY e h
 have JA:=h.ql
 have hpos:=List.length_pos_iff.2 hq
 have w1:=bM ((e.bP.length:Int)-1) (by omega)
 have k1:((e.bP.length:Int)-1).toNat=e.bP.length-1:=by omega
 have k3:¬(e.bP.length:Int)=0:=by omega
 have k4:¬e.bP.length=0:=by omega
 have k6:(1:Int)≤e.bP.length:=by omega
 have k7:(e.bP.length:Int)-1≤e.bP.length:=by omega
 rw [List.dropLast_eq_take]
 by_cases h1:e.bP.length=1
 ·have hw:xO e 5:=⟨hm,rfl,h1⟩
  unfold kX
  rw [if_pos hw]
  have k5:¬0<e.bP.length-1:=by omega
  clear h hh
  generalize hE:dn _ _ _=R
  unfold dn at hE
  simp only [gL,gO,hO,hm]at e0 e1 hE
  simp [-au,func36,f36,e0,e1,w1,k1,k3,k4,k5,k6,k7,hpos,hq]at hE
  simp only [gL,gO,hO,hm]
  exact hE.symm
 ·have hw:¬xO e 5:=fun q=>h1 q.2.2
  unfold kX
  rw [if_neg hw]
  have k5:0<e.bP.length-1:=by omega
  clear h hh
  generalize hE:dn _ _ _=R
  unfold dn at hE
  simp only [gL,gO,hO,hm]at e0 e1 hE
  simp [-au,func36,f36,e0,e1,w1,k1,k3,k4,k5,k6,k7,hpos,hq]at hE
  simp only [gL,gO,hO,hm]
  exact hE.symm
theorem Ww (hk:jh 2 114=true)(hq:e.bP= []):dn [gL e,aH f l,aK 2 114] [] []=some (kR (e,1)):=by
 have e1:=qN e h hh 2 114 hk
 have e0:=dY e h
 have k4:e.bP.length=0:=by rw [hq];rfl
 clear h hh
 generalize hE:dn _ _ _=R
 unfold dn at hE
 simp only [gL,gO,hO,hm]at e0 e1 hE
 simp [-au,func36,f36,e0,e1,k4]at hE
 simp only [kR,gL,gO,hO,hm]
 exact hE.symm
theorem Wx (hk:jh 2 114=true)(hq:¬e.bP= []):dn [gL e,aH f l,aK 2 114] [] []=some (kR (BN e f l e.bP (e.nH-1))):=by
 have e1:=qN e h hh 2 114 hk
 have hhit:=h.hit
 have JA:=h.ql
 have e2:=acB e h hh e.bP (e.nH-1) hm h.qp (by omega) (by omega)
 have w1:=bM (e.nH-1) (by omega)
 have k4:0<e.bP.length:=List.length_pos_iff.2 hq
 generalize BN e f l e.bP (e.nH-1)=p at*
 clear h hh
 generalize hE:dn _ _ _=R
 unfold dn at hE
 simp only [gL,gO,hO,hm]at e1 e2 hE
 simp [-au,func36,f36,e1,e2,w1,k4]at hE
 exact hE.symm
theorem Wy (r:Int)(hk:jh 5 r=true)(hq:e.bP= []):dn [gL e,aH f l,aK 5 r] [] []=some (kR (e,1)):=by
 have e1:=qN e h hh 5 r hk
 have e0:=dY e h
 have k4:e.bP.length=0:=by rw [hq];rfl
 clear h hh
 generalize hE:dn _ _ _=R
 unfold dn at hE
 simp only [gL,gO,hO,hm]at e0 e1 hE
 simp [-au,func36,f36,e0,e1,k4]at hE
 simp only [kR,gL,gO,hO,hm]
 exact hE.symm
theorem OQ (r:Int)(hk:jh 4 r=true):dn [gL e,aH f l,aK 4 r] [] []=some (kR (xK e,2)):=by
 have e1:=qN e h hh 4 r hk
 have e2:=O9 e h
 generalize xK e=p at*
 clear h hh
 generalize hE:dn _ _ _=R
 unfold dn at hE
 simp only [gL,gO,hO,hm]at e1 e2 hE
 simp [-au,func36,f36,e1,e2]at hE
 exact hE.symm
theorem SH (hk:jh 2 103=true):dn [gL e,aH f l,aK 2 103] [] []=some (kR (xK {e with ak:=e.dH,kF:=0,iM:=⟨[],0⟩},1)):=by
 have e1:=qN e h hh 2 103 hk
 have e0:=dY e h
 have e3:=ku e.dH.av (some 0) e.dH.At (by have:=(bX h.back).1;omega)
 have e2:=O9 {e with ak:=e.dH,kF:=0,iM:=⟨[],0⟩} (h.broke hm)
 generalize xK {e with ak:=e.dH,kF:=0,iM:=⟨[],0⟩}=p at*
 simp only [gL,gO,hO,bn]at e2
 clear h hh
 generalize hE:dn _ _ _=R
 unfold dn at hE
 simp only [gL,gO,hO,hm]at e0 e1 e2 e3 hE
 simp [-au,func36,f36,e0,e1,e2,e3]at hE
 exact hE.symm
theorem Wz (hk:jh 2 99=true):dn [gL e,aH f l,aK 2 99] [] []=some (kR (xK {e with ak:=e.dH,kF:=0,iM:=⟨[],0⟩},1)):=by
 have e1:=qN e h hh 2 99 hk
 have e0:=dY e h
 have e3:=ku e.dH.av (some 0) e.dH.At (by have:=(bX h.back).1;omega)
 have e2:=O9 {e with ak:=e.dH,kF:=0,iM:=⟨[],0⟩} (h.broke hm)
 generalize xK {e with ak:=e.dH,kF:=0,iM:=⟨[],0⟩}=p at*
 simp only [gL,gO,hO,bn]at e2
 clear h hh
 generalize hE:dn _ _ _=R
 unfold dn at hE
 simp only [gL,gO,hO,hm]at e0 e1 e2 e3 hE
 simp [-au,func36,f36,e0,e1,e2,e3]at hE
 exact hE.symm
theorem Rw (k r:Int)(hk:jh k r=true)(c1:¬k=1)(c4:¬k=4)(c5:¬k=5)(c2:¬(k=2∧(r=114∨r=103∨r=99))):dn [gL e,aH f l,aK k r] [] []=some (kR (xK e,0)):=by
 have e1:=qN e h hh k r hk
 have e2:=O9 e h
 generalize xK e=p at*
 clear h hh
 generalize hE:dn _ _ _=R
 unfold dn at hE
 simp only [gL,gO,hO,hm]at e1 e2 hE
 by_cases c6:k=2
 ·have c7:¬r=114:=fun q=>c2 ⟨c6, .inl q⟩
  have c8:¬r=103:=fun q=>c2 ⟨c6, .inr (.inl q)⟩
  have c9:¬r=99:=fun q=>c2 ⟨c6, .inr (.inr q)⟩
  simp [-au,func36,f36,e1,e2,c1,c4,c5,c7,c8,c9]at hE
  exact hE.symm
 ·simp [-au,func36,f36,e1,e2,c1,c4,c5,c6]at hE
  exact hE.symm
theorem WA (k r:Int)(hk:jh k r=true):dn [gL e,aH f l,aK k r] [] []=some (kX e k (sN e f l k r)):=by
 unfold sN
 by_cases c5:k=5
 ·subst c5
  rw [if_neg (by decide),if_neg (by omega),if_pos rfl]
  by_cases hq:e.bP= []
  ·have hw:¬xO e 5:=fun q=>by have:=q.2.2;rw [hq]at this;simp at this
   rw [if_pos hq,kX,if_neg hw]
   exact Wy e h hh hm r hk hq
  ·rw [if_neg hq]
   exact Rv e h hh hm r hk hq
 have hw:¬xO e k:=fun q=>c5 q.2.1
 rw [kX,if_neg hw]
 by_cases c1:k=1
 ·rw [if_pos c1]
  subst c1
  exact Ri e h hh r hm (by simpa [jh] using hk)
 rw [if_neg c1]
 by_cases c2:k=2∧r=114
 ·rw [if_pos c2]
  obtain⟨rfl,rfl⟩:=c2
  by_cases hq:e.bP= []
  ·rw [if_pos hq];exact Ww e h hh hm hk hq
  ·rw [if_neg hq];exact Wx e h hh hm hk hq
 rw [if_neg c2,if_neg c5]
 by_cases c4:k=4
 ·rw [if_pos c4];subst c4;exact OQ e h hh hm r hk
 rw [if_neg c4]
 by_cases c3:k=2∧(r=103∨r=99)
 ·rw [if_pos c3]
  obtain⟨rfl,rfl|rfl⟩:=c3
  ·exact SH e h hh hm hk
  ·exact Wz e h hh hm hk
 rw [if_neg c3]
 exact Rw e h hh hm k r hk c1 c4 c5 (fun q=>q.2.elim (fun x=>c2 ⟨q.1,x⟩) (fun x=>c3 ⟨q.1,x⟩))
end
section
variable (e:dB) (h:fV e) {f:Int} {l:List ByteArray} (hh:gX f l)
include h hh
theorem af3 (k r:Int)(hk:jh k r=true):tK [gL e,aH f l,aK k r] [] []=some (kX e k (ug e f l k r)):=by
 unfold ug
 by_cases m0:e.bV=0
 ·have hw:¬xO e k:=fun q=>by have:=q.1;omega
  rw [if_pos m0,kX,if_neg hw]
  have e1:=YO e h hh k r hk m0
  generalize xI e f l k r=p at*
  clear h hh
  generalize hE:tK _ _ _=R
  unfold tK at hE
  simp only [gL,gO,hO,m0]at e1 hE
  simp [-au,func7,f7,e1]at hE
  exact hE.symm
 rw [if_neg m0]
 by_cases m3:e.bV=3
 ·rw [if_pos m3]
  have e1:=WA e h hh m3 k r hk
  generalize sN e f l k r=p at*
  clear h hh
  unfold kX at*
  generalize hE:tK _ _ _=R
  unfold tK at hE
  simp only [gL,gO,hO,m3]at e1 hE
  by_cases hw:xO e k
  ·rw [if_pos hw]at e1⊢
   simp [-au,func7,f7,e1]at hE
   exact hE.symm
  ·rw [if_neg hw]at e1⊢
   simp [-au,func7,f7,e1]at hE
   exact hE.symm
 rw [if_neg m3]
 have hw:¬xO e k:=fun q=>m3 q.1
 rw [kX,if_neg hw]
 have e1:=af2 e h hh k r hk (by rcases h.mode with q|q|q<;>omega)
 generalize viE e f l k r=p at*
 clear h hh
 generalize hE:tK _ _ _=R
 simp [tK, -au,func7,f7,e1,m0,m3]at hE
 exact hE.symm
end
theorem aic {x:dB}{f:Int}{l:List ByteArray}{k r:Int}(h:xO x k):(ug x f l k r).1.bP= []:=by
 obtain⟨w1,w2,w3⟩:=h
 have hne:¬x.bP= []:=fun q=>by rw [q]at w3;cases w3
 unfold ug sN
 rw [if_neg (by omega),if_pos w1,if_neg (by omega),if_neg (by omega),if_pos w2,if_neg hne]
 exact List.eq_nil_of_length_eq_zero (by rw [List.length_dropLast,w3])
theorem dh (n most:Int)(h:0≤most):fG [vI n,vI most] [] []=some ⟨vI (max 0 (min n most)),[],[]⟩:=by
 unfold fG
 by_cases c1:n<0
 ·rw [show max 0 (min n most)=0 by omega]
  simp [func118,f118,c1]
 ·by_cases c2:most<n
  ·rw [show max 0 (min n most)=most by omega]
   simp [func118,f118,c1,c2]
  ·rw [show max 0 (min n most)=n by omega]
   simp [func118,f118,c1,c2]
theorem uo (a b c:List Int)(i j k:Option Nat)(h:a.length+b.length+c.length≤4000):nC [.aP i (ints a), .aP j (ints b), .aP k (ints c)] [] []=some ⟨.own 0,[],[(0,ints (a++b++c))]⟩:=by
 have g1:a.length*8≤140737488355328:=by omega
 have g2:a.length≤4611686018427387904:=by omega
 have g3:(a.length+b.length)*8≤140737488355328:=by omega
 have g4:a.length+b.length≤4611686018427387904:=by omega
 have g5:(a.length+b.length+c.length)*8≤140737488355328:=by omega
 have g6:a.length+b.length+c.length≤4611686018427387904:=by omega
 have g7:(a.length+(b.length+c.length))*8≤140737488355328:=by omega
 have g8:a.length+(b.length+c.length)≤4611686018427387904:=by omega
 simp [nC, -au,←au, -List.append_assoc,func113,f113,g1,g2,g3,g4,g5,g6,g7,g8]
theorem Mj (t:List Int)(a:Int)(ok:Bool)(h:t.length≤1000000):D8 [.agg [.aP (some 0) (ints t),vI a],V.v (.bool ok)] [] []=some (if ok=true∧bN t a=true then⟨.fK [.agg [.aP (some 0) (ints t),vI a],V.v (.bool true)],[],[]⟩else⟨.fK [.agg [.own 0,vI 0],V.v (.bool false)],[],[(0,[])]⟩):=by
 have e1:=dA t a (by omega)
 unfold D8
 cases ok
 ·rw [if_neg (by simp)]
  simp [func279,f279]
 ·cases hl:bN t a
  ·rw [hl]at e1
   rw [if_neg (by simp)]
   simp [func279,f279,e1]
  ·rw [hl]at e1
   rw [if_pos ⟨rfl,rfl⟩]
   simp [func279,f279,e1]
theorem Ni (t:List Int)(a at_:Int)(h:bN t a=true):yL [.agg [.aP (some 0) (ints t),vI a],vI at_] [] []=some ⟨.fK [.agg [.own 0,vI (max 0 (min at_ t.length))],V.v (.bool true)],[],[(0,ints t)]⟩:=by
 obtain⟨h1,h2,h3,h4⟩:=bX h
 have e1:=tT t a h
 have e2:=uo t [] [] (some 0) (some 1) (some 2) (by simp;omega)
 have e3:=dh at_ t.length (by omega)
 have e4:=Mj t (max 0 (min at_ t.length)) true (by omega)
 rw [if_pos ⟨rfl,gq h1 h2 (by omega) (by omega)⟩]at e4
 simp only [List.append_nil,bn]at e2
 generalize hE:yL _ _ _=R
 simp [yL, -au,func247,f247,e1,e2,e3,e4]at hE
 exact hE.symm
theorem BQ (t u:List Int)(a:Int)(h:bN t a=true)(hu:u.all fP=true)(hu2:u.length≤2000):rD [.agg [.aP (some 0) (ints t),vI a], .aP (some 1) (ints u)] [] []=
  some (if t.length+u.length≤400 then⟨.fK [.agg [.own 0,vI (a+u.length)],V.v (.bool true)],[],[(0,ints (zR t a.toNat u))]⟩else⟨.fK [.agg [.own 0,vI 0],V.v (.bool false)],[],[(0,[])]⟩):=by
 obtain⟨h1,h2,h3,h4⟩:=bX h
 obtain⟨A,hA⟩:=Int.eq_ofNat_of_zero_le h3
 subst hA
 have hA:A≤t.length:=by omega
 rw [Int.toNat_natCast]
 have e1:=tT t A h
 have e2:=uo (t.take A) u (t.drop A) (some 0) (some 1) (some 2) (by simp;omega)
 have hXl:(t.take A++u++t.drop A).length=t.length+u.length:=by simp;omega
 have e3:=Mj (t.take A++u++t.drop A) ((A:Int)+u.length) true (by omega)
 have q6:min A t.length=A:=by omega
 have q7:(A:Int)≤t.length:=by omega
 have q8:(t.drop A).take (t.length-A)=t.drop A:=List.take_of_length_le (by simp)
 have w:=bM ((A:Int)+u.length) (by omega)
 unfold zR
 by_cases hc:t.length+u.length≤400
 ·rw [if_pos hc]
  rw [if_pos ⟨rfl,(yY hc h2 hu hA).2 _ (by omega) (by omega)⟩]at e3
  generalize t.take A++u++t.drop A=X at*
  generalize hE:rD _ _ _=R
  simp [rD, -au,func250,f250,e1,e2,e3,q6,q7,q8,hA,w]at hE
  exact hE.symm
 ·rw [if_neg hc]
  have hb:bN (t.take A++u++t.drop A) ((A:Int)+u.length)=false:=by unfold bN dF;rw [decide_eq_false (by omega)];rfl
  rw [hb,if_neg (by simp)]at e3
  generalize t.take A++u++t.drop A=X at*
  generalize hE:rD _ _ _=R
  simp [rD, -au,func250,f250,e1,e2,e3,q6,q7,q8,hA,w]at hE
  exact hE.symm
theorem Rx (t:List Int)(a:Int)(h:bN t a=true)(f u:Int):BF [.agg [.aP (some 0) (ints t),vI a],vI f,vI u] [] []=some ⟨V.v (.bool (decide (0≤f∧f≤u∧u≤t.length))),[],[]⟩:=by
 have e1:=tT t a h
 unfold BF
 by_cases c1:0≤f
 ·by_cases c2:f≤u
  ·by_cases c3:u≤t.length<;>simp [func252,f252,e1,c1,c2,c3]
  ·simp [func252,f252,e1,c1,c2]
 ·simp [func252,f252,e1,c1]
theorem BR (t:List Int)(a:Int)(h:bN t a=true)(f nu:Nat)(h1:f≤nu)(h2:nu≤t.length):rF [.agg [.aP (some 0) (ints t),vI a],vI (f:Int),vI (nu:Int)] [] []=some ⟨.fK [.agg [.own 0,vI (cutAt a f nu)], .own 1,V.v (.bool true)],[],[(0,ints (t.take f++t.drop nu)),(1,ints ((t.drop f).take (nu-f)))]⟩:=by
 obtain⟨h3,h4,h5,h6⟩:=bX h
 have e1:=Rx t a h f nu
 rw [decide_eq_true ⟨by omega,by omega,by omega⟩]at e1
 have e2:=uo (t.take f) [] (t.drop nu) (some 0) (some 1) (some 2) (by simp;omega)
 have e3:=uo [] ((t.drop f).take (nu-f)) [] (some 0) (some 1) (some 2) (by simp;omega)
 simp only [List.append_nil,List.nil_append,bn]at e2 e3
 have q1:(f:Int)≤nu:=by omega
 have q2:(nu:Int)≤t.length:=by omega
 have q3:(f:Int)≤t.length:=by omega
 have q4:f≤t.length:=by omega
 have q9:(t.drop nu).take (t.length-nu)=t.drop nu:=List.take_of_length_le (by simp)
 have w1:=bM ((nu:Int)-f) (by omega)
 have w2:=bM (a-((nu:Int)-f)) (by omega)
 unfold cutAt
 generalize t.take f++t.drop nu=X at*
 generalize hE:rF _ _ _=R
 unfold rF at hE
 by_cases c1:(nu:Int)≤a
 ·rw [if_pos c1]
  simp [-au,func192,f192,e1,e2,e3,q1,q2,q3,q4,q9,w1,w2,c1,h1,h2]at hE
  exact hE.symm
 ·rw [if_neg c1]
  by_cases c2:(f:Int)<a
  ·rw [if_pos c2]
   simp [-au,func192,f192,e1,e2,e3,q1,q2,q3,q4,q9,c1,c2,h1,h2]at hE
   exact hE.symm
  ·rw [if_neg c2]
   simp [-au,func192,f192,e1,e2,e3,q1,q2,q3,q4,q9,c1,c2,h1,h2]at hE
   exact hE.symm
theorem Js {r lo hi:Int}(h:gY r lo hi=false):¬lo≤r∨(lo≤r∧¬r≤hi):=by
 by_cases c:lo≤r
 ·refine .inr ⟨c,fun q=>?_⟩
  rw [bA.2 ⟨c,q⟩]at h
  cases h
 ·exact .inl c
theorem FT (r:Int):kP [vI r] [] []=some ⟨vI (kV r),[],[]⟩:=by
 generalize hE:kP _ _ _=R
 unfold kP at hE
 unfold kV
 by_cases h1:r=9
 ·subst h1;simp [func254,f254]at hE;exact hE.symm
 by_cases h2:r=10
 ·subst h2;simp [func254,f254]at hE;exact hE.symm
 by_cases h3:r=32
 ·subst h3;simp [func254,f254]at hE;exact hE.symm
 rw [if_neg (by omega)]
 cases h4:gY r 97 122
 case true=>
  obtain⟨c1,c2⟩:=bA.1 h4
  rw [if_pos (.inl rfl)]
  simp [func254,f254,h1,h2,h3,c1,c2]at hE
  exact hE.symm
 cases h5:gY r 65 90
 case true=>
  obtain⟨c1,c2⟩:=bA.1 h5
  rw [if_pos (.inr (.inl rfl))]
  have c3:¬97≤r:=by omega
  simp [func254,f254,h1,h2,h3,c1,c2,c3]at hE
  exact hE.symm
 cases h6:gY r 48 57
 case true=>
  obtain⟨c1,c2⟩:=bA.1 h6
  rw [if_pos (.inr (.inr (.inl rfl)))]
  have c3:¬97≤r:=by omega
  have c4:¬65≤r:=by omega
  simp [func254,f254,h1,h2,h3,c1,c2,c3,c4]at hE
  exact hE.symm
 have e9:=aZ r
 have fin:∀c:Bool,(159<r→bS r=c)→(kP [vI r] [] []=some ⟨vI (if r=95∨(159<r∧c=true)then 1 else 2),[],[]⟩):=by
  intro c hc
  unfold kP
  have hq:159<r→oP [vI r] [] []=some ⟨V.v (.bool c),[],[]⟩:=fun q=>by rw [e9,hc q]
  rcases Js h4 with d1|⟨d1,d2⟩<;>rcases Js h5 with f1|⟨f1,f2⟩<;>rcases Js h6 with g1|⟨g1,g2⟩<;>(try omega)
  all_goals
   by_cases h7:r=95
   ·subst h7
    simp [func254,f254, *]
   ·by_cases h8:159<r
    ·have hq:=hq h8
     cases c<;>simp [func254,f254, *]
    ·simp [func254,f254, *]
 have:=fin (bS r) (fun _=>rfl)
 unfold kP at this
 rw [this]at hE
 rw [←hE]
 simp
theorem ad2 (t:List Int)(i:Option Nat)(a:Nat)(h:a≤t.length)(ht:t.length≤2000):Jj [.aP i (ints t),vI (a:Int)] [] []=some ⟨vI (((iq t a:Nat):Int)),[],[]⟩:=by
 have hc:∀j (h:j<t.length),kP [vI (t[j])] [] []=some ⟨vI (kV (t.getD j 0)),[],[]⟩:=fun j hj=>by rw [getD_at hj];exact FT _
 unfold iq
 generalize hcf:(fun j=>kV (t.getD j 0))=cf
 have QZ:∀j,kV (t.getD j 0)=cf j:=fun j=>by rw [←hcf]
 simp only [QZ]at hc⊢
 have Ry:=dh (a:Int) t.length (by omega)
 rw [show max 0 (min (a:Int) t.length)=a by omega]at Ry
 obtain⟨k1,k2,k3⟩:=cB (fun j=>decide (¬cf (a+j)=1)) (t.length-a)
 generalize gK (fun j=>decide (¬cf (a+j)=1)) (t.length-a)=k at*
 obtain⟨n1,n2,n3⟩:=cB (fun j=>decide (cf (a+k+j)=1)) (t.length-(a+k))
 generalize gK (fun j=>decide (cf (a+k+j)=1)) (t.length-(a+k))=m at*
 have Gg:∀m n:Nat,0≤(m:Int)+n∧((m:Int)+n).toNat=m+n:=fun m n=>⟨by omega,by omega⟩
 have tn3:∀m n p:Nat,0≤(m:Int)+n+p∧((m:Int)+n+p).toNat=m+n+p:=fun m n p=>⟨by omega,by omega⟩
 simp [Jj,func194,f194,Ry]
 rw [aJ (fun j=> .on ⟨[(1,V.v (.int .i64 (((a+j:Nat):Int)))),(0, .aP i (ints t))],[],[],[]⟩) k ?_ ?_]
 ·have st1:∀j,j<m→a+k+j<t.length∧cf (a+k+j)=1:=fun j hj=>⟨by omega,of_decide_eq_true (n2 j hj)⟩
  have hend:a+k=t.length∨(a+k<t.length∧cf (a+k)=1):=by
   rcases k3 with k3|k3
   ·exact .inl (by omega)
   ·by_cases q:a+k=t.length
    ·exact .inl q
    ·exact .inr ⟨by omega,by simpa using of_decide_eq_false k3⟩
  have hfin:a+k+m=t.length∨(a+k+m<t.length∧¬cf (a+k+m)=1):=by
   rcases n3 with n3|n3
   ·exact .inl (by omega)
   ·by_cases q:a+k+m=t.length
    ·exact .inl q
    ·exact .inr ⟨by omega,of_decide_eq_false n3⟩
  rcases hend with q|⟨q,q1⟩
  ·have q2:(a:Int)+k=t.length:=by omega
   have hm:m=0:=by omega
   subst hm
   simp [q,q2]
   rw [bL]
   simp
  ·have q2:(a:Int)+k<t.length:=by omega
   have e1:=hc (a+k) q
   rw [q1]at e1
   simp [q,q2,aO q,e1,Gg]
   rw [aJ (fun j=> .on ⟨[(1,V.v (.int .i64 (((a+k+j:Nat):Int)))),(0, .aP i (ints t))],[],[],[]⟩) m ?_ ?_]
   ·rcases hfin with r|⟨r,r1⟩
    ·have r2:(a:Int)+k+m=t.length:=by omega
     simp [r,r2]
    ·have r2:(a:Int)+k+m<t.length:=by omega
     have e2:=hc (a+k+m) r
     simp [r,r2,aO r,e2,r1,tn3]
   ·simp
   ·intro j hj
    obtain⟨s1,s2⟩:=st1 j hj
    have s3:(a:Int)+k+j<t.length:=by omega
    have e2:=hc (a+k+j) s1
    have hw:=bM ((a:Int)+k+(j+1)) (by omega)
    have hs:(a:Int)+k+j+1=(a:Int)+k+(j+1):=by omega
    simp [s1,s3,aO s1,e2,s2,hw,hs,Gg,tn3]
 ·simp
 ·intro j hj
  have s1:a+j<t.length:=by omega
  have s3:(a:Int)+j<t.length:=by omega
  have e2:=hc (a+j) s1
  have s2:¬cf (a+j)=1:=of_decide_eq_true (k2 j hj)
  have hw:=bM ((a:Int)+(j+1)) (by omega)
  have hs:(a:Int)+j+1=(a:Int)+(j+1):=by omega
  simp [s1,s3,aO s1,e2,s2,hw,hs,Gg,tn3]
theorem YW (t:List Int)(i:Option Nat)(a:Nat)(h:a≤t.length)(ht:t.length≤2000):Cy [.aP i (ints t),vI (a:Int)] [] []=some ⟨vI (((fq t a:Nat):Int)),[],[]⟩:=by
 have hc:∀j (h:j<t.length),kP [vI (t[j])] [] []=some ⟨vI (kV (t.getD j 0)),[],[]⟩:=fun j hj=>by rw [getD_at hj];exact FT _
 unfold fq
 generalize hcf:(fun j=>kV (t.getD j 0))=cf
 have QZ:∀j,kV (t.getD j 0)=cf j:=fun j=>by rw [←hcf]
 simp only [QZ]at hc⊢
 have Ry:=dh (a:Int) t.length (by omega)
 rw [show max 0 (min (a:Int) t.length)=a by omega]at Ry
 have idx:=L9 h ht
 obtain⟨k1,k2,k3⟩:=cB (fun j=>decide (¬cf (a-j-1)=1)) a
 generalize gK (fun j=>decide (¬cf (a-j-1)=1)) a=k at*
 obtain⟨n1,n2,n3⟩:=cB (fun j=>decide (cf (a-k-j-1)=1)) (a-k)
 generalize gK (fun j=>decide (cf (a-k-j-1)=1)) (a-k)=m at*
 simp [Cy,func195,f195,Ry]
 rw [aJ (fun j=> .on ⟨[(1,V.v (.int .i64 (((a-j:Nat):Int)))),(0, .aP i (ints t))],[],[],[]⟩) k ?_ ?_]
 ·rcases k3 with k3|k3
  ·subst k3
   have hm:m=0:=by omega
   subst hm
   simp
   rw [bL]
   simp
  ·by_cases q0:k=a
   ·subst q0
    have hm:m=0:=by omega
    subst hm
    simp
    rw [bL]
    simp
   have q1:cf (a-k-1)=1:=by simpa using of_decide_eq_false k3
   have hpos:0<a-k:=by omega
   have hm2:∀j,j<m→cf (a-k-j-1)=1:=fun j hj=>of_decide_eq_true (n2 j hj)
   have hm3:m=a-k∨¬cf (a-k-m-1)=1:=n3.imp _root_.id of_decide_eq_false
   have hle:a-k≤a:=by omega
   generalize a-k=n at*
   obtain⟨i1,i2,i3,i4,i5,i6,i7,i8,i9⟩:=idx n hle hpos
   have e1:=hc (n-1) i1
   rw [q1]at e1
   simp [i1,i2,i3,i6,i7,i8,i9,hpos,aO i1,e1]
   rw [aJ (fun j=> .on ⟨[(1,V.v (.int .i64 (((n-j:Nat):Int)))),(0, .aP i (ints t))],[],[],[]⟩) m ?_ ?_]
   ·by_cases r:m=n
    ·subst r;simp
    ·have hp2:0<n-m:=by omega
     have r1:=hm3.resolve_left r
     have hle2:n-m≤a:=by omega
     generalize n-m=p at*
     obtain⟨i1,i2,i3,i4,i5,i6,i7,i8,i9⟩:=idx p hle2 hp2
     have e2:=hc (p-1) i1
     simp [i1,i2,i3,i6,i7,i8,i9,hp2,aO i1,e2,r1]
   ·simp
   ·intro j hj
    have hp2:0<n-j:=by omega
    have r1:=hm2 j hj
    have hle2:n-j≤a:=by omega
    have hs:n-(j+1)=n-j-1:=by omega
    rw [hs]
    generalize n-j=p at*
    obtain⟨i1,i2,i3,i4,i5,i6,i7,i8,i9⟩:=idx p hle2 hp2
    have e2:=hc (p-1) i1
    simp [i1,i2,i3,i4,i6,i7,i8,i9,hp2,aO i1,e2,r1]
 ·simp
 ·intro j hj
  have hp2:0<a-j:=by omega
  have r1:¬cf (a-j-1)=1:=of_decide_eq_true (k2 j hj)
  have hle2:a-j≤a:=by omega
  have hs:a-(j+1)=a-j-1:=by omega
  rw [hs]
  generalize a-j=p at*
  obtain⟨i1,i2,i3,i4,i5,i6,i7,i8,i9⟩:=idx p hle2 hp2
  have e2:=hc (p-1) i1
  simp [i1,i2,i3,i4,i6,i7,i8,i9,hp2,aO i1,e2,r1]
theorem YX (r:Int)(big:Bool):tL [vI r,V.v (.bool big)] [] []=some ⟨vI (agY big r),[],[]⟩:=by
 have e:=FT r
 unfold tL agY
 generalize kV r=c at*
 cases big
 ·simp [func278,f278,e]
 ·by_cases h2:c=2
  ·simp [func278,f278,e,h2]
  ·simp [func278,f278,e,h2]
theorem Dq (t:List Int)(j:Nat)(big:Bool)(hj:j<t.length):tL [vI (t[j]),V.v (.bool big)] [] []=some ⟨vI (dw t big j),[],[]⟩:=by
 unfold dw
 rw [getD_at hj]
 exact YX _ _
theorem JX (t:List Int)(i:Option Nat)(a:Nat)(big:Bool)(h:a≤t.length)(ht:t.length≤2000):pV [.aP i (ints t),vI (a:Int),V.v (.bool big)] [] []=some ⟨vI (((lG t big a:Nat):Int)),[],[]⟩:=by
 have hc:=fun j (hj:j<t.length)=>Dq t j big hj
 have Ry:=dh (a:Int) t.length (by omega)
 rw [show max 0 (min (a:Int) t.length)=a by omega]at Ry
 have idx:=L9 h ht
 unfold lG
 obtain⟨k1,k2,k3⟩:=cB (fun j=>decide (dw t big (a-j-1)=0)) a
 generalize gK (fun j=>decide (dw t big (a-j-1)=0)) a=k at*
 have hk2:∀j,j<k→dw t big (a-j-1)=0:=fun j hj=>of_decide_eq_true (k2 j hj)
 simp only
 by_cases hka:k=a
 ·rw [hka,Nat.sub_self,show gK (fun j=>decide (dw t big (0-j-1)=dw t big (0-1))) 0=0 from rfl]
  simp [pV,func246,f246,Ry]
  rw [aJ (fun j=> .on ⟨[(2,V.v (.bool big)),(1,V.v (.int .i64 (((a-j:Nat):Int)))),(0, .aP i (ints t))],[],[],[]⟩) k ?_ ?_]
  ·subst hka;simp
  ·simp
  ·intro j hj
   have hp2:0<a-j:=by omega
   have r1:=hk2 j hj
   have hle2:a-j≤a:=by omega
   have hs:a-(j+1)=a-j-1:=by omega
   rw [hs]
   generalize a-j=p at*
   obtain⟨i1,i2,i3,i4,i5,i6,i7,i8,i9⟩:=idx p hle2 hp2
   have e2:=hc (p-1) i1
   simp [i1,i2,i3,i4,i6,i7,i8,i9,aO i1,e2,r1,hp2]
 ·have k4:¬dw t big (a-k-1)=0:=of_decide_eq_false (k3.resolve_left hka)
  have hn0:0<a-k:=by omega
  have ah4:a-k≤a:=by omega
  simp [pV,func246,f246,Ry]
  rw [aJ (fun j=> .on ⟨[(2,V.v (.bool big)),(1,V.v (.int .i64 (((a-j:Nat):Int)))),(0, .aP i (ints t))],[],[],[]⟩) k ?_ ?_]
  ·generalize a-k=n at*
   obtain⟨n1,n2,n3⟩:=cB (fun j=>decide (dw t big (n-j-1)=dw t big (n-1))) n
   generalize gK (fun j=>decide (dw t big (n-j-1)=dw t big (n-1))) n=m at*
   have hm2:∀j,j<m→dw t big (n-j-1)=dw t big (n-1):=fun j hj=>of_decide_eq_true (n2 j hj)
   have hm3:m=n∨¬dw t big (n-m-1)=dw t big (n-1):=n3.imp _root_.id of_decide_eq_false
   obtain⟨i1,i2,i3,i4,i5,i6,i7,i8,i9⟩:=idx n ah4 hn0
   have e1:=hc (n-1) i1
   have hnz:¬n=0:=by omega
   simp [i1,i2,i3,i4,i5,i6,i7,i8,i9,aO i1,e1,k4,hn0,hnz]
   rw [aJ (fun j=> .on ⟨[(7,V.v (.int .i64 (dw t big (n-1)))),(2,V.v (.bool big)),(1,V.v (.int .i64 (((n-j:Nat):Int)))),(0, .aP i (ints t))],[],[],[]⟩) m ?_ ?_]
   ·by_cases r:m=n
    ·subst r;simp
    ·have hp2:0<n-m:=by omega
     have r1:=hm3.resolve_left r
     have hle2:n-m≤a:=by omega
     generalize n-m=p at*
     obtain⟨i1,i2,i3,i4,i5,i6,i7,i8,i9⟩:=idx p hle2 hp2
     have e2:=hc (p-1) i1
     simp [i1,i2,i3,i4,i6,i7,i8,i9,aO i1,e2,r1,hp2]
   ·simp
   ·intro j hj
    have hp2:0<n-j:=by omega
    have r1:=hm2 j hj
    have hle2:n-j≤a:=by omega
    have hs:n-(j+1)=n-j-1:=by omega
    rw [hs]
    generalize n-j=p at*
    obtain⟨i1,i2,i3,i4,i5,i6,i7,i8,i9⟩:=idx p hle2 hp2
    have e2:=hc (p-1) i1
    simp [i1,i2,i3,i4,i6,i7,i8,i9,aO i1,e2,r1,hp2]
  ·simp
  ·intro j hj
   have hp2:0<a-j:=by omega
   have r1:=hk2 j hj
   have hle2:a-j≤a:=by omega
   have hs:a-(j+1)=a-j-1:=by omega
   rw [hs]
   generalize a-j=p at*
   obtain⟨i1,i2,i3,i4,i5,i6,i7,i8,i9⟩:=idx p hle2 hp2
   have e2:=hc (p-1) i1
   simp [i1,i2,i3,i4,i6,i7,i8,i9,aO i1,e2,r1,hp2]
theorem YZ (t:List Int)(i:Option Nat)(a:Nat)(big:Bool)(h:a≤t.length)(ht:t.length≤2000):wH [.aP i (ints t),vI (a:Int),V.v (.bool big)] [] []=some ⟨vI (((FK t big a:Nat):Int)),[],[]⟩:=by
 have hc:=fun j (hj:j<t.length)=>Dq t j big hj
 have Ry:=dh (a:Int) t.length (by omega)
 rw [show max 0 (min (a:Int) t.length)=a by omega]at Ry
 have Gg:∀m n:Nat,0≤(m:Int)+n∧((m:Int)+n).toNat=m+n:=fun m n=>⟨by omega,by omega⟩
 unfold FK
 by_cases h0:a<t.length
 ·have h0i:(a:Int)<t.length:=by omega
  have h0n:¬(a:Int)=t.length:=by omega
  have h0m:¬a=t.length:=by omega
  have e0:=hc a h0
  by_cases hz:dw t big a=0
  ·rw [if_neg (fun e=>e.2 hz)]
   simp only
   obtain⟨k1,k2,k3⟩:=cB (fun j=>decide (dw t big (a+j)=0)) (t.length-a)
   generalize gK (fun j=>decide (dw t big (a+j)=0)) (t.length-a)=k at*
   rw [hz]at e0
   simp [wH,func292,f292,Ry,h0n,h0m,h0i,h0,aO h0,e0]
   rw [bL]
   simp [h0i,h0]
   rw [aJ (fun j=> .on ⟨[(2,V.v (.bool big)),(1,V.v (.int .i64 (((a+j:Nat):Int)))),(0, .aP i (ints t))],[],[],[]⟩) k ?_ ?_]
   ·by_cases q:a+k=t.length
    ·have q2:(a:Int)+k=t.length:=by omega
     simp [q,q2]
    ·have hq:a+k<t.length:=by omega
     have hq2:(a:Int)+k<t.length:=by omega
     have e1:=hc (a+k) hq
     have h3':¬dw t big (a+k)=0:=of_decide_eq_false (k3.resolve_left (by omega))
     simp [hq,hq2,Gg,aO hq,e1,h3']
   ·simp
   ·intro j hj
    have hq:a+j<t.length:=by omega
    have hq2:(a:Int)+j<t.length:=by omega
    have e1:=hc (a+j) hq
    have h2':dw t big (a+j)=0:=of_decide_eq_true (k2 j hj)
    have hw:=bM ((a:Int)+(j+1)) (by omega)
    have hs:(a:Int)+j+1=(a:Int)+(j+1):=by omega
    simp [hq,hq2,Gg,aO hq,e1,h2',hw,hs]
  ·rw [if_pos ⟨h0,hz⟩]
   unfold xG
   obtain⟨m1,m2,m3⟩:=cB (fun j=>decide (dw t big (a+j)=dw t big a)) (t.length-a)
   generalize gK (fun j=>decide (dw t big (a+j)=dw t big a)) (t.length-a)=m at*
   generalize hb:a+m=b at*
   obtain⟨k1,k2,k3⟩:=cB (fun j=>decide (dw t big (b+j)=0)) (t.length-b)
   simp only
   generalize gK (fun j=>decide (dw t big (b+j)=0)) (t.length-b)=k at*
   simp [wH,func292,f292,Ry,h0n,h0m,h0i,h0,aO h0,e0]
   rw [aJ (fun j=> .on ⟨[(7,V.v (.int .i64 (dw t big a))),(2,V.v (.bool big)),(1,V.v (.int .i64 (((a+j:Nat):Int)))),(0, .aP i (ints t))],[],[],[]⟩) m ?_ ?_]
   ·have hst:(a:Int)+m=b:=by omega
    have hbl:b≤t.length:=by omega
    have next:b=t.length∨(b<t.length∧¬dw t big b=dw t big a):=by
     rcases m3 with m3|m3
     ·exact .inl (by omega)
     ·by_cases q:b=t.length
      ·exact .inl q
      ·exact .inr ⟨by omega,of_decide_eq_false m3⟩
    clear m1 m2 m3 hb
    generalize dw t big a=ca at*
    rcases next with rfl|⟨q,q1⟩
    ·have hk0:k=0:=by omega
     subst hk0
     simp [hst]
     rw [bL]
     simp
    ·have q2:(b:Int)<t.length:=by omega
     have e1:=hc b q
     simp [hst,q,q2,hz,aO q,e1,q1]
     rw [aJ (fun j=> .on ⟨[(2,V.v (.bool big)),(1,V.v (.int .i64 (((b+j:Nat):Int)))),(0, .aP i (ints t))],[],[],[]⟩) k ?_ ?_]
     ·by_cases q:b+k=t.length
      ·have q2:(b:Int)+k=t.length:=by omega
       simp [q,q2]
      ·have hq:b+k<t.length:=by omega
       have hq2:(b:Int)+k<t.length:=by omega
       have e1:=hc (b+k) hq
       have h3':¬dw t big (b+k)=0:=of_decide_eq_false (k3.resolve_left (by omega))
       simp [hq,hq2,Gg,aO hq,e1,h3']
     ·simp
     ·intro j hj
      have hq:b+j<t.length:=by omega
      have hq2:(b:Int)+j<t.length:=by omega
      have e1:=hc (b+j) hq
      have h2':dw t big (b+j)=0:=of_decide_eq_true (k2 j hj)
      have hw:=bM ((b:Int)+(j+1)) (by omega)
      have hs:(b:Int)+j+1=(b:Int)+(j+1):=by omega
      simp [hq,hq2,Gg,aO hq,e1,h2',hw,hs]
   ·simp
   ·intro j hj
    have hq:a+j<t.length:=by omega
    have hq2:(a:Int)+j<t.length:=by omega
    have e1:=hc (a+j) hq
    have h2':dw t big (a+j)=dw t big a:=of_decide_eq_true (m2 j hj)
    have hw:=bM ((a:Int)+(j+1)) (by omega)
    have hs:(a:Int)+j+1=(a:Int)+(j+1):=by omega
    rw [h2']at e1
    simp [hq,hq2,hz,Gg,aO hq,e1,hw,hs]
 ·have ha:a=t.length:=by omega
  rw [if_neg (fun e=>h0 e.1)]
  simp only
  rw [ha,Nat.sub_self,show gK (fun j=>decide (dw t big (t.length+j)=0)) 0=0 from rfl]
  rw [ha]at Ry
  simp [wH,func292,f292,Ry]
theorem WB (t:List Int)(i:Option Nat)(a:Nat)(big:Bool)(h:a≤t.length)(ht:t.length≤2000):xE [.aP i (ints t),vI (a:Int),V.v (.bool big)] [] []=some ⟨vI (((xH t big a:Nat):Int)),[],[]⟩:=by
 have hc:=fun j (hj:j<t.length)=>Dq t j big hj
 have Ry:=dh (a:Int) t.length (by omega)
 rw [show max 0 (min (a:Int) t.length)=a by omega]at Ry
 have w1:=bM ((a:Int)+1) (by omega)
 have w2:=bM ((t.length:Int)-1) (by omega)
 have e3:=dh ((t.length:Int)-1) t.length (by omega)
 have tn3:∀m n:Nat,0≤(m:Int)+1+n∧((m:Int)+1+n).toNat=m+1+n:=fun m n=>⟨by omega,by omega⟩
 have Gg:∀m n:Nat,0≤(m:Int)+n∧((m:Int)+n).toNat=m+n:=fun m n=>⟨by omega,by omega⟩
 unfold xH
 by_cases h0:t.length=0
 ·rw [if_pos h0]
  have:t= []:=List.length_eq_zero_iff.1 h0
  subst this
  have ha0:a=0:=by simpa using h
  subst ha0
  have e3:=dh (-1) 0 (by omega)
  rw [show max 0 (min (-1) (0:Int))=0 by omega]at e3
  have w2:=bM (-1) (by omega)
  simp at Ry
  simp [xE,func293,f293,bn,Ry,w2]
  rw [bL]
  simp [e3,w2]
 rw [if_neg h0]
 obtain⟨k1,k2,k3⟩:=cB (fun j=>decide (dw t big (a+1+j)=0)) (t.length-(a+1))
 generalize gK (fun j=>decide (dw t big (a+1+j)=0)) (t.length-(a+1))=k at*
 rw [show max 0 (min ((t.length:Int)-1) t.length)=((t.length-1:Nat):Int) by omega]at e3
 simp only
 simp [xE,func293,f293,Ry,w1]
 rw [aJ (fun j=> .on ⟨[(2,V.v (.bool big)),(1,V.v (.int .i64 (((a+1+j:Nat):Int)))),(0, .aP i (ints t))],[],[],[]⟩) k ?_ ?_]
 ·by_cases q:t.length≤a+1+k
  ·have q2:¬(a:Int)+1+k<t.length:=by omega
   have q2n:¬a+1+k<t.length:=by omega
   have q3:(t.length:Int)≤(a:Int)+1+k:=by omega
   rw [if_pos q]
   simp [q2,q2n,q,q3,w2,e3]
  ·rw [if_neg q]
   have hq:a+1+k<t.length:=by omega
   have hq2:(a:Int)+1+k<t.length:=by omega
   have hq3:¬(t.length:Int)≤(a:Int)+1+k:=by omega
   have e1:=hc (a+1+k) hq
   have h3':¬dw t big (a+1+k)=0:=of_decide_eq_false (k3.resolve_left (by omega))
   unfold xG
   generalize hb:a+1+k=b at*
   have hbi:(a:Int)+1+k=b:=by omega
   obtain⟨m1,m2,m3⟩:=cB (fun j=>decide (dw t big (b+j)=dw t big b)) (t.length-b)
   generalize gK (fun j=>decide (dw t big (b+j)=dw t big b)) (t.length-b)=m at*
   have hm1:1≤m:=by
    rcases m3 with m3|m3
    ·omega
    ·cases m with
     | zero=>simp at m3
     | succ m=>omega
   obtain⟨m,rfl⟩:∃p,m=p+1:=⟨m-1,by omega⟩
   rw [show ((b+(m+1)-1:Nat):Int)=(b:Int)+m by omega]
   rw [hbi]at hq2 hq3
   simp [hbi,hq,hq2,hq3,q,aO hq,e1,h3']
   rw [aJ (fun j=> .on ⟨[(7,V.v (.int .i64 (dw t big b))),(2,V.v (.bool big)),(1,V.v (.int .i64 (((b+j:Nat):Int)))),(0, .aP i (ints t))],[],[],[]⟩) m ?_ ?_]
   ·have w4:=bM ((b:Int)+m+1) (by omega)
    rcases m3 with m3|m3
    ·have r2:(b:Int)+m+1=t.length:=by omega
     have r3:¬b+m+1<t.length:=by omega
     have w5:=bM (t.length:Int) (by omega)
     simp [w5,r2,r3]
    ·by_cases r:b+m+1<t.length
     ·have r2:(b:Int)+m+1<t.length:=by omega
      have r5:0≤(b:Int)+m+1:=by omega
      have r6:((b:Int)+m+1).toNat=b+m+1:=by omega
      have r4:¬dw t big (b+m+1)=dw t big b:=of_decide_eq_false m3
      have e2:=hc (b+m+1) r
      simp [w4,r,r2,r5,r6,aO r,e2,r4]
     ·have r2:¬(b:Int)+m+1<t.length:=by omega
      simp [w4,r,r2]
   ·simp
   ·intro j hj
    have w4:=bM ((b:Int)+j+1) (by omega)
    have r:b+j+1<t.length:=by omega
    have r2:(b:Int)+j+1<t.length:=by omega
    have r5:0≤(b:Int)+j+1:=by omega
    have r6:((b:Int)+j+1).toNat=b+j+1:=by omega
    have r4:dw t big (b+j+1)=dw t big b:=of_decide_eq_true (m2 (j+1) (by omega))
    have e2:=hc (b+j+1) r
    have hs:(b:Int)+(j+1)=(b:Int)+j+1:=by omega
    simp [w4,r,r2,r5,r6,aO r,e2,r4,hs]
 ·simp
 ·intro j hj
  have hq:a+1+j<t.length:=by omega
  have hq2:(a:Int)+1+j<t.length:=by omega
  have e1:=hc (a+1+j) hq
  have h2':dw t big (a+1+j)=0:=of_decide_eq_true (k2 j hj)
  have hw:=bM ((a:Int)+1+(j+1)) (by omega)
  have hs:(a:Int)+1+j+1=(a:Int)+1+(j+1):=by omega
  simp [hq,hq2,tn3,aO hq,e1,h2',hw,hs]
theorem ad3 {t:List Int}{k:Nat}(h0:1≤k)(h:k<t.length):∃p x y q,t=p++x::y::q∧p.length=k-1:=by
 refine⟨t.take (k-1),t[k-1],t[k],t.drop (k+1),?_,by simp;omega⟩
 have e1:t.drop (k-1)=t[k-1]::t.drop (k-1+1):=List.drop_eq_getElem_cons (by omega)
 have e2:t.drop k=t[k]::t.drop (k+1):=List.drop_eq_getElem_cons h
 rw [show k-1+1=k by omega,e2]at e1
 rw [←e1,List.take_append_drop]
theorem abk {t:List Int}{k:Nat}(h0:1≤k)(h:k<t.length):t.take (k-1)++(t.drop k).take 1++(t.drop (k-1)).take 1++t.drop (k+1)=swapAt t k:=by
 obtain⟨p,x,y,q,rfl,hp⟩:=ad3 h0 h
 have hk:k=p.length+1:=by omega
 subst hk
 unfold swapAt
 have d1:p.drop (p.length+1)= []:=List.drop_eq_nil_of_le (by omega)
 have d2:p.drop (p.length+1+1)= []:=List.drop_eq_nil_of_le (by omega)
 have d3:p.length+1-p.length=1:=by omega
 have d4:p.length+1+1-p.length=2:=by omega
 simp [List.take_append,List.drop_append,List.getD_eq_getElem?_getD,List.getElem?_append,List.set_append,d1,d2,d3,d4]
theorem Y0 (t:List Int)(a:Int)(h:bN t a=true)(h2:2≤t.length)(k:Nat)(hk:(k:Int)=min a (t.length-1))(hk0:1≤k):tN [.agg [.aP (some 0) (ints t),vI a]] [] []=some ⟨.fK [.agg [.own 0,vI ((k:Int)+1)],V.v (.bool true)],[],[(0,ints (swapAt t k))]⟩:=by
 obtain⟨h3,h4,h5,h6⟩:=bX h
 have e1:=tT t a h
 have hkl:k<t.length:=by omega
 have e2:=uo (t.take (k-1)) ((t.drop k).take 1) ((t.drop (k-1)).take 1) (some 0) (some 1) (some 2) (by simp;omega)
 have e3:=uo (t.take (k-1)++(t.drop k).take 1++(t.drop (k-1)).take 1) (t.drop (k+1)) [] (some 0) (some 1) (some 2) (by simp;omega)
 rw [List.append_nil,abk hk0 hkl,bn]at e3
 generalize t.take (k-1)++(t.drop k).take 1++(t.drop (k-1)).take 1=X at*
 generalize swapAt t k=Z at*
 have a0:¬a=0:=by omega
 have l2:¬(t.length:Int)<2:=by omega
 have w0:=bM ((t.length:Int)-1) (by omega)
 have w1:=bM ((k:Int)-1) (by omega)
 have w2:=bM ((k:Int)+1) (by omega)
 have q1:((k:Int)-1).toNat=k-1:=by omega
 have q2:((k:Int)+1).toNat=k+1:=by omega
 have q3:1≤(k:Int):=by omega
 have q4:(k:Int)-1≤t.length:=by omega
 have q5:(k:Int)≤(k:Int)+1:=by omega
 have q6:(k:Int)+1≤t.length:=by omega
 have q7:(k:Int)-1≤k:=by omega
 have q8:(k:Int)≤t.length:=by omega
 have q9:k+1-k=1:=by omega
 have qa:k-(k-1)=1:=by omega
 have qb:(t.drop (k+1)).take (t.length-(k+1))=t.drop (k+1):=List.take_of_length_le (by simp)
 have qc:0≤(k:Int)+1:=by omega
 generalize hE:tN _ _ _=R
 unfold tN at hE
 by_cases hc:a=t.length
 ·have hk2:(t.length:Int)-1=k:=by omega
  rw [hc]at hE e1
  have w3:=bM (k:Int) (by omega)
  have ht0:¬t= []:=fun q=>by rw [q]at h2;simp at h2
  simp [-au,func198,f198,ht0,w3,e1,e2,e3,l2,w0,hk2,w1,w2,q1,q2,q3,q4,q5,q6,q7,q8,q9,qa,qb,qc]at hE
  exact hE.symm
 ·have hk2:a=k:=by omega
  subst hk2
  have hc2:¬(k:Int)=t.length:=hc
  have k0:¬k=0:=by omega
  have hc3:¬k=t.length:=by omega
  simp [-au,func198,f198,e1,e2,e3,l2,k0,hc2,hc3,w1,w2,q1,q2,q3,q4,q5,q6,q7,q8,q9,qa,qb,qc]at hE
  exact hE.symm
set_option maxHeartbeats 16000000
set_option maxRecDepth 100000
theorem acC (vi:Bool)(mode:Int)(lt:List Int)(la cnt op uV wt fr fh last:Int)(rp:List eT)(ul:List iG)(zX:Int)(ot:List Int)(oa:Int)(q:List Int)(hit:Int)(bt:List Int)(ba:Int)(h1:lt.length≤1000000000)(h2:ot.length≤1000000000)(h3:bt.length≤1000000000)(h4:q.length≤1000000000)(h5:smL (aC rp)=true)(h6:smL (aS ul)=true):sI [.agg [V.v (.bool vi),vI mode, .aP (some 0) (ints lt),vI la,vI cnt,vI op,vI uV,vI wt,vI fr,vI fh,vI last, .aP (some 1) (aC rp), .aP (some 2) (aS ul),vI zX, .aP (some 3) (ints ot),vI oa, .aP (some 4) (ints q),vI hit, .aP (some 5) (ints bt),vI ba]] [] []=some ⟨V.v (.bool (fQ vi mode lt la cnt op uV wt fr fh last rp ul zX ot oa q hit bt ba)),[],[]⟩:=by
 unfold sI
 cases x1:bN lt la
 ·skip
  simp [func69,f69,fQ,dI,dA,h1,h2,h3,h5,h6,dz,dK,dL,aD,aZ,x1]
 cases x2:bN ot oa
 ·skip
  simp [func69,f69,fQ,dI,dA,h1,h2,h3,h5,h6,dz,dK,dL,aD,aZ,x1,x2]
 cases x3:bN bt ba
 ·skip
  simp [func69,f69,fQ,dI,dA,h1,h2,h3,h5,h6,dz,dK,dL,aD,aZ,x1,x2,x3]
 cases x4:eU vi mode lt la op uV wt
 ·skip
  simp [func69,f69,fQ,dI,dA,h1,h2,h3,h5,h6,dz,dK,dL,aD,aZ,x1,x2,x3,x4]
 cases x5:fu mode q hit bt ba
 ·skip
  simp [func69,f69,fQ,dI,dA,h1,h2,h3,h5,h6,dz,dK,dL,aD,aZ,x1,x2,x3,x4,x5]
 by_cases x6:cnt<0
 ·have x8:gY cnt 0 999=false:=oF (by rw [bA];omega)
  simp [func69,f69,fQ,dI,dA,h1,h2,h3,h5,h6,dz,dK,dL,aD,aZ,x1,x2,x3,x4,x5,x6,x8]
 by_cases x7:999<cnt
 ·have x8:gY cnt 0 999=false:=oF (by rw [bA];omega)
  simp [func69,f69,fQ,dI,dA,h1,h2,h3,h5,h6,dz,dK,dL,aD,aZ,x1,x2,x3,x4,x5,x6,x7,x8]
 have x8:gY cnt 0 999=true:=bA.2 (by omega)
 by_cases x9:uV<0
 ·have Jt:gY uV 0 999=false:=oF (by rw [bA];omega)
  simp [func69,f69,fQ,dI,dA,h1,h2,h3,h5,h6,dz,dK,dL,aD,aZ,x1,x2,x3,x4,x5,x6,x7,x8,x9,Jt]
 by_cases KH:999<uV
 ·have Jt:gY uV 0 999=false:=oF (by rw [bA];omega)
  simp [func69,f69,fQ,dI,dA,h1,h2,h3,h5,h6,dz,dK,dL,aD,aZ,x1,x2,x3,x4,x5,x6,x7,x8,x9,KH,Jt]
 have Jt:gY uV 0 999=true:=bA.2 (by omega)
 by_cases KO:last<0
 ·have JY:gY last 0 3=false:=oF (by rw [bA];omega)
  simp [func69,f69,fQ,dI,dA,h1,h2,h3,h5,h6,dz,dK,dL,aD,aZ,x1,x2,x3,x4,x5,x6,x7,x8,x9,KH,Jt,KO,JY]
 by_cases Mk:3<last
 ·have JY:gY last 0 3=false:=oF (by rw [bA];omega)
  simp [func69,f69,fQ,dI,dA,h1,h2,h3,h5,h6,dz,dK,dL,aD,aZ,x1,x2,x3,x4,x5,x6,x7,x8,x9,KH,Jt,KO,Mk,JY]
 have JY:gY last 0 3=true:=bA.2 (by omega)
 cases Mr:eZ rp
 ·skip
  simp [func69,f69,fQ,dI,dA,h1,h2,h3,h5,h6,dz,dK,dL,aD,aZ,x1,x2,x3,x4,x5,x6,x7,x8,x9,KH,Jt,KO,Mk,JY,Mr]
 cases Nj:jB ul
 ·skip
  simp [func69,f69,fQ,dI,dA,h1,h2,h3,h5,h6,dz,dK,dL,aD,aZ,x1,x2,x3,x4,x5,x6,x7,x8,x9,KH,Jt,KO,Mk,JY,Mr,Nj]
 by_cases f0:fr=0
 ·subst f0
  by_cases f1:fh=0
  rotate_left
  ·skip
   simp [func69,f69,fQ,dI,dA,h1,h2,h3,h5,h6,dz,dK,dL,aD,aZ,x1,x2,x3,x4,x5,x6,x7,x8,x9,KH,Jt,KO,Mk,JY,Mr,Nj,f1]
  subst f1
  by_cases x17:zX<0
  ·have x19:gY zX 0 1000000060=false:=oF (by rw [bA];omega)
   simp [func69,f69,fQ,dI,dA,h1,h2,h3,h5,h6,dz,dK,dL,aD,aZ,x1,x2,x3,x4,x5,x6,x7,x8,x9,KH,Jt,KO,Mk,JY,Mr,Nj,x17,x19]
  by_cases x18:1000000060<zX
  ·have x19:gY zX 0 1000000060=false:=oF (by rw [bA];omega)
   simp [func69,f69,fQ,dI,dA,h1,h2,h3,h5,h6,dz,dK,dL,aD,aZ,x1,x2,x3,x4,x5,x6,x7,x8,x9,KH,Jt,KO,Mk,JY,Mr,Nj,x17,x18,x19]
  have x19:gY zX 0 1000000060=true:=bA.2 (by omega)
  by_cases x20:hit<0
  ·have x22:gY hit 0 1000000060=false:=oF (by rw [bA];omega)
   simp [func69,f69,fQ,dI,dA,h1,h2,h3,h5,h6,dz,dK,dL,aD,aZ,x1,x2,x3,x4,x5,x6,x7,x8,x9,KH,Jt,KO,Mk,JY,Mr,Nj,x17,x18,x19,x20,x22]
  by_cases x21:1000000060<hit
  ·have x22:gY hit 0 1000000060=false:=oF (by rw [bA];omega)
   simp [func69,f69,fQ,dI,dA,h1,h2,h3,h5,h6,dz,dK,dL,aD,aZ,x1,x2,x3,x4,x5,x6,x7,x8,x9,KH,Jt,KO,Mk,JY,Mr,Nj,x17,x18,x19,x20,x21,x22]
  have x22:gY hit 0 1000000060=true:=bA.2 (by omega)
  by_cases d0:zX=0
  ·subst d0
   cases x23:nE ot oa
   ·skip
    simp [func69,f69,fQ,dI,dA,h1,h2,h3,h5,h6,dz,dK,dL,aD,aZ,x1,x2,x3,x4,x5,x6,x7,x8,x9,KH,Jt,KO,Mk,JY,Mr,Nj,x17,x18,x19,x20,x21,x22,x23]
   by_cases d1:q.length≤40
   rotate_left
   ·have d1':40<(q.length:Int):=by omega
    simp [func69,f69,fQ,dI,dA,h1,h2,h3,h5,h6,dz,dK,dL,aD,aZ,x1,x2,x3,x4,x5,x6,x7,x8,x9,KH,Jt,KO,Mk,JY,Mr,Nj,x17,x18,x19,x20,x21,x22,x23,d1,d1']
   have d1':¬(40<(q.length:Int)):=by omega
   simp [func69,f69,fQ,dI,dA,h1,h2,h3,h5,h6,dz,dK,dL,aD,aZ,x1,x2,x3,x4,x5,x6,x7,x8,x9,KH,Jt,KO,Mk,JY,Mr,Nj,x17,x18,x19,x20,x21,x22,x23,d1,d1']
   rcases nJ bS q with g|⟨g,N,hN,g1,g2⟩
   ·rw [aJ (fun j=> .on ⟨[(138,V.v (.int .i64 ((j:Int)))),(137,V.v (.int .i64 ((q.length:Int)))),(136, .aP (some 4) (ints q))],[],[],[]⟩) q.length ?_ ?_]
    ·simp [func69,f69,fQ,dI,dA,h1,h2,h3,h5,h6,dz,dK,dL,aD,aZ,x1,x2,x3,x4,x5,x6,x7,x8,x9,KH,Jt,KO,Mk,JY,Mr,Nj,x17,x18,x19,x20,x21,x22,x23,d1,d1',g]
    ·simp
    ·intro j hj
     have hw:=bM (j+1) (by omega)
     have:=List.all_eq_true.1 g q[j] (List.getElem_mem hj)
     simp [hj,hw,aO hj,aZ,this]
   ·rw [aJ (fun j=> .on ⟨[(138,V.v (.int .i64 ((j:Int)))),(137,V.v (.int .i64 ((q.length:Int)))),(136, .aP (some 4) (ints q))],[],[],[]⟩) N ?_ ?_]
    ·simp [hN,aO hN,aZ,g1,g,fQ]
    ·simp
    ·intro j hj
     have hj':j<q.length:=by omega
     have hw:=bM (j+1) (by omega)
     simp [hj',hw,aO hj',aZ,g2 j hj' hj]
  ·have d2:(zX != 0)=true:=by simpa using d0
   by_cases d1:q.length≤40
   rotate_left
   ·have d1':40<(q.length:Int):=by omega
    simp [func69,f69,fQ,dI,dA,h1,h2,h3,h5,h6,dz,dK,dL,aD,aZ,x1,x2,x3,x4,x5,x6,x7,x8,x9,KH,Jt,KO,Mk,JY,Mr,Nj,x17,x18,x19,x20,x21,x22,d0,d2,d1,d1']
   have d1':¬(40<(q.length:Int)):=by omega
   simp [func69,f69,fQ,dI,dA,h1,h2,h3,h5,h6,dz,dK,dL,aD,aZ,x1,x2,x3,x4,x5,x6,x7,x8,x9,KH,Jt,KO,Mk,JY,Mr,Nj,x17,x18,x19,x20,x21,x22,d0,d2,d1,d1']
   rcases nJ bS q with g|⟨g,N,hN,g1,g2⟩
   ·rw [aJ (fun j=> .on ⟨[(138,V.v (.int .i64 ((j:Int)))),(137,V.v (.int .i64 ((q.length:Int)))),(136, .aP (some 4) (ints q))],[],[],[]⟩) q.length ?_ ?_]
    ·simp [func69,f69,fQ,dI,dA,h1,h2,h3,h5,h6,dz,dK,dL,aD,aZ,x1,x2,x3,x4,x5,x6,x7,x8,x9,KH,Jt,KO,Mk,JY,Mr,Nj,x17,x18,x19,x20,x21,x22,d0,d2,d1,d1',g]
    ·simp
    ·intro j hj
     have hw:=bM (j+1) (by omega)
     have:=List.all_eq_true.1 g q[j] (List.getElem_mem hj)
     simp [hj,hw,aO hj,aZ,this]
   ·rw [aJ (fun j=> .on ⟨[(138,V.v (.int .i64 ((j:Int)))),(137,V.v (.int .i64 ((q.length:Int)))),(136, .aP (some 4) (ints q))],[],[],[]⟩) N ?_ ?_]
    ·simp [hN,aO hN,aZ,g1,g,fQ]
    ·simp
    ·intro j hj
     have hj':j<q.length:=by omega
     have hw:=bM (j+1) (by omega)
     simp [hj',hw,aO hj',aZ,g2 j hj' hj]
 ·have f2:(fr==0)=false:=by simpa using f0
  have f3:(fr != 0)=true:=by simpa using f0
  cases x24:bS fr
  ·skip
   simp [func69,f69,fQ,dI,dA,h1,h2,h3,h5,h6,dz,dK,dL,aD,aZ,x1,x2,x3,x4,x5,x6,x7,x8,x9,KH,Jt,KO,Mk,JY,Mr,Nj,f0,f2,f3,x24]
  by_cases x25:fh<0
  ·have x27:gY fh 0 3=false:=oF (by rw [bA];omega)
   simp [func69,f69,fQ,dI,dA,h1,h2,h3,h5,h6,dz,dK,dL,aD,aZ,x1,x2,x3,x4,x5,x6,x7,x8,x9,KH,Jt,KO,Mk,JY,Mr,Nj,f0,f2,f3,x24,x25,x27]
  by_cases x26:3<fh
  ·have x27:gY fh 0 3=false:=oF (by rw [bA];omega)
   simp [func69,f69,fQ,dI,dA,h1,h2,h3,h5,h6,dz,dK,dL,aD,aZ,x1,x2,x3,x4,x5,x6,x7,x8,x9,KH,Jt,KO,Mk,JY,Mr,Nj,f0,f2,f3,x24,x25,x26,x27]
  have x27:gY fh 0 3=true:=bA.2 (by omega)
  by_cases x28:zX<0
  ·have x30:gY zX 0 1000000060=false:=oF (by rw [bA];omega)
   simp [func69,f69,fQ,dI,dA,h1,h2,h3,h5,h6,dz,dK,dL,aD,aZ,x1,x2,x3,x4,x5,x6,x7,x8,x9,KH,Jt,KO,Mk,JY,Mr,Nj,f0,f2,f3,x24,x25,x26,x27,x28,x30]
  by_cases x29:1000000060<zX
  ·have x30:gY zX 0 1000000060=false:=oF (by rw [bA];omega)
   simp [func69,f69,fQ,dI,dA,h1,h2,h3,h5,h6,dz,dK,dL,aD,aZ,x1,x2,x3,x4,x5,x6,x7,x8,x9,KH,Jt,KO,Mk,JY,Mr,Nj,f0,f2,f3,x24,x25,x26,x27,x28,x29,x30]
  have x30:gY zX 0 1000000060=true:=bA.2 (by omega)
  by_cases x31:hit<0
  ·have x33:gY hit 0 1000000060=false:=oF (by rw [bA];omega)
   simp [func69,f69,fQ,dI,dA,h1,h2,h3,h5,h6,dz,dK,dL,aD,aZ,x1,x2,x3,x4,x5,x6,x7,x8,x9,KH,Jt,KO,Mk,JY,Mr,Nj,f0,f2,f3,x24,x25,x26,x27,x28,x29,x30,x31,x33]
  by_cases x32:1000000060<hit
  ·have x33:gY hit 0 1000000060=false:=oF (by rw [bA];omega)
   simp [func69,f69,fQ,dI,dA,h1,h2,h3,h5,h6,dz,dK,dL,aD,aZ,x1,x2,x3,x4,x5,x6,x7,x8,x9,KH,Jt,KO,Mk,JY,Mr,Nj,f0,f2,f3,x24,x25,x26,x27,x28,x29,x30,x31,x32,x33]
  have x33:gY hit 0 1000000060=true:=bA.2 (by omega)
  by_cases d0:zX=0
  ·subst d0
   cases x34:nE ot oa
   ·skip
    simp [func69,f69,fQ,dI,dA,h1,h2,h3,h5,h6,dz,dK,dL,aD,aZ,x1,x2,x3,x4,x5,x6,x7,x8,x9,KH,Jt,KO,Mk,JY,Mr,Nj,f0,f2,f3,x24,x25,x26,x27,x28,x29,x30,x31,x32,x33,x34]
   by_cases d1:q.length≤40
   rotate_left
   ·have d1':40<(q.length:Int):=by omega
    simp [func69,f69,fQ,dI,dA,h1,h2,h3,h5,h6,dz,dK,dL,aD,aZ,x1,x2,x3,x4,x5,x6,x7,x8,x9,KH,Jt,KO,Mk,JY,Mr,Nj,f0,f2,f3,x24,x25,x26,x27,x28,x29,x30,x31,x32,x33,x34,d1,d1']
   have d1':¬(40<(q.length:Int)):=by omega
   simp [func69,f69,fQ,dI,dA,h1,h2,h3,h5,h6,dz,dK,dL,aD,aZ,x1,x2,x3,x4,x5,x6,x7,x8,x9,KH,Jt,KO,Mk,JY,Mr,Nj,f0,f2,f3,x24,x25,x26,x27,x28,x29,x30,x31,x32,x33,x34,d1,d1']
   rcases nJ bS q with g|⟨g,N,hN,g1,g2⟩
   ·rw [aJ (fun j=> .on ⟨[(138,V.v (.int .i64 ((j:Int)))),(137,V.v (.int .i64 ((q.length:Int)))),(136, .aP (some 4) (ints q))],[],[],[]⟩) q.length ?_ ?_]
    ·simp [func69,f69,fQ,dI,dA,h1,h2,h3,h5,h6,dz,dK,dL,aD,aZ,x1,x2,x3,x4,x5,x6,x7,x8,x9,KH,Jt,KO,Mk,JY,Mr,Nj,f0,f2,f3,x24,x25,x26,x27,x28,x29,x30,x31,x32,x33,x34,d1,d1',g]
    ·simp
    ·intro j hj
     have hw:=bM (j+1) (by omega)
     have:=List.all_eq_true.1 g q[j] (List.getElem_mem hj)
     simp [hj,hw,aO hj,aZ,this]
   ·rw [aJ (fun j=> .on ⟨[(138,V.v (.int .i64 ((j:Int)))),(137,V.v (.int .i64 ((q.length:Int)))),(136, .aP (some 4) (ints q))],[],[],[]⟩) N ?_ ?_]
    ·simp [hN,aO hN,aZ,g1,g,fQ]
    ·simp
    ·intro j hj
     have hj':j<q.length:=by omega
     have hw:=bM (j+1) (by omega)
     simp [hj',hw,aO hj',aZ,g2 j hj' hj]
  ·have d2:(zX != 0)=true:=by simpa using d0
   by_cases d1:q.length≤40
   rotate_left
   ·have d1':40<(q.length:Int):=by omega
    simp [func69,f69,fQ,dI,dA,h1,h2,h3,h5,h6,dz,dK,dL,aD,aZ,x1,x2,x3,x4,x5,x6,x7,x8,x9,KH,Jt,KO,Mk,JY,Mr,Nj,f0,f2,f3,x24,x25,x26,x27,x28,x29,x30,x31,x32,x33,d0,d2,d1,d1']
   have d1':¬(40<(q.length:Int)):=by omega
   simp [func69,f69,fQ,dI,dA,h1,h2,h3,h5,h6,dz,dK,dL,aD,aZ,x1,x2,x3,x4,x5,x6,x7,x8,x9,KH,Jt,KO,Mk,JY,Mr,Nj,f0,f2,f3,x24,x25,x26,x27,x28,x29,x30,x31,x32,x33,d0,d2,d1,d1']
   rcases nJ bS q with g|⟨g,N,hN,g1,g2⟩
   ·rw [aJ (fun j=> .on ⟨[(138,V.v (.int .i64 ((j:Int)))),(137,V.v (.int .i64 ((q.length:Int)))),(136, .aP (some 4) (ints q))],[],[],[]⟩) q.length ?_ ?_]
    ·simp [func69,f69,fQ,dI,dA,h1,h2,h3,h5,h6,dz,dK,dL,aD,aZ,x1,x2,x3,x4,x5,x6,x7,x8,x9,KH,Jt,KO,Mk,JY,Mr,Nj,f0,f2,f3,x24,x25,x26,x27,x28,x29,x30,x31,x32,x33,d0,d2,d1,d1',g]
    ·simp
    ·intro j hj
     have hw:=bM (j+1) (by omega)
     have:=List.all_eq_true.1 g q[j] (List.getElem_mem hj)
     simp [hj,hw,aO hj,aZ,this]
   ·rw [aJ (fun j=> .on ⟨[(138,V.v (.int .i64 ((j:Int)))),(137,V.v (.int .i64 ((q.length:Int)))),(136, .aP (some 4) (ints q))],[],[],[]⟩) N ?_ ?_]
    ·simp [hN,aO hN,aZ,g1,g,fQ]
    ·simp
    ·intro j hj
     have hj':j<q.length:=by omega
     have hw:=bM (j+1) (by omega)
     simp [hj',hw,aO hj',aZ,g2 j hj' hj]
theorem IK (l:List iG)(i:Option Nat)(h:l.length≤1000)(hp:∀p∈l,p.av.length≤2000):nQ [.agg [.aP i (aS l)]] [] []=some ⟨.agg [.own 0],[],[(0,aS l)]⟩:=by
 generalize hE:nQ _ _ _=R
 simp [nQ,func140,f140]at hE
 rw [aJ (fun k=> .on ⟨[(10,V.v (.int .i64 ((k:Int)))),(9,V.v (.int .i64 ((l.length:Int)))),(8, .aP i (aS l)),(3, .ref 3 0),(2, .ref 2 0)],[(3,[.own 2000000000]),(2,[.own 2000000001])],[(2000000001,[]),(2000000000,aS (l.take k))],[]⟩) l.length ?_ ?_]at hE
 ·simp at hE
  exact hE.symm
 ·simp [show aS []= []from rfl]
 ·intro k hk
  have hw:=bM ((k:Int)+1) (by omega)
  have hq:=hp l[k] (List.getElem_mem hk)
  have e1:=kU l[k].av (some 0) l[k].At hq
  have g3:min k l.length=k:=by omega
  have g4:(k+1)*32≤140737488355328:=by omega
  have g5:k≤4611686018427387903:=by omega
  have g6:aS (l.take (k+1))=aS (l.take k)++ [[.l (ints l[k].av),D.a (.int .i64 (l[k].At))]]:=by rw [vW,←List.take_succ_eq_append_getElem hk]
  simp [hk,hw,e1,g3,g4,g5,g6,iR hk]
theorem FU (a b:List Int)(ha:a.length≤1000000)(hb:b.length≤1000000):yw [.aP (some 0) (ints a), .aP (some 1) (ints b)] [] []=some ⟨V.v (.bool (decide (a=b))),[],[]⟩:=by
 unfold yw
 by_cases hl:a.length=b.length
 ·have hli:(a.length:Int)=b.length:=by omega
  simp [func147,f147,hl,hli]
  rcases M8 a b hl with h|⟨N,h1,h2,h3,h4⟩
  ·subst h
   rw [aJ (fun j=> .on ⟨[(13,V.v (.int .i64 ((j:Int)))),(12,V.v (.int .i64 ((a.length:Int)))),(1, .aP (some 1) (ints a)),(0, .aP (some 0) (ints a))],[],[],[]⟩) a.length ?_ ?_]
   ·simp
   ·simp
   ·intro j hj
    have hw:=bM ((j:Int)+1) (by omega)
    simp [hj,hw,aO hj]
  ·have hab:¬a=b:=fun e=>by subst e;exact h3 rfl
   rw [aJ (fun j=> .on ⟨[(13,V.v (.int .i64 ((j:Int)))),(12,V.v (.int .i64 ((b.length:Int)))),(1, .aP (some 1) (ints b)),(0, .aP (some 0) (ints a))],[],[],[]⟩) N ?_ ?_]
   ·simp [h1,h2,aO h1,aO h2,h3,hab]
   ·simp
   ·intro j hj
    have j1:j<a.length:=by omega
    have j2:j<b.length:=by omega
    have hw:=bM ((j:Int)+1) (by omega)
    simp [j1,j2,hw,aO j1,aO j2,h4 j j1 j2 hj]
 ·have hli:¬(a.length:Int)=b.length:=by omega
  have hab:¬a=b:=fun e=>hl (by rw [e])
  simp [func147,f147,hl,hli,hab]
theorem KI (l:List iG)(h:jB l=true):uG [.agg [.aP (some 0) (aS l)]] [] []=some ⟨V.v (.bool true),[],[]⟩:=by
 have e1:=dL l (LY h)
 rw [h]at e1
 exact e1
theorem abl (l:List iG)(t:List Int)(a:Int)(h:jB l=true)(ht:bN t a=true):rz [.agg [.aP (some 0) (aS l)], .agg [.aP (some 1) (ints t),vI a]] [] []=some ⟨.fK [.agg [.own 0],V.v (.bool true)],[],[(0,aS (Ap l ⟨t,a⟩))]⟩:=by
 obtain⟨hl,hp⟩:=rH h
 have htl:=(bX ht).1
 have e1:=KI l h
 have e2:=tT t a ht
 have e3:=IK l (some 0) (by omega) (fun p hq=>by have:=(bX (hp p hq)).1;omega)
 have e4:=kU t (some 0) a (by omega)
 have e6:aS (l++ [⟨t,a⟩])=aS l++ [[.l (ints t),D.a (.int .i64 a)]]:=(vW l ⟨t,a⟩).symm
 have g1:(l.length+1)*32≤140737488355328:=by omega
 have g2:l.length+1≤4611686018427387904:=by omega
 have g4:l.length≤4611686018427387903:=by omega
 generalize hE:rz _ _ _=R
 unfold rz at hE
 unfold Ap
 by_cases h0:l= []
 ·subst h0
  simp only [show aS []= []from rfl]at hE e1 e3
  simp [func80,f80,e1,e2,e3,e4]at hE
  exact hE.symm
 ·have hlen:0<l.length:=List.length_pos_iff.2 h0
  have hj:l.length-1<l.length:=by omega
  have hq:=(bX (hp l[l.length-1] (List.getElem_mem hj))).1
  have e5:=FU l[l.length-1].av t (by omega) (by omega)
  have w:=bM ((l.length:Int)-1) (by omega)
  have k1:0≤(l.length:Int)-1:=by omega
  have k2:(l.length:Int)-1<l.length:=by omega
  have k3:((l.length:Int)-1).toNat=l.length-1:=by omega
  have k4:(0:Int)<l.length:=by omega
  have k5:1≤(l.length:Int):=by omega
  have hlast:l.getLast?.map (·.av)=some l[l.length-1].av:=by rw [List.getLast?_eq_getElem?,List.getElem?_eq_getElem hj];rfl
  simp only [hlast,Option.some.injEq]
  by_cases hs:l[l.length-1].av=t
  ·rw [decide_eq_true hs]at e5
   rw [if_pos hs]
   simp [func80,f80,e1,e2,e3,e4,e5,w,k1,k2,k3,k4,k5,hj,hlen,iR hj]at hE
   exact hE.symm
  ·rw [decide_eq_false hs]at e5
   rw [if_neg hs]
   by_cases h20:l.length=20
   ·rw [if_pos h20]
    have g3:((l.length:Int)=20)=True:=eq_true (by omega)
    have g3n:(l.length=20)=True:=eq_true h20
    have g5:(1:Int)≤(l.length:Int)+1:=by omega
    have g6:wid 2 (aS l++ [[.l (ints t),D.a (.int .i64 a)]])=true:=by rw [←e6];exact Pv _
    have g7:(1:Int)<(l.length:Int)+1:=by omega
    simp [func80,f80,e1,e2,e3,e4,e5,w,k1,k2,k3,k4,k5,hj,hlen,iR hj,g1,g2,g3,g3n,g4,g5,g6,g7]at hE
    rw [←hE,Uu h0]
   ·rw [if_neg h20,e6]
    have g3:¬(l.length:Int)=20:=by omega
    simp [func80,f80,e1,e2,e3,e4,e5,w,k1,k2,k3,k4,k5,hj,hlen,iR hj,g1,g2,g3,g4]at hE
    exact hE.symm
theorem vS (e:dB):rE [gL e] [] []=some ⟨.agg [V.v (.bool e.Vi),vI e.bV, .aP (some 0) (ints e.ak.av),vI e.ak.At,vI 0,vI 0,vI 0,vI 0,vI e.eY,vI e.bT,vI e.iZ, .aP (some 1) (aC e.aI.aA), .aP (some 2) (aS e.gH.eX),vI e.kF, .aP (some 3) (ints e.iM.av),vI e.iM.At, .aP (some 4) (ints e.bP),vI e.nH, .aP (some 5) (ints e.dH.av),vI e.dH.At],[],[]⟩:=by
 simp [rE,func117,f117]
theorem qW (e:dB)(h:0≤e.ak.At∧e.ak.At≤1000):nD [gL e] [] []=some ⟨.agg [V.v (.bool e.Vi),vI e.bV, .aP (some 0) (ints e.ak.av),vI (jl e.bV e.ak.av e.ak.At),vI e.bH,vI e.Op,vI e.bU,vI e.fT,vI e.eY,vI e.bT,vI e.iZ, .aP (some 1) (aC e.aI.aA), .aP (some 2) (aS e.gH.eX),vI e.kF, .aP (some 3) (ints e.iM.av),vI e.iM.At, .aP (some 4) (ints e.bP),vI e.nH, .aP (some 5) (ints e.dH.av),vI e.dH.At],[],[]⟩:=by
 have w:=bM (e.ak.At-1) (by omega)
 unfold jl QU
 generalize hE:nD _ _ _=R
 unfold nD at hE
 by_cases c1:e.bV=2
 ·rw [if_pos c1]
  by_cases c2:e.ak.At=e.ak.av.length
  ·by_cases c3:0<e.ak.At
   ·have hA:atEnd e.ak.av e.ak.At=true:=by simp only [atEnd,Bool.and_eq_true,decide_eq_true_eq,beq_iff_eq];omega
    have c4:0<e.ak.av.length:=by omega
    have w2:=bM ((e.ak.av.length:Int)-1) (by omega)
    rw [if_pos hA]
    simp [func82,f82,c1,c2,c3,c4,w,w2]at hE
    rw [←hE]
    simp [c1,c2]
   ·have hA:¬atEnd e.ak.av e.ak.At=true:=by simp only [atEnd,Bool.and_eq_true,decide_eq_true_eq,beq_iff_eq];omega
    have c4:e.ak.av= []:=List.length_eq_zero_iff.1 (by omega)
    rw [if_neg hA]
    simp only [gL,gO,hO,c4]at c2
    simp only [gL,gO,hO,c4,bn]at hE⊢
    simp [func82,f82,c1,c2]at hE
    rw [←hE]
    simp [c1,c2]
  ·have hA:¬atEnd e.ak.av e.ak.At=true:=by simp only [atEnd,Bool.and_eq_true,decide_eq_true_eq,beq_iff_eq];omega
   rw [if_neg hA]
   simp [func82,f82,c1,c2]at hE
   rw [←hE]
   simp [c1]
 ·rw [if_neg c1]
  simp [func82,f82,c1]at hE
  exact hE.symm
theorem abm (e:dB)(h:Mq e):gJ [gL e] [] []=some ⟨gO e,[],hO e⟩:=by
 have e1:=kU e.ak.av (some 0) e.ak.At h.line
 have e2:=kU e.iM.av (some 0) e.iM.At h.own
 have e3:=kU e.dH.av (some 0) e.dH.At h.back
 have e4:=FC e.aI.aA (some 0) h.ring.1 h.ring.2
 have e5:=IK e.gH.eX (some 0) h.undo.1 h.undo.2
 have g1:e.bP.length*8≤140737488355328:=by have:=h.query;omega
 have g2:e.bP.length≤4611686018427387904:=by have:=h.query;omega
 generalize hE:gJ _ _ _=R
 simp [gJ, -au,func71,f71,e1,e2,e3,e4,e5,g1,g2]at hE
 exact hE.symm
theorem uq (e:dB)(ok:e.ok=true):sI [gL e] [] []=some ⟨V.v (.bool true),[],[]⟩:=by
 have hsm:=dB.acw ok
 have hE:=acC e.Vi e.bV e.ak.av e.ak.At e.bH e.Op e.bU e.fT e.eY e.bT e.iZ e.aI.aA e.gH.eX e.kF e.iM.av e.iM.At e.bP e.nH e.dH.av e.dH.At hsm.h1 hsm.h2 hsm.h3 hsm.h4 hsm.h5 hsm.h6
 rw [hE]
 have:fQ e.Vi e.bV e.ak.av e.ak.At e.bH e.Op e.bU e.fT e.eY e.bT e.iZ e.aI.aA e.gH.eX e.kF e.iM.av e.iM.At e.bP e.nH e.dH.av e.dH.At=true:=ok
 rw [this]
section
variable (e:dB) (h:fV e)
include h
theorem gB:gJ [gL e] [] []=some ⟨gO e,[],hO e⟩:=abm e (Mq.of (fA.2 h))
theorem jD:iC [gL e] [] []=some (kR (dM e)):=by
 have e1:=gB e h
 have e2:=vS e
 generalize hE:iC _ _ _=R
 simp [iC, -au,func110,f110,e1,e2]at hE
 exact hE.symm
theorem Y1 (t:List Int)(a last:Int)(ht:bN t a=true)(hl:0≤last∧last≤3):xB [gL e, .agg [.aP (some 6) (ints t),vI a],vI last] [] []=some ⟨.fK [(gO (sO e t a last)),V.v (.bool true)],[],(hO (sO e t a last))⟩:=by
 have e0:=uq e (fA.2 h)
 have e1:=tT t a ht
 have e2:=gB e h
 have e3:=vS e
 have e4:=FU e.ak.av t (by have:=(bX h.line).1;omega) (by have:=(bX ht).1;omega)
 have e5:=abl e.gH.eX e.ak.av e.ak.At h.undo h.line
 have e6:=kU t (some 0) a (by have:=(bX ht).1;omega)
 have l1:¬last<0:=by omega
 have l2:¬3<last:=by omega
 have hta:0≤a∧a≤1000:=by have:=bX ht;omega
 unfold sO sJ sK
 by_cases c1:t=e.ak.av
 ·rw [if_pos (.inl c1)]
  rw [decide_eq_true c1.symm]at e4
  have e7:=qW {e with bH:=0,Op:=0,bU:=0,fT:=0,iZ:=last,ak:=⟨t,a⟩} hta
  generalize hE:xB _ _ _=R
  simp [xB, -au,func253,f253,e0,e1,e2,e3,e4,e6,e7,l1,l2]at hE
  exact hE.symm
 rw [decide_eq_false (fun q=>c1 q.symm)]at e4
 by_cases c2:last=1∧e.iZ=1
 ·rw [if_pos (.inr c2)]
  obtain⟨c3,c4⟩:=c2
  subst c3
  have e7:=qW {e with bH:=0,Op:=0,bU:=0,fT:=0,iZ:=1,ak:=⟨t,a⟩} hta
  generalize hE:xB _ _ _=R
  unfold xB at hE
  simp only [gL,gO,hO,c4]at e0 e2 e3 hE
  simp [-au,func253,f253,e0,e1,e2,e3,e4,e6,e7]at hE
  exact hE.symm
 ·rw [if_neg (fun q=>q.elim c1 c2)]
  have e7:=qW {e with bH:=0,Op:=0,bU:=0,fT:=0,iZ:=last,ak:=⟨t,a⟩,gH:=⟨Ap e.gH.eX e.ak⟩} hta
  simp only at e5 e7
  generalize Ap e.gH.eX _=ul at*
  generalize hE:xB _ _ _=R
  unfold xB at hE
  by_cases c3:last=1
  ·have c4:¬e.iZ=1:=fun q=>c2 ⟨c3,q⟩
   subst c3
   simp [-au,func253,f253,e0,e1,e2,e3,e4,e5,e6,e7,c4]at hE
   exact hE.symm
  ·simp [-au,func253,f253,e0,e1,e2,e3,e4,e5,e6,e7,l1,l2,c3]at hE
   exact hE.symm
theorem qO (t:List Int)(a last:Int)(ht:bN t a=true)(hl:0≤last∧last≤3):jN [gL e, .agg [.aP (some 6) (ints t),vI a],V.v (.bool true),vI last] [] []=some (kR (sO e t a last,0)):=by
 have e1:=Y1 e h t a last ht hl
 generalize sO e t a last=p at*
 generalize hE:jN _ _ _=R
 simp [jN, -au,func193,f193,e1]at hE
 exact hE.symm
theorem Av (t:List Int)(a last:Int)(ht:bN t a=true)(hl:0≤last∧last≤3):jN [gL e, .agg [.aP (some 6) (ints t),vI a],V.v (.bool false),vI last] [] []=some (kR (dM e)):=by
 have e1:=Y1 e h t a last ht hl
 have e2:=jD e h
 generalize sO e t a last=q at*
 generalize dM e=p at*
 generalize hE:jN _ _ _=R
 simp [jN, -au,func193,f193,e1,e2]at hE
 exact hE.symm
theorem qP (a:Int):uS [gL e,vI a] [] []=some (kR (yP e a)):=by
 obtain⟨h1,h2,h3,h4⟩:=h.aR
 have e1:=Ni e.ak.av e.ak.At a h.line
 have e2:=qO e h e.ak.av (max 0 (min a e.ak.av.length)) 0 (gq h3 h4 (by omega) (by omega)) (by omega)
 unfold yP vQ QY
 generalize sO e e.ak.av (max 0 (min a e.ak.av.length)) 0=p at*
 generalize hE:uS _ _ _=R
 simp [uS, -au,func189,f189,e1,e2]at hE
 exact hE.symm
theorem Nk (a b:Int)(F U:Nat)(ha:max 0 (min a e.ak.av.length)=F)(hb:max 0 (min b e.ak.av.length)=U)(h1:F≤U):yK [gL e,vI a,vI b] [] []=some (kR (Dp e F U)):=by
 have h2:U≤e.ak.av.length:=by omega
 have e1:=dh a e.ak.av.length (by omega)
 have e2:=dh b e.ak.av.length (by omega)
 rw [ha]at e1
 rw [hb]at e2
 have e3:=BR e.ak.av e.ak.At h.line F U h1 h2
 obtain⟨c1,c2,c3⟩:=um h.line h1 h2
 unfold Dp vQ
 unfold oD at c1 c2⊢
 by_cases hfu:F<U
 ·rw [if_pos hfu]
  have e4:=qO e h _ _ 0 c1 (by omega)
  generalize sO e (e.ak.av.take F++e.ak.av.drop U) (cutAt e.ak.At F U) 0=p at*
  have hlt:((e.ak.av.take F++e.ak.av.drop U).length:Int)<e.ak.av.length:=by omega
  generalize e.ak.av.take F++e.ak.av.drop U=X at*
  clear h
  generalize hE:yK _ _ _=R
  simp [yK, -au,func245,f245,e1,e2,e3,e4,hlt]at hE
  exact hE.symm
 ·rw [if_neg hfu]
  have e4:=Av e h _ _ 0 c1 (by omega)
  have hlt:¬((e.ak.av.take F++e.ak.av.drop U).length:Int)<e.ak.av.length:=by omega
  generalize dM e=p at*
  generalize e.ak.av.take F++e.ak.av.drop U=X at*
  clear h
  generalize hE:yK _ _ _=R
  simp [yK, -au,func245,f245,e1,e2,e3,e4,hlt]at hE
  exact hE.symm
theorem Nl (u:List Int)(last:Int)(hu:u.all fP=true)(hu2:u.length≤2000)(hl:0≤last∧last≤3):wF [gL e, .aP (some 6) (ints u),vI last] [] []=some (kR (Au e u last)):=by
 obtain⟨h1,h2,h3,h4⟩:=h.aR
 have e1:=BQ e.ak.av u e.ak.At h.line hu hu2
 have hn:e.ak.At.toNat=aR e:=rfl
 rw [hn]at e1
 unfold Au
 by_cases hc:e.ak.av.length+u.length≤400
 ·rw [if_pos hc]at e1⊢
  have e2:=qO e h (zR e.ak.av (aR e) u) (e.ak.At+u.length) last ((yY hc h4 hu h2).2 _ (by omega) (by omega)) hl
  generalize zR e.ak.av (aR e) u=X at*
  generalize sO e X (e.ak.At+u.length) last=p at*
  generalize hE:wF _ _ _=R
  simp [wF, -au,func243,f243,e1,e2]at hE
  exact hE.symm
 ·rw [if_neg hc]at e1⊢
  have e2:=Av e h [] 0 last rfl hl
  simp only [bn]at e2
  generalize dM e=p at*
  generalize hE:wF _ _ _=R
  simp [wF, -au,func243,f243,e1,e2]at hE
  exact hE.symm
end
theorem Rz (l:List eT)(t:List Int)(how:Int)(hl:eZ l=true)(ht:dF t=true)(hh:0≤how∧how≤2):pK [.agg [.aP (some 0) (aC l)], .aP (some 1) (ints t),vI how] [] []=some ⟨.fK [.agg [.own 0],V.v (.bool true)],[],[(0,aC (oC l t how))]⟩:=by
 obtain⟨hn,hp⟩:=yO hl
 have htl:t.length≤400:=by simp only [dF,Bool.and_eq_true,decide_eq_true_eq]at ht;exact ht.1
 have e1:=Kz l hl
 have e2:=zF t (by omega)
 rw [ht]at e2
 have e3:=FC l (some 0) (by omega) (fun p h=>by have:=(hp p h).2.1;omega)
 have q1:¬how<0:=by omega
 have q2:¬2<how:=by omega
 generalize hE:pK _ _ _=R
 unfold pK at hE
 unfold oC
 by_cases h0:t= []
 ·rw [if_pos h0]
  subst h0
  simp only [show ints []= []from rfl]at hE e2
  simp [func146,f146,e1,e2,e3,q1,q2]at hE
  exact hE.symm
 rw [if_neg h0]
 have g1:t.length*8≤140737488355328:=by omega
 have g2:t.length≤4611686018427387904:=by omega
 have hlen:0<t.length:=List.length_pos_iff.2 h0
 cases l with
 | nil=>
  simp only [show aC []= []from rfl]at hE e1 e3
  have e4:aC [⟨t⟩]= [[.l (ints t)]]:=rfl
  simp only
  rw [e4]
  have rf:dN ([]:List (List D))=true:=rfl
  by_cases h1:how=0
  ·subst h1
   simp [func146,f146,e1,e2,e3,q1,q2,h0,g1,g2,rf]at hE
   exact hE.symm
  ·simp [func146,f146,e1,e2,e3,q1,q2,h0,h1,g1,g2,rf]at hE
   exact hE.symm
 | cons p l=>
  have hpt:=hp p (by simp)
  have hll:l.length≤5:=by simpa using hn
  have rf:dN (aC (p::l))=false:=by simp [gN,dN,sF]
  have g3:(1+(l.length+1))*24≤140737488355328:=by omega
  have g4:1+(l.length+1)≤4611686018427387904:=by omega
  have w1:=bM ((p.av.length:Int)+t.length) (by omega)
  simp only
  by_cases h1:how=0
  ·rw [if_pos (.inl h1)]
   subst h1
   by_cases h6:l.length=5
   ·simp [func146,f146,e1,e2,e3,q1,q2,h0,g1,g2,h6,rf]at hE
    exact hE.symm
   ·have h6i:¬(6:Int)<(l.length:Int)+1+1:=by omega
    have h6t:l.take 4=l:=List.take_of_length_le (by omega)
    simp [func146,f146,e1,e2,e3,q1,q2,h0,g1,g2,g3,g4,h6i,rf]at hE
    rw [show List.take 6 (⟨t⟩::p::l)=⟨t⟩::p::l.take 4 from rfl,h6t]
    exact hE.symm
  by_cases h7:p.av.length+t.length≤400
  ·rw [if_neg (by omega)]
   have h7i:(p.av.length:Int)+t.length≤400:=by omega
   have j1:=Ao p.av t (some 0) (some 1) (some 2) (by omega)
   have j2:=Ao t p.av (some 0) (some 1) (some 2) (by omega)
   rw [gN]at e1 e3 hE
   by_cases h2:how=2
   ·rw [if_neg (by omega)]
    subst h2
    simp [func146,f146,e1,e2,e3,h0,g1,g2,w1,h7i,j1,j2]at hE
    rw [←au]at hE
    exact hE.symm
   ·rw [if_pos (by omega)]
    simp [func146,f146,e1,e2,e3,q1,q2,h0,h1,h2,g1,g2,w1,h7i,j1]at hE
    rw [←au]at hE
    exact hE.symm
  ·rw [if_pos (by omega)]
   have h7i:¬(p.av.length:Int)+t.length≤400:=by omega
   by_cases h6:l.length=5
   ·simp [func146,f146,e1,e2,e3,q1,q2,h0,h1,g1,g2,w1,h7i,h6,rf]at hE
    exact hE.symm
   ·have h6i:¬(6:Int)<(l.length:Int)+1+1:=by omega
    have h6t:l.take 4=l:=List.take_of_length_le (by omega)
    simp [func146,f146,e1,e2,e3,q1,q2,h0,h1,g1,g2,g3,g4,w1,h7i,h6i,rf]at hE
    rw [show List.take 6 (⟨t⟩::p::l)=⟨t⟩::p::l.take 4 from rfl,h6t]
    exact hE.symm
theorem FV (l:List eT)(h:eZ l=true):pX [.agg [.aP (some 0) (aC l)]] [] []=some ⟨.own 0,[],[(0,ints (bE l))]⟩:=by
 have e1:=Kz l h
 obtain⟨hn,hp⟩:=yO h
 unfold bE
 generalize hE:pX _ _ _=R
 unfold pX at hE
 cases l with
 | nil=>
  simp only [show aC []= []from rfl]at hE e1
  simp [func248,f248,e1]at hE
  simp [bn]
  exact hE.symm
 | cons p l=>
  have hpt:=hp p (by simp)
  have g1:p.av.length*8≤140737488355328:=by omega
  have g2:p.av.length≤4611686018427387904:=by omega
  rw [gN]at e1 hE
  have n0:¬(l.length:Int)+1=0:=by omega
  simp [func248,f248,e1,g1,g2,n0]at hE
  simp
  exact hE.symm
section
variable (e:dB) (h:fV e)
include h
theorem BS (a b how:Int)(F U:Nat)(ha:max 0 (min a e.ak.av.length)=F)(hb:max 0 (min b e.ak.av.length)=U)(h1:F≤U)(hw:0≤how∧how≤2):pU [gL e,vI a,vI b,vI how] [] []=some (kR (lH e F U how)):=by
 have h2:U≤e.ak.av.length:=by omega
 have e1:=dh a e.ak.av.length (by omega)
 have e2:=dh b e.ak.av.length (by omega)
 rw [ha]at e1
 rw [hb]at e2
 have e3:=BR e.ak.av e.ak.At h.line F U h1 h2
 obtain⟨c1,c2,c3⟩:=um h.line h1 h2
 have hgo:=Iw h.line (f:=F) (u:=U)
 unfold lH
 unfold oD at c1 c2⊢
 by_cases hfu:F<U
 ·rw [if_pos hfu]
  have e4:=qO e h _ _ 2 c1 (by omega)
  have e5:=Rz e.aI.aA ((e.ak.av.drop F).take (U-F)) (Aq e how) h.ring hgo (by unfold Aq;split<;>omega)
  have hlt:((e.ak.av.take F++e.ak.av.drop U).length:Int)<e.ak.av.length:=by omega
  simp only [sO,sK]at e4⊢
  generalize sJ e (e.ak.av.take F++e.ak.av.drop U) 2=ul at*
  generalize jl e.bV (e.ak.av.take F++e.ak.av.drop U) (cutAt e.ak.At F U)=ia at*
  generalize e.ak.av.take F++e.ak.av.drop U=X at*
  generalize (e.ak.av.drop F).take (U-F)=gone at*
  generalize oC e.aI.aA gone (Aq e how)=rg at*
  unfold Aq at e5
  clear h
  generalize hE:pU _ _ _=R
  unfold pU at hE
  by_cases hk:e.iZ=2
  ·rw [if_pos hk]at e5
   simp only [gL,gO,hO,hk]at e4 hE
   simp [-au,func106,f106,e1,e2,e3,e4,e5,hlt]at hE
   exact hE.symm
  ·rw [if_neg hk]at e5
   simp [-au,func106,f106,e1,e2,e3,e4,e5,hlt,hk]at hE
   exact hE.symm
 ·rw [if_neg hfu]
  have e4:=Av e h _ _ 2 c1 (by omega)
  have hlt:¬((e.ak.av.take F++e.ak.av.drop U).length:Int)<e.ak.av.length:=by omega
  unfold dM at e4⊢
  generalize sK e 0=x at*
  generalize e.ak.av.take F++e.ak.av.drop U=X at*
  generalize (e.ak.av.drop F).take (U-F)=gone at*
  clear h
  generalize hE:pU _ _ _=R
  unfold pU at hE
  by_cases hk:e.iZ=2
  ·simp only [gL,gO,hO,hk]at e4 hE
   simp [-au,func106,f106,e1,e2,e3,e4,hlt]at hE
   exact hE.symm
  ·simp [-au,func106,f106,e1,e2,e3,e4,hlt,hk]at hE
   exact hE.symm
end
theorem IL (f:Int)(l:List ByteArray)(h:gX f l):zu [.agg [vI f, .aP (some 0) (strs l)]] [] []=some ⟨vI (gF f l),[],[]⟩:=by
 have e:=oJ f l h
 have h1:=h.first
 have h2:=h.len
 have w1:=bM (f+l.length) (by omega)
 have w2:=bM (f+l.length-1) (by omega)
 unfold zu gF
 by_cases hl:l= []
 ·subst hl
  simp only [show strs []= []from rfl]at e
  simp [func111,f111,e,show strs []= []from rfl]
 ·simp [func111,f111,e,hl,w1,w2]
theorem IQ (f:Int)(l:List ByteArray)(h:gX f l)(n:Int)(hn: -100≤n∧n≤4000000000):vK [.agg [vI f, .aP (some 0) (strs l)],vI n] [] []=some (match p9 f l n with|some s=>⟨.fK [V.v (.string s),V.v (.bool true)],[],[]⟩|none=>⟨.fK [V.v (.string (⟨#[]⟩)),V.v (.bool false)],[],[]⟩):=by
 have e:=oJ f l h
 have h1:=h.first
 have h2:=h.len
 have w1:=bM (n-f) (by omega)
 unfold p9
 by_cases c1:n<f
 ·rw [if_neg (by omega)]
  simp [vK,func257,f257,e,c1]
 ·by_cases c2:(l.length:Int)≤n-f
  ·rw [if_neg (by omega)]
   simp [vK,func257,f257,e,c1,c2,w1]
  ·rw [if_pos (by omega)]
   have hk:(n-f).toNat<l.length:=by omega
   rw [List.getElem?_eq_getElem hk]
   have k1:0≤n-f:=by omega
   have k2:n-f<l.length:=by omega
   unfold vK
   have k3:f≤n:=by omega
   simp [func257,f257,e,c1,c2,w1,k1,k2,k3,hk,wQ hk]
theorem qh (s:ByteArray)(hs:s.size≤65536):AU [V.v (.string s)] [] []=some (match mP s with|some t=>⟨.fK [.agg [.own 0,vI (t.length:Int)],V.v (.bool true)],[],[(0,ints t)]⟩|none=>⟨.fK [.agg [.own 0,vI 0],V.v (.bool false)],[],[(0,[])]⟩):=by
 have hr:=uf s.data.toList
 have hlen:=hr.len
 have hsz:s.data.toList.length=s.size:=by rw [Array.length_toList];rfl
 have e1:=QS s _ _ hr hs
 unfold mP
 generalize hE:AU _ _ _=R
 unfold AU at hE
 by_cases hz:rJ s.data.toList= []
 ·rw [hz]at e1
  simp only [List.isEmpty_nil,if_true]at e1
  have e2:=Mj (nG s.data.toList) (nG s.data.toList).length true (by omega)
  by_cases hc:dF (nG s.data.toList)=true
  ·rw [if_pos ⟨hz,hc⟩]
   rw [if_pos ⟨rfl,by unfold bN;rw [hc,bA.2 (by omega)];rfl⟩]at e2
   generalize nG s.data.toList=t at*
   simp [func258,f258,e1,e2]at hE
   exact hE.symm
  ·rw [if_neg (fun q=>hc q.2)]
   have hb:bN (nG s.data.toList) (nG s.data.toList).length=false:=by
    unfold bN;rw [show dF (nG s.data.toList)=false by simpa using hc];rfl
   rw [hb,if_neg (by simp)]at e2
   generalize nG s.data.toList=t at*
   simp [func258,f258,e1,e2]at hE
   exact hE.symm
 ·rw [if_neg (fun q=>hz q.1)]
  have hz':(rJ s.data.toList).isEmpty=false:=by simpa using hz
  rw [hz']at e1
  simp only [Bool.false_eq_true,if_false]at e1
  have e2:=Mj [] 0 false (by simp)
  rw [if_neg (by simp)]at e2
  simp only [bn]at e2
  simp [func258,f258,e1,e2]at hE
  exact hE.symm
section
variable (e:dB) (h:fV e) {f:Int} {l:List ByteArray} (hh:gX f l)
include h hh
theorem ad4 (zM:Int)(hb:zM=1∨zM= -1):dV [gL e,aH f l,vI zM] [] []=some (sR (qK e f l zM)):=by
 have h1:=hh.first
 have h2:=hh.len
 have akE:=h.zX
 have e1:=uq e (fA.2 h)
 have e2:=gB e h
 have e9:=vS e
 have e3:=IL f l hh
 have hlast:0≤gF f l∧gF f l≤1000000059:=by unfold gF;split<;>omega
 have e6:=kU e.ak.av (some 0) e.ak.At (by have:=(bX h.line).1;omega)
 have e7:=kU e.iM.av (some 0) e.iM.At (by have:=(bX h.own).1;omega)
 have e8:=qW {e with bH:=0,Op:=0,bU:=0,fT:=0,iZ:=0,gH:=⟨[]⟩,ak:=e.iM,iM:=⟨[],0⟩,kF:=0} (by have:=bX h.own;show 0≤e.iM.At∧e.iM.At≤1000;omega)
 simp only [gL,bn,show aS []= []from rfl]at e8
 have hzl:=qh ⟨#[]⟩ (by decide)
 have hz:mP ⟨#[]⟩=some []:=by
  unfold mP
  obtain⟨q1,q2⟩:=xM reads_nil
  rw [q1,q2,if_pos ⟨rfl,by decide⟩]
 rw [hz]at hzl
 simp only [bn,List.length_nil,Int.natCast_zero]at hzl
 have hstep:JO e f l=if e.kF=0 then gF f l+1 else e.kF:=rfl
 unfold qK
 generalize gF f l=last at*
 have w1:=bM (last+1) (by omega)
 have w2:=bM (e.kF+1) (by omega)
 by_cases hc:zM=1∧¬e.kF=0∧e.kF=last
 ·rw [if_pos hc]
  obtain⟨rfl,c2,c3⟩:=hc
  subst c3
  generalize hE:dV _ _ _=R
  simp [dV,func255,f255,e1,e2,e9,e3,e7,e8,c2,w1]at hE
  exact hE.symm
 ·rw [if_neg hc]
  have e4:=IQ f l hh (JO e f l+zM) (by rw [hstep];split<;>omega)
  by_cases hn:e.kF=0
  ·rw [if_pos hn]at hstep
   rw [hstep]at e4⊢
   have w3:=bM (last+1+zM) (by omega)
   simp only [gL,gO,hO,hn]at e1 e2 e9⊢
   rcases hb with rfl|rfl
   ·cases hg:p9 f l (last+1+1)with
    | none=>
     rw [hg]at e4
     simp only [Option.bind_none]
     generalize hE:dV _ _ _=R
     simp [dV,func255,f255,e1,e2,e9,e3,w1,w2,w3,hn,e4,hzl]at hE
     exact hE.symm
    | some s=>
     rw [hg]at e4
     simp only [Option.bind_some]
     have e5:=qh s (by have:=(sw hh hg).2;omega)
     cases hl:mP s with
     | none=>
      rw [hl]at e5
      generalize hE:dV _ _ _=R
      simp [dV,func255,f255,e1,e2,e9,e3,w1,w2,w3,hn,e4,e5]at hE
      exact hE.symm
     | some t=>
      rw [hl]at e5
      simp only [if_true]
      by_cases hm:e.bV=2
      ·simp only [gL,gO,hO,hm,if_true]at e1 e2 e9⊢
       generalize hE:dV _ _ _=R
       simp [dV,func255,f255,e1,e2,e9,e3,w1,w2,w3,hn,e4,e5,e6,hm]at hE
       exact hE.symm.trans (by rw [←hm];rfl)
      ·rw [if_neg hm]
       generalize hE:dV _ _ _=R
       simp [dV,func255,f255,e1,e2,e9,e3,w1,w2,w3,hn,e4,e5,e6,hm]at hE
       exact hE.symm
   ·cases hg:p9 f l (last+1+ -1)with
    | none=>
     rw [hg]at e4
     simp only [Option.bind_none]
     generalize hE:dV _ _ _=R
     simp [dV,func255,f255,e1,e2,e9,e3,w1,w2,w3,hn,e4,hzl]at hE
     exact hE.symm
    | some s=>
     rw [hg]at e4
     simp only [Option.bind_some]
     have e5:=qh s (by have:=(sw hh hg).2;omega)
     cases hl:mP s with
     | none=>
      rw [hl]at e5
      generalize hE:dV _ _ _=R
      simp [dV,func255,f255,e1,e2,e9,e3,w1,w2,w3,hn,e4,e5]at hE
      exact hE.symm
     | some t=>
      rw [hl]at e5
      simp only [if_true]
      by_cases hm:e.bV=2
      ·simp only [gL,gO,hO,hm,if_true]at e1 e2 e9⊢
       generalize hE:dV _ _ _=R
       simp [dV,func255,f255,e1,e2,e9,e3,w1,w2,w3,hn,e4,e5,e6,hm]at hE
       exact hE.symm.trans (by rw [←hm];rfl)
      ·rw [if_neg hm]
       generalize hE:dV _ _ _=R
       simp [dV,func255,f255,e1,e2,e9,e3,w1,w2,w3,hn,e4,e5,e6,hm]at hE
       exact hE.symm
  ·rw [if_neg hn]at hstep
   rw [hstep]at e4⊢
   have w3:=bM (e.kF+zM) (by omega)
   rcases hb with rfl|rfl
   ·have hne:¬e.kF=last:=fun q=>hc ⟨rfl,hn,q⟩
    cases hg:p9 f l (e.kF+1)with
    | none=>
     rw [hg]at e4
     simp only [Option.bind_none]
     generalize hE:dV _ _ _=R
     simp [dV,func255,f255,e1,e2,e9,e3,w1,w2,w3,hn,hne,e4,hzl]at hE
     exact hE.symm
    | some s=>
     rw [hg]at e4
     simp only [Option.bind_some]
     have e5:=qh s (by have:=(sw hh hg).2;omega)
     cases hl:mP s with
     | none=>
      rw [hl]at e5
      generalize hE:dV _ _ _=R
      simp [dV,func255,f255,e1,e2,e9,e3,w1,w2,w3,hn,hne,e4,e5]at hE
      exact hE.symm
     | some t=>
      rw [hl]at e5
      simp only [hn,if_false]
      by_cases hm:e.bV=2
      ·simp only [gL,gO,hO,hm,if_true]at e1 e2 e9⊢
       generalize hE:dV _ _ _=R
       simp [dV,func255,f255,e1,e2,e9,e3,w1,w2,w3,hn,hne,e4,e5,e6,hm]at hE
       exact hE.symm.trans (by rw [←hm];rfl)
      ·rw [if_neg hm]
       generalize hE:dV _ _ _=R
       simp [dV,func255,f255,e1,e2,e9,e3,w1,w2,w3,hn,hne,e4,e5,e6,hm]at hE
       exact hE.symm
   ·cases hg:p9 f l (e.kF+ -1)with
    | none=>
     rw [hg]at e4
     simp only [Option.bind_none]
     generalize hE:dV _ _ _=R
     simp [dV,func255,f255,e1,e2,e9,e3,w1,w2,w3,hn,e4,hzl]at hE
     exact hE.symm
    | some s=>
     rw [hg]at e4
     simp only [Option.bind_some]
     have e5:=qh s (by have:=(sw hh hg).2;omega)
     cases hl:mP s with
     | none=>
      rw [hl]at e5
      generalize hE:dV _ _ _=R
      simp [dV,func255,f255,e1,e2,e9,e3,w1,w2,w3,hn,e4,e5]at hE
      exact hE.symm
     | some t=>
      rw [hl]at e5
      simp only [hn,if_false]
      by_cases hm:e.bV=2
      ·simp only [gL,gO,hO,hm,if_true]at e1 e2 e9⊢
       generalize hE:dV _ _ _=R
       simp [dV,func255,f255,e1,e2,e9,e3,w1,w2,w3,hn,e4,e5,e6,hm]at hE
       exact hE.symm.trans (by rw [←hm];rfl)
      ·rw [if_neg hm]
       generalize hE:dV _ _ _=R
       simp [dV,func255,f255,e1,e2,e9,e3,w1,w2,w3,hn,e4,e5,e6,hm]at hE
       exact hE.symm
end
theorem iy (e:dB):Cw [gL e] [] []=some ⟨vI (max e.bH 1),[],[]⟩:=by
 unfold Cw
 by_cases c:e.bH<1
 ·rw [show max e.bH 1=1 by omega]
  simp [func108,f108,c]
 ·rw [show max e.bH 1=e.bH by omega]
  simp [func108,f108,c]
theorem RA (r:Int)(n:Nat)(hn:n≤1000):BD [vI r,vI (n:Int)] [] []=some ⟨.own 0,[],[(0,ints (List.replicate n r))]⟩:=by
 generalize hE:BD _ _ _=R
 simp [BD,func244,f244]at hE
 rw [aJ (fun j=> .on ⟨[(6,V.v (.int .i64 ((j:Int)))),(5, .own 2000000000),(1,V.v (.int .i64 ((n:Int)))),(0,V.v (.int .i64 r))],[],[(2000000000,ints (List.replicate j r))],[]⟩) n ?_ ?_]at hE
 ·simp at hE
  exact hE.symm
 ·simp [bn]
 ·intro j hj
  have hw:=bM ((j:Int)+1) (by omega)
  have g1:(j+1)*8≤140737488355328:=by omega
  have g2:j+1≤4611686018427387904:=by omega
  have g4:j≤4611686018427387903:=by omega
  have g3:ints (List.replicate (j+1) r)=ints (List.replicate j r)++ [[D.a (.int .i64 r)]]:=by rw [List.replicate_succ',au];rfl
  simp [hj,hw,g1,g2,g3,g4]
section
variable (e:dB) (h:fV e) {f:Int} {l:List ByteArray} (hh:gX f l)
include h hh
theorem uw (zM:Int)(hb:zM=1∨zM= -1):kN [gL e,aH f l,vI zM] [] []=some (kR (jF e f l zM)):=by
 have e1:=ad4 e h hh zM hb
 have e2:=jD e h
 unfold jF
 clear h hh
 cases hs:qK e f l zM with
 | none=>
  rw [hs]at e1
  simp only
  generalize dM e=p at*
  generalize hE:kN _ _ _=R
  simp [kN, -au,func196,f196,e1,e2]at hE
  exact hE.symm
 | some x=>
  rw [hs]at e1
  simp only
  generalize hE:kN _ _ _=R
  simp [kN, -au,func196,f196,e1]at hE
  exact hE.symm
end
section
variable (e:dB) (h:fV e) {f:Int} {l:List ByteArray} (hh:gX f l)
include h hh
theorem abn (r:Int)(hr:fP r=true):bq [gL e,aH f l,aK 1 r] [] []=some (kR (Au e (List.replicate (gQ e) r) 1)):=by
 obtain⟨h1,h2,h3,h4⟩:=h.aR
 obtain⟨n1,n2,n3⟩:=fJ e h
 have en:=iy e
 have e1:=RA r (gQ e) (by omega)
 rw [n1]at e1
 have e2:=Nl e h (List.replicate (gQ e) r) 1 (Iy hr _) (by simp;omega) (by omega)
 generalize Au e (List.replicate (gQ e) r) 1=p at*
 generalize List.replicate (gQ e) r=q at*
 clear h hh
 generalize hE:bq _ _ _=R
 simp [bq, -au,func188,f188,en,e1,e2]at hE
 exact hE.symm
theorem abo (r:Int):bq [gL e,aH f l,aK 6 r] [] []=some (kR (Au e (List.replicate (gQ e) 9) 1)):=by
 obtain⟨h1,h2,h3,h4⟩:=h.aR
 obtain⟨n1,n2,n3⟩:=fJ e h
 have en:=iy e
 have e1:=RA 9 (gQ e) (by omega)
 rw [n1]at e1
 have e2:=Nl e h (List.replicate (gQ e) 9) 1 (Iy (show fP 9=true by decide) _) (by simp;omega) (by omega)
 generalize Au e (List.replicate (gQ e) 9) 1=p at*
 generalize List.replicate (gQ e) 9=q at*
 clear h hh
 generalize hE:bq _ _ _=R
 simp [bq, -au,func188,f188,en,e1,e2]at hE
 exact hE.symm
theorem abp (r:Int):bq [gL e,aH f l,aK 4 r] [] []=some (kR (e,2)):=by
 obtain⟨h1,h2,h3,h4⟩:=h.aR
 obtain⟨n1,n2,n3⟩:=fJ e h
 have en:=iy e
 have e1:=gB e h
 clear h hh
 generalize hE:bq _ _ _=R
 simp [bq, -au,func188,f188,en,e1]at hE
 exact hE.symm
theorem abq (r:Int):bq [gL e,aH f l,aK 5 r] [] []=some (kR (Dp e (aR e-gQ e) (aR e))):=by
 obtain⟨h1,h2,h3,h4⟩:=h.aR
 obtain⟨n1,n2,n3⟩:=fJ e h
 have en:=iy e
 have e1:=Nk e h (e.ak.At-max e.bH 1) e.ak.At (aR e-gQ e) (aR e) (by omega) (by omega) (by omega)
 have w1:=bM (e.ak.At-max e.bH 1) (by omega)
 generalize Dp e (aR e-gQ e) (aR e)=p at*
 clear h hh
 generalize hE:bq _ _ _=R
 simp [bq, -au,func188,f188,en,e1,w1]at hE
 exact hE.symm
theorem Y2 (r:Int):bq [gL e,aH f l,aK 14 r] [] []=some (kR (OI e)):=by
 obtain⟨h1,h2,h3,h4⟩:=h.aR
 obtain⟨n1,n2,n3⟩:=fJ e h
 have en:=iy e
 have e1:=Nk e h e.ak.At (e.ak.At+max e.bH 1) (aR e) (min (aR e+gQ e) e.ak.av.length) (by omega) (by omega) (by omega)
 have w1:=bM (e.ak.At+max e.bH 1) (by omega)
 unfold OI
 generalize Dp e (aR e) (min (aR e+gQ e) e.ak.av.length)=p at*
 clear h hh
 generalize hE:bq _ _ _=R
 simp [bq, -au,func188,f188,en,e1,w1]at hE
 exact hE.symm
theorem Y3 (r:Int):bq [gL e,aH f l,aK 11 r] [] []=some (kR (yP e (e.ak.At-gQ e))):=by
 obtain⟨h1,h2,h3,h4⟩:=h.aR
 obtain⟨n1,n2,n3⟩:=fJ e h
 have en:=iy e
 rw [n1]
 have e1:=qP e h (e.ak.At-max e.bH 1)
 have w1:=bM (e.ak.At-max e.bH 1) (by omega)
 generalize yP e (e.ak.At-max e.bH 1)=p at*
 clear h hh
 generalize hE:bq _ _ _=R
 simp [bq, -au,func188,f188,en,e1,w1]at hE
 exact hE.symm
theorem Y4 (r:Int):bq [gL e,aH f l,aK 10 r] [] []=some (kR (yP e (e.ak.At+gQ e))):=by
 obtain⟨h1,h2,h3,h4⟩:=h.aR
 obtain⟨n1,n2,n3⟩:=fJ e h
 have en:=iy e
 rw [n1]
 have e1:=qP e h (e.ak.At+max e.bH 1)
 have w1:=bM (e.ak.At+max e.bH 1) (by omega)
 generalize yP e (e.ak.At+max e.bH 1)=p at*
 clear h hh
 generalize hE:bq _ _ _=R
 simp [bq, -au,func188,f188,en,e1,w1]at hE
 exact hE.symm
theorem Y5 (r:Int):bq [gL e,aH f l,aK 12 r] [] []=some (kR (yP e 0)):=by
 obtain⟨h1,h2,h3,h4⟩:=h.aR
 obtain⟨n1,n2,n3⟩:=fJ e h
 have en:=iy e
 have e1:=qP e h 0
 generalize yP e 0=p at*
 clear h hh
 generalize hE:bq _ _ _=R
 simp [bq, -au,func188,f188,en,e1]at hE
 exact hE.symm
theorem Y6 (r:Int):bq [gL e,aH f l,aK 13 r] [] []=some (kR (yP e e.ak.av.length)):=by
 obtain⟨h1,h2,h3,h4⟩:=h.aR
 obtain⟨n1,n2,n3⟩:=fJ e h
 have en:=iy e
 have e1:=qP e h e.ak.av.length
 generalize yP e e.ak.av.length=p at*
 clear h hh
 generalize hE:bq _ _ _=R
 simp [bq, -au,func188,f188,en,e1]at hE
 exact hE.symm
theorem abr (r:Int):bq [gL e,aH f l,aK 8 r] [] []=some (kR (jF e f l (-1))):=by
 obtain⟨h1,h2,h3,h4⟩:=h.aR
 obtain⟨n1,n2,n3⟩:=fJ e h
 have en:=iy e
 have e1:=uw e h hh (-1) (.inr rfl)
 generalize jF e f l (-1)=p at*
 clear h hh
 generalize hE:bq _ _ _=R
 simp [bq, -au,func188,f188,en,e1]at hE
 exact hE.symm
theorem abt (r:Int):bq [gL e,aH f l,aK 9 r] [] []=some (kR (jF e f l 1)):=by
 obtain⟨h1,h2,h3,h4⟩:=h.aR
 obtain⟨n1,n2,n3⟩:=fJ e h
 have en:=iy e
 have e1:=uw e h hh 1 (.inl rfl)
 generalize jF e f l 1=p at*
 clear h hh
 generalize hE:bq _ _ _=R
 simp [bq, -au,func188,f188,en,e1]at hE
 exact hE.symm
theorem Y7  :bq [gL e,aH f l,aK 2 99] [] []=some (kR (e,3)):=by
 obtain⟨h1,h2,h3,h4⟩:=h.aR
 obtain⟨n1,n2,n3⟩:=fJ e h
 have en:=iy e
 have e1:=gB e h
 clear h hh
 generalize hE:bq _ _ _=R
 simp [bq, -au,func188,f188,en,e1]at hE
 exact hE.symm
theorem WC  :bq [gL e,aH f l,aK 2 108] [] []=some (kR (e,5)):=by
 obtain⟨h1,h2,h3,h4⟩:=h.aR
 obtain⟨n1,n2,n3⟩:=fJ e h
 have en:=iy e
 have e1:=gB e h
 clear h hh
 generalize hE:bq _ _ _=R
 simp [bq, -au,func188,f188,en,e1]at hE
 exact hE.symm
theorem WE  :bq [gL e,aH f l,aK 2 117] [] []=some (kR (lH e 0 (aR e) 2)):=by
 obtain⟨h1,h2,h3,h4⟩:=h.aR
 obtain⟨n1,n2,n3⟩:=fJ e h
 have en:=iy e
 have e1:=BS e h 0 e.ak.At 2 0 (aR e) (by omega) (by omega) (by omega) (by omega)
 generalize lH e 0 (aR e) 2=p at*
 clear h hh
 generalize hE:bq _ _ _=R
 simp [bq, -au,func188,f188,en,e1]at hE
 exact hE.symm
theorem SI  (hz:¬e.ak.av.length=0):bq [gL e,aH f l,aK 2 100] [] []=some (kR (OI e)):=by
 obtain⟨h1,h2,h3,h4⟩:=h.aR
 obtain⟨n1,n2,n3⟩:=fJ e h
 have en:=iy e
 have hz2:¬e.ak.av= []:=fun q=>hz (by rw [q];rfl)
 have hz3:¬(e.ak.av.length:Int)=0:=by omega
 have e1:=Nk e h e.ak.At (e.ak.At+max e.bH 1) (aR e) (min (aR e+gQ e) e.ak.av.length) (by omega) (by omega) (by omega)
 have w1:=bM (e.ak.At+max e.bH 1) (by omega)
 unfold OI
 generalize Dp e (aR e) (min (aR e+gQ e) e.ak.av.length)=p at*
 clear h hh
 generalize hE:bq _ _ _=R
 simp [bq, -au,func188,f188,en,e1,w1,hz2,hz3]at hE
 exact hE.symm
theorem WG  (hvb:pV [.aP (some 0) (ints e.ak.av),vI e.ak.At,V.v (.bool true)] [] []=some ⟨vI (((lG e.ak.av true (aR e):Nat):Int)),[],[]⟩):bq [gL e,aH f l,aK 2 119] [] []=some (kR (lH e (lG e.ak.av true (aR e)) (aR e) 2)):=by
 obtain⟨h1,h2,h3,h4⟩:=h.aR
 obtain⟨n1,n2,n3⟩:=fJ e h
 have en:=iy e
 have hv:=AZ (t:=e.ak.av) (big:=true) (a:=aR e)
 have e1:=BS e h (lG e.ak.av true (aR e)) e.ak.At 2 (lG e.ak.av true (aR e)) (aR e) (by omega) (by omega) hv (by omega)
 generalize lH e (lG e.ak.av true (aR e)) (aR e) 2=p at*
 generalize lG e.ak.av true (aR e)=b at*
 clear h hh
 generalize hE:bq _ _ _=R
 simp [bq, -au,func188,f188,en,e1,hvb]at hE
 exact hE.symm
theorem SK (hz:e.ak.av.length=0):bq [gL e,aH f l,aK 2 100] [] []=some (kR (e,4)):=by
 have en:=iy e
 have e1:=gB e h
 have hz2:e.ak.av= []:=List.length_eq_zero_iff.1 hz
 clear h hh
 generalize hE:bq _ _ _=R
 unfold bq at hE
 simp only [gL,gO,hO,hz2,bn]at e1 en hE
 simp [-au,func188,f188,en,e1]at hE
 simp only [kR,gL,gO,hO,hz2,bn]
 exact hE.symm
end
section
variable (e:dB) (h:fV e) {f:Int} {l:List ByteArray} (hh:gX f l)
include h hh
theorem SL (k:Int)(r:Int)(hk:k=3∨k=7∨k=15∨k=16):bq [gL e,aH f l,aK k r] [] []=some (kR (u6, -1)):=by
 have en:=iy e
 clear h hh
 simp only [kR,gL,gO,hO,u6,bn,show aC []= []from rfl,show aS []= []from rfl]
 generalize hE:bq _ _ _=R
 unfold bq at hE
 rcases hk with rfl|rfl|rfl|rfl<;>(simp [-au,func188,f188,en]at hE;exact hE.symm)
theorem WH (r:Int)(c1:¬r=99)(c2:¬r=108)(c3:¬r=100)(c4:¬r=117)(c5:¬r=119):bq [gL e,aH f l,aK 2 r] [] []=some (kR (u6, -1)):=by
 have en:=iy e
 clear h hh
 simp only [kR,gL,gO,hO,u6,bn,show aC []= []from rfl,show aS []= []from rfl]
 generalize hE:bq _ _ _=R
 simp [bq, -au,func188,f188,en,c1,c2,c3,c4,c5]at hE
 exact hE.symm
theorem Y8 (k r:Int)(hk:jh k r=true):bq [gL e,aH f l,aK k r] [] []=some (kR ((lY e f l k r).getD (u6, -1))):=by
 unfold lY
 by_cases c1:k=1
 ·rw [if_pos c1];subst c1
  exact abn e h hh r (lg (by simpa [jh] using hk))
 rw [if_neg c1]
 by_cases c6:k=6
 ·rw [if_pos c6];subst c6;exact abo e h hh r
 rw [if_neg c6]
 by_cases c4:k=4
 ·rw [if_pos c4];subst c4;exact abp e h hh r
 rw [if_neg c4]
 by_cases c2:k=2
 ·rw [if_pos c2]
  subst c2
  unfold fZ
  by_cases r1:r=99
  ·rw [if_pos r1];subst r1;exact Y7 e h hh
  rw [if_neg r1]
  by_cases r2:r=108
  ·rw [if_pos r2];subst r2;exact WC e h hh
  rw [if_neg r2]
  by_cases r3:r=100
  ·rw [if_pos r3]
   subst r3
   by_cases hz:e.ak.av.length=0
   ·rw [if_pos hz];exact SK e h hh hz
   ·rw [if_neg hz];exact SI e h hh hz
  rw [if_neg r3]
  by_cases r4:r=117
  ·rw [if_pos r4];subst r4;exact WE e h hh
  rw [if_neg r4]
  by_cases r5:r=119
  ·rw [if_pos r5]
   subst r5
   obtain⟨h1,h2,h3,h4⟩:=h.aR
   have hv:=JX e.ak.av (some 0) (aR e) true h2 (by omega)
   rw [←h1]at hv
   exact WG e h hh hv
  rw [if_neg r5]
  exact WH e h hh r r1 r2 r3 r4 r5
 rw [if_neg c2]
 by_cases c5:k=5
 ·rw [if_pos c5];subst c5;exact abq e h hh r
 rw [if_neg c5]
 by_cases c14:k=14
 ·rw [if_pos c14];subst c14;exact Y2 e h hh r
 rw [if_neg c14]
 by_cases c11:k=11
 ·rw [if_pos c11];subst c11;exact Y3 e h hh r
 rw [if_neg c11]
 by_cases c10:k=10
 ·rw [if_pos c10];subst c10;exact Y4 e h hh r
 rw [if_neg c10]
 by_cases c12:k=12
 ·rw [if_pos c12];subst c12;exact Y5 e h hh r
 rw [if_neg c12]
 by_cases c13:k=13
 ·rw [if_pos c13];subst c13;exact Y6 e h hh r
 rw [if_neg c13]
 by_cases c8:k=8
 ·rw [if_pos c8];subst c8;exact abr e h hh r
 rw [if_neg c8]
 by_cases c9:k=9
 ·rw [if_pos c9];subst c9;exact abt e h hh r
 rw [if_neg c9]
 refine SL e h hh k r ?_
 by_cases c3:k=3
 ·exact .inl c3
 ·have hr:gY k 4 16=true:=by
   unfold jh at hk
   rw [if_neg c1,if_neg c2,if_neg c3,Bool.and_eq_true]at hk
   exact hk.1
  have:=bA.1 hr
  omega
end
def FW (a:Int):Prop:=0≤a∧a≤5
theorem lZ:FW 0:=⟨by decide,by decide⟩
theorem l5:FW 1:=⟨by decide,by decide⟩
theorem l6:FW 2:=⟨by decide,by decide⟩
theorem l7:FW 3:=⟨by decide,by decide⟩
theorem l8:FW 4:=⟨by decide,by decide⟩
theorem l9:FW 5:=⟨by decide,by decide⟩
theorem iU {c:Prop} [Decidable c]{a b:dB×Int}(ha:c→FW a.2)(hb:¬c→FW b.2):FW (if c then a else b).2:=by
 by_cases hc:c
 ·rw [if_pos hc];exact ha hc
 ·rw [if_neg hc];exact hb hc
section
variable (e:dB) (f:Int) (l:List ByteArray) (k r:Int) (n:Nat)
theorem RB (f u:Nat):FW (Dp e f u).2:=by unfold Dp;(first|refine iU (fun _=>?_) (fun _=>?_)|split)<;>(first|exact lZ|exact l5|exact l6|exact l7|exact l8|exact l9)
theorem BU (f u:Nat)(how:Int):FW (lH e f u how).2:=by unfold lH;(first|refine iU (fun _=>?_) (fun _=>?_)|split)<;>(first|exact lZ|exact l5|exact l6|exact l7|exact l8|exact l9)
theorem RD (u:List Int)(last:Int):FW (Au e u last).2:=by unfold Au;(first|refine iU (fun _=>?_) (fun _=>?_)|split)<;>(first|exact lZ|exact l5|exact l6|exact l7|exact l8|exact l9)
theorem wK (b:Int):FW (jF e f l b).2:=by
 unfold jF
 cases h:qK e f l b with
 | none=>(first|exact lZ|exact l5|exact l6|exact l7|exact l8|exact l9)
 | some x=>
  unfold qK at h
  split at h
  ·injection h with h;subst h;(first|exact lZ|exact l5|exact l6|exact l7|exact l8|exact l9)
  ·split at h
   ·cases h
   ·injection h with h;subst h;(first|exact lZ|exact l5|exact l6|exact l7|exact l8|exact l9)
theorem UD:FW (mQ e).2:=by unfold mQ;(first|refine iU (fun _=>?_) (fun _=>?_)|split)<;>(first|exact lZ|exact l5|exact l6|exact l7|exact l8|exact l9)
theorem ad5:FW (BM e).2:=by
 unfold BM;split
 ·(first|exact lZ|exact l5|exact l6|exact l7|exact l8|exact l9)
 ·exact RD _ _ _
theorem SN:FW (jO e).2:=by unfold jO;(first|refine iU (fun _=>?_) (fun _=>?_)|split)<;>(first|exact lZ|exact l5|exact l6|exact l7|exact l8|exact l9)
theorem ad6:FW (zY e r).2:=by
 unfold zY
 (first|refine iU (fun _=>?_) (fun _=>?_)|split)
 ·(first|exact lZ|exact l5|exact l6|exact l7|exact l8|exact l9)
 (first|refine iU (fun _=>?_) (fun _=>?_)|split)
 ·(first|exact lZ|exact l5|exact l6|exact l7|exact l8|exact l9)
 (first|refine iU (fun _=>?_) (fun _=>?_)|split)
 ·(first|exact lZ|exact l5|exact l6|exact l7|exact l8|exact l9)
 (first|refine iU (fun _=>?_) (fun _=>?_)|split)
 ·exact BU _ _ _ _
 (first|refine iU (fun _=>?_) (fun _=>?_)|split)
 ·exact SN _
 (repeat' (first|refine iU (fun _=>?_) (fun _=>?_)|split))
 all_goals (first|exact lZ|exact l5|exact l6|exact l7|exact l8|exact l9)
theorem ad7:FW (Ir e).2:=by unfold Ir;(first|refine iU (fun _=>?_) (fun _=>?_)|split)<;>(first|exact lZ|exact l5|exact l6|exact l7|exact l8|exact l9)
theorem ad8:FW (CO e f l r).2:=by
 unfold CO
 (first|refine iU (fun _=>?_) (fun _=>?_)|split)
 ·(first|exact lZ|exact l5|exact l6|exact l7|exact l8|exact l9)
 (first|refine iU (fun _=>?_) (fun _=>?_)|split)
 ·(first|exact lZ|exact l5|exact l6|exact l7|exact l8|exact l9)
 (first|refine iU (fun _=>?_) (fun _=>?_)|split)
 ·(first|exact lZ|exact l5|exact l6|exact l7|exact l8|exact l9)
 (first|refine iU (fun _=>?_) (fun _=>?_)|split)
 ·(first|exact lZ|exact l5|exact l6|exact l7|exact l8|exact l9)
 (first|refine iU (fun _=>?_) (fun _=>?_)|split)
 ·exact wK _ _ _ _
 (first|refine iU (fun _=>?_) (fun _=>?_)|split)
 ·exact wK _ _ _ _
 (first|refine iU (fun _=>?_) (fun _=>?_)|split)
 ·exact BU _ _ _ _
 (first|refine iU (fun _=>?_) (fun _=>?_)|split)
 ·exact ad5 _
 (first|refine iU (fun _=>?_) (fun _=>?_)|split)
 ·exact ad7 _
 (first|refine iU (fun _=>?_) (fun _=>?_)|split)
 ·exact UD _
 (first|refine iU (fun _=>?_) (fun _=>?_)|split)<;>(first|exact lZ|exact l5|exact l6|exact l7|exact l8|exact l9)
theorem RF {p:dB×Int}(hp:fZ e r=some p):FW p.2:=by
 unfold fZ at hp
 (first|(rcases iE hp with⟨_,hp⟩|⟨_,hp⟩)|split at hp)
 ·injection hp with hp;subst hp;(first|exact lZ|exact l5|exact l6|exact l7|exact l8|exact l9)
 (first|(rcases iE hp with⟨_,hp⟩|⟨_,hp⟩)|split at hp)
 ·injection hp with hp;subst hp;(first|exact lZ|exact l5|exact l6|exact l7|exact l8|exact l9)
 (first|(rcases iE hp with⟨_,hp⟩|⟨_,hp⟩)|split at hp)
 ·injection hp with hp;subst hp
  (first|refine iU (fun _=>?_) (fun _=>?_)|split)
  ·(first|exact lZ|exact l5|exact l6|exact l7|exact l8|exact l9)
  ·exact RB _ _ _
 (first|(rcases iE hp with⟨_,hp⟩|⟨_,hp⟩)|split at hp)
 ·injection hp with hp;subst hp;exact BU _ _ _ _
 (first|(rcases iE hp with⟨_,hp⟩|⟨_,hp⟩)|split at hp)
 ·injection hp with hp;subst hp;exact BU _ _ _ _
 ·cases hp
theorem KJ {p:dB×Int}(hp:lY e f l k r=some p):FW p.2:=by
 unfold lY at hp
 (first|(rcases iE hp with⟨_,hp⟩|⟨_,hp⟩)|split at hp)
 ·injection hp with hp;subst hp;exact RD _ _ _
 (first|(rcases iE hp with⟨_,hp⟩|⟨_,hp⟩)|split at hp)
 ·injection hp with hp;subst hp;exact RD _ _ _
 (first|(rcases iE hp with⟨_,hp⟩|⟨_,hp⟩)|split at hp)
 ·injection hp with hp;subst hp;(first|exact lZ|exact l5|exact l6|exact l7|exact l8|exact l9)
 (first|(rcases iE hp with⟨_,hp⟩|⟨_,hp⟩)|split at hp)
 ·exact RF e r hp
 (first|(rcases iE hp with⟨_,hp⟩|⟨_,hp⟩)|split at hp)
 ·injection hp with hp;subst hp;exact RB _ _ _
 (first|(rcases iE hp with⟨_,hp⟩|⟨_,hp⟩)|split at hp)
 ·injection hp with hp;subst hp;exact RB _ _ _
 (first|(rcases iE hp with⟨_,hp⟩|⟨_,hp⟩)|split at hp)
 ·injection hp with hp;subst hp;(first|exact lZ|exact l5|exact l6|exact l7|exact l8|exact l9)
 (first|(rcases iE hp with⟨_,hp⟩|⟨_,hp⟩)|split at hp)
 ·injection hp with hp;subst hp;(first|exact lZ|exact l5|exact l6|exact l7|exact l8|exact l9)
 (first|(rcases iE hp with⟨_,hp⟩|⟨_,hp⟩)|split at hp)
 ·injection hp with hp;subst hp;(first|exact lZ|exact l5|exact l6|exact l7|exact l8|exact l9)
 (first|(rcases iE hp with⟨_,hp⟩|⟨_,hp⟩)|split at hp)
 ·injection hp with hp;subst hp;(first|exact lZ|exact l5|exact l6|exact l7|exact l8|exact l9)
 (first|(rcases iE hp with⟨_,hp⟩|⟨_,hp⟩)|split at hp)
 ·injection hp with hp;subst hp;exact wK _ _ _ _
 (first|(rcases iE hp with⟨_,hp⟩|⟨_,hp⟩)|split at hp)
 ·injection hp with hp;subst hp;exact wK _ _ _ _
 ·cases hp
theorem abu:FW (xI e f l k r).2:=by
 unfold xI
 cases hp:lY e f l k r with
 | some p=>exact KJ e f l k r hp
 | none=>
  simp only
  (first|refine iU (fun _=>?_) (fun _=>?_)|split)
  ·exact ad6 _ _
  (first|refine iU (fun _=>?_) (fun _=>?_)|split)
  ·exact BU _ _ _ _
  (first|refine iU (fun _=>?_) (fun _=>?_)|split)
  ·exact ad8 _ _ _ _
  ·(first|exact lZ|exact l5|exact l6|exact l7|exact l8|exact l9)
theorem o8 (op:Int)(f u:Nat):FW (gZ e op f u).2:=by unfold gZ;(repeat' (first|refine iU (fun _=>?_) (fun _=>?_)|split));all_goals (first|exact lZ|exact l5|exact l6|exact l7|exact l8|exact l9)
theorem Nn (u:Nat)(b:Bool):FW (qL e u b).2:=by
 unfold qL;split
 ·(first|exact lZ|exact l5|exact l6|exact l7|exact l8|exact l9)
 ·exact o8 _ _ _ _
theorem IU (how:Int):FW (nN e r how n).2:=by
 unfold nN;split
 ·(first|exact lZ|exact l5|exact l6|exact l7|exact l8|exact l9)
 ·exact Nn _ _ _
theorem Y9:FW (rO e k r n).2:=by
 unfold rO
 (first|refine iU (fun _=>?_) (fun _=>?_)|split)
 ·(first|exact lZ|exact l5|exact l6|exact l7|exact l8|exact l9)
 (first|refine iU (fun _=>?_) (fun _=>?_)|split)
 ·(first|refine iU (fun _=>?_) (fun _=>?_)|split)<;>(first|exact lZ|exact l5|exact l6|exact l7|exact l8|exact l9)
 (first|refine iU (fun _=>?_) (fun _=>?_)|split)
 ·(first|exact lZ|exact l5|exact l6|exact l7|exact l8|exact l9)
 ·exact IU _ _ _ _
theorem CW:FW (jR e r n).2:=by unfold jR;split<;>exact Nn _ _ _
theorem WI:FW (qM e f l k r n).2:=by
 unfold qM
 (first|refine iU (fun _=>?_) (fun _=>?_)|split)
 ·(first|exact lZ|exact l5|exact l6|exact l7|exact l8|exact l9)
 (first|refine iU (fun _=>?_) (fun _=>?_)|split)
 ·(first|refine iU (fun _=>?_) (fun _=>?_)|split)<;>(first|exact lZ|exact l5|exact l6|exact l7|exact l8|exact l9)
 (first|refine iU (fun _=>?_) (fun _=>?_)|split)
 ·exact wK _ _ _ _
 (first|refine iU (fun _=>?_) (fun _=>?_)|split)
 ·exact wK _ _ _ _
 (first|refine iU (fun _=>?_) (fun _=>?_)|split)
 ·exact CW _ _ _
 (first|refine iU (fun _=>?_) (fun _=>?_)|split)
 ·exact CW _ _ _
 (first|refine iU (fun _=>?_) (fun _=>?_)|split)
 ·exact CW _ _ _
 (first|refine iU (fun _=>?_) (fun _=>?_)|split)
 ·exact CW _ _ _
 (first|refine iU (fun _=>?_) (fun _=>?_)|split)
 ·exact o8 _ _ _ _
 (repeat' (first|refine iU (fun _=>?_) (fun _=>?_)|split))
 all_goals (first|exact lZ|exact l5|exact l6|exact l7|exact l8|exact l9)
theorem RG (a:Nat):FW (uP e a n).2:=by unfold uP;(first|refine iU (fun _=>?_) (fun _=>?_)|split)<;>(first|exact lZ|exact l5|exact l6|exact l7|exact l8|exact l9)
theorem SQ:FW (nY e n).2:=by unfold nY;(first|refine iU (fun _=>?_) (fun _=>?_)|split)<;>(first|exact lZ|exact l5|exact l6|exact l7|exact l8|exact l9)
theorem abv {p:dB×Int}(hp:vR e r n=some p):FW p.2:=by
 unfold vR at hp
 (first|(rcases iE hp with⟨_,hp⟩|⟨_,hp⟩)|split at hp)
 ·injection hp with hp;subst hp;(first|exact lZ|exact l5|exact l6|exact l7|exact l8|exact l9)
 (first|(rcases iE hp with⟨_,hp⟩|⟨_,hp⟩)|split at hp)
 ·injection hp with hp;subst hp;(first|exact lZ|exact l5|exact l6|exact l7|exact l8|exact l9)
 (first|(rcases iE hp with⟨_,hp⟩|⟨_,hp⟩)|split at hp)
 ·injection hp with hp;subst hp
  (first|refine iU (fun _=>?_) (fun _=>?_)|split)
  ·(first|exact lZ|exact l5|exact l6|exact l7|exact l8|exact l9)
  ·exact IU _ _ _ _
 (first|(rcases iE hp with⟨_,hp⟩|⟨_,hp⟩)|split at hp)
 ·injection hp with hp;subst hp
  (first|refine iU (fun _=>?_) (fun _=>?_)|split)
  ·(first|exact lZ|exact l5|exact l6|exact l7|exact l8|exact l9)
  ·exact IU _ _ _ _
 (first|(rcases iE hp with⟨_,hp⟩|⟨_,hp⟩)|split at hp)
 ·injection hp with hp;subst hp;(first|exact lZ|exact l5|exact l6|exact l7|exact l8|exact l9)
 ·cases hp
theorem abw:FW (zS e r).2:=by unfold zS;(repeat' (first|refine iU (fun _=>?_) (fun _=>?_)|split));all_goals (first|exact lZ|exact l5|exact l6|exact l7|exact l8|exact l9)
theorem WJ:FW (rX e f l r n).2:=by
 unfold rX
 (first|refine iU (fun _=>?_) (fun _=>?_)|split)
 ·exact o8 _ _ _ _
 (first|refine iU (fun _=>?_) (fun _=>?_)|split)
 ·exact o8 _ _ _ _
 (first|refine iU (fun _=>?_) (fun _=>?_)|split)
 ·exact o8 _ _ _ _
 (first|refine iU (fun _=>?_) (fun _=>?_)|split)
 ·exact o8 _ _ _ _
 (first|refine iU (fun _=>?_) (fun _=>?_)|split)
 ·exact o8 _ _ _ _
 (first|refine iU (fun _=>?_) (fun _=>?_)|split)
 ·exact o8 _ _ _ _
 (first|refine iU (fun _=>?_) (fun _=>?_)|split)
 ·(first|exact lZ|exact l5|exact l6|exact l7|exact l8|exact l9)
 (first|refine iU (fun _=>?_) (fun _=>?_)|split)
 ·exact RG _ _ _
 (first|refine iU (fun _=>?_) (fun _=>?_)|split)
 ·exact RG _ _ _
 (first|refine iU (fun _=>?_) (fun _=>?_)|split)
 ·exact SQ _ _
 (first|refine iU (fun _=>?_) (fun _=>?_)|split)
 ·exact UD _
 (first|refine iU (fun _=>?_) (fun _=>?_)|split)
 ·exact wK _ _ _ _
 (first|refine iU (fun _=>?_) (fun _=>?_)|split)
 ·exact wK _ _ _ _
 (first|refine iU (fun _=>?_) (fun _=>?_)|split)
 ·(first|exact lZ|exact l5|exact l6|exact l7|exact l8|exact l9)
 ·exact abw _ _
theorem WK:FW (oz e f l r n).2:=by
 unfold oz
 cases hb:vR e r n with
 | some p=>exact abv e r n hb
 | none=>
  simp only
  (first|refine iU (fun _=>?_) (fun _=>?_)|split)
  ·exact o8 _ _ _ _
  (first|refine iU (fun _=>?_) (fun _=>?_)|split)
  ·exact Nn _ _ _
  (first|refine iU (fun _=>?_) (fun _=>?_)|split)
  ·(first|exact lZ|exact l5|exact l6|exact l7|exact l8|exact l9)
  ·exact WJ _ _ _ _ _
theorem ag6:FW (viE e f l k r).2:=by
 unfold viE
 (first|refine iU (fun _=>?_) (fun _=>?_)|split)
 ·cases hp:lY e f l k r with
  | some p=>exact KJ e f l k r hp
  | none=>
   simp only
   (first|refine iU (fun _=>?_) (fun _=>?_)|split)<;>(first|exact lZ|exact l5|exact l6|exact l7|exact l8|exact l9)
 (first|refine iU (fun _=>?_) (fun _=>?_)|split)
 ·exact Y9 _ _ _ _
 (first|refine iU (fun _=>?_) (fun _=>?_)|split)
 ·exact WI _ _ _ _ _ _
 ·exact WK _ _ _ _ _
theorem UE (q:List Int)(fr:Int):FW (BN e f l q fr).2:=by
 unfold BN
 (first|refine iU (fun _=>?_) (fun _=>?_)|split)
 ·(first|exact lZ|exact l5|exact l6|exact l7|exact l8|exact l9)
 ·rename_i x hs
  unfold mI at hs
  split at hs
  ·split at hs
   ·cases hs
   split at hs
   ·cases hs
   split at hs
   ·injection hs with hs;subst hs;(first|exact lZ|exact l5|exact l6|exact l7|exact l8|exact l9)
   ·cases hs
  ·cases hs
theorem Za:FW (sN e f l k r).2:=by
 unfold sN
 (first|refine iU (fun _=>?_) (fun _=>?_)|split)
 ·exact UE _ _ _ _ _
 (first|refine iU (fun _=>?_) (fun _=>?_)|split)
 ·(first|refine iU (fun _=>?_) (fun _=>?_)|split)
  ·(first|exact lZ|exact l5|exact l6|exact l7|exact l8|exact l9)
  ·exact UE _ _ _ _ _
 (first|refine iU (fun _=>?_) (fun _=>?_)|split)
 ·(first|refine iU (fun _=>?_) (fun _=>?_)|split)<;>(first|exact lZ|exact l5|exact l6|exact l7|exact l8|exact l9)
 (first|refine iU (fun _=>?_) (fun _=>?_)|split)
 ·(first|exact lZ|exact l5|exact l6|exact l7|exact l8|exact l9)
 (first|refine iU (fun _=>?_) (fun _=>?_)|split)<;>(first|exact lZ|exact l5|exact l6|exact l7|exact l8|exact l9)
theorem abx:FW (ug e f l k r).2:=by
 unfold ug
 (first|refine iU (fun _=>?_) (fun _=>?_)|split)
 ·exact abu _ _ _ _ _
 (first|refine iU (fun _=>?_) (fun _=>?_)|split)
 ·exact Za _ _ _ _ _
 ·exact ag6 _ _ _ _ _
end
end Go.Proofs.YtlpdjhiggpblcaaGreat
