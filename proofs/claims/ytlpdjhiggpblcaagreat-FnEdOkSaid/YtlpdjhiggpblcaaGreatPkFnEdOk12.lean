/- Part 12 of a proof in several texts (an abstract evaluator, what the functions compute). -/
import Derived.Test.YtlpdjhiggpblcaaGreatPkFnEdOk11
import Derived.Test.YtlpdjhiggpblcaaGreatRows
import Derived.Test.YtlpdjhiggpblcaaGreatChecked
import Derived.ProofKit
import Derived.OpenShut
import Derived.Handy
import Derived.ShutString
import Derived.ChangeOld
import Derived.Deep.Slices
open Go.Proofs.Tryz
namespace Go.Proofs.YtlpdjhiggpblcaaGreat
set_option linter.unusedSectionVars false
set_option linter.unusedSimpArgs false
set_option linter.unusedVariables false
open Go.RowKit
set_option maxHeartbeats 8000000
set_option maxRecDepth 10000
theorem Mi (l:List eT):aC (lC l)=(aC l).drop 1++(aC l).take 1:=by
 cases l with
 | nil=>rfl
 | cons p l=>rw [gN];unfold lC;simp [Ey,List.drop_succ_cons]
theorem YF (l:List eT)(h:eZ l=true):zm [.agg [.aP (some 0) (aC l)]] [] []=some ⟨.agg [.own 0],[],[(0,aC (lC l))]⟩:=by
 obtain⟨hl,hp⟩:=yO h
 have e1:=cK l (Ee h)
 rw [h]at e1
 have e3:=Il l (some 0) (by omega) (fun p hq=>by have:=(hp p hq).2.1;omega)
 have hrow:∀r∈aC l,∃q,r= [D.l q]:=fun r hr=>by
  obtain⟨i,hi⟩:=List.getElem?_of_mem hr
  have hlt:i<l.length:=by have:=(List.getElem?_eq_some_iff.1 hi).1;simpa using this
  rw [jq hlt]at hi
  injection hi with hi
  exact⟨_,hi.symm⟩
 unfold zm
 simp only
 rw [if_pos ⟨e1,e3,hrow,by simp;omega⟩,Mi]
section
variable (e:dB) (h:fV e)
include h
theorem YG:jy [gL e] [] []=some (kR (jO e)):=by
 obtain⟨h1,h2,h3,h4⟩:=h.aR
 have e1:pR [.agg [.aP (some 0) (aC e.aI.aA)]] [] []=some ⟨.own 0,[],[(0,ints (bE e.aI.aA))]⟩:=FH e.aI.aA h.ring
 have hr:=Q0 h.ring
 have e2:=YF e.aI.aA h.ring
 have e3:pR [.agg [.aP (some 0) (aC (lC e.aI.aA))]] [] []=some ⟨.own 0,[],[(0,ints (bE (lC e.aI.aA)))]⟩:=FH _ hr
 have e4:=mJ e h
 have e5:=dY e h
 obtain⟨t1,t2⟩:=xL h.ring
 obtain⟨t3,t4⟩:=xL hr
 have w:=bM (e.ak.At-(bE e.aI.aA).length) (by omega)
 have hlen:=h.line
 unfold jO
 by_cases hc:Oo e=true
 ·obtain⟨c1,c2,c3,c4⟩:e.iZ=3∧¬bE e.aI.aA= []∧(bE e.aI.aA).length≤aR e∧(e.ak.av.drop (aR e-(bE e.aI.aA).length)).take (bE e.aI.aA).length=bE e.aI.aA:=by
   simpa [Oo] using hc
  obtain⟨q1,q2,q3⟩:=um h.line (show aR e-(bE e.aI.aA).length≤aR e by omega) h2
  have e6:=BK e.ak.av e.ak.At h.line (aR e-(bE e.aI.aA).length) (aR e) (by omega) h2
  have hca:cutAt e.ak.At ((aR e-(bE e.aI.aA).length:Nat):Int) (aR e:Int)=((aR e-(bE e.aI.aA).length:Nat):Int):=by
   unfold cutAt;rw [if_pos (by omega)];omega
  rw [hca]at e6 q1
  have e7:=BO (oD e.ak.av (aR e-(bE e.aI.aA).length) (aR e)) (bE (lC e.aI.aA)) ((aR e-(bE e.aI.aA).length:Nat):Int) q1 t3 (by omega)
  rw [Int.toNat_natCast]at e7
  have hsame:=CK (bE e.aI.aA) (bE e.aI.aA) (by omega) (by omega)
  rw [decide_eq_true rfl]at hsame
  have hF:((aR e-(bE e.aI.aA).length:Nat):Int)=e.ak.At-(bE e.aI.aA).length:=by omega
  have k1:(e.ak.At-((bE e.aI.aA).length:Int)).toNat=aR e-(bE e.aI.aA).length:=by omega
  have k2:e.ak.At.toNat=aR e:=rfl
  have k3:aR e-(aR e-(bE e.aI.aA).length)=(bE e.aI.aA).length:=by omega
  have k4:0≤e.ak.At-((bE e.aI.aA).length:Int):=by omega
  have k5:e.ak.At-((bE e.aI.aA).length:Int)≤e.ak.At:=by omega
  have k6:e.ak.At≤e.ak.av.length:=by omega
  have k7:¬e.ak.At-((bE e.aI.aA).length:Int)<0:=by omega
  have k8:¬((bE e.aI.aA).length:Int)=0:=by have:=List.length_pos_iff.2 c2;omega
  have k9:0≤e.ak.At:=by omega
  have kA:((bE e.aI.aA).length:Int)≤e.ak.At:=by omega
  rw [hF,←h1]at e6
  by_cases hl:(oD e.ak.av (aR e-(bE e.aI.aA).length) (aR e)).length+(bE (lC e.aI.aA)).length≤400
  ·rw [if_pos ⟨hc,hl⟩]
   rw [if_pos hl]at e7
   obtain⟨-,z2, -, -⟩:=bX q1
   have e8:=Nb {e with aI:=⟨lC e.aI.aA⟩} (h.Md hr) (zR (oD e.ak.av (aR e-(bE e.aI.aA).length) (aR e)) (aR e-(bE e.aI.aA).length) (bE (lC e.aI.aA))) (((aR e-(bE e.aI.aA).length:Nat):Int)+(bE (lC e.aI.aA)).length) 3 ((yY hl z2 t3 (by omega)).2 _ (by omega) (by omega))
   generalize zR (oD e.ak.av (aR e-(bE e.aI.aA).length) (aR e)) (aR e-(bE e.aI.aA).length) (bE (lC e.aI.aA))=Y at*
   unfold oD at e7
   rw [hF]at e7 e8
   generalize hX:e.ak.av.take (aR e-(bE e.aI.aA).length)++e.ak.av.drop (aR e)=X at*
   rw [hF]
   generalize sO {e with aI:=⟨lC e.aI.aA⟩} Y (e.ak.At-(bE e.aI.aA).length+(bE (lC e.aI.aA)).length) 3=p at*
   generalize bE (lC e.aI.aA)=tn at*
   generalize bE e.aI.aA=tp at*
   generalize lC e.aI.aA=tr at*
   clear h hlen
   generalize hE:jy _ _ _=R
   unfold jy at hE
   simp only [gL,gO,hO,c1]at e4 e5 e8 hE
   simp [-au,func160,f160,e1,e2,e3,e5,e6,e7,e8,hsame,w,k1,k2,k3,k4,k5,k6,k7,k8,k9,kA,c2,c4]at hE
   exact hE.symm
  ·rw [if_neg (fun q=>hl q.2)]
   rw [if_neg hl]at e7
   unfold oD at e7
   rw [hF]at e7
   generalize hX:e.ak.av.take (aR e-(bE e.aI.aA).length)++e.ak.av.drop (aR e)=X at*
   generalize dM e=p at*
   generalize bE (lC e.aI.aA)=tn at*
   generalize bE e.aI.aA=tp at*
   generalize lC e.aI.aA=tr at*
   clear h hlen
   generalize hE:jy _ _ _=R
   unfold jy at hE
   simp only [gL,gO,hO,c1]at e4 e5 hE
   simp [-au,func160,f160,e1,e2,e3,e4,e6,e7,hsame,w,k1,k2,k3,k4,k5,k6,k7,k8,k9,kA,c2,c4]at hE
   exact hE.symm
 ·rw [if_neg (fun q=>hc q.1)]
  generalize dM e=p at*
  have hc':¬(e.iZ=3∧¬bE e.aI.aA= []∧(bE e.aI.aA).length≤aR e∧(e.ak.av.drop (aR e-(bE e.aI.aA).length)).take (bE e.aI.aA).length=bE e.aI.aA):=fun q=>hc (by simpa [Oo] using q)
  by_cases c1:e.iZ=3
  ·by_cases c2:bE e.aI.aA= []
   ·rw [c2]at e1
    simp only [bn]at e1
    have w0:=bM e.ak.At (by omega)
    generalize hE:jy _ _ _=R
    unfold jy at hE
    simp only [gL,gO,hO,c1]at e4 hE
    simp [-au,func160,f160,e1,e4,w0]at hE
    exact hE.symm
   ·have k8:¬((bE e.aI.aA).length:Int)=0:=by have:=List.length_pos_iff.2 c2;omega
    by_cases c3:(bE e.aI.aA).length≤aR e
    ·have c4:¬(e.ak.av.drop (aR e-(bE e.aI.aA).length)).take (bE e.aI.aA).length=bE e.aI.aA:=fun q=>hc' ⟨c1,c2,c3,q⟩
     have hsame:=CK ((e.ak.av.drop (aR e-(bE e.aI.aA).length)).take (bE e.aI.aA).length) (bE e.aI.aA) (by simp;omega) (by omega)
     rw [decide_eq_false c4]at hsame
     have k1:(e.ak.At-((bE e.aI.aA).length:Int)).toNat=aR e-(bE e.aI.aA).length:=by omega
     have k2:e.ak.At.toNat=aR e:=rfl
     have k3:aR e-(aR e-(bE e.aI.aA).length)=(bE e.aI.aA).length:=by omega
     have k4:0≤e.ak.At-((bE e.aI.aA).length:Int):=by omega
     have k5:e.ak.At-((bE e.aI.aA).length:Int)≤e.ak.At:=by omega
     have k6:e.ak.At≤e.ak.av.length:=by omega
     have k7:¬e.ak.At-((bE e.aI.aA).length:Int)<0:=by omega
     have k9:0≤e.ak.At:=by omega
     have kA:((bE e.aI.aA).length:Int)≤e.ak.At:=by omega
     generalize bE e.aI.aA=tp at*
     generalize hE:jy _ _ _=R
     unfold jy at hE
     simp only [gL,gO,hO,c1]at e4 hE
     simp [-au,func160,f160,e1,e4,hsame,w,k1,k2,k3,k4,k5,k6,k7,k8,k9,kA,c2]at hE
     exact hE.symm
    ·have k7:e.ak.At-((bE e.aI.aA).length:Int)<0:=by omega
     generalize bE e.aI.aA=tp at*
     generalize hE:jy _ _ _=R
     unfold jy at hE
     simp only [gL,gO,hO,c1]at e4 hE
     simp [-au,func160,f160,e1,e4,w,k7,k8,c2]at hE
     exact hE.symm
  ·generalize bE e.aI.aA=tp at*
   generalize hE:jy _ _ _=R
   simp [jy, -au,func160,f160,e1,e4,w,c1]at hE
   exact hE.symm
theorem adJ:fF [gL e,vI 121] [] []=some (kR (jO e)):=by
 have e1:=YG e h
 have d1:gY 121 48 57=false:=by decide
 generalize jO e=p at*
 clear h
 generalize hE:fF _ _ _=R
 simp [fF,func90,f90,lX,d1,e1]at hE
 exact hE.symm
theorem YH (r:Int):fF [gL e,vI r] [] []=some (kR (zY e r)):=by
 by_cases hr:r=121
 ·subst hr
  have d1:¬gY 121 48 57=true:=by decide
  rw [show zY e 121=jO e from by unfold zY;rw [if_neg d1];rfl]
  exact adJ e h
 ·exact ag4 e h r hr
end
noncomputable def A8:aN:=aG prog [(6,false,wX),(7,false,tK),(8,false,lJ),(9,false,Cu)] ⟨[],[],[],[]⟩ 3
theorem adK:aF prog 3 A8:=sound _ (ah Vv (ah afA (ah afF (ah O4 ay)))) XM func3 (aW (by kernel_rfl))
open Go.ChangeShapes Go.WideShapes Go.ChangeAt Go.RowKit Go.Deep
theorem Wd:ownKnob prog.godebug=none:=by kernel_rfl
theorem Wh:laidOutB prog=true:=by kernel_rfl
end Go.Proofs.YtlpdjhiggpblcaaGreat
namespace Go.Proofs.YtlpdjhiggpblcaaGreat
open Go.ChangeShapes Go.WideShapes Go.ChangeAt Go.RowKit Go.Deep
set_option linter.unusedSimpArgs false
set_option linter.unusedVariables false
def wfV:Value→Bool
 | .int k n=>(Lit.int k n).wf
 | .string s=>decide (s.size≤9223372036854775807)
 | _=>true
mutual
def okD:D→Bool
 | .a v=>wfV v
 | .l rows=>decide (rows.length≤9223372036854775807)&&okT rows
 | .gone=>false
def okR:List D→Bool
 | []=>true
 | d::r=>okD d&&okR r
def okT:List (List D)→Bool
 | []=>true
 | r::rows=>okR r&&okT rows
end
theorem afV:∀{rows:List (List D)},(∀r∈rows,okR r=true)→okT rows=true
 | [],_=>rfl
 | r::rows,h=>by
  show(okR r&&okT rows)=true
  rw [h r (by simp),afV fun q hq=>h q (by simp [hq])];rfl
inductive RY (G:Nat→Obj→Prop):List Value→List D→Prop
 | nil:RY G [] []
 | cons {v:Value} {d:D} {vs:List Value} {ds:List D}:wL G d v→RY G vs ds→RY G (v::vs) (d::ds)
theorem RY.app {G:Nat→Obj→Prop}:∀{us vs:List Value} {ds es:List D},RY G us ds→RY G vs es→RY G (us++vs) (ds++es)
 | _,_,_,_, .nil,h=>h
 | _,_,_,_, .cons a b,h=> .cons a (b.app h)
theorem RY.part {G:Nat→Obj→Prop}{cs:List Value}(o c:Nat){ds es:List D}(h:RY G ((cs.drop o).take c) ds)(k:RY G (cs.drop (o+c)) es):RY G (cs.drop o) (ds++es):=by
 have:=h.app k
 rwa [←List.drop_drop,List.take_append_drop]at this
theorem RY.one {G:Nat→Obj→Prop}{v:Value}{d:D}(h:RY G [v] [d]):wL G d v:=by cases h;assumption
theorem RY.lF {G:Nat→Obj→Prop}{cs:List Value}{d:D}{ds:List D}(h:RY G cs (d::ds)):∃v vs,cs=v::vs∧wL G d v∧RY G vs ds:=by cases h with|cons a b=>exact⟨_,_,rfl,a,b⟩
theorem RY.get {G:Nat→Obj→Prop}:∀{vs:List Value} {ds:List D} {i:Nat} {d:D},RY G vs ds→ds[i]?=some d→∃u,vs[i]?=some u∧wL G d u
 | _,_,i,d, .nil,e=>by simp at e
 | _,_,0,d, .cons a _,e=>by simp at e;subst e;exact⟨_,rfl,a⟩
 | _,_,i+1,d, .cons _ b,e=>by simpa using b.get (i:=i) (by simpa using e)
theorem Uy {W:World}{b o:Nat}{u:Value}(h:W.cell? ⟨b,o,none⟩=some u):∃cs T fr,W.heap[b]?=some (.cells cs T fr)∧cs[o]?=some u:=by
 unfold World.cell? at h
 split at h
 ·rename_i cs T fr e
  exact⟨cs,T,fr,e,by simpa using h⟩
 ·cases h
theorem JV {α:Type}(C:Gt α)(l:List α):(C.rows l).flatten.length=l.length*C.k:=by
 have:=jf (k:=C.k) (C.rows l) (fun r hr=>by obtain⟨x,_,rfl⟩:=List.mem_map.1 hr;exact C.len x)
 rw [this,C.Bf]
section
variable {H:Type} {enc:TypeId×Value→H} {W:World} {fuel:Nat} {cs:List Value} {x:DataW H×List MemPlace}
set_option maxRecDepth 100000 in
theorem adL {t e:TypeId}{α:Type} [Inhabited α](C:Gt α)(h0:0<C.k)(ht:prog.underlying t=some (.slice e))(hc:prog.cellsOf e=C.k)
  (he:∀{fuel cs x},DataW.trod enc prog W 0 (fun _=>true) true fuel e cs=some x→∃a:α,okR (C.enc a)=true∧RY (jT W) cs (C.enc a))
  (h:DataW.trod enc prog W 0 (fun _=>true) true fuel t cs=some x):∃l:List α,okD (.l (C.rows l))=true∧RY (jT W) cs [.l (C.rows l)]:=by
 rcases open_slice ht h with⟨rfl,_⟩|⟨a,len,cap,m,n,D',Pl,rfl,hb,hl,hm,hmm,rfl,hx⟩
 ·exact⟨[],rfl, .cons (.nil none 0 (by omega) (fun _=>rfl)) .nil⟩
 have hlm:len≤m:=by rw [hmm];split<;>omega
 rw [hc]at hx
 obtain⟨g,hg⟩:=choose_lt (α:=α) (p:=fun i y=>okR (C.enc y)=true∧∀j d,(C.enc y)[j]?=some d→∃u,W.cell? (a.add (i*C.k+j))=some u∧wL (jT W) d u) (n:=m) (fun i hi=>by
  obtain⟨cs',h1,h2⟩:=hx i hi
  obtain⟨_,hlen,hcell⟩:=World.cells?_some h1
  obtain⟨y,hp,hy⟩:=he h2
  refine⟨y,hp,fun j d e=>?_⟩
  obtain⟨u,e1,e2⟩:=hy.get e
  have hj:j<C.k:=by rw [←C.len y];exact(List.getElem?_eq_some_iff.1 e).1
  refine⟨u,?_,e2⟩
  rw [←e1,←hcell j hj,add_add])
 have hlen:(C.rows ((List.range len).map g)).length=len:=by rw [C.Bf];simp
 unfold maxLen at hm
 refine⟨(List.range len).map g,?_, .cons ?_ .nil⟩
 ·show(decide _&&okT _)=true
  rw [hlen,decide_eq_true (by omega),Bool.true_and]
  refine afV fun r hr=>?_
  obtain⟨z,hz,rfl⟩:=List.mem_map.1 hr
  obtain⟨i,hi,rfl⟩:=List.mem_map.1 hz
  exact(hg i (by have:=List.mem_range.1 hi;omega)).1
 have hu:∀r∈C.rows ((List.range len).map g),r.length=C.k:=fun r hr=>by obtain⟨z,_,rfl⟩:=List.mem_map.1 hr;exact C.len z
 have key:∀i d,(C.rows ((List.range len).map g)).flatten[i]?=some d→∃u,W.cell? (a.add i)=some u∧wL (jT W) d u:=by
  intro i d e
  have hi:i<len*C.k:=by
   have:=(List.getElem?_eq_some_iff.1 e).1
   rw [JV,List.length_map,List.length_range]at this;exact this
  have e1:i / C.k*C.k+i%C.k=i:=by rw [Nat.mul_comm];exact Nat.div_add_mod i C.k
  have h1:i / C.k<len:=Nat.div_lt_of_lt_mul (by rw [Nat.mul_comm];exact hi)
  have hlt:i%C.k<(C.enc (g (i / C.k))).length:=by rw [C.len];exact Nat.mod_lt _ h0
  have e2:=flat_get (k:=C.k) (C.rows ((List.range len).map g)) (i / C.k) (i%C.k) (C.enc (g (i / C.k))) _ hu (by
   unfold Gt.rows
   rw [List.getElem?_map,List.getElem?_map,List.getElem?_range h1];rfl) (List.getElem?_eq_getElem hlt)
  rw [e1,e]at e2
  obtain⟨u,h2,h3⟩:=(hg (i / C.k) (by omega)).2 (i%C.k) d (by rw [List.getElem?_eq_getElem hlt];exact e2.symm)
  rw [e1]at h2
  exact⟨u,h2,h3⟩
 rcases Nat.eq_zero_or_pos len with h1|h1
 ·subst h1
  exact .nil _ _ (by omega) (fun h=>nomatch h)
 have hpos:0<(C.rows ((List.range len).map g)).flatten.length:=by rw [JV,List.length_map,List.length_range];exact Nat.mul_pos h1 h0
 obtain⟨b,o,spot⟩:=a
 obtain⟨u0,h2, -⟩:=key 0 _ (List.getElem?_eq_getElem hpos)
 have hs:spot=none:=by simpa [Addr.add] using World.cell?_spot h2
 subst hs
 rw [Addr.add_lit]at h2
 obtain⟨hcs,T,fr,hh, -⟩:=Uy h2
 refine .l _ len cap b o C.k T fr hcs (fun i=>(W.cell? ⟨b,o+i,none⟩).getD undef) hlen h1 hl (by omega) h0 hu hh (fun i d e=>?_) (fun i d e=>?_)
 ·obtain⟨u,h3, -⟩:=key i d e
  rw [Addr.add_lit]at h3
  rw [h3]
  obtain⟨cs2,T2,fr2,hh2,h4⟩:=Uy h3
  rw [hh]at hh2
  injection hh2 with hh2;injection hh2 with q1 q2 q3
  rw [q1];exact h4
 ·obtain⟨u,h3,h4⟩:=key i d e
  rw [Addr.add_lit]at h3
  rw [h3];exact h4
theorem ah7:prog.cellsOf 5=1:=by kernel_rfl
theorem ah8 {x:Int}(w:(Lit.int .u8 x).wf=true):0≤x∧x≤255:=by
 simpa [Lit.wf,IntKind.min,IntKind.max,IntKind.signed,IntKind.bits] using w
set_option maxRecDepth 100000 in
theorem afW (h:DataW.trod enc prog W 0 (fun _=>true) true fuel 5 cs=some x):∃a:UInt8,okR (zO.enc a)=true∧RY (jT W) cs (zO.enc a):=by
 obtain⟨n,rfl,_,wf⟩:=DataW.trod_int underlying5 h
 obtain⟨h0,h1⟩:=ah8 wf
 have e:zO.enc (UInt8.ofNat n.toNat)= [.a (.int .u8 n)]:=by
  show [D.a (.int .u8 ((UInt8.ofNat n.toNat).toNat:Int))]=_
  congr 3;simp;omega
 refine⟨UInt8.ofNat n.toNat,?_,?_⟩
 ·rw [e];show(_&&true)=true;rw [Bool.and_true];exact wf
 ·rw [e];exact .cons (.a _) .nil
theorem adM (h:DataW.trod enc prog W 0 (fun _=>true) true fuel 22 cs=some x):∃l:List UInt8,okR [.l (nK l)]=true∧RY (jT W) cs [.l (nK l)]:=by
 obtain⟨l,a,b⟩:=adL zO (by decide) underlying22 ah7 afW h
 exact⟨l,by show(_&&true)=true;rw [Bool.and_true];exact a,b⟩
set_option maxRecDepth 100000 in
theorem Rf {base:Nat}{v:Value}{d:DataW H}{ps:List MemPlace}(hv:Value.okWide prog W .any base 22 v)(h:DataW.Trod enc prog W 0 (fun _=>true) true 22 v d ps):
  ∃l:List UInt8,okR [.l (nK l)]=true∧wL (jT W) (.l (nK l)) v:=by
 obtain⟨a0,len,cap,rfl⟩:=okWide_slice underlying22 hv
 obtain⟨f,hf⟩:=h
 obtain⟨l,g,r⟩:=adM hf
 exact⟨l,g,r.one⟩
end
end Go.Proofs.YtlpdjhiggpblcaaGreat
namespace Go.Proofs.YtlpdjhiggpblcaaGreat
set_option linter.unusedSectionVars false
set_option linter.unusedSimpArgs false
set_option linter.unusedVariables false
open Go.ChangeShapes Go.WideShapes Go.ChangeAt Go.RowKit Go.Deep
section
variable {H:Type} {enc:TypeId×Value→H} {W:World} {fuel:Nat} {cs:List Value} {x:DataW H×List MemPlace}
instance:Inhabited iG:=⟨ahi⟩
instance:Inhabited eT:=⟨aeB⟩
instance:Inhabited aeC:=⟨aiX⟩
instance:Inhabited aeD:=⟨aiY⟩
instance:Inhabited dB:=⟨u6⟩
end
open Go.RowKit
set_option maxHeartbeats 16000000
set_option maxRecDepth 100000
section
variable (e:dB) (h:fV e) {f:Int} {l:List ByteArray} (hh:gX f l)
include h hh
theorem aa2:bR [gL e,aH f l,vI 97] [] []=some (kR (yP e 0)):=by
 have e1:=Ow e h hh 0
 generalize yP e 0=p at*
 clear h hh
 generalize hE:bR _ _ _=R
 simp [bR,func95,f95,e1]at hE
 exact hE.symm
theorem YI:bR [gL e,aH f l,vI 101] [] []=some (kR (yP e e.ak.av.length)):=by
 have e1:=Ox e h hh 0
 generalize yP e e.ak.av.length=p at*
 clear h hh
 generalize hE:bR _ _ _=R
 simp [bR,func95,f95,e1]at hE
 exact hE.symm
theorem aa3:bR [gL e,aH f l,vI 98] [] []=some (kR (yP e (e.ak.At-gQ e))):=by
 have e1:=Ou e h hh 0
 generalize yP e (e.ak.At-gQ e)=p at*
 clear h hh
 generalize hE:bR _ _ _=R
 simp [bR,func95,f95,e1]at hE
 exact hE.symm
theorem YJ:bR [gL e,aH f l,vI 102] [] []=some (kR (yP e (e.ak.At+gQ e))):=by
 have e1:=Ov e h hh 0
 generalize yP e (e.ak.At+gQ e)=p at*
 clear h hh
 generalize hE:bR _ _ _=R
 simp [bR,func95,f95,e1]at hE
 exact hE.symm
theorem YK:bR [gL e,aH f l,vI 112] [] []=some (kR (jF e f l (-1))):=by
 have e1:=Rb e h hh 0
 generalize jF e f l (-1)=p at*
 clear h hh
 generalize hE:bR _ _ _=R
 simp [bR,func95,f95,e1]at hE
 exact hE.symm
theorem YL:bR [gL e,aH f l,vI 110] [] []=some (kR (jF e f l 1)):=by
 have e1:=Rc e h hh 0
 generalize jF e f l 1=p at*
 clear h hh
 generalize hE:bR _ _ _=R
 simp [bR,func95,f95,e1]at hE
 exact hE.symm
theorem YM:bR [gL e,aH f l,vI 121] [] []=some (kR (BM e)):=by
 have e1:=ag2 e h
 generalize BM e=p at*
 clear h hh
 generalize hE:bR _ _ _=R
 simp [bR,func95,f95,e1]at hE
 exact hE.symm
theorem aa4:bR [gL e,aH f l,vI 95] [] []=some (kR (mQ e)):=by
 have e1:=acz e h
 generalize mQ e=p at*
 clear h hh
 generalize hE:bR _ _ _=R
 simp [bR,func95,f95,e1]at hE
 exact hE.symm
theorem YN:bR [gL e,aH f l,vI 114] [] []=some (kR (BL e)):=by
 have e1:=V9 e h
 generalize BL e=p at*
 clear h hh
 generalize hE:bR _ _ _=R
 simp [bR,func95,f95,e1]at hE
 exact hE.symm
theorem ag5 (r:Int):bR [gL e,aH f l,vI r] [] []=some (kR (CO e f l r)):=by
 obtain⟨h1,h2,h3,h4⟩:=h.aR
 unfold CO
 by_cases c97:r=97
 ·rw [if_pos c97];subst c97;exact aa2 e h hh
 rw [if_neg c97]
 by_cases FR:r=101
 ·rw [if_pos FR];subst FR;exact YI e h hh
 rw [if_neg FR]
 by_cases Wi:r=98
 ·rw [if_pos Wi];subst Wi;exact aa3 e h hh
 rw [if_neg Wi]
 by_cases Wj:r=102
 ·rw [if_pos Wj];subst Wj;exact YJ e h hh
 rw [if_neg Wj]
 by_cases JB:r=112
 ·rw [if_pos JB];subst JB;exact YK e h hh
 rw [if_neg JB]
 by_cases Wm:r=110
 ·rw [if_pos Wm];subst Wm;exact YL e h hh
 rw [if_neg Wm]
 by_cases c107:r=107
 ·rw [if_pos c107]
  subst c107
  exact Q9 e _ f _ l (II e h e.ak.At e.ak.av.length (aR e) e.ak.av.length 1 h1 rfl (by omega) h2 (Nat.le_refl _))
 rw [if_neg c107]
 by_cases Wn:r=121
 ·rw [if_pos Wn];subst Wn;exact YM e h hh
 rw [if_neg Wn]
 by_cases c116:r=116
 ·rw [if_pos c116];subst c116;exact ag3 e h f l
 rw [if_neg c116]
 by_cases c95:r=95
 ·rw [if_pos c95];subst c95;exact aa4 e h hh
 rw [if_neg c95]
 by_cases JC:r=114
 ·rw [if_pos JC];subst JC;exact YN e h hh
 rw [if_neg JC]
 have e1:=mJ e h
 generalize dM e=p at*
 clear h hh h1 h2 h3 h4
 generalize hE:bR _ _ _=R
 simp [bR,func95,f95,e1,c97,FR,Wi,Wj,JB,Wm,c107,Wn,c116,c95,JC]at hE
 exact hE.symm
theorem afX (k r:Int):Hy [aK k r] [] []=some ⟨V.v (.bool (jh k r)),[],[]⟩:=by
 unfold Hy jh
 by_cases c1:k=1
 ·subst c1;simp [func73,f73,aQ]
 by_cases c2:k=2
 ·subst c2
  by_cases r1:r=95
  ·subst r1;simp [func73,f73]
  cases r2:gY r 97 122
  ·simp [func73,f73,fI,r1,r2]
  by_cases r3:r=104
  ·subst r3;simp [func73,f73,fI,r2]
  by_cases r4:r=105
  ·subst r4;simp [func73,f73,fI,r2]
  by_cases r5:r=106
  ·subst r5;simp [func73,f73,fI,r2]
  by_cases r6:r=109
  ·subst r6;simp [func73,f73,fI,r2]
  simp [func73,f73,fI,r1,r2,r3,r4,r5,r6]
 by_cases c3:k=3
 ·subst c3;simp [func73,f73,dQ]
 cases q:gY k 4 16
 ·simp [func73,f73,dQ,c1,c2,c3,q]
 ·by_cases r0:r=0
  ·subst r0;simp [func73,f73,dQ,c1,c2,c3,q]
  ·simp [func73,f73,dQ,c1,c2,c3,q,r0]
theorem qN (k r:Int)(hk:jh k r=true):yD [gL e,aH f l,aK k r] [] []=some ⟨V.v (.bool true),[],[]⟩:=by
 have:=afX e h hh k r
 rw [hk]at this
 exact aaZ e (fA.2 h) f l hh k r this
theorem YO (k r:Int)(hk:jh k r=true)(hm:e.bV=0):kr [gL e,aH f l,aK k r] [] []=some (kR (xI e f l k r)):=by
 obtain⟨h1,h2,h3,h4⟩:=h.aR
 obtain⟨n1,n2,n3⟩:=fJ e h
 have e1:=qN e h hh k r hk
 have e2:=YE e h hh k r hk
 unfold xI
 cases hp:lY e f l k r with
 | some p=>
  rw [hp]at e2
  simp only
  clear h hh h1 h2 h3 h4
  generalize hE:kr _ _ _=R
  unfold kr at hE
  simp only [gL,gO,hO,hm]at e1 e2 hE
  simp [func35,f35,e1,e2]at hE
  exact hE.symm
 | none=>
  rw [hp]at e2
  simp only [u6,bn,show aC []= []from rfl,show aS []= []from rfl]at e2⊢
  by_cases c3:k=3
  ·rw [if_pos c3]
   subst c3
   have e3:=YH e h r
   generalize zY e r=p at*
   clear h hh h1 h2 h3 h4
   generalize hE:kr _ _ _=R
   unfold kr at hE
   simp only [gL,gO,hO,hm]at e1 e2 e3 hE
   simp [func35,f35,e1,e2,e3]at hE
   exact hE.symm
  rw [if_neg c3]
  by_cases c15:k=15
  ·rw [if_pos c15]
   subst c15
   have e3:=Mh e.ak.av (gQ e) (aR e) h2 (by omega) n3
   rw [n1,←h1]at e3
   have e4:=II e h (dD (fq e.ak.av) (gQ e) (aR e)) e.ak.At (dD (fq e.ak.av) (gQ e) (aR e)) (aR e) 2 rfl h1 (by omega) (FN (fun _=>zH) _ _) h2
   generalize lH e (dD (fq e.ak.av) (gQ e) (aR e)) (aR e) 2=p at*
   generalize dD (fq e.ak.av) (gQ e) (aR e)=u at*
   clear h hh h1 h2 h3 h4
   generalize hE:kr _ _ _=R
   unfold kr at hE
   simp only [gL,gO,hO,hm]at e1 e2 e4 hE
   simp [func35,f35,e1,e2,e3,e4,show List.range' 0 1= [0]from rfl]at hE
   exact hE.symm
  rw [if_neg c15]
  by_cases c2:k=2
  ·rw [if_pos c2]
   subst c2
   have e3:=ag5 e h hh r
   generalize CO e f l r=p at*
   clear h hh h1 h2 h3 h4
   generalize hE:kr _ _ _=R
   unfold kr at hE
   simp only [gL,gO,hO,hm]at e1 e2 e3 hE
   simp [func35,f35,e1,e2,e3]at hE
   exact hE.symm
  rw [if_neg c2]
  have e3:=mJ e h
  generalize dM e=p at*
  clear h hh h1 h2 h3 h4
  generalize hE:kr _ _ _=R
  unfold kr at hE
  simp only [gL,gO,hO,hm]at e1 e2 e3 hE
  simp [func35,f35,e1,e2,e3,c2,c3,c15]at hE
  exact hE.symm
end
@[simp] theorem ahz (P:Program)(s:S)(n:TypeId)(ps:Array (Nat×Operand)):je P s (.build n ps)=bnd (P.underlying n) fun d=>bnd (yR d) fun fs=>grd (jm P n=true) (bnd (jM P n) fun z=>bnd (bG (pE s) ps.toList) fun vs=>bnd (sG P fs z vs) fun cs=>some (.agg cs)):=id rfl
@[simp] theorem ah9 (P:Program)(s:S)(c x y:Operand):je P s (.pick c x y)=bnd (s.ev c) fun c=>bnd (Ep c) fun b=>s.ev (if b then x else y):=id rfl
def YP (l:List ByteArray)(sub:List UInt8)(i:Nat):Bool:=Lib.contains (l.getD i ⟨#[]⟩).data.toList sub
theorem YQ {l:List ByteArray}{i:Nat}(h:i<l.length):l.getD i ⟨#[]⟩=l[i]:=by rw [List.getD_eq_getElem?_getD,List.getElem?_eq_getElem h];rfl
theorem Sq {f:Int}{sub:List UInt8}{fr:Int}{l:List ByteArray}(n0:Nat):∀n,n0≤n→(∀i,n0≤i→i<n→fr<f+i)→iW f sub fr l n=iW f sub fr l n0
 | n,h,hs=>by
  induction n with
  | zero=>rw [show n0=0 by omega]
  | succ n ih=>
   by_cases e:n0=n+1
   ·rw [e]
   ·have e2:iW f sub fr l (n+1)=iW f sub fr l n:=by
     show(if f+n≤fr∧(l[n]?.map fun s=>Lib.contains s.data.toList sub)=some true then f+n else iW f sub fr l n)=_
     exact if_neg (by have:=hs n (by omega) (by omega);omega)
    rw [e2]
    exact ih (by omega) (fun i h1 h2=>hs i h1 (by omega))
theorem JW {f:Int}{sub:List UInt8}{fr:Int}{l:List ByteArray}:∀n:Nat,(∀i:Nat,i<n→f+i≤fr)→n≤l.length→
  (iW f sub fr l n=0∧∀i,i<n→YP l sub i=false)∨(∃i:Nat,i<n∧YP l sub i=true∧(∀j,i<j→j<n→YP l sub j=false)∧iW f sub fr l n=f+i)
 | 0,_,_=> .inl ⟨rfl,fun i h=>absurd h (Nat.not_lt_zero _)⟩
 | n+1,h1,h2=>by
  have hn:n<l.length:=by omega
  have hh:YP l sub n=Lib.contains l[n].data.toList sub:=by unfold YP;rw [YQ hn]
  unfold iW
  rw [List.getElem?_eq_getElem hn]
  cases hc:YP l sub n
  ·rw [if_neg (by rw [hh]at hc;simp [hc])]
   rcases JW (f:=f) (sub:=sub) (fr:=fr) (l:=l) n (fun i hi=>h1 i (by omega)) (by omega)with⟨q1,q2⟩|⟨i,q1,q2,q3,q4⟩
   ·refine .inl ⟨q1,fun i hi=>?_⟩
    by_cases e:i=n
    ·rw [e];exact hc
    ·exact q2 i (by omega)
   ·refine .inr ⟨i,by omega,q2,fun j hj hj2=>?_,q4⟩
    by_cases e:j=n
    ·rw [e];exact hc
    ·exact q3 j hj (by omega)
  ·rw [hh]at hc
   rw [if_pos ⟨h1 n (by omega),by simp [hc]⟩]
   exact .inr ⟨n,by omega,by rw [hh];exact hc,fun j hj hj2=>by omega,rfl⟩
theorem aa5 (s t:ByteArray)(hs:s.size<4294967281):lM [V.v (.string s),V.v (.string t)] [] []=some ⟨V.v (.bool (Lib.contains s.data.toList t.data.toList)),[],[]⟩:=by
 unfold lM
 simp only
 rw [if_pos hs]
theorem acA (s t:ByteArray)(hs:s.size<4294967281):rW [V.v (.string s),V.v (.string t)] [] []=some ⟨vI (Lib.index s.data.toList t.data.toList),[],[]⟩:=by
 unfold rW
 simp only
 rw [if_pos hs]
theorem YR (f:Int)(l:List ByteArray)(hh:gX f l)(s:ByteArray)(fr:Int)(hfr: -2≤fr∧fr≤2000000000):zo [.agg [vI f, .aP (some 0) (strs l)],V.v (.string s),vI fr,vI (-1),V.v (.bool false)] [] []=some ⟨vI (iW f s.data.toList fr l l.length),[],[]⟩:=by
 have h1:=hh.first
 have h2:=hh.len
 have e1:=Ed f l hh
 have w1:=bM (f+l.length) (by omega)
 have w2:=bM (f+l.length-1) (by omega)
 obtain⟨n0,hn0,hle,hup,hdn⟩:∃n0:Nat,n0≤l.length∧(∀i:Nat,i<n0→f+i≤fr)∧(∀i:Nat,n0≤i→i<l.length→fr<f+i)∧((n0=0∧min fr (f+l.length-1)<f)∨(0<n0∧min fr (f+l.length-1)=f+n0-1)):=by
  by_cases c:fr<f
  ·exact⟨0,by omega,fun i hi=>by omega,fun i _ _=>by omega, .inl ⟨rfl,by omega⟩⟩
  ·refine⟨min (fr-f+1).toNat l.length,by omega,fun i hi=>by omega,fun i _ _=>by omega,?_⟩
   by_cases c2:l.length=0
   ·exact .inl ⟨by omega,by omega⟩
   ·exact .inr ⟨by omega,by omega⟩
 rw [Sq n0 l.length hn0 hup]
 have ge:∀i (hi:i<l.length),lM [V.v (.string (l[i])),V.v (.string s)] [] []=some ⟨V.v (.bool (YP l s.data.toList i)),[],[]⟩:=fun i hi=>by
  have:=hh.each _ (List.getElem_mem hi)
  rw [aa5 _ _ (by omega)]
  unfold YP
  rw [YQ hi]
 generalize hE:zo _ _ _=R
 simp [zo,func173,f173,e1,w1,w2]at hE
 generalize hm:min fr (f+ ↑l.length-1)=m0 at*
 have inl:∀x:Int,wY [vI x,vI f,vI (f+ ↑l.length-1)] [] []=some ⟨V.v (.bool (gY x f (f+ ↑l.length-1))),[],[]⟩:=fun x=>dQ _ _ _
 generalize hla:f+ ↑l.length-1=la at*
 rcases JW (f:=f) (sub:=s.data.toList) (fr:=fr) (l:=l) n0 hle hn0 with⟨q1,q2⟩|⟨i,q1,q2,q3,q4⟩
 ·rw [q1]
  rw [aJ (fun j=> .on ⟨[(12,V.v (.int .i64 (m0-j))),(11,V.v (.int .i64 la)),(5, .ref 5 0),(4,V.v (.bool false)),(3,V.v (.int .i64 ((-1)))),(1,V.v (.string s))],[(5,[vI f, .aP (some 0) (strs l)])],[],[]⟩) n0 ?_ ?_]at hE
  ·have hno:gY (m0-n0) f la=false:=by
    cases hq:gY (m0-n0) f la
    ·rfl
    ·have:=bA.1 hq;omega
   simp [inl,hno]at hE
   exact hE.symm
  ·simp
  ·intro j hj
   have hi:n0-1-j<l.length:=by omega
   have g1:=ge (n0-1-j) hi
   rw [q2 _ (by omega)]at g1
   have hin:gY (m0-j) f la=true:=bA.2 (by omega)
   have hx:m0-j-f=((n0-1-j:Nat):Int):=by omega
   have w3:=bM ((n0-1-j:Nat):Int) (by omega)
   have w4:=bM (m0-j+ -1) (by omega)
   have hs:m0-((j+1:Nat):Int)=m0-j+ -1:=by omega
   simp only [gL,gO,hO,hs]
   generalize m0-(j:Int)=x at*
   have hix:((n0-1-j:Nat):Int)<l.length:=by omega
   generalize n0-1-j=i at*
   simp [inl,hin,hx,w3,w4,hi,hix,wQ hi,g1]
 ·rw [q4]
  rw [aJ (fun j=> .on ⟨[(12,V.v (.int .i64 (m0-j))),(11,V.v (.int .i64 la)),(5, .ref 5 0),(4,V.v (.bool false)),(3,V.v (.int .i64 ((-1)))),(1,V.v (.string s))],[(5,[vI f, .aP (some 0) (strs l)])],[],[]⟩) (n0-1-i) ?_ ?_]at hE
  ·have hi:i<l.length:=by omega
   have g1:=ge i hi
   rw [q2]at g1
   have hx0:m0-((n0-1-i:Nat):Int)=f+i:=by omega
   rw [hx0]at hE
   have hin:gY (f+i) f la=true:=bA.2 (by omega)
   have hx:f+(i:Int)-f=i:=by omega
   have w3:=bM (i:Int) (by omega)
   have hix:(i:Int)<l.length:=by omega
   generalize hy:f+(i:Int)=y at*
   simp [inl,hin,hx,w3,hi,hix,wQ hi,g1]at hE
   exact hE.symm
  ·simp
  ·intro j hj
   have hi:n0-1-j<l.length:=by omega
   have g1:=ge (n0-1-j) hi
   rw [q3 _ (by omega) (by omega)]at g1
   have hin:gY (m0-j) f la=true:=bA.2 (by omega)
   have hx:m0-j-f=((n0-1-j:Nat):Int):=by omega
   have w3:=bM ((n0-1-j:Nat):Int) (by omega)
   have w4:=bM (m0-j+ -1) (by omega)
   have hs:m0-((j+1:Nat):Int)=m0-j+ -1:=by omega
   simp only [gL,gO,hO,hs]
   generalize m0-(j:Int)=x at*
   have hix:((n0-1-j:Nat):Int)<l.length:=by omega
   generalize n0-1-j=i' at*
   simp [inl,hin,hx,w3,w4,hi,hix,wQ hi,g1]
theorem Rh (s:ByteArray)(hs:s.size≤65536):∃b,yH [V.v (.string s)] [] []=some ⟨.fK [.own 0,V.v (.bool b)],[],[(0,ints (sM s))]⟩:=by
 have hr:=uf s.data.toList
 have e1:=KC s _ _ hr hs
 refine⟨(rJ s.data.toList).isEmpty,e1.trans ?_⟩
 unfold sM
 by_cases hz:rJ s.data.toList= []
 ·have hz':(rJ s.data.toList).isEmpty=true:=by rw [hz];rfl
  rw [if_pos hz,if_pos hz']
 ·have hz':¬(rJ s.data.toList).isEmpty=true:=by simpa using hz
  rw [if_neg hz,if_neg hz']
  rfl
section
variable (e:dB) (h:fV e) {f:Int} {l:List ByteArray} (hh:gX f l)
include h hh
theorem aa6 (n:Int)(q:List Int)(hm:e.bV=3)(hq:q.all bS=true)(hq2:q.length≤41)(hn:n=0∨(f≤n∧n≤f+l.length-1)):vJ [gL e,aH f l,vI n, .aP (some 7) (ints q)] [] []=some (sR (mI e f l n q)):=by
 have h1:=hh.first
 have h2:=hh.len
 have e1:=Im e (fA.2 h)
 have e2:=dY e h
 unfold mI
 by_cases JA:q.length≤40
 ·rw [if_pos JA]
  have aia:¬(40:Int)<q.length:=by omega
  have e3:=IG f l hh n
  have e4:=Us q (by omega)
  have e5:=ku e.dH.av (some 0) e.dH.At (by have:=(bX h.back).1;omega)
  have e6:=lq q (some 0) (by omega)
  generalize hE:vJ _ _ _=R
  unfold vJ at hE
  simp only [gL,gO,hO,hm]at e1 e2 hE
  simp [func175,f175,e1,JA,aia]at hE
  rw [aJ (fun j=> .on ⟨[(36,V.v (.int .i64 ((j:Int)))),(35,V.v (.int .i64 ((q.length:Int)))),(34, .aP (some 7) (ints q)),(8, .ref 8 0),(5, .ref 5 0),(4, .ref 4 0),(3, .aP (some 7) (ints q)),(2,V.v (.int .i64 n))],[(8,[V.v (.bool false),vI 0, .own 2000000000,vI 0,vI 0,vI 0,vI 0,vI 0,vI 0,vI 0,vI 0, .own 2000000001, .own 2000000002,vI 0, .own 2000000003,vI 0, .own 2000000004,vI 0, .own 2000000005,vI 0]),(5,[vI f, .aP (some 6) (strs l)]),(4,[V.v (.bool e.Vi),vI 3, .aP (some 0) (ints e.ak.av),vI e.ak.At,vI e.bH,vI e.Op,vI e.bU,vI e.fT,vI e.eY,vI e.bT,vI e.iZ, .aP (some 1) (aC e.aI.aA), .aP (some 2) (aS e.gH.eX),vI e.kF, .aP (some 3) (ints e.iM.av),vI e.iM.At, .aP (some 4) (ints e.bP),vI e.nH, .aP (some 5) (ints e.dH.av),vI e.dH.At])],[(2000000005,[]),(2000000004,[]),(2000000003,[]),(2000000002,[]),(2000000001,[]),(2000000000,[])],[]⟩) q.length ?_ ?_]at hE
  ·have hzl:=qg ⟨#[]⟩ (by decide)
   have hz:mP ⟨#[]⟩=some []:=by
    unfold mP
    obtain⟨q1,q2⟩:=xM reads_nil
    rw [q1,q2,if_pos ⟨rfl,by decide⟩]
   rw [hz]at hzl
   simp only [bn,List.length_nil,Int.natCast_zero]at hzl
   have hdl:(⟨(bI q).toArray⟩:ByteArray).data.toList=bI q:=rfl
   cases hg:p9 f l n with
   | none=>
    rw [hg]at e3
    have e7:=acA ⟨#[]⟩ ⟨(bI q).toArray⟩ (by decide)
    simp [e3,hzl,e4,e7]at hE
    exact hE.symm
   | some s=>
    rw [hg]at e3
    have hss:=sw hh hg
    have e7:=acA s ⟨(bI q).toArray⟩ (by omega)
    rw [hdl]at e7
    have e8:=qg s (by omega)
    simp only
    cases hl:mP s with
    | none=>
     rw [hl]at e8
     simp [e3,e8,e4,e7]at hE
     exact hE.symm
    | some t=>
     rw [hl]at e8
     simp only
     obtain⟨to1,to2⟩:=Jm hl
     have htl:t.length≤400:=by simp only [dF,Bool.and_eq_true,decide_eq_true_eq]at to1;exact to1.1
     have hge:=Lib.index_ge s.data.toList (bI q)
     by_cases hi:0≤Lib.index s.data.toList (bI q)
     ·rw [if_pos hi]
      have hroom:=Lib.index_room s.data.toList (bI q) hi
      have hsz:(s.data.toList.length:Int)=s.size:=by rw [Array.length_toList];rfl
      obtain⟨I,hI⟩:=Int.eq_ofNat_of_zero_le hi
      have hI2:I≤s.size:=by omega
      rw [hI]at e7⊢
      rw [Int.toNat_natCast]
      obtain⟨b9,e9⟩:=Rh (s.extract 0 I) (by simp [ByteArray.size_extract];omega)
      have hext:(s.extract 0 I).data.toList=s.data.toList.take I:=by simp [ByteArray.data_extract]
      have hle:=Q6 to2 I (s.extract 0 I) hext
      have hI3:(I:Int)≤s.size:=by omega
      have hI0:¬(I:Int)<0:=by omega
      generalize sM (s.extract 0 I)=front at*
      by_cases hn0:e.kF=0
      ·simp only [gL,gO,hO,hn0]at e2 hE⊢
       simp [e2,e3,e4,e5,e6,e7,e8,e9,hI2,hI3,hI0]at hE
       exact hE.symm.trans (by rw [←hm,if_pos trivial];rfl)
      ·simp [e2,e3,e4,e5,e6,e7,e8,e9,hI2,hI3,hI0,hn0]at hE
       exact hE.symm.trans (by rw [if_neg hn0,←hm];rfl)
     ·rw [if_neg hi]
      have hi':Lib.index s.data.toList (bI q)<0:=by omega
      simp [e3,e8,e4,e7,hi']at hE
      exact hE.symm
  ·simp
  ·intro j hj
   have hw:=bM ((j:Int)+1) (by omega)
   have hp:=List.all_eq_true.1 hq q[j] (List.getElem_mem hj)
   simp [hj,hw,aO hj,aQ,hp]
 ·rw [if_neg JA]
  have aia:(40:Int)<q.length:=by omega
  generalize hE:vJ _ _ _=R
  unfold vJ at hE
  simp only [gL,gO,hO,hm]at e1 e2 hE
  simp [func175,f175,e1,aia]at hE
  exact hE.symm
theorem acB (q:List Int)(fr:Int)(hm:e.bV=3)(hq:q.all bS=true)(hq2:q.length≤41)(hfr: -2≤fr∧fr≤2000000000):LB [gL e,aH f l, .aP (some 7) (ints q),vI fr] [] []=some (kR (BN e f l q fr)):=by
 have h1:=hh.first
 have h2:=hh.len
 have hlast:0≤gF f l∧gF f l≤1000000059:=by unfold gF;split<;>omega
 have e0:=dY e h
 have e1:=Ol f l hh
 have e2:=Us q (by omega)
 have e3:=YR f l hh ⟨(bI q).toArray⟩ (if e.nH=0 then gF f l else fr) (by split<;>omega)
 have hdl:(⟨(bI q).toArray⟩:ByteArray).data.toList=bI q:=rfl
 rw [hdl]at e3
 have e4:=aa6 e h hh (iW f (bI q) (if e.nH=0 then gF f l else fr) l l.length) q hm hq hq2 (by
  rcases IE (sub:=bI q) (fr:=if e.nH=0 then gF f l else fr) (l:=l) h1.1 l.length with h|⟨k,h3,h4⟩
  ·exact .inl h
  ·exact .inr (by omega))
 unfold BN
 generalize iW f (bI q) (if e.nH=0 then gF f l else fr) l l.length=n at*
 generalize hE:LB _ _ _=R
 unfold LB at hE
 cases hs:mI e f l n q with
 | none=>
  rw [hs]at e4
  simp only
  by_cases hz:e.nH=0
  ·rw [if_pos hz]at e3
   simp only [gL,gO,hO,hz]at e0 e4 hE
   simp [func97,f97,e0,e1,e2,e3,e4]at hE
   exact hE.symm.trans (by rw [←hz])
  ·rw [if_neg hz]at e3
   simp [func97,f97,e0,e1,e2,e3,e4,hz]at hE
   exact hE.symm
 | some x=>
  rw [hs]at e4
  simp only
  by_cases hz:e.nH=0
  ·rw [if_pos hz]at e3
   simp only [gL,gO,hO,hz]at e0 e4 hE
   simp [func97,f97,e0,e1,e2,e3,e4]at hE
   exact hE.symm
  ·rw [if_neg hz]at e3
   simp [func97,f97,e0,e1,e2,e3,e4,hz]at hE
   exact hE.symm
theorem Ri (r:Int)(hm:e.bV=3)(hp:bS r=true):dn [gL e,aH f l,aK 1 r] [] []=some (kR (BN e f l (e.bP++ [r]) e.nH)):=by
 have e1:=qN e h hh 1 r hp
 have JA:=h.ql
 have hhit:=h.hit
 have e2:=lq e.bP (some 0) (by omega)
 have e3:=acB e h hh (e.bP++ [r]) e.nH hm (by rw [List.all_append,h.qp];simp [hp]) (by simp;omega) (by omega)
 have g1:(e.bP.length+1)*8≤140737488355328:=by omega
 have g2:e.bP.length+1≤4611686018427387904:=by omega
 have g3:e.bP.length≤4611686018427387903:=by omega
 generalize BN e f l (e.bP++ [r]) e.nH=p at*
 rw [au]at e3
 simp only [I8,bn]at e3
 generalize hE:dn _ _ _=R
 unfold dn at hE
 simp only [gL,gO,hO,hm]at e1 e3 hE
 simp [func36,f36,e1,e2,e3,g1,g2,g3]at hE
 exact hE.symm
end
abbrev mR (o:Option (Nat×Bool)):Ay:=match o with
 | some p=>⟨.fK [vI (p.1:Int),V.v (.bool p.2),V.v (.bool true)],[],[]⟩
 | none=>⟨.fK [vI 0,V.v (.bool false),V.v (.bool false)],[],[]⟩
section
variable (t:List Int) (i:Option Nat) (a n:Nat) (ha:a≤t.length) (ht:t.length≤2000) (hn:1≤n∧n≤999)
include ha ht hn
theorem Sr:aT [.aP i (ints t),vI (a:Int),vI 104,vI (n:Int)] [] []=some ⟨.fK [vI (((a-n:Nat):Int)),V.v (.bool false),V.v (.bool true)],[],[]⟩:=by
 have m1:max 0 (min (a:Int) t.length)=a:=by omega
 have m2:max 1 (min (n:Int) 999)=n:=by omega
 have w:=bM ((a:Int)-n) (by omega)
 have m3:max ((a:Int)-n) 0=((a-n:Nat):Int):=by omega
 generalize hE:aT _ _ _=R
 simp [aT,func183,f183,fC,dZ,m1,m2,w,m3]at hE
 exact hE.symm
theorem OL:aT [.aP i (ints t),vI (a:Int),vI 108,vI (n:Int)] [] []=some ⟨.fK [vI (((min (a+n) t.length:Nat):Int)),V.v (.bool false),V.v (.bool true)],[],[]⟩:=by
 have m1:max 0 (min (a:Int) t.length)=a:=by omega
 have m2:max 1 (min (n:Int) 999)=n:=by omega
 have w:=bM ((a:Int)+n) (by omega)
 have m3:min ((a:Int)+n) t.length=((min (a+n) t.length:Nat):Int):=by omega
 generalize hE:aT _ _ _=R
 simp [aT,func183,f183,fC,dZ,m1,m2,w,m3]at hE
 exact hE.symm
theorem Rj:aT [.aP i (ints t),vI (a:Int),vI 32,vI (n:Int)] [] []=some ⟨.fK [vI (((min (a+n) t.length:Nat):Int)),V.v (.bool false),V.v (.bool true)],[],[]⟩:=by
 have m1:max 0 (min (a:Int) t.length)=a:=by omega
 have m2:max 1 (min (n:Int) 999)=n:=by omega
 have w:=bM ((a:Int)+n) (by omega)
 have m3:min ((a:Int)+n) t.length=((min (a+n) t.length:Nat):Int):=by omega
 generalize hE:aT _ _ _=R
 simp [aT,func183,f183,fC,dZ,m1,m2,w,m3]at hE
 exact hE.symm
theorem OM:aT [.aP i (ints t),vI (a:Int),vI 119,vI (n:Int)] [] []=some ⟨.fK [vI (((dD (FK t false) n a:Nat):Int)),V.v (.bool false),V.v (.bool true)],[],[]⟩:=by
 have m1:max 0 (min (a:Int) t.length)=a:=by omega
 have m2:max 1 (min (n:Int) 999)=n:=by omega
 have e2:=CS t false n a ha ht hn.2
 have q:gY 119 65 90=false:=by decide
 generalize hE:aT _ _ _=R
 simp [aT,func183,f183,fC,dZ,m1,m2,q,e2]at hE
 exact hE.symm
theorem Rk:aT [.aP i (ints t),vI (a:Int),vI 87,vI (n:Int)] [] []=some ⟨.fK [vI (((dD (FK t true) n a:Nat):Int)),V.v (.bool false),V.v (.bool true)],[],[]⟩:=by
 have m1:max 0 (min (a:Int) t.length)=a:=by omega
 have m2:max 1 (min (n:Int) 999)=n:=by omega
 have e2:=CS t true n a ha ht hn.2
 have q:gY 87 65 90=true:=by decide
 generalize hE:aT _ _ _=R
 simp [aT,func183,f183,fC,dZ,m1,m2,q,e2]at hE
 exact hE.symm
theorem Rl:aT [.aP i (ints t),vI (a:Int),vI 98,vI (n:Int)] [] []=some ⟨.fK [vI (((dD (lG t false) n a:Nat):Int)),V.v (.bool false),V.v (.bool true)],[],[]⟩:=by
 have m1:max 0 (min (a:Int) t.length)=a:=by omega
 have m2:max 1 (min (n:Int) 999)=n:=by omega
 have e2:=CU t false n a ha ht hn.2
 have q:gY 98 65 90=false:=by decide
 generalize hE:aT _ _ _=R
 simp [aT,func183,f183,fC,dZ,m1,m2,q,e2]at hE
 exact hE.symm
theorem Rm:aT [.aP i (ints t),vI (a:Int),vI 66,vI (n:Int)] [] []=some ⟨.fK [vI (((dD (lG t true) n a:Nat):Int)),V.v (.bool false),V.v (.bool true)],[],[]⟩:=by
 have m1:max 0 (min (a:Int) t.length)=a:=by omega
 have m2:max 1 (min (n:Int) 999)=n:=by omega
 have e2:=CU t true n a ha ht hn.2
 have q:gY 66 65 90=true:=by decide
 generalize hE:aT _ _ _=R
 simp [aT,func183,f183,fC,dZ,m1,m2,q,e2]at hE
 exact hE.symm
theorem OO:aT [.aP i (ints t),vI (a:Int),vI 101,vI (n:Int)] [] []=some ⟨.fK [vI (((dD (xH t false) n a:Nat):Int)),V.v (.bool (decide (0<t.length))),V.v (.bool true)],[],[]⟩:=by
 have m1:max 0 (min (a:Int) t.length)=a:=by omega
 have m2:max 1 (min (n:Int) 999)=n:=by omega
 have e2:=CV t false n a ha ht hn.2
 have q:gY 101 65 90=false:=by decide
 generalize hE:aT _ _ _=R
 simp [aT,func183,f183,fC,dZ,m1,m2,q,e2]at hE
 exact hE.symm
theorem Rn:aT [.aP i (ints t),vI (a:Int),vI 69,vI (n:Int)] [] []=some ⟨.fK [vI (((dD (xH t true) n a:Nat):Int)),V.v (.bool (decide (0<t.length))),V.v (.bool true)],[],[]⟩:=by
 have m1:max 0 (min (a:Int) t.length)=a:=by omega
 have m2:max 1 (min (n:Int) 999)=n:=by omega
 have e2:=CV t true n a ha ht hn.2
 have q:gY 69 65 90=true:=by decide
 generalize hE:aT _ _ _=R
 simp [aT,func183,f183,fC,dZ,m1,m2,q,e2]at hE
 exact hE.symm
theorem Ro:aT [.aP i (ints t),vI (a:Int),vI 48,vI (n:Int)] [] []=some ⟨.fK [vI 0,V.v (.bool false),V.v (.bool true)],[],[]⟩:=by
 have m1:max 0 (min (a:Int) t.length)=a:=by omega
 have m2:max 1 (min (n:Int) 999)=n:=by omega
 generalize hE:aT _ _ _=R
 simp [aT,func183,f183,fC,dZ,m1,m2]at hE
 exact hE.symm
theorem Rp:aT [.aP i (ints t),vI (a:Int),vI 36,vI (n:Int)] [] []=some ⟨.fK [vI (((t.length-1:Nat):Int)),V.v (.bool (decide (0<t.length))),V.v (.bool true)],[],[]⟩:=by
 have m1:max 0 (min (a:Int) t.length)=a:=by omega
 have m2:max 1 (min (n:Int) 999)=n:=by omega
 have w:=bM ((t.length:Int)-1) (by omega)
 have m3:max ((t.length:Int)-1) 0=((t.length-1:Nat):Int):=by omega
 generalize hE:aT _ _ _=R
 simp [aT,func183,f183,fC,dZ,m1,m2,w,m3]at hE
 exact hE.symm
theorem OP:aT [.aP i (ints t),vI (a:Int),vI 124,vI (n:Int)] [] []=some ⟨.fK [vI (((min (n-1) t.length:Nat):Int)),V.v (.bool false),V.v (.bool true)],[],[]⟩:=by
 have m1:max 0 (min (a:Int) t.length)=a:=by omega
 have m2:max 1 (min (n:Int) 999)=n:=by omega
 have w:=bM ((n:Int)-1) (by omega)
 have m3:min ((n:Int)-1) t.length=((min (n-1) t.length:Nat):Int):=by omega
 generalize hE:aT _ _ _=R
 simp [aT,func183,f183,fC,dZ,m1,m2,w,m3]at hE
 exact hE.symm
theorem IJ:aT [.aP i (ints t),vI (a:Int),vI 94,vI (n:Int)] [] []=some ⟨.fK [vI (((zQ t:Nat):Int)),V.v (.bool false),V.v (.bool true)],[],[]⟩:=by
 have m1:max 0 (min (a:Int) t.length)=a:=by omega
 have m2:max 1 (min (n:Int) 999)=n:=by omega
 have hc:∀j (h:j<t.length),pQ [vI (t[j])] [] []=some ⟨vI (kV (t.getD j 0)),[],[]⟩:=fun j hj=>by rw [getD_at hj];exact FL _
 unfold zQ
 obtain⟨k1,k2,k3⟩:=cB (fun j=>decide (kV (t.getD j 0)=0)) t.length
 generalize gK (fun j=>decide (kV (t.getD j 0)=0)) t.length=k at*
 generalize hcf:(fun j=>kV (t.getD j 0))=cf
 have QZ:∀j,kV (t.getD j 0)=cf j:=fun j=>by rw [←hcf]
 simp only [QZ]at hc k2 k3
 generalize hE:aT _ _ _=R
 simp [aT,func183,f183,fC,dZ,m1,m2]at hE
 rw [aJ (fun j=> .on ⟨[(13,V.v (.int .i64 ((j:Int)))),(11,V.v (.int .i64 ((t.length:Int)))),(4, .ref 4 0)],[(4,[.aP i (ints t)])],[],[]⟩) k ?_ ?_]at hE
 ·rcases k3 with q|q
  ·subst q
   simp at hE
   exact hE.symm
  ·have q':¬cf k=0:=of_decide_eq_false q
   by_cases hk:k<t.length
   ·have e2:=hc k hk
    simp [hk,aO hk,e2,q']at hE
    exact hE.symm
   ·have hke:k=t.length:=by omega
    subst hke
    simp at hE
    exact hE.symm
 ·simp
 ·intro j hj
  have h1:j<t.length:=by omega
  have e2:=hc j h1
  have q:cf j=0:=of_decide_eq_true (k2 j hj)
  have hw:=bM ((j:Int)+1) (by omega)
  simp [h1,aO h1,e2,q,hw]
theorem Ng (r:Int)(h:gM t a r n=none):aT [.aP i (ints t),vI (a:Int),vI r,vI (n:Int)] [] []=some ⟨.fK [vI 0,V.v (.bool false),V.v (.bool false)],[],[]⟩:=by
 have key:¬r=104∧¬r=108∧¬r=32∧¬r=119∧¬r=87∧¬r=98∧¬r=66∧¬r=101∧¬r=69∧¬r=48∧¬r=94∧¬r=36∧¬r=124:=by
  unfold gM at h
  refine⟨?_,?_,?_,?_,?_,?_,?_,?_,?_,?_,?_,?_,?_⟩<;>(rintro rfl;simp at h)
 obtain⟨c1,c2,c3,c4,c5,c6,c7,c8,c9,c10,c11,c12,c13⟩:=key
 have m1:max 0 (min (a:Int) t.length)=a:=by omega
 have m2:max 1 (min (n:Int) 999)=n:=by omega
 generalize hE:aT _ _ _=R
 simp [aT,func183,f183,fC,dZ,m1,m2,c1,c2,c3,c4,c5,c6,c7,c8,c9,c10,c11,c12,c13]at hE
 exact hE.symm
theorem Oy (r:Int):aT [.aP i (ints t),vI (a:Int),vI r,vI (n:Int)] [] []=some (mR (gM t a r n)):=by
 by_cases h:gM t a r n=none
 ·rw [h];exact Ng t i a n ha ht hn r h
 unfold gM at h⊢
 by_cases YS:r=104
 ·rw [if_pos YS];subst YS;exact Sr t i a n ha ht hn
 rw [if_neg YS]at h⊢
 by_cases Wo:r=108∨r=32
 ·rw [if_pos Wo]
  rcases Wo with rfl|rfl
  ·exact OL t i a n ha ht hn
  ·exact Rj t i a n ha ht hn
 rw [if_neg Wo]at h⊢
 by_cases c119:r=119∨r=87
 ·rw [if_pos c119]
  rcases c119 with rfl|rfl
  ·exact OM t i a n ha ht hn
  ·exact Rk t i a n ha ht hn
 rw [if_neg c119]at h⊢
 by_cases Wi:r=98∨r=66
 ·rw [if_pos Wi]
  rcases Wi with rfl|rfl
  ·exact Rl t i a n ha ht hn
  ·exact Rm t i a n ha ht hn
 rw [if_neg Wi]at h⊢
 by_cases FR:r=101∨r=69
 ·rw [if_pos FR]
  rcases FR with rfl|rfl
  ·exact OO t i a n ha ht hn
  ·exact Rn t i a n ha ht hn
 rw [if_neg FR]at h⊢
 by_cases c48:r=48
 ·rw [if_pos c48];subst c48;exact Ro t i a n ha ht hn
 rw [if_neg c48]at h⊢
 by_cases c94:r=94
 ·rw [if_pos c94];subst c94;exact IJ t i a n ha ht hn
 rw [if_neg c94]at h⊢
 by_cases c36:r=36
 ·rw [if_pos c36];subst c36;exact Rp t i a n ha ht hn
 rw [if_neg c36]at h⊢
 by_cases c124:r=124
 ·rw [if_pos c124];subst c124;exact OP t i a n ha ht hn
 rw [if_neg c124]at h⊢
 exact absurd rfl h
end
theorem Rq (t:List Int)(r how:Int):∀(m a:Nat),a≤t.length→(∃p,tZ t r how m a=some p∧∃xs:Nat→Nat,xs 0=a∧xs m=p∧(∀j,j<m→jC t r how (xs j)=some (xs (j+1)))∧∀j,j≤m→xs j≤t.length)∨(tZ t r how m a=none∧∃(N:Nat) (xs:Nat→Nat),N<m∧xs 0=a∧(∀j,j<N→jC t r how (xs j)=some (xs (j+1)))∧(∀j,j≤N→xs j≤t.length)∧jC t r how (xs N)=none):=by
 intro m
 induction m with
 | zero=>intro a ha;exact .inl ⟨a,rfl,fun _=>a,rfl,rfl,fun j hj=>by omega,fun _ _=>ha⟩
 | succ m ih=>
  intro a ha
  unfold tZ
  cases hf:jC t r how a with
  | none=>exact .inr ⟨rfl,0,fun _=>a,by omega,rfl,fun j hj=>by omega,fun _ _=>ha,hf⟩
  | some b=>
   have hb:=Ot ha hf
   rcases ih b (by omega)with⟨p,h1,xs,x0,xm,xs1,xs2⟩|⟨h1,N,xs,hN,x0,xs1,xs2,xs3⟩
   ·refine .inl ⟨p,h1,fun j=>match j with|0=>a|j+1=>xs j,rfl,xm,fun j hj=>?_,fun j hj=>?_⟩
    ·cases j with
     | zero=>show jC t r how a=some (xs 0);rw [x0];exact hf
     | succ j=>exact xs1 j (by omega)
    ·cases j with
     | zero=>exact ha
     | succ j=>exact xs2 j (by omega)
   ·refine .inr ⟨h1,N+1,fun j=>match j with|0=>a|j+1=>xs j,by omega,rfl,fun j hj=>?_,fun j hj=>?_,xs3⟩
    ·cases j with
     | zero=>show jC t r how a=some (xs 0);rw [x0];exact hf
     | succ j=>exact xs1 j (by omega)
    ·cases j with
     | zero=>exact ha
     | succ j=>exact xs2 j (by omega)
theorem Uz (t:List Int)(i:Option Nat)(a n:Nat)(r how:Int)(ha:a≤t.length)(ht:t.length≤2000)(hn:1≤n∧n≤999)(hw:0≤how∧how≤3):AP [.aP i (ints t),vI (a:Int),vI r,vI how,vI (n:Int)] [] []=some ⟨.fK [vI (uJ (tZ t r how n a)),V.v (.bool ((tZ t r how n a).isSome))],[],[]⟩:=by
 have m1:max 0 (min (a:Int) t.length)=a:=by omega
 have m2:max 1 (min (n:Int) 999)=n:=by omega
 generalize hE:AP _ _ _=R
 simp [AP,func178,f178,fC,m1,m2]at hE
 rcases Rq t r how n a ha with⟨p,h1,xs,x0,xm,xs1,xs2⟩|⟨h1,N,xs,hN,x0,xs1,xs2,xs3⟩
 ·rw [aJ (fun j=> .on ⟨[(19,V.v (.int .i64 ((j:Int)))),(18,V.v (.int .i64 ((n:Int)))),(3,V.v (.int .i64 how)),(2,V.v (.int .i64 r)),(1,V.v (.int .i64 ((xs j:Int)))),(0, .aP i (ints t))],[],[],[]⟩) n ?_ ?_]at hE
  ·rw [h1]
   simp [xm]at hE
   exact hE.symm
  ·simp [x0]
  ·intro j hj
   have e2:=Iu t (some 0) (xs j) r how (xs2 j (by omega)) ht hw
   rw [xs1 j hj]at e2
   simp only [uJ]at e2
   have hw2:=bM ((j:Int)+1) (by omega)
   have hn0:¬(xs (j+1):Int)<0:=by omega
   simp [hj,e2,hw2,hn0]
 ·rw [aJ (fun j=> .on ⟨[(19,V.v (.int .i64 ((j:Int)))),(18,V.v (.int .i64 ((n:Int)))),(3,V.v (.int .i64 how)),(2,V.v (.int .i64 r)),(1,V.v (.int .i64 ((xs j:Int)))),(0, .aP i (ints t))],[],[],[]⟩) N ?_ ?_]at hE
  ·rw [h1]
   have e2:=Iu t (some 0) (xs N) r how (xs2 N (by omega)) ht hw
   rw [xs3]at e2
   simp only [uJ]at e2
   simp [hN,e2]at hE
   exact hE.symm
  ·simp [x0]
  ·intro j hj
   have e2:=Iu t (some 0) (xs j) r how (xs2 j (by omega)) ht hw
   rw [xs1 j hj]at e2
   simp only [uJ]at e2
   have hw2:=bM ((j:Int)+1) (by omega)
   have hn0:¬(xs (j+1):Int)<0:=by omega
   have hjn:j<n:=by omega
   simp [hjn,e2,hw2,hn0]
theorem afY (t:List Int)(i:Option Nat)(a b:Nat)(w:Bool)(ha:a≤t.length)(hb:b≤t.length)(ht:t.length≤2000):LC [.aP i (ints t),vI (a:Int),vI (b:Int),V.v (.bool w)] [] []=some ⟨.fK [vI (((min a b:Nat):Int)),vI (((xJ t.length a b w:Nat):Int))],[],[]⟩:=by
 have m1:max 0 (min (a:Int) t.length)=a:=by omega
 have m2:max 0 (min (b:Int) t.length)=b:=by omega
 have m3:min (a:Int) b=((min a b:Nat):Int):=by omega
 have m4:max (a:Int) b=((max a b:Nat):Int):=by omega
 unfold xJ
 generalize hE:LC _ _ _=R
 unfold LC at hE
 cases w
 ·rw [if_neg (by simp)]
  simp [func242,f242,fC,m1,m2,m3,m4]at hE
  exact hE.symm
 ·by_cases hc:max a b<t.length
  ·have w1:=bM (((max a b:Nat):Int)+1) (by omega)
   have hci:((max a b:Nat):Int)<t.length:=by omega
   rw [if_pos ⟨rfl,hc⟩]
   generalize max a b=M at*
   generalize min a b=m at*
   simp [func242,f242,fC,m1,m2,m3,m4,w1,hc,hci]at hE
   exact hE.symm
  ·have hci:¬((max a b:Nat):Int)<t.length:=by omega
   rw [if_neg (fun q=>hc q.2)]
   generalize max a b=M at*
   generalize min a b=m at*
   simp [func242,f242,fC,m1,m2,m3,m4,hc,hci]at hE
   exact hE.symm
theorem UC (r:Int):H8 [vI r] [] []=some ⟨vI (iV r),[],[]⟩:=by
 unfold H8 iV
 by_cases c1:r=102
 ·subst c1;simp [func177,f177]
 by_cases c2:r=70
 ·subst c2;simp [func177,f177]
 by_cases c3:r=116
 ·subst c3;simp [func177,f177]
 by_cases c4:r=84
 ·subst c4;simp [func177,f177]
 simp [func177,f177,c1,c2,c3,c4]
theorem Eh (t:List Int)(i:Option Nat)(a:Int)(b:Nat)(h:t.length≤1000000)(hb:b≤t.length):rC [.agg [.aP i (ints t),vI a],vI (b:Int)] [] []=some ⟨.agg [.own 0,vI (b:Int)],[],[(0,ints t)]⟩:=by
 have e1:=uY t i a b h
 rw [show max 0 (min (b:Int) t.length)=b from by omega]at e1
 exact e1
section
variable (e:dB) (h:fV e) (hm:e.bV=2)
include h hm
theorem uK (op:Int)(hop:opC op=true)(f u:Nat)(h1:f≤u)(h2:u≤e.ak.av.length):lU [gL e,vI op,vI (f:Int),vI (u:Int)] [] []=some (kR (gZ e op f u)):=by
 obtain⟨a1,a2,a3,a4⟩:=h.aR
 unfold gZ
 by_cases hfu:f=u
 ·rw [if_pos hfu]
  subst hfu
  by_cases hc:op=99
  ·rw [if_pos hc]
   subst hc
   have e1:=Eh e.ak.av (some 0) e.ak.At f (by omega) h2
   have e2:=Nb e h e.ak.av f 0 (h.KE h2)
   have e3:=M9 (sO e e.ak.av f 0) f
   unfold Proofs.YtlpdjhiggpblcaaGreat.o7
   simp only [sO,sK]at e2 e3⊢
   generalize sJ e e.ak.av 0=ul at*
   generalize jl e.bV e.ak.av f=ia at*
   clear h
   generalize hE:lU _ _ _=R
   simp [lU, -au,func181,f181,e1,e2,e3]at hE
   exact hE.symm
  ·rw [if_neg hc]
   have e1:=mJ e h
   generalize dM e=p at*
   generalize hE:lU _ _ _=R
   simp [lU, -au,func181,f181,e1,hc]at hE
   exact hE.symm
 rw [if_neg hfu]
 have hfi:¬(f:Int)=u:=by omega
 have e1:=BK e.ak.av e.ak.At h.line f u (by omega) h2
 obtain⟨c1,c2,c3⟩:=um h.line h1 h2
 have hgo:=Iw h.line (f:=f) (u:=u)
 have e2:=dY e h
 have e3:=QV e.aI.aA ((e.ak.av.drop f).take (u-f)) 0 h.ring hgo (by omega)
 have hr:=FI h.ring hgo 0
 have h':=h.Md hr
 have hcl:=(bX c3).1
 unfold oD at c3 hcl⊢
 by_cases hy:op=121
 ·rw [if_pos hy]
  subst hy
  have e4:=Eh e.ak.av (some 0) e.ak.At f (by omega) (by omega)
  have e5:=IB _ h' e.ak.av f (h.KE (by omega))
  generalize (e.ak.av.drop f).take (u-f)=gone at*
  generalize oC e.aI.aA gone 0=rg at*
  generalize vQ {e with aI:=⟨rg⟩} e.ak.av f=p at*
  generalize e.ak.av.take f++e.ak.av.drop u=X at*
  clear h h' hr hgo
  generalize hE:lU _ _ _=R
  simp [lU, -au,func181,f181,e1,e2,e3,e4,e5,hfi]at hE
  exact hE.symm
 rw [if_neg hy]
 have e4:=Eh (e.ak.av.take f++e.ak.av.drop u) (some 0) (cutAt e.ak.At f u) f (by omega) (by have:=(bX c3).2.2.2;omega)
 by_cases hc:op=99
 ·rw [if_pos hc]
  subst hc
  have e5:=Nb _ h' (e.ak.av.take f++e.ak.av.drop u) f 0 c3
  generalize (e.ak.av.drop f).take (u-f)=gone at*
  generalize oC e.aI.aA gone 0=rg at*
  generalize e.ak.av.take f++e.ak.av.drop u=X at*
  have e6:=M9 (sO {e with aI:=⟨rg⟩} X f 0) f
  simp only [sO,sK]at e5 e6⊢
  generalize sJ {e with aI:=⟨rg⟩} X 0=ul at*
  generalize jl e.bV X f=ia at*
  clear h h' hr hgo
  generalize hE:lU _ _ _=R
  simp [lU, -au,func181,f181,e1,e2,e3,e4,e5,e6,hfi]at hE
  exact hE.symm
 ·rw [if_neg hc]
  have e5:=Nb _ h' (e.ak.av.take f++e.ak.av.drop u) f 0 c3
  unfold vQ
  generalize (e.ak.av.drop f).take (u-f)=gone at*
  generalize oC e.aI.aA gone 0=rg at*
  generalize e.ak.av.take f++e.ak.av.drop u=X at*
  generalize sO {e with aI:=⟨rg⟩} X f 0=p at*
  clear h h' hr hgo
  generalize hE:lU _ _ _=R
  simp [lU, -au,func181,f181,e1,e2,e3,e4,e5,hfi,hy,hc]at hE
  exact hE.symm
theorem O8 (u:Nat)(w:Bool)(hu:u≤e.ak.av.length):Aj [gL e,vI (u:Int),V.v (.bool w)] [] []=some (kR (qL e u w)):=by
 obtain⟨a1,a2,a3,a4⟩:=h.aR
 unfold qL
 by_cases hc:e.Op=0
 ·rw [if_pos hc]
  have e1:=uY e.ak.av (some 0) e.ak.At u (by omega)
  have e2:=yQ e h u
  generalize yP e u=p at*
  clear h
  generalize hE:Aj _ _ _=R
  unfold Aj at hE
  simp only [gL,gO,hO,hc]at e2 hE
  simp [-au,func184,f184,e1,e2]at hE
  exact hE.symm
 ·rw [if_neg hc]
  have hop:opC e.Op=true:=h.op.resolve_left hc
  have e1:=afY e.ak.av (some 0) (aR e) u w a2 hu (by omega)
  rw [←a1]at e1
  obtain⟨s1,s2⟩:=Nc w a2 hu
  have e2:=uK e h hm e.Op hop (min (aR e) u) (xJ e.ak.av.length (aR e) u w) s1 s2
  generalize gZ e e.Op (min (aR e) u) (xJ e.ak.av.length (aR e) u w)=p at*
  generalize min (aR e) u=m at*
  generalize xJ e.ak.av.length (aR e) u w=m2 at*
  clear h
  generalize hE:Aj _ _ _=R
  simp [Aj, -au,func184,f184,e1,e2,hc]at hE
  exact hE.symm
theorem Nh (r how:Int)(n:Nat)(hw:0≤how∧how≤3)(hn:1≤n∧n≤999):wD [gL e,vI r,vI how,vI (n:Int)] [] []=some (kR (nN e r how n)):=by
 obtain⟨a1,a2,a3,a4⟩:=h.aR
 have e1:=Uz e.ak.av (some 0) (aR e) n r how a2 (by omega) hn hw
 rw [←a1]at e1
 unfold nN
 cases hf:tZ e.ak.av r how n (aR e)with
 | none=>
  rw [hf]at e1
  have e2:=mJ e h
  show _=some (kR (dM e))
  generalize dM e=p at*
  clear h
  simp only [uJ,Option.isSome_none]at e1
  generalize hE:wD _ _ _=R
  simp [wD, -au,func179,f179,e1,e2]at hE
  exact hE.symm
 | some u=>
  rw [hf]at e1
  have hu:=Jp n (aR e) u a2 hf
  have e2:=O8 e h hm u (decide (how=0∨how=2)) hu
  show _=some (kR (qL e u (decide (how=0∨how=2))))
  generalize qL e u (decide (how=0∨how=2))=p at*
  clear h
  simp only [uJ,Option.isSome_some]at e1
  have hq:how=0∨how=1∨how=2∨how=3:=by omega
  generalize hE:wD _ _ _=R
  unfold wD at hE
  rcases hq with rfl|rfl|rfl|rfl
  all_goals (simp at e2;simp [-au,func179,f179,e1,e2]at hE;exact hE.symm)
theorem Ei (r:Int)(n:Nat)(hn:1≤n∧n≤999):yI [gL e,vI r,vI (n:Int)] [] []=some (kR (jR e r n)):=by
 obtain⟨a1,a2,a3,a4⟩:=h.aR
 have e1:=Oy e.ak.av (some 0) (aR e) n a2 (by omega) hn r
 rw [←a1]at e1
 unfold jR
 cases hf:gM e.ak.av (aR e) r n with
 | none=>
  rw [hf]at e1
  have e2:=O8 e h hm 0 false (by omega)
  show _=some (kR (qL e 0 false))
  generalize qL e 0 false=p at*
  clear h
  simp only [mR]at e1
  simp only [Int.natCast_zero]at e2
  generalize hE:yI _ _ _=R
  simp [yI, -au,func180,f180,e1,e2]at hE
  exact hE.symm
 | some q=>
  rw [hf]at e1
  have hu:=zJ a2 hf
  have e2:=O8 e h hm q.1 q.2 hu
  show _=some (kR (qL e q.1 q.2))
  generalize qL e q.1 q.2=p at*
  clear h
  simp only [mR]at e1
  generalize hE:yI _ _ _=R
  simp [yI, -au,func180,f180,e1,e2]at hE
  exact hE.symm
end
section
variable (e:dB) (h:fV e) (hm:e.bV=2)
include h hm
theorem YT (r:Int)(n:Nat)(hn:1≤n∧n≤999)(hw:e.fT=114)(hr:fP r=true)(hl:aR e+n≤e.ak.av.length):nk [gL e,aK 1 r,vI (n:Int)] [] []=some (kR (vQ e (qd e.ak.av (aR e) r n) (aR e+n-1:Nat))):=by
 obtain⟨a1,a2,a3,a4⟩:=h.aR
 have hrs:=Jq a4 hr (aR e)
 have w1:=bM (e.ak.At+n) (by omega)
 have w2:=bM (e.ak.At+n-1) (by omega)
 have e1:=Eh e.ak.av (some 0) e.ak.At (aR e+n-1) (by omega) (by omega)
 have hq:(((aR e+n-1:Nat)):Int)=e.ak.At+n-1:=by omega
 rw [hq]at e1
 have hgt:¬(e.ak.av.length:Int)<e.ak.At+n:=by omega
 have e2:=IB e h (qd e.ak.av (aR e) r n) (e.ak.At+n-1) (gq (by have:=(hrs n).1;omega) (hrs n).2 (by omega) (by have:=(hrs n).1;omega))
 rw [hq]
 generalize vQ e (qd e.ak.av (aR e) r n) (e.ak.At+n-1)=p at*
 generalize hE:nk _ _ _=R
 unfold nk at hE
 simp only [gL,gO,hO,hw]at e2 hE
 simp [-au,func101,f101,e1,w1,w2,hgt]at hE
 rw [aJ (fun j=> .on ⟨[(10,V.v (.int .i64 (e.ak.At+(j:Int)))),(9, .ref 9 0),(8,V.v (.int .i64 e.ak.At)),(6, .ref 6 0),(4, .ref 4 0),(3, .ref 3 0),(2,V.v (.int .i64 ((n:Int))))],
   [(9,[.own 2000000000,vI (e.ak.At+n-1)]),(6,[V.v (.bool false),vI 0, .own 2000000001,vI 0,vI 0,vI 0,vI 0,vI 0,vI 0,vI 0,vI 0, .own 2000000002, .own 2000000003,vI 0, .own 2000000004,vI 0, .own 2000000005,vI 0, .own 2000000006,vI 0]),(4,[vI 1,vI r]),(3,[V.v (.bool e.Vi),vI e.bV, .aP (some 0) (ints e.ak.av),vI e.ak.At,vI e.bH,vI e.Op,vI e.bU,vI 114,vI e.eY,vI e.bT,vI e.iZ, .aP (some 1) (aC e.aI.aA), .aP (some 2) (aS e.gH.eX),vI e.kF, .aP (some 3) (ints e.iM.av),vI e.iM.At, .aP (some 4) (ints e.bP),vI e.nH, .aP (some 5) (ints e.dH.av),vI e.dH.At])],
   [(2000000006,[]),(2000000005,[]),(2000000004,[]),(2000000003,[]),(2000000002,[]),(2000000001,[]),(2000000000,ints (qd e.ak.av (aR e) r j))],[]⟩) n ?_ ?_]at hE
 ·simp [-au,w1,e2]at hE
  exact hE.symm
 ·simp [qd]
 ·intro j hj
  have hlen:=(hrs j).1
  have k1:0≤e.ak.At+(j:Int):=by omega
  have k2:(e.ak.At+(j:Int)).toNat=aR e+j:=by omega
  have k3:e.ak.At+(j:Int)<e.ak.av.length:=by omega
  have k4:aR e+j<e.ak.av.length:=by omega
  have w3:=bM (e.ak.At+((j:Int)+1)) (by omega)
  have k5:e.ak.At+(j:Int)+1=e.ak.At+((j:Int)+1):=by omega
  have hset:∀x:Int,(ints (qd e.ak.av (aR e) r j)).set (aR e+j) [.a (.int .i64 x)]=ints ((qd e.ak.av (aR e) r j).set (aR e+j) x):=fun x=>su _ _ x
  rw [qd]
  simp [-au,hj,w1,w3,k1,k2,k3,k4,k5,hlen,hset]
theorem YU (n:Nat)(hn:1≤n∧n≤999):tJ [gL e,vI (n:Int)] [] []=some (kR (nY e n)):=by
 obtain⟨a1,a2,a3,a4⟩:=h.aR
 unfold nY
 by_cases hz:e.ak.av.length=0
 ·rw [if_pos hz]
  have e1:=mJ e h
  have hz':e.ak.av= []:=List.length_eq_zero_iff.1 hz
  generalize dM e=p at*
  clear h
  generalize hE:tJ _ _ _=R
  unfold tJ at hE
  simp only [gL,gO,hO,hz',bn]at e1 hE
  simp [-au,func186,f186,e1]at hE
  exact hE.symm
 rw [if_neg hz]
 have hz':¬e.ak.av= []:=fun q=>hz (by rw [q];rfl)
 have w1:=bM (e.ak.At+n) (by omega)
 have e1:=uY e.ak.av (some 0) e.ak.At (e.ak.At+n) (by omega)
 have hq:max 0 (min (e.ak.At+n) e.ak.av.length)=((min (aR e+n) e.ak.av.length:Nat):Int):=by omega
 rw [hq]at e1
 have hB1:min (aR e+n) e.ak.av.length≤e.ak.av.length:=by omega
 have hB2:aR e≤min (aR e+n) e.ak.av.length:=by omega
 generalize min (aR e+n) e.ak.av.length=b at*
 have hfs:=fun j (hj:aR e+j≤e.ak.av.length)=>Jr a4 (aR e) j hj
 have hfb:=hfs (b-aR e) (by omega)
 have e2:=IB e h (rM e.ak.av (aR e) (b-aR e)) b (gq (by omega) hfb.2 (by omega) (by omega))
 generalize vQ e (rM e.ak.av (aR e) (b-aR e)) b=p at*
 generalize hE:tJ _ _ _=R
 simp [tJ, -au,func186,f186,e1,w1,hz']at hE
 rw [aJ (fun j=> .on ⟨[(8,V.v (.int .i64 (e.ak.At+(j:Int)))),(7, .ref 7 0),(4, .ref 4 0),(2, .ref 2 0)],
   [(7,[.own 2000000000,vI (b:Int)]),(4,[V.v (.bool false),vI 0, .own 2000000001,vI 0,vI 0,vI 0,vI 0,vI 0,vI 0,vI 0,vI 0, .own 2000000002, .own 2000000003,vI 0, .own 2000000004,vI 0, .own 2000000005,vI 0, .own 2000000006,vI 0]),(2,[V.v (.bool e.Vi),vI e.bV, .aP (some 0) (ints e.ak.av),vI e.ak.At,vI e.bH,vI e.Op,vI e.bU,vI e.fT,vI e.eY,vI e.bT,vI e.iZ, .aP (some 1) (aC e.aI.aA), .aP (some 2) (aS e.gH.eX),vI e.kF, .aP (some 3) (ints e.iM.av),vI e.iM.At, .aP (some 4) (ints e.bP),vI e.nH, .aP (some 5) (ints e.dH.av),vI e.dH.At])],
   [(2000000006,[]),(2000000005,[]),(2000000004,[]),(2000000003,[]),(2000000002,[]),(2000000001,[]),(2000000000,ints (rM e.ak.av (aR e) j))],[]⟩) (b-aR e) ?_ ?_]at hE
 ·have hc:¬e.ak.At+((b-aR e:Nat):Int)<b:=by omega
  simp [-au,hc,e2]at hE
  exact hE.symm
 ·simp [rM]
 ·intro j hj
  have hlen:=(hfs j (by omega)).1
  have k1:0≤e.ak.At+(j:Int):=by omega
  have k2:(e.ak.At+(j:Int)).toNat=aR e+j:=by omega
  have k3:e.ak.At+(j:Int)<e.ak.av.length:=by omega
  have k4:aR e+j<e.ak.av.length:=by omega
  have k6:e.ak.At+(j:Int)<b:=by omega
  have w3:=bM (e.ak.At+((j:Int)+1)) (by omega)
  have k5:e.ak.At+(j:Int)+1=e.ak.At+((j:Int)+1):=by omega
  rw [rM]
  generalize hX:rM e.ak.av (aR e) j=X at*
  have hjl:aR e+j<X.length:=by omega
  have hgd:X.getD (aR e+j) 0=X[aR e+j]:=by rw [List.getD_eq_getElem?_getD,List.getElem?_eq_getElem hjl];rfl
  rw [hgd]
  have hgu:=aO hjl
  have hset:∀x:Int,(ints X).set (aR e+j) [.a (.int .i64 x)]=ints (X.set (aR e+j) x):=fun x=>su _ _ x
  generalize hr:X[aR e+j]=r at*
  unfold YA
  by_cases c1:gY r 97 122=true
  ·have u1:upI r=r-32:=by unfold upI;rw [if_pos c1]
   simp [-au,k1,k2,k3,k4,k5,k6,w3,hlen,hset,hgu,hr,fI,tV,tX,c1,u1]
  ·by_cases c2:gY r 65 90=true
   ·have u1:L6 r=r+32:=by unfold L6;rw [if_pos c2]
    simp [-au,k1,k2,k3,k4,k5,k6,w3,hlen,hset,hgu,hr,fI,tV,tX,c1,c2,u1]
   ·have u1:L6 r=r:=by unfold L6;rw [if_neg c2]
    simp [-au,k1,k2,k3,k4,k5,k6,w3,hlen,hset,hgu,hr,fI,tV,tX,c1,c2,u1]
end
section
variable (e:dB) (h:fV e) (hm:e.bV=2)
include h hm
theorem adN (k r:Int)(n:Nat)(hn:1≤n∧n≤999)(hw:¬e.fT=0)(hk:jh k r=true):nk [gL e,aK k r,vI (n:Int)] [] []=some (kR (rO e k r n)):=by
 obtain⟨a1,a2,a3,a4⟩:=h.aR
 have eb:=mJ e h
 unfold rO
 by_cases c1:k=1
 ·rw [if_neg (fun q=>q c1)]
  subst c1
  have hr:bS r=true:=by simpa [jh] using hk
  by_cases c2:e.fT=114
  ·rw [if_pos c2]
   by_cases c3:e.ak.av.length<aR e+n
   ·rw [if_pos c3]
    have w1:=bM (e.ak.At+n) (by omega)
    have hgt:(e.ak.av.length:Int)<e.ak.At+n:=by omega
    generalize dM e=p at*
    clear h hk
    generalize hE:nk _ _ _=R
    unfold nk at hE
    simp only [gL,gO,hO,c2]at eb hE
    simp [-au,func101,f101,eb,w1,hgt]at hE
    exact hE.symm
   ·rw [if_neg c3]
    exact YT e h hm r n hn c2 (lg hr) (by omega)
  ·rw [if_neg c2]
   have hw':=KF (h.wait.resolve_left hw) c2
   have e1:=UC e.fT
   have hw3:=Q5 e.fT
   have e2:=Uz e.ak.av (some 0) (aR e) n r (iV e.fT) a2 (by omega) hn (by omega)
   rw [←a1]at e2
   by_cases c3:tZ e.ak.av r (iV e.fT) n (aR e)=none
   ·rw [if_pos c3]
    rw [c3]at e2
    simp only [uJ,Option.isSome_none]at e2
    generalize dM e=p at*
    generalize iV e.fT=how at*
    clear h hk
    generalize hE:nk _ _ _=R
    simp [nk, -au,func101,f101,eb,e1,e2,c2]at hE
    exact hE.symm
   ·rw [if_neg c3]
    obtain⟨q,hq⟩:=Option.ne_none_iff_exists'.1 c3
    rw [hq]at e2
    simp only [uJ,Option.isSome_some]at e2
    have e3:=dY e h
    have h':=h.find' (Nf e.fT hr hw')
    have e4:=Nh _ h' hm r (iV e.fT) n (by omega) hn
    generalize nN {e with eY:=r,bT:=iV e.fT} r (iV e.fT) n=p at*
    generalize iV e.fT=how at*
    clear h h' hk
    generalize hE:nk _ _ _=R
    simp [nk, -au,func101,f101,e1,e2,e3,e4,c2]at hE
    exact hE.symm
 ·rw [if_pos c1]
  generalize dM e=p at*
  clear h hk
  generalize hE:nk _ _ _=R
  simp [nk, -au,func101,f101,eb,c1]at hE
  exact hE.symm
theorem YV (a n:Nat)(ha:a≤e.ak.av.length)(hn:1≤n∧n≤999):xA [gL e,vI (a:Int),vI (n:Int)] [] []=some (kR (uP e a n)):=by
 obtain⟨a1,a2,a3,a4⟩:=h.aR
 have eb:=mJ e h
 have e1:pR [.agg [.aP (some 0) (aC e.aI.aA)]] [] []=some ⟨.own 0,[],[(0,ints (bE e.aI.aA))]⟩:=FH e.aI.aA h.ring
 obtain⟨t1,t2⟩:=xL h.ring
 have e2:=YC (bE e.aI.aA) (some 0) n t2 hn.2
 obtain⟨k1,k2,k3,k4,k5,k6⟩:=IC (bE e.aI.aA).length n t2
 obtain⟨r1,r2⟩:=Me t1 (rP (bE e.aI.aA).length n)
 have e3:=Eh e.ak.av (some 0) e.ak.At a (by omega) ha
 have hla:=h.KE ha
 have e4:=BO e.ak.av (mH (rP (bE e.aI.aA).length n) (bE e.aI.aA)) a hla r2 (by omega)
 rw [Int.toNat_natCast]at e4
 unfold uP
 by_cases hc:bE e.aI.aA= []∨400<e.ak.av.length+(bE e.aI.aA).length*n
 ·rw [if_pos hc]
  generalize dM e=p at*
  by_cases h0:bE e.aI.aA= []
  ·have z0:mH (rP (bE e.aI.aA).length n) (bE e.aI.aA)= []:=List.length_eq_zero_iff.1 (by rw [r1,h0];simp)
   rw [z0]at e2 e4
   rw [if_pos (by simp;omega)]at e4
   simp only [bn]at e2 e4
   generalize bE e.aI.aA=tp at*
   clear h
   generalize hE:xA _ _ _=R
   simp [xA, -au,func185,f185,eb,e1,e2,e3,e4]at hE
   exact hE.symm
  ·have hc:=hc.resolve_left h0
   have hp:0<(bE e.aI.aA).length:=List.length_pos_iff.2 h0
   have hbig:400<e.ak.av.length+(bE e.aI.aA).length*rP (bE e.aI.aA).length n:=by
    by_cases hle:(bE e.aI.aA).length*n≤400
    ·rw [k2 hle];exact hc
    ·have:=k3 (by omega);omega
   rw [if_neg (by omega)]at e4
   have hu0:¬mH (rP (bE e.aI.aA).length n) (bE e.aI.aA)= []:=fun q=>by rw [q]at r1;simp at r1;omega
   generalize mH (rP (bE e.aI.aA).length n) (bE e.aI.aA)=u at*
   generalize bE e.aI.aA=tp at*
   clear h
   generalize hE:xA _ _ _=R
   simp [xA, -au,func185,f185,eb,e1,e2,e3,e4,hu0]at hE
   exact hE.symm
 ·rw [if_neg hc]
  have h0:¬bE e.aI.aA= []:=fun q=>hc (.inl q)
  have hle:e.ak.av.length+(bE e.aI.aA).length*n≤400:=by omega
  have hp:0<(bE e.aI.aA).length:=List.length_pos_iff.2 h0
  have hpn:n≤(bE e.aI.aA).length*n:=Nat.le_mul_of_pos_left n hp
  rw [k2 (by omega)]at e2 e4 r1 r2
  rw [if_pos (by omega)]at e4
  have hu0:¬mH n (bE e.aI.aA)= []:=fun q=>by rw [q]at r1;simp at r1;omega
  have hu1:¬((mH n (bE e.aI.aA)).length:Int)=0:=by omega
  obtain⟨i1,i2⟩:=yY (u:=mH n (bE e.aI.aA)) (by omega) a4 r2 ha
  have e5:=uY (zR e.ak.av a (mH n (bE e.aI.aA))) (some 0) ((a:Int)+(mH n (bE e.aI.aA)).length) ((a:Int)+(mH n (bE e.aI.aA)).length-1) (by omega)
  have w1:=bM ((a:Int)+(mH n (bE e.aI.aA)).length-1) (by omega)
  rw [show max 0 (min ((a:Int)+(mH n (bE e.aI.aA)).length-1) (zR e.ak.av a (mH n (bE e.aI.aA))).length)=(a:Int)+(mH n (bE e.aI.aA)).length-1 from by omega]at e5
  have e6:=IB e h (zR e.ak.av a (mH n (bE e.aI.aA))) ((a:Int)+(mH n (bE e.aI.aA)).length-1) (i2 _ (by omega) (by omega))
  rw [show ((a+(bE e.aI.aA).length*n:Nat):Int)-1=(a:Int)+(mH n (bE e.aI.aA)).length-1 from by rw [r1];omega]
  generalize zR e.ak.av a (mH n (bE e.aI.aA))=X at*
  generalize mH n (bE e.aI.aA)=u at*
  generalize bE e.aI.aA=tp at*
  generalize vQ e X ((a:Int)+u.length-1)=p at*
  clear h
  generalize hE:xA _ _ _=R
  simp [xA, -au,func185,f185,e1,e2,e3,e4,e5,e6,w1,hu0,hu1]at hE
  exact hE.symm
end
section
variable (e:dB) (h:fV e) (hm:e.bV=2) {f:Int} {l:List ByteArray} (hh:gX f l)
include h hm hh
theorem Wp (r:Int)(n:Nat)(hn:1≤n∧n≤999):bJ [gL e,aH f l,aK 4 r,vI (n:Int)] [] []=some (kR ((e,2))):=by
 obtain⟨a1,a2,a3,a4⟩:=h.aR
 have e0:=dY e h
 clear h hh
 generalize hE:bJ _ _ _=R
 simp [bJ, -au,func102,f102,e0]at hE
 exact hE.symm
theorem Sv (r:Int)(n:Nat)(hn:1≤n∧n≤999)(hz:e.bH=0∧e.Op=0∧e.bU=0∧e.fT=0):bJ [gL e,aH f l,aK 7 r,vI (n:Int)] [] []=some (kR (dM e)):=by
 obtain⟨a1,a2,a3,a4⟩:=h.aR
 have e0:=dY e h
 have e1:=mJ e h
 generalize dM e=p at*
 obtain⟨z1,z2,z3,z4⟩:=hz
 clear h hh
 generalize hE:bJ _ _ _=R
 unfold bJ at hE
 simp only [gL,gO,hO,z1,z2,z3,z4]at e0 e1 hE
 simp [-au,func102,f102,e0,e1]at hE
 exact hE.symm
theorem Sw (r:Int)(n:Nat)(hz:¬(e.bH=0∧e.Op=0∧e.bU=0∧e.fT=0)):bJ [gL e,aH f l,aK 7 r,vI (n:Int)] [] []=some (kR (sK e e.iZ,0)):=by
 have e0:=dY e h
 have e1:=yN e (Mq.of (fA.2 h)) e.iZ
 clear h hh
 generalize hE:bJ _ _ _=R
 unfold bJ at hE
 by_cases z1:e.bH=0
 ·by_cases z2:e.Op=0
  ·by_cases z3:e.bU=0
   ·have z4:¬e.fT=0:=fun q=>hz ⟨z1,z2,z3,q⟩
    simp only [gL,gO,hO,z1,z2,z3]at e0 e1 hE
    simp [-au,func102,f102,e0,e1,z4]at hE
    exact hE.symm
   ·simp only [gL,gO,hO,z1,z2]at e0 e1 hE
    simp [-au,func102,f102,e0,e1,z3]at hE
    exact hE.symm
  ·simp only [gL,gO,hO,z1]at e0 e1 hE
   simp [-au,func102,f102,e0,e1,z2]at hE
   exact hE.symm
 ·simp [-au,func102,f102,e0,e1,z1]at hE
  exact hE.symm
theorem Wq (r:Int)(n:Nat)(hn:1≤n∧n≤999):bJ [gL e,aH f l,aK 8 r,vI (n:Int)] [] []=some (kR (jF e f l (-1))):=by
 obtain⟨a1,a2,a3,a4⟩:=h.aR
 have e0:=dY e h
 have e1:=CQ e h hh (-1) (.inr rfl)
 generalize jF e f l (-1)=p at*
 clear h hh
 generalize hE:bJ _ _ _=R
 simp [bJ, -au,func102,f102,e0,e1]at hE
 exact hE.symm
theorem Ws (r:Int)(n:Nat)(hn:1≤n∧n≤999):bJ [gL e,aH f l,aK 9 r,vI (n:Int)] [] []=some (kR (jF e f l 1)):=by
 obtain⟨a1,a2,a3,a4⟩:=h.aR
 have e0:=dY e h
 have e1:=CQ e h hh 1 (.inl rfl)
 generalize jF e f l 1=p at*
 clear h hh
 generalize hE:bJ _ _ _=R
 simp [bJ, -au,func102,f102,e0,e1]at hE
 exact hE.symm
theorem Sy (r:Int)(n:Nat)(hn:1≤n∧n≤999):bJ [gL e,aH f l,aK 11 r,vI (n:Int)] [] []=some (kR (jR e 104 n)):=by
 obtain⟨a1,a2,a3,a4⟩:=h.aR
 have e0:=dY e h
 have e1:=Ei e h hm 104 n hn
 generalize jR e 104 n=p at*
 clear h hh
 generalize hE:bJ _ _ _=R
 simp [bJ, -au,func102,f102,e0,e1]at hE
 exact hE.symm
theorem Wt (r:Int)(n:Nat)(hn:1≤n∧n≤999):bJ [gL e,aH f l,aK 5 r,vI (n:Int)] [] []=some (kR (jR e 104 n)):=by
 obtain⟨a1,a2,a3,a4⟩:=h.aR
 have e0:=dY e h
 have e1:=Ei e h hm 104 n hn
 generalize jR e 104 n=p at*
 clear h hh
 generalize hE:bJ _ _ _=R
 simp [bJ, -au,func102,f102,e0,e1]at hE
 exact hE.symm
theorem Sz (r:Int)(n:Nat)(hn:1≤n∧n≤999):bJ [gL e,aH f l,aK 10 r,vI (n:Int)] [] []=some (kR (jR e 108 n)):=by
 obtain⟨a1,a2,a3,a4⟩:=h.aR
 have e0:=dY e h
 have e1:=Ei e h hm 108 n hn
 generalize jR e 108 n=p at*
 clear h hh
 generalize hE:bJ _ _ _=R
 simp [bJ, -au,func102,f102,e0,e1]at hE
 exact hE.symm
theorem SA (r:Int)(n:Nat)(hn:1≤n∧n≤999):bJ [gL e,aH f l,aK 12 r,vI (n:Int)] [] []=some (kR (jR e 48 n)):=by
 obtain⟨a1,a2,a3,a4⟩:=h.aR
 have e0:=dY e h
 have e1:=Ei e h hm 48 n hn
 generalize jR e 48 n=p at*
 clear h hh
 generalize hE:bJ _ _ _=R
 simp [bJ, -au,func102,f102,e0,e1]at hE
 exact hE.symm
theorem SB (r:Int)(n:Nat)(hn:1≤n∧n≤999):bJ [gL e,aH f l,aK 13 r,vI (n:Int)] [] []=some (kR (jR e 36 n)):=by
 obtain⟨a1,a2,a3,a4⟩:=h.aR
 have e0:=dY e h
 have e1:=Ei e h hm 36 n hn
 generalize jR e 36 n=p at*
 clear h hh
 generalize hE:bJ _ _ _=R
 simp [bJ, -au,func102,f102,e0,e1]at hE
 exact hE.symm
theorem SC (r:Int)(n:Nat)(hn:1≤n∧n≤999):bJ [gL e,aH f l,aK 14 r,vI (n:Int)] [] []=some (kR (gZ e 100 (aR e) (min (aR e+n) e.ak.av.length))):=by
 obtain⟨a1,a2,a3,a4⟩:=h.aR
 have e0:=dY e h
 have e1:=uK e h hm 100 rfl (aR e) (min (aR e+n) e.ak.av.length) (by omega) (by omega)
 rw [show ((min (aR e+n) e.ak.av.length:Nat):Int)=min (e.ak.At+n) e.ak.av.length from by omega,←a1]at e1
 have w1:=bM (e.ak.At+n) (by omega)
 generalize gZ e 100 (aR e) (min (aR e+n) e.ak.av.length)=p at*
 clear h hh
 generalize hE:bJ _ _ _=R
 simp [bJ, -au,func102,f102,e0,e1,w1]at hE
 exact hE.symm
theorem SE (n:Nat)(hn:1≤n∧n≤999):bJ [gL e,aH f l,aK 2 99,vI (n:Int)] [] []=some (kR ((e,3))):=by
 obtain⟨a1,a2,a3,a4⟩:=h.aR
 have e0:=dY e h
 clear h hh
 generalize hE:bJ _ _ _=R
 simp [bJ, -au,func102,f102,e0]at hE
 exact hE.symm
theorem Rs (n:Nat)(hn:1≤n∧n≤999):bJ [gL e,aH f l,aK 2 108,vI (n:Int)] [] []=some (kR ((e,5))):=by
 obtain⟨a1,a2,a3,a4⟩:=h.aR
 have e0:=dY e h
 clear h hh
 generalize hE:bJ _ _ _=R
 simp [bJ, -au,func102,f102,e0]at hE
 exact hE.symm
theorem Rt (n:Nat)(hn:1≤n∧n≤999)(hz:e.ak.av.length=0):bJ [gL e,aH f l,aK 2 100,vI (n:Int)] [] []=some (kR ((e,4))):=by
 obtain⟨a1,a2,a3,a4⟩:=h.aR
 have e0:=dY e h
 have hz2:e.ak.av= []:=List.length_eq_zero_iff.1 hz
 clear h hh
 generalize hE:bJ _ _ _=R
 unfold bJ at hE
 simp only [gL,gO,hO,hz2,bn]at e0 hE
 simp [-au,func102,f102,e0]at hE
 simp only [kR,gL,gO,hO,hz2,bn]
 exact hE.symm
theorem Ru (n:Nat)(hn:1≤n∧n≤999):bJ [gL e,aH f l,aK 2 114,vI (n:Int)] [] []=some (kR (BL e)):=by
 obtain⟨a1,a2,a3,a4⟩:=h.aR
 have e0:=dY e h
 have e1:=V9 e h
 generalize BL e=p at*
 clear h hh
 generalize hE:bJ _ _ _=R
 simp [bJ, -au,func102,f102,e0,e1]at hE
 exact hE.symm
theorem Wu (r:Int)(n:Nat)(hn:1≤n∧n≤999)(c1:¬r=99)(c2:¬r=108)(c3:¬r=100)(c4:¬r=114):bJ [gL e,aH f l,aK 2 r,vI (n:Int)] [] []=some (kR (dM e)):=by
 obtain⟨a1,a2,a3,a4⟩:=h.aR
 have e0:=dY e h
 have e1:=mJ e h
 generalize dM e=p at*
 clear h hh
 generalize hE:bJ _ _ _=R
 simp [bJ, -au,func102,f102,e0,e1,c1,c2,c3,c4]at hE
 exact hE.symm
theorem SF (n:Nat)(hn:1≤n∧n≤999)(hz:¬e.ak.av.length=0):bJ [gL e,aH f l,aK 2 100,vI (n:Int)] [] []=some (kR (dM e)):=by
 obtain⟨a1,a2,a3,a4⟩:=h.aR
 have e0:=dY e h
 have e1:=mJ e h
 have hz2:¬e.ak.av= []:=fun q=>hz (by rw [q];rfl)
 generalize dM e=p at*
 clear h hh
 generalize hE:bJ _ _ _=R
 simp [bJ, -au,func102,f102,e0,e1,hz2]at hE
 exact hE.symm
theorem SG (k r:Int)(n:Nat)(hn:1≤n∧n≤999)(c4:¬k=4)(c7:¬k=7)(c8:¬k=8)(c9:¬k=9)(c11:¬k=11)(c5:¬k=5)(c10:¬k=10)(c12:¬k=12)(c13:¬k=13)(c14:¬k=14)(c2:¬k=2):bJ [gL e,aH f l,aK k r,vI (n:Int)] [] []=some (kR (dM e)):=by
 obtain⟨a1,a2,a3,a4⟩:=h.aR
 have e0:=dY e h
 have e1:=mJ e h
 generalize dM e=p at*
 clear h hh
 generalize hE:bJ _ _ _=R
 simp [bJ, -au,func102,f102,e0,e1,c4,c7,c8,c9,c11,c5,c10,c12,c13,c14,c2]at hE
 exact hE.symm
theorem aa7 (k r:Int)(n:Nat)(hn:1≤n∧n≤999):bJ [gL e,aH f l,aK k r,vI (n:Int)] [] []=some (kR (qM e f l k r n)):=by
 unfold qM
 by_cases c4:k=4
 ·rw [if_pos c4];subst c4;exact Wp e h hm hh r n hn
 rw [if_neg c4]
 by_cases c7:k=7
 ·rw [if_pos c7]
  subst c7
  by_cases hz:e.bH=0∧e.Op=0∧e.bU=0∧e.fT=0
  ·rw [if_pos hz];exact Sv e h hm hh r n hn hz
  ·rw [if_neg hz];exact Sw e h hm hh r n hz
 rw [if_neg c7]
 by_cases c8:k=8
 ·rw [if_pos c8];subst c8;exact Wq e h hm hh r n hn
 rw [if_neg c8]
 by_cases c9:k=9
 ·rw [if_pos c9];subst c9;exact Ws e h hm hh r n hn
 rw [if_neg c9]
 by_cases c11:k=11
 ·rw [if_pos (.inl c11)];subst c11;exact Sy e h hm hh r n hn
 by_cases c5:k=5
 ·rw [if_pos (.inr c5)];subst c5;exact Wt e h hm hh r n hn
 rw [if_neg (fun q=>q.elim c11 c5)]
 by_cases c10:k=10
 ·rw [if_pos c10];subst c10;exact Sz e h hm hh r n hn
 rw [if_neg c10]
 by_cases c12:k=12
 ·rw [if_pos c12];subst c12;exact SA e h hm hh r n hn
 rw [if_neg c12]
 by_cases c13:k=13
 ·rw [if_pos c13];subst c13;exact SB e h hm hh r n hn
 rw [if_neg c13]
 by_cases c14:k=14
 ·rw [if_pos c14];subst c14;exact SC e h hm hh r n hn
 rw [if_neg c14]
 by_cases c2:k=2
 ·rw [if_pos c2]
  subst c2
  by_cases r1:r=99
  ·rw [if_pos r1];subst r1;exact SE e h hm hh n hn
  rw [if_neg r1]
  by_cases r2:r=108
  ·rw [if_pos r2];subst r2;exact Rs e h hm hh n hn
  rw [if_neg r2]
  by_cases r3:r=100
  ·by_cases hz:e.ak.av.length=0
   ·rw [if_pos ⟨r3,hz⟩];subst r3;exact Rt e h hm hh n hn hz
   ·rw [if_neg (fun q=>hz q.2),if_neg (by omega)];subst r3;exact SF e h hm hh n hn hz
  rw [if_neg (fun q=>r3 q.1)]
  by_cases r4:r=114
  ·rw [if_pos r4];subst r4;exact Ru e h hm hh n hn
  rw [if_neg r4]
  exact Wu e h hm hh r n hn r1 r2 r3 r4
 rw [if_neg c2]
 exact SG e h hm hh k r n hn c4 c7 c8 c9 c11 c5 c10 c12 c13 c14 c2
end
section
variable (e:dB) (h:fV e) (hm:e.bV=2)
include h hm
theorem afZ (r:Int)(n:Nat)(hn:1≤n∧n≤999):eD [gL e,vI r,vI (n:Int)] [] []=some (kRo (vR e r n)):=by
 have e0:=dY e h
 have eb:=mJ e h
 have eh:=UC r
 have hc:=h.cnt
 unfold vR
 by_cases c1:gY r 49 57=true∨(r=48∧¬e.bH=0)
 ·rw [if_pos c1]
  have hr2:48≤r∧r≤57:=by
   rcases c1 with c1|⟨c1, -⟩
   ·have:=bA.1 c1;omega
   ·omega
  have w1:=bM (10*e.bH) (by omega)
  have w2:=bM (10*e.bH+r) (by omega)
  have w3:=bM (10*e.bH+r-48) (by omega)
  unfold Iq
  clear h
  generalize hE:eD _ _ _=R
  unfold eD at hE
  cases c2:gY r 49 57 with
  | true=>
   simp [-au,func182,f182,dQ,e0,w1,w2,w3,c2]at hE
   exact hE.symm
  | false=>
   obtain⟨c3,c4⟩:=c1.resolve_left (by rw [c2];decide)
   subst c3
   simp [-au,func182,f182,dQ,e0,w1,w2,w3,c2,c4]at hE
   rw [show 10*e.bH+48-48=10*e.bH from by omega]
   exact hE.symm
 rw [if_neg c1]
 have c2:gY r 49 57=false:=by cases q:gY r 49 57;rfl;exact absurd (.inl q) c1
 by_cases c5:0≤iV r
 ·rw [if_pos c5]
  have c3:¬r=48:=fun q=>by rw [q]at c5;exact absurd c5 (by decide)
  generalize iV r=how at*
  clear h
  generalize hE:eD _ _ _=R
  simp [eD, -au,func182,f182,dQ,e0,eh,c2,c3,c5]at hE
  exact hE.symm
 rw [if_neg c5]
 have c6:¬0≤iV r:=c5
 have ajc:r=48→e.bH=0:=fun q=>Classical.byContradiction fun q2=>c1 (.inr ⟨q,q2⟩)
 by_cases c7:r=59
 ·rw [if_pos c7]
  subst c7
  rw [show iV 59= -1 from by decide]at eh
  by_cases c8:e.eY=0
  ·rw [if_pos c8]
   generalize dM e=p at*
   clear h
   generalize hE:eD _ _ _=R
   unfold eD at hE
   simp only [gL,gO,hO,c8]at e0 eb hE
   simp [-au,func182,f182,dQ,e0,eb,eh,c2]at hE
   exact hE.symm
  ·rw [if_neg c8]
   have hf:=h.find
   simp only [dI,Bool.or_eq_true,Bool.and_eq_true,beq_iff_eq,bne_iff_ne]at hf
   have hf2:=bA.1 (hf.resolve_left (fun q=>c8 q.1)).2.2
   have e1:=Nh e h hm e.eY e.bT n hf2 hn
   generalize nN e e.eY e.bT n=p at*
   clear h
   generalize hE:eD _ _ _=R
   simp [eD, -au,func182,f182,dQ,e0,e1,eh,c2,c8]at hE
   exact hE.symm
 rw [if_neg c7]
 by_cases c9:r=44
 ·rw [if_pos c9]
  subst c9
  rw [show iV 44= -1 from by decide]at eh
  have hf:=h.find
  simp only [dI,Bool.or_eq_true,Bool.and_eq_true,beq_iff_eq,bne_iff_ne]at hf
  by_cases c8:e.eY=0
  ·rw [if_pos c8]
   have cf:e.bT=0:=hf.elim (fun q=>q.2) (fun q=>absurd c8 q.1)
   generalize dM e=p at*
   clear h
   generalize hE:eD _ _ _=R
   unfold eD at hE
   simp only [gL,gO,hO,c8,cf]at e0 eb hE
   simp [-au,func182,f182,dQ,e0,eb,eh,c2]at hE
   exact hE.symm
  ·rw [if_neg c8]
   have hf2:=bA.1 (hf.resolve_left (fun q=>c8 q.1)).2.2
   have e1:=Nh e h hm e.eY (uI e.bT) n (by unfold uI;repeat' split<;>omega) hn
   generalize nN e e.eY (uI e.bT) n=p at*
   clear h
   have hq:e.bT=0∨e.bT=1∨e.bT=2∨e.bT=3:=by omega
   generalize hE:eD _ _ _=R
   unfold eD at hE
   rcases hq with q|q|q|q
   all_goals
    simp only [gL,gO,hO,q,uI]at e0 e1 hE
    simp at e1
    simp [-au,func182,f182,dQ,e0,e1,eh,c2,c8]at hE
    exact hE.symm
 rw [if_neg c9]
 have eop:=Dm r
 by_cases c10:e.Op=0∧opC r=true
 ·rw [if_pos c10]
  have c3:¬r=48:=fun q=>by rw [q]at c10;exact absurd c10.2 (by decide)
  obtain⟨c11,c12⟩:=c10
  rw [c12]at eop
  generalize iV r=how at*
  clear h
  generalize hE:eD _ _ _=R
  unfold eD at hE
  simp only [gL,gO,hO,c11]at e0 hE
  simp [-au,func182,f182,dQ,e0,eh,eop,c2,c3,c5,c7,c9]at hE
  exact hE.symm
 rw [if_neg c10]
 simp only [kRo,u6,bn,show aC []= []from rfl,show aS []= []from rfl]
 generalize iV r=how at*
 by_cases c3:r=48
 ·have c4:=ajc c3
  subst c3
  rw [show opC 48=false from by decide]at eop
  clear h
  generalize hE:eD _ _ _=R
  unfold eD at hE
  by_cases c11:e.Op=0
  ·simp only [gL,gO,hO,c4,c11]at e0 hE
   simp [-au,func182,f182,dQ,e0,eh,eop,c2,c5]at hE
   exact hE.symm
  ·simp only [gL,gO,hO,c4]at e0 hE
   simp [-au,func182,f182,dQ,e0,eh,c2,c5,c11]at hE
   exact hE.symm
 ·clear h
  generalize hE:eD _ _ _=R
  unfold eD at hE
  by_cases c11:e.Op=0
  ·have c12:opC r=false:=by cases q:opC r;rfl;exact absurd ⟨c11,q⟩ c10
   rw [c12]at eop
   simp only [gL,gO,hO,c11]at e0 hE
   simp [-au,func182,f182,dQ,e0,eh,eop,c2,c3,c5,c7,c9]at hE
   exact hE.symm
  ·simp [-au,func182,f182,dQ,e0,eh,c2,c3,c5,c7,c9,c11]at hE
   exact hE.symm
theorem Wv (a:Nat)(ha:a≤e.ak.av.length):∃ia ul,
  rC [.agg [.aP (some 0) (ints e.ak.av),vI e.ak.At],vI (a:Int)] [] []=some ⟨.agg [.own 0,vI (a:Int)],[],[(0,ints e.ak.av)]⟩∧
  zP [gL e, .agg [.aP (some 6) (ints e.ak.av),vI (a:Int)],vI 0] [] []=some ⟨.agg [V.v (.bool e.Vi),vI e.bV, .own 0,vI ia,vI 0,vI 0,vI 0,vI 0,vI e.eY,vI e.bT,vI 0, .own 1, .own 2,vI e.kF, .own 3,vI e.iM.At, .own 4,vI e.nH, .own 5,vI e.dH.At],[],[(0,ints e.ak.av),(1,aC e.aI.aA),(2,aS ul),(3,ints e.iM.av),(4,ints e.bP),(5,ints e.dH.av)]⟩∧
  AQ [.agg [V.v (.bool e.Vi),vI e.bV, .aP (some 0) (ints e.ak.av),vI ia,vI 0,vI 0,vI 0,vI 0,vI e.eY,vI e.bT,vI 0, .aP (some 1) (aC e.aI.aA), .aP (some 2) (aS ul),vI e.kF, .aP (some 3) (ints e.iM.av),vI e.iM.At, .aP (some 4) (ints e.bP),vI e.nH, .aP (some 5) (ints e.dH.av),vI e.dH.At],vI (a:Int)] [] []=some ⟨.agg [V.v (.bool e.Vi),vI 1, .aP (some 0) (ints e.ak.av),vI (a:Int),vI 0,vI 0,vI 0,vI 0,vI e.eY,vI e.bT,vI 0, .aP (some 1) (aC e.aI.aA), .aP (some 2) (aS ul),vI e.kF, .aP (some 3) (ints e.iM.av),vI e.iM.At, .aP (some 4) (ints e.bP),vI e.nH, .aP (some 5) (ints e.dH.av),vI e.dH.At],[],[]⟩∧
  o7 e a= {e with bV:=1,ak:=⟨e.ak.av,(a:Int)⟩,bH:=0,Op:=0,bU:=0,fT:=0,iZ:=0,gH:=⟨ul⟩}:=by
 obtain⟨a1,a2,a3,a4⟩:=h.aR
 exact⟨jl e.bV e.ak.av a,sJ e e.ak.av 0,Eh e.ak.av (some 0) e.ak.At a (by omega) ha,Nb e h e.ak.av a 0 (h.KE ha),M9 (sO e e.ak.av a 0) a,rfl⟩
theorem af0 (r:Int):qF [gL e,vI r] [] []=some (kR (zS e r)):=by
 obtain⟨a1,a2,a3,a4⟩:=h.aR
 have eb:=mJ e h
 unfold zS
 by_cases c1:r=105
 ·rw [if_pos c1]
  subst c1
  obtain⟨ia,ul,e1,e2,e3,e4⟩:=Wv e h hm (aR e) a2
  rw [e4]
  rw [←a1]at e1 e2 e3⊢
  clear h
  generalize hE:qF _ _ _=R
  simp [qF, -au,func187,f187,e1,e2,e3]at hE
  exact hE.symm
 rw [if_neg c1]
 by_cases c2:r=73
 ·rw [if_pos c2]
  subst c2
  have hb:=(cB (fun j=>decide (kV (e.ak.av.getD j 0)=0)) e.ak.av.length).1
  obtain⟨ia,ul,e1,e2,e3,e4⟩:=Wv e h hm (zQ e.ak.av) hb
  have e5:=IJ e.ak.av (some 0) (aR e) 1 a2 (by omega) (by omega)
  rw [←a1]at e5
  simp only [Int.natCast_one]at e5
  rw [e4]
  generalize zQ e.ak.av=b at*
  clear h
  generalize hE:qF _ _ _=R
  simp [qF, -au,func187,f187,e1,e2,e3,e5]at hE
  exact hE.symm
 rw [if_neg c2]
 by_cases c3:r=97
 ·rw [if_pos c3]
  subst c3
  obtain⟨ia,ul,e1,e2,e3,e4⟩:=Wv e h hm (min (aR e+1) e.ak.av.length) (by omega)
  have w1:=bM (e.ak.At+1) (by omega)
  have hq:min (e.ak.At+1) (e.ak.av.length:Int)=((min (aR e+1) e.ak.av.length:Nat):Int):=by omega
  rw [e4]
  generalize min (aR e+1) e.ak.av.length=b at*
  clear h
  generalize hE:qF _ _ _=R
  simp [qF, -au,func187,f187,e1,e2,e3,w1,hq]at hE
  exact hE.symm
 rw [if_neg c3]
 by_cases c4:r=65
 ·rw [if_pos c4]
  subst c4
  obtain⟨ia,ul,e1,e2,e3,e4⟩:=Wv e h hm e.ak.av.length (Nat.le_refl _)
  rw [e4]
  clear h
  generalize hE:qF _ _ _=R
  simp [qF, -au,func187,f187,e1,e2,e3]at hE
  exact hE.symm
 rw [if_neg c4]
 generalize dM e=p at*
 clear h
 generalize hE:qF _ _ _=R
 simp [qF, -au,func187,f187,eb,c1,c2,c3,c4]at hE
 exact hE.symm
end
section
variable (e:dB) (h:fV e) (hm:e.bV=2) {f:Int} {l:List ByteArray} (hh:gX f l) (n:Nat) (hn:1≤n∧n≤999)
include h hm hh hn
theorem aa8 (ho:e.Op=0)(e1:eD [gL e,vI 120,vI (n:Int)] [] []=some (Iz (u6,0) false))(e2:aT [.aP (some 0) (ints e.ak.av),vI e.ak.At,vI 120,vI (n:Int)] [] []=some ⟨.fK [vI 0,V.v (.bool false),V.v (.bool false)],[],[]⟩):bB [gL e,aH f l,vI 120,vI (n:Int)] [] []=some (kR (gZ e 100 (aR e) (min (aR e+n) e.ak.av.length))):=by
 obtain⟨a1,a2,a3,a4⟩:=h.aR
 simp only [u6,bn,show aC []= []from rfl,show aS []= []from rfl]at e1
 have e3:=uK e h hm 100 rfl (aR e) (min (aR e+n) e.ak.av.length) (by omega) (by omega)
 rw [show (((min (aR e+n) e.ak.av.length:Nat)):Int)=min (e.ak.At+n) e.ak.av.length from by omega,←a1]at e3
 have w1:=bM (e.ak.At+n) (by omega)
 generalize gZ e 100 (aR e) (min (aR e+n) e.ak.av.length)=p at*
 clear h hh
 generalize hE:bB _ _ _=R
 unfold bB at hE
 simp only [gL,gO,hO,ho]at e1 e3 hE
 simp [-au,func103,f103,e1,e2,e3,w1]at hE
 exact hE.symm
theorem adO (ho:e.Op=0)(e1:eD [gL e,vI 88,vI (n:Int)] [] []=some (Iz (u6,0) false))(e2:aT [.aP (some 0) (ints e.ak.av),vI e.ak.At,vI 88,vI (n:Int)] [] []=some ⟨.fK [vI 0,V.v (.bool false),V.v (.bool false)],[],[]⟩):bB [gL e,aH f l,vI 88,vI (n:Int)] [] []=some (kR (gZ e 100 (aR e-n) (aR e))):=by
 obtain⟨a1,a2,a3,a4⟩:=h.aR
 simp only [u6,bn,show aC []= []from rfl,show aS []= []from rfl]at e1
 have e3:=uK e h hm 100 rfl (aR e-n) (aR e) (by omega) (by omega)
 rw [show (((aR e-n:Nat)):Int)=max (e.ak.At-n) 0 from by omega,←a1]at e3
 have w1:=bM (e.ak.At-n) (by omega)
 generalize gZ e 100 (aR e-n) (aR e)=p at*
 clear h hh
 generalize hE:bB _ _ _=R
 unfold bB at hE
 simp only [gL,gO,hO,ho]at e1 e3 hE
 simp [-au,func103,f103,e1,e2,e3,w1]at hE
 exact hE.symm
theorem adP (ho:e.Op=0)(e1:eD [gL e,vI 68,vI (n:Int)] [] []=some (Iz (u6,0) false))(e2:aT [.aP (some 0) (ints e.ak.av),vI e.ak.At,vI 68,vI (n:Int)] [] []=some ⟨.fK [vI 0,V.v (.bool false),V.v (.bool false)],[],[]⟩):bB [gL e,aH f l,vI 68,vI (n:Int)] [] []=some (kR (gZ e 100 (aR e) e.ak.av.length)):=by
 obtain⟨a1,a2,a3,a4⟩:=h.aR
 simp only [u6,bn,show aC []= []from rfl,show aS []= []from rfl]at e1
 have e3:=uK e h hm 100 rfl (aR e) e.ak.av.length (by omega) (by omega)
 rw [←a1]at e3
 generalize gZ e 100 (aR e) e.ak.av.length=p at*
 clear h hh
 generalize hE:bB _ _ _=R
 unfold bB at hE
 simp only [gL,gO,hO,ho]at e1 e3 hE
 simp [-au,func103,f103,e1,e2,e3]at hE
 exact hE.symm
theorem adQ (ho:e.Op=0)(e1:eD [gL e,vI 67,vI (n:Int)] [] []=some (Iz (u6,0) false))(e2:aT [.aP (some 0) (ints e.ak.av),vI e.ak.At,vI 67,vI (n:Int)] [] []=some ⟨.fK [vI 0,V.v (.bool false),V.v (.bool false)],[],[]⟩):bB [gL e,aH f l,vI 67,vI (n:Int)] [] []=some (kR (gZ e 99 (aR e) e.ak.av.length)):=by
 obtain⟨a1,a2,a3,a4⟩:=h.aR
 simp only [u6,bn,show aC []= []from rfl,show aS []= []from rfl]at e1
 have e3:=uK e h hm 99 rfl (aR e) e.ak.av.length (by omega) (by omega)
 rw [←a1]at e3
 generalize gZ e 99 (aR e) e.ak.av.length=p at*
 clear h hh
 generalize hE:bB _ _ _=R
 unfold bB at hE
 simp only [gL,gO,hO,ho]at e1 e3 hE
 simp [-au,func103,f103,e1,e2,e3]at hE
 exact hE.symm
theorem aa9 (ho:e.Op=0)(e1:eD [gL e,vI 115,vI (n:Int)] [] []=some (Iz (u6,0) false))(e2:aT [.aP (some 0) (ints e.ak.av),vI e.ak.At,vI 115,vI (n:Int)] [] []=some ⟨.fK [vI 0,V.v (.bool false),V.v (.bool false)],[],[]⟩):bB [gL e,aH f l,vI 115,vI (n:Int)] [] []=some (kR (gZ e 99 (aR e) (min (aR e+n) e.ak.av.length))):=by
 obtain⟨a1,a2,a3,a4⟩:=h.aR
 simp only [u6,bn,show aC []= []from rfl,show aS []= []from rfl]at e1
 have e3:=uK e h hm 99 rfl (aR e) (min (aR e+n) e.ak.av.length) (by omega) (by omega)
 rw [show (((min (aR e+n) e.ak.av.length:Nat)):Int)=min (e.ak.At+n) e.ak.av.length from by omega,←a1]at e3
 have w1:=bM (e.ak.At+n) (by omega)
 generalize gZ e 99 (aR e) (min (aR e+n) e.ak.av.length)=p at*
 clear h hh
 generalize hE:bB _ _ _=R
 unfold bB at hE
 simp only [gL,gO,hO,ho]at e1 e3 hE
 simp [-au,func103,f103,e1,e2,e3,w1]at hE
 exact hE.symm
theorem adR (ho:e.Op=0)(e1:eD [gL e,vI 83,vI (n:Int)] [] []=some (Iz (u6,0) false))(e2:aT [.aP (some 0) (ints e.ak.av),vI e.ak.At,vI 83,vI (n:Int)] [] []=some ⟨.fK [vI 0,V.v (.bool false),V.v (.bool false)],[],[]⟩):bB [gL e,aH f l,vI 83,vI (n:Int)] [] []=some (kR (gZ e 99 0 e.ak.av.length)):=by
 obtain⟨a1,a2,a3,a4⟩:=h.aR
 simp only [u6,bn,show aC []= []from rfl,show aS []= []from rfl]at e1
 have e3:=uK e h hm 99 rfl 0 e.ak.av.length (by omega) (by omega)
 simp only [Int.natCast_zero]at e3
 generalize gZ e 99 0 e.ak.av.length=p at*
 clear h hh
 generalize hE:bB _ _ _=R
 unfold bB at hE
 simp only [gL,gO,hO,ho]at e1 e3 hE
 simp [-au,func103,f103,e1,e2,e3]at hE
 exact hE.symm
theorem abb (ho:e.Op=0)(e1:eD [gL e,vI 114,vI (n:Int)] [] []=some (Iz (u6,0) false))(e2:aT [.aP (some 0) (ints e.ak.av),vI e.ak.At,vI 114,vI (n:Int)] [] []=some ⟨.fK [vI 0,V.v (.bool false),V.v (.bool false)],[],[]⟩):bB [gL e,aH f l,vI 114,vI (n:Int)] [] []=some (kR ({e with fT:=114},0)):=by
 obtain⟨a1,a2,a3,a4⟩:=h.aR
 simp only [u6,bn,show aC []= []from rfl,show aS []= []from rfl]at e1
 have e3:=dY e h
 clear h hh
 generalize hE:bB _ _ _=R
 unfold bB at hE
 simp only [gL,gO,hO,ho]at e1 e3 hE
 simp [-au,func103,f103,e1,e2,e3]at hE
 simp only [kR,gL,gO,hO,ho]
 exact hE.symm
theorem abd (ho:e.Op=0)(e1:eD [gL e,vI 112,vI (n:Int)] [] []=some (Iz (u6,0) false))(e2:aT [.aP (some 0) (ints e.ak.av),vI e.ak.At,vI 112,vI (n:Int)] [] []=some ⟨.fK [vI 0,V.v (.bool false),V.v (.bool false)],[],[]⟩):bB [gL e,aH f l,vI 112,vI (n:Int)] [] []=some (kR (uP e (min (aR e+1) e.ak.av.length) n)):=by
 obtain⟨a1,a2,a3,a4⟩:=h.aR
 simp only [u6,bn,show aC []= []from rfl,show aS []= []from rfl]at e1
 have e3:=YV e h hm (min (aR e+1) e.ak.av.length) n (by omega) hn
 rw [show (((min (aR e+1) e.ak.av.length:Nat)):Int)=min (e.ak.At+1) e.ak.av.length from by omega]at e3
 have w1:=bM (e.ak.At+1) (by omega)
 generalize uP e (min (aR e+1) e.ak.av.length) n=p at*
 clear h hh
 generalize hE:bB _ _ _=R
 unfold bB at hE
 simp only [gL,gO,hO,ho]at e1 e3 hE
 simp [-au,func103,f103,e1,e2,e3,w1]at hE
 exact hE.symm
theorem adS (ho:e.Op=0)(e1:eD [gL e,vI 80,vI (n:Int)] [] []=some (Iz (u6,0) false))(e2:aT [.aP (some 0) (ints e.ak.av),vI e.ak.At,vI 80,vI (n:Int)] [] []=some ⟨.fK [vI 0,V.v (.bool false),V.v (.bool false)],[],[]⟩):bB [gL e,aH f l,vI 80,vI (n:Int)] [] []=some (kR (uP e (aR e) n)):=by
 obtain⟨a1,a2,a3,a4⟩:=h.aR
 simp only [u6,bn,show aC []= []from rfl,show aS []= []from rfl]at e1
 have e3:=YV e h hm (aR e) n a2 hn
 rw [←a1]at e3
 generalize uP e (aR e) n=p at*
 clear h hh
 generalize hE:bB _ _ _=R
 unfold bB at hE
 simp only [gL,gO,hO,ho]at e1 e3 hE
 simp [-au,func103,f103,e1,e2,e3]at hE
 exact hE.symm
theorem abe (ho:e.Op=0)(e1:eD [gL e,vI 126,vI (n:Int)] [] []=some (Iz (u6,0) false))(e2:aT [.aP (some 0) (ints e.ak.av),vI e.ak.At,vI 126,vI (n:Int)] [] []=some ⟨.fK [vI 0,V.v (.bool false),V.v (.bool false)],[],[]⟩):bB [gL e,aH f l,vI 126,vI (n:Int)] [] []=some (kR (nY e n)):=by
 obtain⟨a1,a2,a3,a4⟩:=h.aR
 simp only [u6,bn,show aC []= []from rfl,show aS []= []from rfl]at e1
 have e3:=YU e h hm n hn
 generalize nY e n=p at*
 clear h hh
 generalize hE:bB _ _ _=R
 unfold bB at hE
 simp only [gL,gO,hO,ho]at e1 e3 hE
 simp [-au,func103,f103,e1,e2,e3]at hE
 exact hE.symm
theorem abf (ho:e.Op=0)(e1:eD [gL e,vI 117,vI (n:Int)] [] []=some (Iz (u6,0) false))(e2:aT [.aP (some 0) (ints e.ak.av),vI e.ak.At,vI 117,vI (n:Int)] [] []=some ⟨.fK [vI 0,V.v (.bool false),V.v (.bool false)],[],[]⟩):bB [gL e,aH f l,vI 117,vI (n:Int)] [] []=some (kR (mQ e)):=by
 obtain⟨a1,a2,a3,a4⟩:=h.aR
 simp only [u6,bn,show aC []= []from rfl,show aS []= []from rfl]at e1
 have e3:=acz e h
 generalize mQ e=p at*
 clear h hh
 generalize hE:bB _ _ _=R
 unfold bB at hE
 simp only [gL,gO,hO,ho]at e1 e3 hE
 simp [-au,func103,f103,e1,e2,e3]at hE
 exact hE.symm
theorem abg (ho:e.Op=0)(e1:eD [gL e,vI 107,vI (n:Int)] [] []=some (Iz (u6,0) false))(e2:aT [.aP (some 0) (ints e.ak.av),vI e.ak.At,vI 107,vI (n:Int)] [] []=some ⟨.fK [vI 0,V.v (.bool false),V.v (.bool false)],[],[]⟩):bB [gL e,aH f l,vI 107,vI (n:Int)] [] []=some (kR (jF e f l (-1))):=by
 obtain⟨a1,a2,a3,a4⟩:=h.aR
 simp only [u6,bn,show aC []= []from rfl,show aS []= []from rfl]at e1
 have e3:=CQ e h hh (-1) (.inr rfl)
 generalize jF e f l (-1)=p at*
 clear h hh
 generalize hE:bB _ _ _=R
 unfold bB at hE
 simp only [gL,gO,hO,ho]at e1 e3 hE
 simp [-au,func103,f103,e1,e2,e3]at hE
 exact hE.symm
theorem adT (ho:e.Op=0)(e1:eD [gL e,vI 45,vI (n:Int)] [] []=some (Iz (u6,0) false))(e2:aT [.aP (some 0) (ints e.ak.av),vI e.ak.At,vI 45,vI (n:Int)] [] []=some ⟨.fK [vI 0,V.v (.bool false),V.v (.bool false)],[],[]⟩):bB [gL e,aH f l,vI 45,vI (n:Int)] [] []=some (kR (jF e f l (-1))):=by
 obtain⟨a1,a2,a3,a4⟩:=h.aR
 simp only [u6,bn,show aC []= []from rfl,show aS []= []from rfl]at e1
 have e3:=CQ e h hh (-1) (.inr rfl)
 generalize jF e f l (-1)=p at*
 clear h hh
 generalize hE:bB _ _ _=R
 unfold bB at hE
 simp only [gL,gO,hO,ho]at e1 e3 hE
 simp [-au,func103,f103,e1,e2,e3]at hE
 exact hE.symm
theorem abh (ho:e.Op=0)(e1:eD [gL e,vI 106,vI (n:Int)] [] []=some (Iz (u6,0) false))(e2:aT [.aP (some 0) (ints e.ak.av),vI e.ak.At,vI 106,vI (n:Int)] [] []=some ⟨.fK [vI 0,V.v (.bool false),V.v (.bool false)],[],[]⟩):bB [gL e,aH f l,vI 106,vI (n:Int)] [] []=some (kR (jF e f l 1)):=by
 obtain⟨a1,a2,a3,a4⟩:=h.aR
 simp only [u6,bn,show aC []= []from rfl,show aS []= []from rfl]at e1
 have e3:=CQ e h hh 1 (.inl rfl)
 generalize jF e f l 1=p at*
 clear h hh
 generalize hE:bB _ _ _=R
 unfold bB at hE
 simp only [gL,gO,hO,ho]at e1 e3 hE
 simp [-au,func103,f103,e1,e2,e3]at hE
 exact hE.symm
theorem adU (ho:e.Op=0)(e1:eD [gL e,vI 43,vI (n:Int)] [] []=some (Iz (u6,0) false))(e2:aT [.aP (some 0) (ints e.ak.av),vI e.ak.At,vI 43,vI (n:Int)] [] []=some ⟨.fK [vI 0,V.v (.bool false),V.v (.bool false)],[],[]⟩):bB [gL e,aH f l,vI 43,vI (n:Int)] [] []=some (kR (jF e f l 1)):=by
 obtain⟨a1,a2,a3,a4⟩:=h.aR
 simp only [u6,bn,show aC []= []from rfl,show aS []= []from rfl]at e1
 have e3:=CQ e h hh 1 (.inl rfl)
 generalize jF e f l 1=p at*
 clear h hh
 generalize hE:bB _ _ _=R
 unfold bB at hE
 simp only [gL,gO,hO,ho]at e1 e3 hE
 simp [-au,func103,f103,e1,e2,e3]at hE
 exact hE.symm
theorem adV (ho:e.Op=0)(e1:eD [gL e,vI 47,vI (n:Int)] [] []=some (Iz (u6,0) false))(e2:aT [.aP (some 0) (ints e.ak.av),vI e.ak.At,vI 47,vI (n:Int)] [] []=some ⟨.fK [vI 0,V.v (.bool false),V.v (.bool false)],[],[]⟩):bB [gL e,aH f l,vI 47,vI (n:Int)] [] []=some (kR (BL e)):=by
 obtain⟨a1,a2,a3,a4⟩:=h.aR
 simp only [u6,bn,show aC []= []from rfl,show aS []= []from rfl]at e1
 have e3:=V9 e h
 generalize BL e=p at*
 clear h hh
 generalize hE:bB _ _ _=R
 unfold bB at hE
 simp only [gL,gO,hO,ho]at e1 e3 hE
 simp [-au,func103,f103,e1,e2,e3]at hE
 exact hE.symm
theorem adW (r:Int)(ho:e.Op=0)(e1:eD [gL e,vI r,vI (n:Int)] [] []=some (Iz (u6,0) false))(e2:aT [.aP (some 0) (ints e.ak.av),vI e.ak.At,vI r,vI (n:Int)] [] []=some ⟨.fK [vI 0,V.v (.bool false),V.v (.bool false)],[],[]⟩)(adX:¬r=120)(c88:¬r=88)(c68:¬r=68)(c67:¬r=67)(adY:¬r=115)(c83:¬r=83)(JC:¬r=114)(JB:¬r=112)(c80:¬r=80)(adZ:¬r=126)(c117:¬r=117)(c107:¬r=107)(c45:¬r=45)(ad1:¬r=106)(c43:¬r=43)(c47:¬r=47):bB [gL e,aH f l,vI r,vI (n:Int)] [] []=some (kR (zS e r)):=by
 obtain⟨a1,a2,a3,a4⟩:=h.aR
 simp only [u6,bn,show aC []= []from rfl,show aS []= []from rfl]at e1
 have e3:=af0 e h hm r
 generalize zS e r=p at*
 clear h hh
 generalize hE:bB _ _ _=R
 unfold bB at hE
 simp only [gL,gO,hO,ho]at e1 e3 hE
 simp [-au,func103,f103,e1,e2,e3,adX,c88,c68,c67,adY,c83,JC,JB,c80,adZ,c117,c107,c45,ad1,c43,c47]at hE
 exact hE.symm
theorem aib (r:Int)(ho:e.Op=0)(e1:eD [gL e,vI r,vI (n:Int)] [] []=some (Iz (u6,0) false))(e2:aT [.aP (some 0) (ints e.ak.av),vI e.ak.At,vI r,vI (n:Int)] [] []=some ⟨.fK [vI 0,V.v (.bool false),V.v (.bool false)],[],[]⟩):bB [gL e,aH f l,vI r,vI (n:Int)] [] []=some (kR (rX e f l r n)):=by
 unfold rX
 by_cases adX:r=120
 ·rw [if_pos adX];subst adX;exact aa8 e h hm hh n hn ho e1 e2
 rw [if_neg adX]
 by_cases c88:r=88
 ·rw [if_pos c88];subst c88;exact adO e h hm hh n hn ho e1 e2
 rw [if_neg c88]
 by_cases c68:r=68
 ·rw [if_pos c68];subst c68;exact adP e h hm hh n hn ho e1 e2
 rw [if_neg c68]
 by_cases c67:r=67
 ·rw [if_pos c67];subst c67;exact adQ e h hm hh n hn ho e1 e2
 rw [if_neg c67]
 by_cases adY:r=115
 ·rw [if_pos adY];subst adY;exact aa9 e h hm hh n hn ho e1 e2
 rw [if_neg adY]
 by_cases c83:r=83
 ·rw [if_pos c83];subst c83;exact adR e h hm hh n hn ho e1 e2
 rw [if_neg c83]
 by_cases JC:r=114
 ·rw [if_pos JC];subst JC;exact abb e h hm hh n hn ho e1 e2
 rw [if_neg JC]
 by_cases JB:r=112
 ·rw [if_pos JB];subst JB;exact abd e h hm hh n hn ho e1 e2
 rw [if_neg JB]
 by_cases c80:r=80
 ·rw [if_pos c80];subst c80;exact adS e h hm hh n hn ho e1 e2
 rw [if_neg c80]
 by_cases adZ:r=126
 ·rw [if_pos adZ];subst adZ;exact abe e h hm hh n hn ho e1 e2
 rw [if_neg adZ]
 by_cases c117:r=117
 ·rw [if_pos c117];subst c117;exact abf e h hm hh n hn ho e1 e2
 rw [if_neg c117]
 by_cases c107:r=107
 ·rw [if_pos (.inl c107)];subst c107;exact abg e h hm hh n hn ho e1 e2
 by_cases c45:r=45
 ·rw [if_pos (.inr c45)];subst c45;exact adT e h hm hh n hn ho e1 e2
 rw [if_neg (fun q=>q.elim c107 c45)]
 by_cases ad1:r=106
 ·rw [if_pos (.inl ad1)];subst ad1;exact abh e h hm hh n hn ho e1 e2
 by_cases c43:r=43
 ·rw [if_pos (.inr c43)];subst c43;exact adU e h hm hh n hn ho e1 e2
 rw [if_neg (fun q=>q.elim ad1 c43)]
 by_cases c47:r=47
 ·rw [if_pos c47];subst c47;exact adV e h hm hh n hn ho e1 e2
 rw [if_neg c47]
 exact adW e h hm hh n hn r ho e1 e2 adX c88 c68 c67 adY c83 JC JB c80 adZ c117 c107 c45 ad1 c43 c47
theorem abj (r:Int):bB [gL e,aH f l,vI r,vI (n:Int)] [] []=some (kR (oz e f l r n)):=by
 obtain⟨a1,a2,a3,a4⟩:=h.aR
 have e1:=afZ e h hm r n hn
 unfold oz
 cases hb:vR e r n with
 | some p=>
  rw [hb]at e1
  simp only
  clear h hh
  generalize hE:bB _ _ _=R
  simp [bB, -au,func103,f103,e1]at hE
  exact hE.symm
 | none=>
  rw [hb]at e1
  have e1':eD [gL e,vI r,vI (n:Int)] [] []=some (Iz (u6,0) false):=e1
  simp only [kRo,u6,bn,show aC []= []from rfl,show aS []= []from rfl]at e1
  simp only
  by_cases c1:¬e.Op=0∧r=e.Op
  ·rw [if_pos c1]
   obtain⟨c2,c3⟩:=c1
   have hop:opC r=true:=by rw [c3];exact h.op.resolve_left c2
   have e3:=uK e h hm r hop 0 e.ak.av.length (by omega) (Nat.le_refl _)
   simp only [Int.natCast_zero]at e3
   generalize gZ e r 0 e.ak.av.length=p at*
   have c4:¬r=0:=by rw [c3];exact c2
   clear h hh
   generalize hE:bB _ _ _=R
   unfold bB at hE
   simp only [gL,gO,hO,←c3]at e1 e3 hE
   simp [-au,func103,f103,e1,e3,c4]at hE
   exact hE.symm
  rw [if_neg c1]
  have e2:=Oy e.ak.av (some 0) (aR e) n a2 (by omega) hn r
  rw [←a1]at e2
  cases hmv:gM e.ak.av (aR e) r n with
  | some q=>
   rw [hmv]at e2
   have e3:=O8 e h hm q.1 q.2 (zJ a2 hmv)
   simp only
   generalize qL e q.1 q.2=p at*
   simp only [mR]at e2
   clear h hh
   generalize hE:bB _ _ _=R
   unfold bB at hE
   by_cases c2:e.Op=0
   ·simp only [gL,gO,hO,c2]at e1 e3 hE
    simp [-au,func103,f103,e1,e2,e3]at hE
    exact hE.symm
   ·have c3:¬r=e.Op:=fun q=>c1 ⟨c2,q⟩
    simp [-au,func103,f103,e1,e2,e3,c2,c3]at hE
    exact hE.symm
  | none=>
   rw [hmv]at e2
   simp only
   by_cases c2:e.Op=0
   ·rw [if_neg (fun q=>q c2)]
    exact aib e h hm hh n hn r c2 e1' e2
   ·rw [if_pos c2]
    have c3:¬r=e.Op:=fun q=>c1 ⟨c2,q⟩
    have e3:=mJ e h
    generalize dM e=p at*
    simp only [mR]at e2
    clear h hh
    generalize hE:bB _ _ _=R
    simp [bB, -au,func103,f103,e1,e2,e3,c2,c3]at hE
    exact hE.symm
end
section
variable (e:dB) (h:fV e) {f:Int} {l:List ByteArray} (hh:gX f l)
include h hh
theorem af2 (k r:Int)(hk:jh k r=true)(hm:e.bV=1∨e.bV=2):ou [gL e,aH f l,aK k r] [] []=some (kR (viE e f l k r)):=by
 obtain⟨a1,a2,a3,a4⟩:=h.aR
 have ec:=qN e h hh k r hk
 unfold viE
 by_cases m1:e.bV=1
 ·rw [if_pos m1]
  have e1:=YE e h hh k r hk
  cases hp:lY e f l k r with
  | some p=>
   rw [hp]at e1
   simp only
   clear h hh
   generalize hE:ou _ _ _=R
   unfold ou at hE
   simp only [gL,gO,hO,m1]at ec e1 hE
   simp [-au,func37,f37,ec,e1]at hE
   exact hE.symm
  | none=>
   rw [hp]at e1
   simp only [kRo,u6,bn,show aC []= []from rfl,show aS []= []from rfl]at e1
   simp only
   by_cases c7:k=7
   ·rw [if_pos c7]
    subst c7
    have e2:=dY e h
    have w1:=bM (e.ak.At-1) (by omega)
    unfold agZ
    clear h hh
    generalize hE:ou _ _ _=R
    unfold ou at hE
    simp only [gL,gO,hO,m1]at ec e1 e2 hE
    simp [-au,func37,f37,ec,e1,e2,w1]at hE
    exact hE.symm
   ·rw [if_neg c7]
    have e2:=mJ e h
    generalize dM e=p at*
    clear h hh
    generalize hE:ou _ _ _=R
    unfold ou at hE
    simp only [gL,gO,hO,m1]at ec e1 e2 hE
    simp [-au,func37,f37,ec,e1,e2,c7]at hE
    exact hE.symm
 rw [if_neg m1]
 have m2:e.bV=2:=hm.resolve_left m1
 obtain⟨n1,n2,n3⟩:=h.gW
 have hmul:max e.bH 1*max e.bU 1≤999*999:=Int.mul_le_mul (by have:=h.cnt;omega) (by have:=h.uV;omega) (by omega) (by omega)
 have afR:0≤max e.bH 1*max e.bU 1:=Int.mul_nonneg (by omega) (by omega)
 have w:=bM (max e.bH 1*max e.bU 1) (by omega)
 by_cases c1:e.fT=0
 ·rw [if_neg (fun q=>q c1)]
  by_cases c2:k=1
  ·rw [if_neg (fun q=>q c2)]
   subst c2
   have e1:=abj e h m2 hh (Proofs.YtlpdjhiggpblcaaGreat.gW e) ⟨n1,n2⟩ r
   rw [n3]at e1
   generalize oz e f l r (Proofs.YtlpdjhiggpblcaaGreat.gW e)=p at*
   clear h hh
   generalize hE:ou _ _ _=R
   unfold ou at hE
   simp only [gL,gO,hO,m2,c1]at ec e1 hE
   simp [-au,func37,f37,ec,e1,w]at hE
   exact hE.symm
  ·rw [if_pos c2]
   have e1:=aa7 e h m2 hh k r (Proofs.YtlpdjhiggpblcaaGreat.gW e) ⟨n1,n2⟩
   rw [n3]at e1
   generalize qM e f l k r (Proofs.YtlpdjhiggpblcaaGreat.gW e)=p at*
   clear h hh
   generalize hE:ou _ _ _=R
   unfold ou at hE
   simp only [gL,gO,hO,m2,c1]at ec e1 hE
   simp [-au,func37,f37,ec,e1,w,c2]at hE
   exact hE.symm
 ·rw [if_pos c1]
  have e1:=adN e h m2 k r (Proofs.YtlpdjhiggpblcaaGreat.gW e) ⟨n1,n2⟩ c1 hk
  rw [n3]at e1
  generalize rO e k r (Proofs.YtlpdjhiggpblcaaGreat.gW e)=p at*
  clear h hh
  generalize hE:ou _ _ _=R
  unfold ou at hE
  simp only [gL,gO,hO,m2]at ec e1 hE
  simp [-au,func37,f37,ec,e1,w,c1]at hE
  exact hE.symm
end
end Go.Proofs.YtlpdjhiggpblcaaGreat
