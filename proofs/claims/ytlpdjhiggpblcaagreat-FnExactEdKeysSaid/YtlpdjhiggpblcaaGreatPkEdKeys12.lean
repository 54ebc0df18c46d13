/- Part 12 of a proof in several texts (an abstract evaluator, what the functions compute). -/
import Derived.Test.YtlpdjhiggpblcaaGreatPkEdKeys11
open Go.Proofs.Tryz
namespace Go.Proofs.YtlpdjhiggpblcaaGreat
set_option linter.unusedSectionVars false
set_option linter.unusedSimpArgs false
set_option linter.unusedVariables false
open Go.RowKit
set_option maxHeartbeats 16000000
set_option maxRecDepth 100000
theorem afb (vi:Bool)(mode:Int)(lt:List Int)(la cnt op zD wt fr fh last:Int)(rp:List dL)(ul:List fH)(A8:Int)(ot:List Int)(oa:Int)(q:List Int)(hit:Int)(bt:List Int)(ba:Int)(h1:lt.length≤1000000000)(h2:ot.length≤1000000000)(h3:bt.length≤1000000000)(h4:q.length≤1000000000)(h5:sG (aC rp)=true)(h6:sG (aG ul)=true):rE [.agg [V.v (.bool vi),vI mode, .aL (some 0) (ints lt),vI la,vI cnt,vI op,vI zD,vI wt,vI fr,vI fh,vI last, .aL (some 1) (aC rp), .aL (some 2) (aG ul),vI A8, .aL (some 3) (ints ot),vI oa, .aL (some 4) (ints q),vI hit, .aL (some 5) (ints bt),vI ba]] [] []=some ⟨V.v (.bool (gB vi mode lt la cnt op zD wt fr fh last rp ul A8 ot oa q hit bt ba)),[],[]⟩:=by
 unfold rE
 cases x1:bV lt la
 ·skip
  simp [func69,f69,gB,dO,dF,h1,h2,h3,h5,h6,dD,dI,dM,aJ,aW,x1]
 cases x2:bV ot oa
 ·skip
  simp [func69,f69,gB,dO,dF,h1,h2,h3,h5,h6,dD,dI,dM,aJ,aW,x1,x2]
 cases x3:bV bt ba
 ·skip
  simp [func69,f69,gB,dO,dF,h1,h2,h3,h5,h6,dD,dI,dM,aJ,aW,x1,x2,x3]
 cases x4:fQ vi mode lt la op zD wt
 ·skip
  simp [func69,f69,gB,dO,dF,h1,h2,h3,h5,h6,dD,dI,dM,aJ,aW,x1,x2,x3,x4]
 cases x5:gy mode q hit bt ba
 ·skip
  simp [func69,f69,gB,dO,dF,h1,h2,h3,h5,h6,dD,dI,dM,aJ,aW,x1,x2,x3,x4,x5]
 by_cases x6:cnt<0
 ·have x8:iw cnt 0 999=false:=qC (by rw [bC];omega)
  simp [func69,f69,gB,dO,dF,h1,h2,h3,h5,h6,dD,dI,dM,aJ,aW,x1,x2,x3,x4,x5,x6,x8]
 by_cases x7:999<cnt
 ·have x8:iw cnt 0 999=false:=qC (by rw [bC];omega)
  simp [func69,f69,gB,dO,dF,h1,h2,h3,h5,h6,dD,dI,dM,aJ,aW,x1,x2,x3,x4,x5,x6,x7,x8]
 have x8:iw cnt 0 999=true:=bC.2 (by omega)
 by_cases x9:zD<0
 ·have KN:iw zD 0 999=false:=qC (by rw [bC];omega)
  simp [func69,f69,gB,dO,dF,h1,h2,h3,h5,h6,dD,dI,dM,aJ,aW,x1,x2,x3,x4,x5,x6,x7,x8,x9,KN]
 by_cases KW:999<zD
 ·have KN:iw zD 0 999=false:=qC (by rw [bC];omega)
  simp [func69,f69,gB,dO,dF,h1,h2,h3,h5,h6,dD,dI,dM,aJ,aW,x1,x2,x3,x4,x5,x6,x7,x8,x9,KW,KN]
 have KN:iw zD 0 999=true:=bC.2 (by omega)
 by_cases MG:last<0
 ·have Lr:iw last 0 3=false:=qC (by rw [bC];omega)
  simp [func69,f69,gB,dO,dF,h1,h2,h3,h5,h6,dD,dI,dM,aJ,aW,x1,x2,x3,x4,x5,x6,x7,x8,x9,KW,KN,MG,Lr]
 by_cases LQ:3<last
 ·have Lr:iw last 0 3=false:=qC (by rw [bC];omega)
  simp [func69,f69,gB,dO,dF,h1,h2,h3,h5,h6,dD,dI,dM,aJ,aW,x1,x2,x3,x4,x5,x6,x7,x8,x9,KW,KN,MG,LQ,Lr]
 have Lr:iw last 0 3=true:=bC.2 (by omega)
 cases MF:iJ rp
 ·skip
  simp [func69,f69,gB,dO,dF,h1,h2,h3,h5,h6,dD,dI,dM,aJ,aW,x1,x2,x3,x4,x5,x6,x7,x8,x9,KW,KN,MG,LQ,Lr,MF]
 cases Pw:jS ul
 ·skip
  simp [func69,f69,gB,dO,dF,h1,h2,h3,h5,h6,dD,dI,dM,aJ,aW,x1,x2,x3,x4,x5,x6,x7,x8,x9,KW,KN,MG,LQ,Lr,MF,Pw]
 by_cases f0:fr=0
 ·subst f0
  by_cases f1:fh=0
  rotate_left
  ·skip
   simp [func69,f69,gB,dO,dF,h1,h2,h3,h5,h6,dD,dI,dM,aJ,aW,x1,x2,x3,x4,x5,x6,x7,x8,x9,KW,KN,MG,LQ,Lr,MF,Pw,f1]
  subst f1
  by_cases x17:A8<0
  ·have x19:iw A8 0 1000000060=false:=qC (by rw [bC];omega)
   simp [func69,f69,gB,dO,dF,h1,h2,h3,h5,h6,dD,dI,dM,aJ,aW,x1,x2,x3,x4,x5,x6,x7,x8,x9,KW,KN,MG,LQ,Lr,MF,Pw,x17,x19]
  by_cases x18:1000000060<A8
  ·have x19:iw A8 0 1000000060=false:=qC (by rw [bC];omega)
   simp [func69,f69,gB,dO,dF,h1,h2,h3,h5,h6,dD,dI,dM,aJ,aW,x1,x2,x3,x4,x5,x6,x7,x8,x9,KW,KN,MG,LQ,Lr,MF,Pw,x17,x18,x19]
  have x19:iw A8 0 1000000060=true:=bC.2 (by omega)
  by_cases x20:hit<0
  ·have x22:iw hit 0 1000000060=false:=qC (by rw [bC];omega)
   simp [func69,f69,gB,dO,dF,h1,h2,h3,h5,h6,dD,dI,dM,aJ,aW,x1,x2,x3,x4,x5,x6,x7,x8,x9,KW,KN,MG,LQ,Lr,MF,Pw,x17,x18,x19,x20,x22]
  by_cases x21:1000000060<hit
  ·have x22:iw hit 0 1000000060=false:=qC (by rw [bC];omega)
   simp [func69,f69,gB,dO,dF,h1,h2,h3,h5,h6,dD,dI,dM,aJ,aW,x1,x2,x3,x4,x5,x6,x7,x8,x9,KW,KN,MG,LQ,Lr,MF,Pw,x17,x18,x19,x20,x21,x22]
  have x22:iw hit 0 1000000060=true:=bC.2 (by omega)
  by_cases d0:A8=0
  ·subst d0
   cases x23:qK ot oa
   ·skip
    simp [func69,f69,gB,dO,dF,h1,h2,h3,h5,h6,dD,dI,dM,aJ,aW,x1,x2,x3,x4,x5,x6,x7,x8,x9,KW,KN,MG,LQ,Lr,MF,Pw,x17,x18,x19,x20,x21,x22,x23]
   by_cases d1:q.length≤40
   rotate_left
   ·have d1':40<(q.length:Int):=by omega
    simp [func69,f69,gB,dO,dF,h1,h2,h3,h5,h6,dD,dI,dM,aJ,aW,x1,x2,x3,x4,x5,x6,x7,x8,x9,KW,KN,MG,LQ,Lr,MF,Pw,x17,x18,x19,x20,x21,x22,x23,d1,d1']
   have d1':¬(40<(q.length:Int)):=by omega
   simp [func69,f69,gB,dO,dF,h1,h2,h3,h5,h6,dD,dI,dM,aJ,aW,x1,x2,x3,x4,x5,x6,x7,x8,x9,KW,KN,MG,LQ,Lr,MF,Pw,x17,x18,x19,x20,x21,x22,x23,d1,d1']
   rcases j4 dh q with g|⟨g,N,hN,g1,g2⟩
   ·rw [aD (fun j=> .on ⟨[(138,V.v (.int .i64 ((j:Int)))),(137,V.v (.int .i64 ((q.length:Int)))),(136, .aL (some 4) (ints q))],[],[],[]⟩) q.length ?_ ?_]
    ·simp [func69,f69,gB,dO,dF,h1,h2,h3,h5,h6,dD,dI,dM,aJ,aW,x1,x2,x3,x4,x5,x6,x7,x8,x9,KW,KN,MG,LQ,Lr,MF,Pw,x17,x18,x19,x20,x21,x22,x23,d1,d1',g]
    ·simp
    ·intro j hj
     have hw:=bN (j+1) (by omega)
     have:=List.all_eq_true.1 g q[j] (List.getElem_mem hj)
     simp [hj,hw,aQ hj,aW,this]
   ·rw [aD (fun j=> .on ⟨[(138,V.v (.int .i64 ((j:Int)))),(137,V.v (.int .i64 ((q.length:Int)))),(136, .aL (some 4) (ints q))],[],[],[]⟩) N ?_ ?_]
    ·simp [hN,aQ hN,aW,g1,g,gB]
    ·simp
    ·intro j hj
     have hj':j<q.length:=by omega
     have hw:=bN (j+1) (by omega)
     simp [hj',hw,aQ hj',aW,g2 j hj' hj]
  ·have d2:(A8 != 0)=true:=by simpa using d0
   by_cases d1:q.length≤40
   rotate_left
   ·have d1':40<(q.length:Int):=by omega
    simp [func69,f69,gB,dO,dF,h1,h2,h3,h5,h6,dD,dI,dM,aJ,aW,x1,x2,x3,x4,x5,x6,x7,x8,x9,KW,KN,MG,LQ,Lr,MF,Pw,x17,x18,x19,x20,x21,x22,d0,d2,d1,d1']
   have d1':¬(40<(q.length:Int)):=by omega
   simp [func69,f69,gB,dO,dF,h1,h2,h3,h5,h6,dD,dI,dM,aJ,aW,x1,x2,x3,x4,x5,x6,x7,x8,x9,KW,KN,MG,LQ,Lr,MF,Pw,x17,x18,x19,x20,x21,x22,d0,d2,d1,d1']
   rcases j4 dh q with g|⟨g,N,hN,g1,g2⟩
   ·rw [aD (fun j=> .on ⟨[(138,V.v (.int .i64 ((j:Int)))),(137,V.v (.int .i64 ((q.length:Int)))),(136, .aL (some 4) (ints q))],[],[],[]⟩) q.length ?_ ?_]
    ·simp [func69,f69,gB,dO,dF,h1,h2,h3,h5,h6,dD,dI,dM,aJ,aW,x1,x2,x3,x4,x5,x6,x7,x8,x9,KW,KN,MG,LQ,Lr,MF,Pw,x17,x18,x19,x20,x21,x22,d0,d2,d1,d1',g]
    ·simp
    ·intro j hj
     have hw:=bN (j+1) (by omega)
     have:=List.all_eq_true.1 g q[j] (List.getElem_mem hj)
     simp [hj,hw,aQ hj,aW,this]
   ·rw [aD (fun j=> .on ⟨[(138,V.v (.int .i64 ((j:Int)))),(137,V.v (.int .i64 ((q.length:Int)))),(136, .aL (some 4) (ints q))],[],[],[]⟩) N ?_ ?_]
    ·simp [hN,aQ hN,aW,g1,g,gB]
    ·simp
    ·intro j hj
     have hj':j<q.length:=by omega
     have hw:=bN (j+1) (by omega)
     simp [hj',hw,aQ hj',aW,g2 j hj' hj]
 ·have f2:(fr==0)=false:=by simpa using f0
  have f3:(fr != 0)=true:=by simpa using f0
  cases x24:dh fr
  ·skip
   simp [func69,f69,gB,dO,dF,h1,h2,h3,h5,h6,dD,dI,dM,aJ,aW,x1,x2,x3,x4,x5,x6,x7,x8,x9,KW,KN,MG,LQ,Lr,MF,Pw,f0,f2,f3,x24]
  by_cases x25:fh<0
  ·have x27:iw fh 0 3=false:=qC (by rw [bC];omega)
   simp [func69,f69,gB,dO,dF,h1,h2,h3,h5,h6,dD,dI,dM,aJ,aW,x1,x2,x3,x4,x5,x6,x7,x8,x9,KW,KN,MG,LQ,Lr,MF,Pw,f0,f2,f3,x24,x25,x27]
  by_cases x26:3<fh
  ·have x27:iw fh 0 3=false:=qC (by rw [bC];omega)
   simp [func69,f69,gB,dO,dF,h1,h2,h3,h5,h6,dD,dI,dM,aJ,aW,x1,x2,x3,x4,x5,x6,x7,x8,x9,KW,KN,MG,LQ,Lr,MF,Pw,f0,f2,f3,x24,x25,x26,x27]
  have x27:iw fh 0 3=true:=bC.2 (by omega)
  by_cases x28:A8<0
  ·have x30:iw A8 0 1000000060=false:=qC (by rw [bC];omega)
   simp [func69,f69,gB,dO,dF,h1,h2,h3,h5,h6,dD,dI,dM,aJ,aW,x1,x2,x3,x4,x5,x6,x7,x8,x9,KW,KN,MG,LQ,Lr,MF,Pw,f0,f2,f3,x24,x25,x26,x27,x28,x30]
  by_cases x29:1000000060<A8
  ·have x30:iw A8 0 1000000060=false:=qC (by rw [bC];omega)
   simp [func69,f69,gB,dO,dF,h1,h2,h3,h5,h6,dD,dI,dM,aJ,aW,x1,x2,x3,x4,x5,x6,x7,x8,x9,KW,KN,MG,LQ,Lr,MF,Pw,f0,f2,f3,x24,x25,x26,x27,x28,x29,x30]
  have x30:iw A8 0 1000000060=true:=bC.2 (by omega)
  by_cases x31:hit<0
  ·have x33:iw hit 0 1000000060=false:=qC (by rw [bC];omega)
   simp [func69,f69,gB,dO,dF,h1,h2,h3,h5,h6,dD,dI,dM,aJ,aW,x1,x2,x3,x4,x5,x6,x7,x8,x9,KW,KN,MG,LQ,Lr,MF,Pw,f0,f2,f3,x24,x25,x26,x27,x28,x29,x30,x31,x33]
  by_cases x32:1000000060<hit
  ·have x33:iw hit 0 1000000060=false:=qC (by rw [bC];omega)
   simp [func69,f69,gB,dO,dF,h1,h2,h3,h5,h6,dD,dI,dM,aJ,aW,x1,x2,x3,x4,x5,x6,x7,x8,x9,KW,KN,MG,LQ,Lr,MF,Pw,f0,f2,f3,x24,x25,x26,x27,x28,x29,x30,x31,x32,x33]
  have x33:iw hit 0 1000000060=true:=bC.2 (by omega)
  by_cases d0:A8=0
  ·subst d0
   cases x34:qK ot oa
   ·skip
    simp [func69,f69,gB,dO,dF,h1,h2,h3,h5,h6,dD,dI,dM,aJ,aW,x1,x2,x3,x4,x5,x6,x7,x8,x9,KW,KN,MG,LQ,Lr,MF,Pw,f0,f2,f3,x24,x25,x26,x27,x28,x29,x30,x31,x32,x33,x34]
   by_cases d1:q.length≤40
   rotate_left
   ·have d1':40<(q.length:Int):=by omega
    simp [func69,f69,gB,dO,dF,h1,h2,h3,h5,h6,dD,dI,dM,aJ,aW,x1,x2,x3,x4,x5,x6,x7,x8,x9,KW,KN,MG,LQ,Lr,MF,Pw,f0,f2,f3,x24,x25,x26,x27,x28,x29,x30,x31,x32,x33,x34,d1,d1']
   have d1':¬(40<(q.length:Int)):=by omega
   simp [func69,f69,gB,dO,dF,h1,h2,h3,h5,h6,dD,dI,dM,aJ,aW,x1,x2,x3,x4,x5,x6,x7,x8,x9,KW,KN,MG,LQ,Lr,MF,Pw,f0,f2,f3,x24,x25,x26,x27,x28,x29,x30,x31,x32,x33,x34,d1,d1']
   rcases j4 dh q with g|⟨g,N,hN,g1,g2⟩
   ·rw [aD (fun j=> .on ⟨[(138,V.v (.int .i64 ((j:Int)))),(137,V.v (.int .i64 ((q.length:Int)))),(136, .aL (some 4) (ints q))],[],[],[]⟩) q.length ?_ ?_]
    ·simp [func69,f69,gB,dO,dF,h1,h2,h3,h5,h6,dD,dI,dM,aJ,aW,x1,x2,x3,x4,x5,x6,x7,x8,x9,KW,KN,MG,LQ,Lr,MF,Pw,f0,f2,f3,x24,x25,x26,x27,x28,x29,x30,x31,x32,x33,x34,d1,d1',g]
    ·simp
    ·intro j hj
     have hw:=bN (j+1) (by omega)
     have:=List.all_eq_true.1 g q[j] (List.getElem_mem hj)
     simp [hj,hw,aQ hj,aW,this]
   ·rw [aD (fun j=> .on ⟨[(138,V.v (.int .i64 ((j:Int)))),(137,V.v (.int .i64 ((q.length:Int)))),(136, .aL (some 4) (ints q))],[],[],[]⟩) N ?_ ?_]
    ·simp [hN,aQ hN,aW,g1,g,gB]
    ·simp
    ·intro j hj
     have hj':j<q.length:=by omega
     have hw:=bN (j+1) (by omega)
     simp [hj',hw,aQ hj',aW,g2 j hj' hj]
  ·have d2:(A8 != 0)=true:=by simpa using d0
   by_cases d1:q.length≤40
   rotate_left
   ·have d1':40<(q.length:Int):=by omega
    simp [func69,f69,gB,dO,dF,h1,h2,h3,h5,h6,dD,dI,dM,aJ,aW,x1,x2,x3,x4,x5,x6,x7,x8,x9,KW,KN,MG,LQ,Lr,MF,Pw,f0,f2,f3,x24,x25,x26,x27,x28,x29,x30,x31,x32,x33,d0,d2,d1,d1']
   have d1':¬(40<(q.length:Int)):=by omega
   simp [func69,f69,gB,dO,dF,h1,h2,h3,h5,h6,dD,dI,dM,aJ,aW,x1,x2,x3,x4,x5,x6,x7,x8,x9,KW,KN,MG,LQ,Lr,MF,Pw,f0,f2,f3,x24,x25,x26,x27,x28,x29,x30,x31,x32,x33,d0,d2,d1,d1']
   rcases j4 dh q with g|⟨g,N,hN,g1,g2⟩
   ·rw [aD (fun j=> .on ⟨[(138,V.v (.int .i64 ((j:Int)))),(137,V.v (.int .i64 ((q.length:Int)))),(136, .aL (some 4) (ints q))],[],[],[]⟩) q.length ?_ ?_]
    ·simp [func69,f69,gB,dO,dF,h1,h2,h3,h5,h6,dD,dI,dM,aJ,aW,x1,x2,x3,x4,x5,x6,x7,x8,x9,KW,KN,MG,LQ,Lr,MF,Pw,f0,f2,f3,x24,x25,x26,x27,x28,x29,x30,x31,x32,x33,d0,d2,d1,d1',g]
    ·simp
    ·intro j hj
     have hw:=bN (j+1) (by omega)
     have:=List.all_eq_true.1 g q[j] (List.getElem_mem hj)
     simp [hj,hw,aQ hj,aW,this]
   ·rw [aD (fun j=> .on ⟨[(138,V.v (.int .i64 ((j:Int)))),(137,V.v (.int .i64 ((q.length:Int)))),(136, .aL (some 4) (ints q))],[],[],[]⟩) N ?_ ?_]
    ·simp [hN,aQ hN,aW,g1,g,gB]
    ·simp
    ·intro j hj
     have hj':j<q.length:=by omega
     have hw:=bN (j+1) (by omega)
     simp [hj',hw,aQ hj',aW,g2 j hj' hj]
abbrev kR (p:dw×Int):A9:=⟨.fU [gO p.1,vI p.2],[],(hO p.1)⟩
abbrev JI (p:dw×Int)(b:Bool):A9:=⟨.fU [gO p.1,vI p.2,V.v (.bool b)],[],(hO p.1)⟩
section
variable (e:dw) (h:fO e)
include h
theorem mq:kr [gL e] [] []=some (kR (dJ e)):=NP e (Oy.of (fD.2 h))
theorem JJ (t:List Int)(a:Int)(ht:bV t a=true):vT [gL e, .agg [.aL (some 6) (ints t),vI a]] [] []=some (kR (wD e t a)):=by
 obtain⟨h1,h2,h3,h4⟩:=bU ht
 exact alB e (fD.2 h) t a h1 ⟨h3,h4⟩
theorem alD (f u:Nat)(h1:f≤u)(h2:u≤e.au.av.length):Gg [gL e,vI (f:Int),vI (u:Int)] [] []=some (kR (GQ e f u)):=by
 have e1:=CS e.au.av e.au.At h.line f u h1 h2
 have hgl:(((e.au.av.drop f).take (u-f)).length:Int)=(u:Int)-f:=by simp;omega
 unfold GQ
 by_cases hfu:f<u
 ·rw [if_pos hfu]
  obtain⟨c1,c2,c3⟩:=uF h.line h1 h2
  have e2:=JJ e h _ _ c1
  unfold oz at e2⊢
  have hg:¬(((e.au.av.drop f).take (u-f)).length:Int)=0:=by omega
  generalize (e.au.av.drop f).take (u-f)=gone at*
  have hg0:¬gone= []:=fun q=>hg (by rw [q];rfl)
  generalize e.au.av.take f++e.au.av.drop u=X at*
  generalize wD e X (cutAt e.au.At f u)=p at*
  generalize hE:Gg _ _ _=R
  simp [Gg, -ak,func152,f152,e1,e2,hg,hg0]at hE
  exact hE.symm
 ·rw [if_neg hfu]
  have hfe:f=u:=by omega
  subst hfe
  have e2:=mq e h
  have hz:(e.au.av.drop f).take (f-f)= []:=by simp
  rw [hz]at e1
  simp only [aZ]at e1
  generalize dJ e=p at*
  generalize hE:Gg _ _ _=R
  simp [Gg, -ak,func152,f152,e1,e2]at hE
  exact hE.symm
theorem akf (f u:Nat)(how:Int)(hw:0≤how∧how≤2)(h1:f≤u)(h2:u≤e.au.av.length):qz [gL e,vI (f:Int),vI (u:Int),vI how] [] []=some (kR (mJ e f u how)):=by
 unfold mJ
 by_cases hfu:f<u
 ·rw [if_pos hfu]
  exact akc e (fD.2 h) f u how hw hfu h2
 ·rw [if_neg hfu]
  have hfe:f=u:=by omega
  subst hfe
  exact adt e (fD.2 h) f how h2
end
theorem KO (n:Nat)(u:List Int):mg (n+1) u=mg n u++u:=by
 unfold mg
 rw [List.replicate_succ',List.flatten_append]
 simp
def rT (m n:Nat):Nat:=gP (fun j=>decide (m*j≤400)) n
theorem JK (m n:Nat)(hm:m≤400):rT m n≤n∧(m*n≤400→rT m n=n)∧(400<m*n→400<m*rT m n)∧m*rT m n≤800∧(∀j,j<rT m n→m*j≤400)∧(rT m n=n∨400<m*rT m n):=by
 obtain⟨h1,h2,h3⟩:=cB (fun j=>decide (m*j≤400)) n
 unfold rT
 generalize gP (fun j=>decide (m*j≤400)) n=k at*
 have h2:∀j,j<k→m*j≤400:=fun j hj=>of_decide_eq_true (h2 j hj)
 have h3:k=n∨¬m*k≤400:=h3.imp _root_.id of_decide_eq_false
 have hle:m*k≤m*n:=Nat.mul_le_mul_left m h1
 refine⟨h1,fun h=>?_,fun h=>?_,?_,h2,?_⟩
 ·rcases h3 with h3|h3
  ·exact h3
  ·omega
 ·rcases h3 with h3|h3
  ·rw [h3];exact h
  ·omega
 ·cases k with
  | zero=>rw [Nat.mul_zero];omega
  | succ k=>
   have:=h2 k (by omega)
   rw [Nat.mul_succ];omega
 ·rcases h3 with h3|h3
  ·exact .inl h3
  ·exact .inr (by omega)
theorem aa2 (u:List Int)(i:Option Nat)(n:Nat)(hu:u.length≤400)(hn:n≤999):EO [.aL i (ints u),vI (n:Int)] [] []=some ⟨.own 0,[],[(0,ints (mg (rT u.length n) u))]⟩:=by
 obtain⟨k1,k2,k3,k4,k5,k6⟩:=JK u.length n hu
 generalize rT u.length n=k at*
 have hlen:∀j,(mg j u).length=u.length*j:=fun j=>by
  induction j with
  | zero=>rfl
  | succ j ih=>rw [KO,List.length_append,ih,Nat.mul_succ]
 generalize hE:EO _ _ _=R
 simp [EO,func150,f150]at hE
 rw [aD (fun j=> .on ⟨[(6,V.v (.int .i64 ((j:Int)))),(5, .own 2000000000),(1,V.v (.int .i64 ((n:Int)))),(0, .aL i (ints u))],[],[(2000000000,ints (mg j u))],[]⟩) k ?_ ?_]at hE
 ·have hk:=hlen k
  rcases k6 with q|q
  ·subst q
   simp at hE
   exact hE.symm
  ·by_cases hkn:k<n
   ·have q2:¬(((mg k u).length:Nat):Int)≤400:=by omega
    simp [hkn,q2]at hE
    exact hE.symm
   ·simp [hkn]at hE
    exact hE.symm
 ·simp [mg,aZ]
 ·intro j hj
  have q1:j<n:=by omega
  have q2:=k5 j hj
  have q3:(((mg j u).length:Nat):Int)≤400:=by rw [hlen];omega
  have q4:=hlen j
  have hw:=bN ((j:Int)+1) (by omega)
  have g1:((mg j u).length+u.length)*8≤140737488355328:=by omega
  have g2:(mg j u).length+u.length≤4611686018427387904:=by omega
  have g3:ints (mg (j+1) u)=ints (mg j u)++ints u:=by rw [KO,ak]
  simp [q1,q3,hw,g1,g2,g3]
theorem CX (t u:List Int)(a:Int)(h:bV t a=true)(hu:u.all iE=true)(hu2:u.length≤100000):om [.agg [.aL (some 0) (ints t),vI a], .aL (some 1) (ints u)] [] []=
  some (if t.length+u.length≤400 then⟨.fU [.agg [.own 0,vI (a+u.length)],V.v (.bool true)],[],[(0,ints (AQ t a.toNat u))]⟩else⟨.fU [.agg [.own 0,vI 0],V.v (.bool false)],[],[(0,[])]⟩):=by
 obtain⟨h1,h2,h3,h4⟩:=bU h
 obtain⟨A,hA⟩:=Int.eq_ofNat_of_zero_le h3
 subst hA
 have hA:A≤t.length:=by omega
 rw [Int.toNat_natCast]
 by_cases hc:t.length+u.length≤400
 ·rw [if_pos hc]
  exact adu t u A hA (by simp only [eT,Bool.and_eq_true,decide_eq_true_eq];exact⟨h1,h2⟩) hu hc
 ·rw [if_neg hc]
  have e1:=bQ t A (by omega)
  rw [h]at e1
  by_cases hu4:400<u.length
  ·have alE:(400:Int)<u.length:=by omega
   simp [om,func216,f216,e1,hu4,alE,aZ]
  ·have alE:¬(400:Int)<u.length:=by omega
   have e2:=lg (t.take A) (some 0) (by simp;omega)
   have hXl:(t.take A++u++t.drop A).length=t.length+u.length:=by simp;omega
   have e3:=bQ (t.take A++u++t.drop A) ((A:Int)+u.length) (by omega)
   rw [show bV (t.take A++u++t.drop A) ((A:Int)+u.length)=false from by unfold bV eT;rw [decide_eq_false (by omega)];rfl,List.append_assoc]at e3
   have q2:(A+u.length+(t.length-A))*8≤140737488355328:=by omega
   have q3:A+u.length+(t.length-A)≤4611686018427387904:=by omega
   have q4:(A+u.length)*8≤140737488355328:=by omega
   have q5:A+u.length≤4611686018427387904:=by omega
   have q6:min A t.length=A:=by omega
   have q7:(A:Int)≤t.length:=by omega
   have q8:(t.drop A).take (t.length-A)=t.drop A:=List.take_of_length_le (by simp)
   have w:=bN ((A:Int)+u.length) (by omega)
   have hX:ints (t.take A++u++t.drop A)=ints (t.take A)++ints u++ints (t.drop A):=by rw [ak,ak]
   generalize hE:om _ _ _=R
   simp [om, -ak,←ak,func216,f216,e1,e2,hu4,alE,q2,q3,q4,q5,q6,q7,q8,hA,w,e3]at hE
   exact hE.symm
section
variable (e:dw) (h:fO e)
include h
theorem Px (t:List Int)(a last:Int)(ht:bV t a=true):AO [gL e, .agg [.aL (some 6) (ints t),vI a],vI last] [] []=some ⟨(gO (sW e t a last)),[],(hO (sW e t a last))⟩:=by
 obtain⟨h1,h2,h3,h4⟩:=bU ht
 exact adr e (fD.2 h) t a last h1 ⟨h3,h4⟩
theorem Xa (u:List Int)(last:Int)(hu:u.all iE=true)(hu2:u.length≤100000):wQ [gL e, .aL (some 6) (ints u),vI last] [] []=some (kR (Da e u last)):=by
 obtain⟨h1,h2,h3,h4⟩:=h.aS
 have e1:=CX e.au.av u e.au.At h.line hu hu2
 have hn:e.au.At.toNat=aS e:=rfl
 rw [hn]at e1
 unfold Da
 by_cases hc:e.au.av.length+u.length≤400
 ·rw [if_pos hc]at e1⊢
  have e2:=Px e h (AQ e.au.av (aS e) u) (e.au.At+u.length) last ((zQ hc h4 hu h2).2 _ (by omega) (by omega))
  generalize AQ e.au.av (aS e) u=X at*
  generalize sW e X (e.au.At+u.length) last=p at*
  generalize hE:wQ _ _ _=R
  simp [wQ, -ak,func149,f149,e1,e2]at hE
  exact hE.symm
 ·rw [if_neg hc]at e1⊢
  have e2:=mq e h
  generalize dJ e=p at*
  generalize hE:wQ _ _ _=R
  simp [wQ, -ak,func149,f149,e1,e2]at hE
  exact hE.symm
end
theorem JL (l:List fH)(i:Option Nat)(h:l.length≤1000)(hp:∀p∈l,p.av.length≤2000):qQ [.agg [.aL i (aG l)]] [] []=some ⟨.agg [.own 0],[],[(0,aG l)]⟩:=by
 generalize hE:qQ _ _ _=R
 simp [qQ,func140,f140]at hE
 rw [aD (fun k=> .on ⟨[(10,V.v (.int .i64 ((k:Int)))),(9,V.v (.int .i64 ((l.length:Int)))),(8, .aL i (aG l)),(3, .ref 3 0),(2, .ref 2 0)],[(3,[.own 2000000000]),(2,[.own 2000000001])],[(2000000001,[]),(2000000000,aG (l.take k))],[]⟩) l.length ?_ ?_]at hE
 ·simp at hE
  exact hE.symm
 ·simp [show aG []= []from rfl]
 ·intro k hk
  have hw:=bN ((k:Int)+1) (by omega)
  have hq:=hp l[k] (List.getElem_mem hk)
  have e1:=lT l[k].av (some 0) l[k].At hq
  have g3:min k l.length=k:=by omega
  have g4:(k+1)*32≤140737488355328:=by omega
  have g5:k≤4611686018427387903:=by omega
  have g6:aG (l.take (k+1))=aG (l.take k)++ [[.l (ints l[k].av),D.a (.int .i64 (l[k].At))]]:=by rw [wI,←List.take_succ_eq_append_getElem hk]
  simp [hk,hw,e1,g3,g4,g5,g6,dX hk]
theorem G5 (a b:List Int)(ha:a.length≤1000000)(hb:b.length≤1000000):za [.aL (some 0) (ints a), .aL (some 1) (ints b)] [] []=some ⟨V.v (.bool (decide (a=b))),[],[]⟩:=by
 unfold za
 by_cases hl:a.length=b.length
 ·have hli:(a.length:Int)=b.length:=by omega
  simp [func147,f147,hl,hli]
  rcases Po a b hl with h|⟨N,h1,h2,h3,h4⟩
  ·subst h
   rw [aD (fun j=> .on ⟨[(13,V.v (.int .i64 ((j:Int)))),(12,V.v (.int .i64 ((a.length:Int)))),(1, .aL (some 1) (ints a)),(0, .aL (some 0) (ints a))],[],[],[]⟩) a.length ?_ ?_]
   ·simp
   ·simp
   ·intro j hj
    have hw:=bN ((j:Int)+1) (by omega)
    simp [hj,hw,aQ hj]
  ·have hab:¬a=b:=fun e=>by subst e;exact h3 rfl
   rw [aD (fun j=> .on ⟨[(13,V.v (.int .i64 ((j:Int)))),(12,V.v (.int .i64 ((b.length:Int)))),(1, .aL (some 1) (ints b)),(0, .aL (some 0) (ints a))],[],[],[]⟩) N ?_ ?_]
   ·simp [h1,h2,aQ h1,aQ h2,h3,hab]
   ·simp
   ·intro j hj
    have j1:j<a.length:=by omega
    have j2:j<b.length:=by omega
    have hw:=bN ((j:Int)+1) (by omega)
    simp [j1,j2,hw,aQ j1,aQ j2,h4 j j1 j2 hj]
 ·have hli:¬(a.length:Int)=b.length:=by omega
  have hab:¬a=b:=fun e=>hl (by rw [e])
  simp [func147,f147,hl,hli,hab]
theorem Mq (l:List fH)(h:jS l=true):wL [.agg [.aL (some 0) (aG l)]] [] []=some ⟨V.v (.bool true),[],[]⟩:=by
 have e1:=dM l (NM h)
 rw [h]at e1
 exact e1
theorem adw (l:List fH)(t:List Int)(a:Int)(h:jS l=true)(ht:bV t a=true):Cu [.agg [.aL (some 0) (aG l)], .agg [.aL (some 1) (ints t),vI a]] [] []=some ⟨.fU [.agg [.own 0],V.v (.bool true)],[],[(0,aG (BA l ⟨t,a⟩))]⟩:=by
 obtain⟨hl,hp⟩:=pW h
 have htl:=(bU ht).1
 have e1:=Mq l h
 have e2:=wu t a ht
 have e3:=JL l (some 0) (by omega) (fun p hq=>by have:=(bU (hp p hq)).1;omega)
 have e4:=lT t (some 0) a (by omega)
 have e6:aG (l++ [⟨t,a⟩])=aG l++ [[.l (ints t),D.a (.int .i64 a)]]:=(wI l ⟨t,a⟩).symm
 have g1:(l.length+1)*32≤140737488355328:=by omega
 have g2:l.length+1≤4611686018427387904:=by omega
 have g4:l.length≤4611686018427387903:=by omega
 generalize hE:Cu _ _ _=R
 unfold Cu at hE
 unfold BA
 by_cases h0:l= []
 ·subst h0
  simp only [show aG []= []from rfl]at hE e1 e3
  simp [func80,f80,e1,e2,e3,e4]at hE
  exact hE.symm
 ·have hlen:0<l.length:=List.length_pos_iff.2 h0
  have hj:l.length-1<l.length:=by omega
  have hq:=(bU (hp l[l.length-1] (List.getElem_mem hj))).1
  have e5:=G5 l[l.length-1].av t (by omega) (by omega)
  have w:=bN ((l.length:Int)-1) (by omega)
  have k1:0≤(l.length:Int)-1:=by omega
  have k2:(l.length:Int)-1<l.length:=by omega
  have k3:((l.length:Int)-1).toNat=l.length-1:=by omega
  have k4:(0:Int)<l.length:=by omega
  have k5:1≤(l.length:Int):=by omega
  have hlast:l.getLast?.map (·.av)=some l[l.length-1].av:=by rw [List.getLast?_eq_getElem?,List.getElem?_eq_getElem hj];rfl
  simp only [hlast,Option.some.injEq]
  by_cases hs:l[l.length-1].av=t
  ·rw [decide_eq_true hs]at e5
   rw [if_pos hs]
   simp [func80,f80,e1,e2,e3,e4,e5,w,k1,k2,k3,k4,k5,hj,hlen,dX hj]at hE
   exact hE.symm
  ·rw [decide_eq_false hs]at e5
   rw [if_neg hs]
   by_cases h20:l.length=20
   ·rw [if_pos h20]
    have g3:((l.length:Int)=20)=True:=eq_true (by omega)
    have g3n:(l.length=20)=True:=eq_true h20
    have g5:(1:Int)≤(l.length:Int)+1:=by omega
    have g6:wid 2 (aG l++ [[.l (ints t),D.a (.int .i64 a)]])=true:=by rw [←e6];exact RU _
    have g7:(1:Int)<(l.length:Int)+1:=by omega
    simp [func80,f80,e1,e2,e3,e4,e5,w,k1,k2,k3,k4,k5,hj,hlen,dX hj,g1,g2,g3,g3n,g4,g5,g6,g7]at hE
    rw [←hE,WY h0]
   ·rw [if_neg h20,e6]
    have g3:¬(l.length:Int)=20:=by omega
    simp [func80,f80,e1,e2,e3,e4,e5,w,k1,k2,k3,k4,k5,hj,hlen,dX hj,g1,g2,g3,g4]at hE
    exact hE.symm
theorem wE (e:dw):rG [gL e] [] []=some ⟨.agg [V.v (.bool e.Vi),vI e.bR, .aL (some 0) (ints e.au.av),vI e.au.At,vI 0,vI 0,vI 0,vI 0,vI e.dN,vI e.bG,vI e.iA, .aL (some 1) (aC e.aM.aA), .aL (some 2) (aG e.eO.bP),vI e.jT, .aL (some 3) (ints e.gG.av),vI e.gG.At, .aL (some 4) (ints e.bI),vI e.kV, .aL (some 5) (ints e.bT.av),vI e.bT.At],[],[]⟩:=by
 simp [rG,func117,f117]
theorem qW (e:dw)(h:0≤e.au.At∧e.au.At≤1000):tL [gL e] [] []=some ⟨.agg [V.v (.bool e.Vi),vI e.bR, .aL (some 0) (ints e.au.av),vI (jq e.bR e.au.av e.au.At),vI e.bA,vI e.Op,vI e.bH,vI e.eY,vI e.dN,vI e.bG,vI e.iA, .aL (some 1) (aC e.aM.aA), .aL (some 2) (aG e.eO.bP),vI e.jT, .aL (some 3) (ints e.gG.av),vI e.gG.At, .aL (some 4) (ints e.bI),vI e.kV, .aL (some 5) (ints e.bT.av),vI e.bT.At],[],[]⟩:=by
 have w:=bN (e.au.At-1) (by omega)
 unfold jq TB
 generalize hE:tL _ _ _=R
 unfold tL at hE
 by_cases c1:e.bR=2
 ·rw [if_pos c1]
  by_cases c2:e.au.At=e.au.av.length
  ·by_cases c3:0<e.au.At
   ·have hA:atEnd e.au.av e.au.At=true:=by simp only [atEnd,Bool.and_eq_true,decide_eq_true_eq,beq_iff_eq];omega
    have c4:0<e.au.av.length:=by omega
    have w2:=bN ((e.au.av.length:Int)-1) (by omega)
    rw [if_pos hA]
    simp [func82,f82,c1,c2,c3,c4,w,w2]at hE
    rw [←hE]
    simp [c1,c2]
   ·have hA:¬atEnd e.au.av e.au.At=true:=by simp only [atEnd,Bool.and_eq_true,decide_eq_true_eq,beq_iff_eq];omega
    have c4:e.au.av= []:=List.length_eq_zero_iff.1 (by omega)
    rw [if_neg hA]
    simp only [gL,gO,hO,c4]at c2
    simp only [gL,gO,hO,c4,aZ]at hE⊢
    simp [func82,f82,c1,c2]at hE
    rw [←hE]
    simp [c1,c2]
  ·have hA:¬atEnd e.au.av e.au.At=true:=by simp only [atEnd,Bool.and_eq_true,decide_eq_true_eq,beq_iff_eq];omega
   rw [if_neg hA]
   simp [func82,f82,c1,c2]at hE
   rw [←hE]
   simp [c1]
 ·rw [if_neg c1]
  simp [func82,f82,c1]at hE
  exact hE.symm
theorem adx (e:dw)(h:Oy e):gH [gL e] [] []=some ⟨gO e,[],hO e⟩:=by
 have e1:=lT e.au.av (some 0) e.au.At h.line
 have e2:=lT e.gG.av (some 0) e.gG.At h.own
 have e3:=lT e.bT.av (some 0) e.bT.At h.back
 have e4:=Mi e.aM.aA (some 0) h.ring.1 h.ring.2
 have e5:=JL e.eO.bP (some 0) h.undo.1 h.undo.2
 have g1:e.bI.length*8≤140737488355328:=by have:=h.query;omega
 have g2:e.bI.length≤4611686018427387904:=by have:=h.query;omega
 generalize hE:gH _ _ _=R
 simp [gH, -ak,func71,f71,e1,e2,e3,e4,e5,g1,g2]at hE
 exact hE.symm
theorem sD (e:dw)(ok:e.ok=true):rE [gL e] [] []=some ⟨V.v (.bool true),[],[]⟩:=by
 have hsm:=dw.TA ok
 have hE:=afb e.Vi e.bR e.au.av e.au.At e.bA e.Op e.bH e.eY e.dN e.bG e.iA e.aM.aA e.eO.bP e.jT e.gG.av e.gG.At e.bI e.kV e.bT.av e.bT.At hsm.h1 hsm.h2 hsm.h3 hsm.h4 hsm.h5 hsm.h6
 rw [hE]
 have:gB e.Vi e.bR e.au.av e.au.At e.bA e.Op e.bH e.eY e.dN e.bG e.iA e.aM.aA e.eO.bP e.jT e.gG.av e.gG.At e.bI e.kV e.bT.av e.bT.At=true:=ok
 rw [this]
section
variable (e:dw) (h:fO e)
include h
theorem fV:gH [gL e] [] []=some ⟨gO e,[],hO e⟩:=adx e (Oy.of (fD.2 h))
theorem jD:iI [gL e] [] []=some (kR (dJ e)):=by
 have e1:=fV e h
 have e2:=wE e
 generalize hE:iI _ _ _=R
 simp [iI, -ak,func110,f110,e1,e2]at hE
 exact hE.symm
theorem aa3 (t:List Int)(a last:Int)(ht:bV t a=true)(hl:0≤last∧last≤3):xX [gL e, .agg [.aL (some 6) (ints t),vI a],vI last] [] []=some ⟨.fU [(gO (sW e t a last)),V.v (.bool true)],[],(hO (sW e t a last))⟩:=by
 have e0:=sD e (fD.2 h)
 have e1:=wu t a ht
 have e2:=fV e h
 have e3:=wE e
 have e4:=G5 e.au.av t (by have:=(bU h.line).1;omega) (by have:=(bU ht).1;omega)
 have e5:=adw e.eO.bP e.au.av e.au.At h.undo h.line
 have e6:=lT t (some 0) a (by have:=(bU ht).1;omega)
 have l1:¬last<0:=by omega
 have l2:¬3<last:=by omega
 have hta:0≤a∧a≤1000:=by have:=bU ht;omega
 unfold sW sS sU
 by_cases c1:t=e.au.av
 ·rw [if_pos (.inl c1)]
  rw [decide_eq_true c1.symm]at e4
  have e7:=qW {e with bA:=0,Op:=0,bH:=0,eY:=0,iA:=last,au:=⟨t,a⟩} hta
  generalize hE:xX _ _ _=R
  simp [xX, -ak,func253,f253,e0,e1,e2,e3,e4,e6,e7,l1,l2]at hE
  exact hE.symm
 rw [decide_eq_false (fun q=>c1 q.symm)]at e4
 by_cases c2:last=1∧e.iA=1
 ·rw [if_pos (.inr c2)]
  obtain⟨c3,c4⟩:=c2
  subst c3
  have e7:=qW {e with bA:=0,Op:=0,bH:=0,eY:=0,iA:=1,au:=⟨t,a⟩} hta
  generalize hE:xX _ _ _=R
  unfold xX at hE
  simp only [gL,gO,hO,c4]at e0 e2 e3 hE
  simp [-ak,func253,f253,e0,e1,e2,e3,e4,e6,e7]at hE
  exact hE.symm
 ·rw [if_neg (fun q=>q.elim c1 c2)]
  have e7:=qW {e with bA:=0,Op:=0,bH:=0,eY:=0,iA:=last,au:=⟨t,a⟩,eO:=⟨BA e.eO.bP e.au⟩} hta
  simp only at e5 e7
  generalize BA e.eO.bP _=ul at*
  generalize hE:xX _ _ _=R
  unfold xX at hE
  by_cases c3:last=1
  ·have c4:¬e.iA=1:=fun q=>c2 ⟨c3,q⟩
   subst c3
   simp [-ak,func253,f253,e0,e1,e2,e3,e4,e5,e6,e7,c4]at hE
   exact hE.symm
  ·simp [-ak,func253,f253,e0,e1,e2,e3,e4,e5,e6,e7,l1,l2,c3]at hE
   exact hE.symm
theorem qM (t:List Int)(a last:Int)(ht:bV t a=true)(hl:0≤last∧last≤3):jP [gL e, .agg [.aL (some 6) (ints t),vI a],V.v (.bool true),vI last] [] []=some (kR (sW e t a last,0)):=by
 have e1:=aa3 e h t a last ht hl
 generalize sW e t a last=p at*
 generalize hE:jP _ _ _=R
 simp [jP, -ak,func193,f193,e1]at hE
 exact hE.symm
theorem BG (t:List Int)(a last:Int)(ht:bV t a=true)(hl:0≤last∧last≤3):jP [gL e, .agg [.aL (some 6) (ints t),vI a],V.v (.bool false),vI last] [] []=some (kR (dJ e)):=by
 have e1:=aa3 e h t a last ht hl
 have e2:=jD e h
 generalize sW e t a last=q at*
 generalize dJ e=p at*
 generalize hE:jP _ _ _=R
 simp [jP, -ak,func193,f193,e1,e2]at hE
 exact hE.symm
theorem qN (a:Int):vB [gL e,vI a] [] []=some (kR (zG e a)):=by
 obtain⟨h1,h2,h3,h4⟩:=h.aS
 have e1:=Pv e.au.av e.au.At a h.line
 have e2:=qM e h e.au.av (max 0 (min a e.au.av.length)) 0 (gI h3 h4 (by omega) (by omega)) (by omega)
 unfold zG wD TH
 generalize sW e e.au.av (max 0 (min a e.au.av.length)) 0=p at*
 generalize hE:vB _ _ _=R
 simp [vB, -ak,func189,f189,e1,e2]at hE
 exact hE.symm
theorem Py (a b:Int)(F U:Nat)(ha:max 0 (min a e.au.av.length)=F)(hb:max 0 (min b e.au.av.length)=U)(h1:F≤U):zx [gL e,vI a,vI b] [] []=some (kR (GQ e F U)):=by
 have h2:U≤e.au.av.length:=by omega
 have e1:=dn a e.au.av.length (by omega)
 have e2:=dn b e.au.av.length (by omega)
 rw [ha]at e1
 rw [hb]at e2
 have e3:=CW e.au.av e.au.At h.line F U h1 h2
 obtain⟨c1,c2,c3⟩:=uF h.line h1 h2
 unfold GQ wD
 unfold oz at c1 c2⊢
 by_cases hfu:F<U
 ·rw [if_pos hfu]
  have e4:=qM e h _ _ 0 c1 (by omega)
  generalize sW e (e.au.av.take F++e.au.av.drop U) (cutAt e.au.At F U) 0=p at*
  have hlt:((e.au.av.take F++e.au.av.drop U).length:Int)<e.au.av.length:=by omega
  generalize e.au.av.take F++e.au.av.drop U=X at*
  clear h
  generalize hE:zx _ _ _=R
  simp [zx, -ak,func245,f245,e1,e2,e3,e4,hlt]at hE
  exact hE.symm
 ·rw [if_neg hfu]
  have e4:=BG e h _ _ 0 c1 (by omega)
  have hlt:¬((e.au.av.take F++e.au.av.drop U).length:Int)<e.au.av.length:=by omega
  generalize dJ e=p at*
  generalize e.au.av.take F++e.au.av.drop U=X at*
  clear h
  generalize hE:zx _ _ _=R
  simp [zx, -ak,func245,f245,e1,e2,e3,e4,hlt]at hE
  exact hE.symm
theorem Pz (u:List Int)(last:Int)(hu:u.all iE=true)(hu2:u.length≤2000)(hl:0≤last∧last≤3):wV [gL e, .aL (some 6) (ints u),vI last] [] []=some (kR (Da e u last)):=by
 obtain⟨h1,h2,h3,h4⟩:=h.aS
 have e1:=CV e.au.av u e.au.At h.line hu hu2
 have hn:e.au.At.toNat=aS e:=rfl
 rw [hn]at e1
 unfold Da
 by_cases hc:e.au.av.length+u.length≤400
 ·rw [if_pos hc]at e1⊢
  have e2:=qM e h (AQ e.au.av (aS e) u) (e.au.At+u.length) last ((zQ hc h4 hu h2).2 _ (by omega) (by omega)) hl
  generalize AQ e.au.av (aS e) u=X at*
  generalize sW e X (e.au.At+u.length) last=p at*
  generalize hE:wV _ _ _=R
  simp [wV, -ak,func243,f243,e1,e2]at hE
  exact hE.symm
 ·rw [if_neg hc]at e1⊢
  have e2:=BG e h [] 0 last rfl hl
  simp only [aZ]at e2
  generalize dJ e=p at*
  generalize hE:wV _ _ _=R
  simp [wV, -ak,func243,f243,e1,e2]at hE
  exact hE.symm
end
theorem TN (l:List dL)(t:List Int)(how:Int)(hl:iJ l=true)(ht:eT t=true)(hh:0≤how∧how≤2):yZ [.agg [.aL (some 0) (aC l)], .aL (some 1) (ints t),vI how] [] []=some ⟨.fU [.agg [.own 0],V.v (.bool true)],[],[(0,aC (ou l t how))]⟩:=by
 obtain⟨hn,hp⟩:=xq hl
 have htl:t.length≤400:=by simp only [eT,Bool.and_eq_true,decide_eq_true_eq]at ht;exact ht.1
 have e1:=Tw l hl
 have e2:=DL t (by omega)
 rw [ht]at e2
 have e3:=Mi l (some 0) (by omega) (fun p h=>by have:=(hp p h).2.1;omega)
 have q1:¬how<0:=by omega
 have q2:¬2<how:=by omega
 generalize hE:yZ _ _ _=R
 unfold yZ at hE
 unfold ou
 by_cases h0:t= []
 ·rw [if_pos h0]
  subst h0
  simp only [show ints []= []from rfl]at hE e2
  simp [func146,f146,e1,e2,e3,q1,q2]at hE
  exact hE.symm
 rw [if_neg h0]
 have g1:t.length*8≤140737488355328:=by omega
 have g2:t.length≤4611686018427387904:=by omega
 have hlen:0<t.length:=List.length_pos_iff.2 h0
 cases l with
 | nil=>
  simp only [show aC []= []from rfl]at hE e1 e3
  have e4:aC [⟨t⟩]= [[.l (ints t)]]:=rfl
  simp only
  rw [e4]
  have rf:dU ([]:List (List D))=true:=rfl
  by_cases h1:how=0
  ·subst h1
   simp [func146,f146,e1,e2,e3,q1,q2,h0,g1,g2,rf]at hE
   exact hE.symm
  ·simp [func146,f146,e1,e2,e3,q1,q2,h0,h1,g1,g2,rf]at hE
   exact hE.symm
 | cons p l=>
  have hpt:=hp p (by simp)
  have hll:l.length≤5:=by simpa using hn
  have rf:dU (aC (p::l))=false:=by simp [iL,dU,tq]
  have g3:(1+(l.length+1))*24≤140737488355328:=by omega
  have g4:1+(l.length+1)≤4611686018427387904:=by omega
  have w1:=bN ((p.av.length:Int)+t.length) (by omega)
  simp only
  by_cases h1:how=0
  ·rw [if_pos (.inl h1)]
   subst h1
   by_cases h6:l.length=5
   ·simp [func146,f146,e1,e2,e3,q1,q2,h0,g1,g2,h6,rf]at hE
    exact hE.symm
   ·have h6i:¬(6:Int)<(l.length:Int)+1+1:=by omega
    have h6t:l.take 4=l:=List.take_of_length_le (by omega)
    simp [func146,f146,e1,e2,e3,q1,q2,h0,g1,g2,g3,g4,h6i,rf]at hE
    rw [show List.take 6 (⟨t⟩::p::l)=⟨t⟩::p::l.take 4 from rfl,h6t]
    exact hE.symm
  by_cases h7:p.av.length+t.length≤400
  ·rw [if_neg (by omega)]
   have h7i:(p.av.length:Int)+t.length≤400:=by omega
   have j1:=NH p.av t (some 0) (some 1) (some 2) (by omega)
   have j2:=NH t p.av (some 0) (some 1) (some 2) (by omega)
   rw [iL]at e1 e3 hE
   by_cases h2:how=2
   ·rw [if_neg (by omega)]
    subst h2
    simp [func146,f146,e1,e2,e3,h0,g1,g2,w1,h7i,j1,j2]at hE
    rw [←ak]at hE
    exact hE.symm
   ·rw [if_pos (by omega)]
    simp [func146,f146,e1,e2,e3,q1,q2,h0,h1,h2,g1,g2,w1,h7i,j1]at hE
    rw [←ak]at hE
    exact hE.symm
  ·rw [if_pos (by omega)]
   have h7i:¬(p.av.length:Int)+t.length≤400:=by omega
   by_cases h6:l.length=5
   ·simp [func146,f146,e1,e2,e3,q1,q2,h0,h1,g1,g2,w1,h7i,h6,rf]at hE
    exact hE.symm
   ·have h6i:¬(6:Int)<(l.length:Int)+1+1:=by omega
    have h6t:l.take 4=l:=List.take_of_length_le (by omega)
    simp [func146,f146,e1,e2,e3,q1,q2,h0,h1,g1,g2,g3,g4,w1,h7i,h6i,rf]at hE
    rw [show List.take 6 (⟨t⟩::p::l)=⟨t⟩::p::l.take 4 from rfl,h6t]
    exact hE.symm
theorem G6 (l:List dL)(h:iJ l=true):pR [.agg [.aL (some 0) (aC l)]] [] []=some ⟨.own 0,[],[(0,ints (bE l))]⟩:=by
 have e1:=Tw l h
 obtain⟨hn,hp⟩:=xq h
 unfold bE
 generalize hE:pR _ _ _=R
 unfold pR at hE
 cases l with
 | nil=>
  simp only [show aC []= []from rfl]at hE e1
  simp [func248,f248,e1]at hE
  simp [aZ]
  exact hE.symm
 | cons p l=>
  have hpt:=hp p (by simp)
  have g1:p.av.length*8≤140737488355328:=by omega
  have g2:p.av.length≤4611686018427387904:=by omega
  rw [iL]at e1 hE
  have n0:¬(l.length:Int)+1=0:=by omega
  simp [func248,f248,e1,g1,g2,n0]at hE
  simp
  exact hE.symm
section
variable (e:dw) (h:fO e)
include h
theorem CY (a b how:Int)(F U:Nat)(ha:max 0 (min a e.au.av.length)=F)(hb:max 0 (min b e.au.av.length)=U)(h1:F≤U)(hw:0≤how∧how≤2):pK [gL e,vI a,vI b,vI how] [] []=some (kR (mJ e F U how)):=by
 have h2:U≤e.au.av.length:=by omega
 have e1:=dn a e.au.av.length (by omega)
 have e2:=dn b e.au.av.length (by omega)
 rw [ha]at e1
 rw [hb]at e2
 have e3:=CW e.au.av e.au.At h.line F U h1 h2
 obtain⟨c1,c2,c3⟩:=uF h.line h1 h2
 have hgo:=JG h.line (f:=F) (u:=U)
 unfold mJ
 unfold oz at c1 c2⊢
 by_cases hfu:F<U
 ·rw [if_pos hfu]
  have e4:=qM e h _ _ 2 c1 (by omega)
  have e5:=TN e.aM.aA ((e.au.av.drop F).take (U-F)) (BD e how) h.ring hgo (by unfold BD;split<;>omega)
  have hlt:((e.au.av.take F++e.au.av.drop U).length:Int)<e.au.av.length:=by omega
  simp only [sW,sU]at e4⊢
  generalize sS e (e.au.av.take F++e.au.av.drop U) 2=ul at*
  generalize jq e.bR (e.au.av.take F++e.au.av.drop U) (cutAt e.au.At F U)=ia at*
  generalize e.au.av.take F++e.au.av.drop U=X at*
  generalize (e.au.av.drop F).take (U-F)=gone at*
  generalize ou e.aM.aA gone (BD e how)=rg at*
  unfold BD at e5
  clear h
  generalize hE:pK _ _ _=R
  unfold pK at hE
  by_cases hk:e.iA=2
  ·rw [if_pos hk]at e5
   simp only [gL,gO,hO,hk]at e4 hE
   simp [-ak,func106,f106,e1,e2,e3,e4,e5,hlt]at hE
   exact hE.symm
  ·rw [if_neg hk]at e5
   simp [-ak,func106,f106,e1,e2,e3,e4,e5,hlt,hk]at hE
   exact hE.symm
 ·rw [if_neg hfu]
  have e4:=BG e h _ _ 2 c1 (by omega)
  have hlt:¬((e.au.av.take F++e.au.av.drop U).length:Int)<e.au.av.length:=by omega
  unfold dJ at e4⊢
  generalize sU e 0=x at*
  generalize e.au.av.take F++e.au.av.drop U=X at*
  generalize (e.au.av.drop F).take (U-F)=gone at*
  clear h
  generalize hE:pK _ _ _=R
  unfold pK at hE
  by_cases hk:e.iA=2
  ·simp only [gL,gO,hO,hk]at e4 hE
   simp [-ak,func106,f106,e1,e2,e3,e4,hlt]at hE
   exact hE.symm
  ·simp [-ak,func106,f106,e1,e2,e3,e4,hlt,hk]at hE
   exact hE.symm
end
theorem fO.typing {e:dw}(h:fO e)(hv:e.Vi=true)(hm:¬e.bR=3){t:List Int}{a:Int}(ht:bV t a=true):fO {sW e t a 0 with bR:=1,au:=⟨t,a⟩}:=by
 have hs:=h.set 0 ht (by omega)
 have hsk:=h.Pt.resolve_left hm
 exact⟨ht,h.own,h.back,KX,KX, .inr (.inl ⟨.inl rfl,hv⟩),fun q=>absurd q.1 (by show ¬(1:Int)=2;decide), .inr ⟨rfl,rfl,rfl⟩, .inr rfl, .inl rfl, .inl rfl,h.find,z3,h.ring,hs.undo,h.A8,h.hit,h.Pq,h.ql,h.qp, .inr hsk⟩
theorem fO.vi2 {e:dw}(h:fO e)(hm:e.bR=2):e.Vi=true:=by
 rcases h.mode with h1|h1|h1
 ·omega
 ·exact h1.2
 ·omega
theorem fO.Mr {e:dw}(h:fO e){a:Nat}(ha:a≤e.au.av.length):bV e.au.av (a:Int)=true:=by
 obtain⟨h1,h2,h3,h4⟩:=h.aS
 exact gI h3 h4 (by omega) (by omega)
theorem fO.oZ {e:dw}(h:fO e)(hm:e.bR=2){a:Nat}(ha:a≤e.au.av.length):fO (Proofs.YtlpdjhiggpblcaaGreat.oZ e a):=
 h.typing (h.vi2 hm) (by omega) (h.Mr ha)
theorem fO.change {e:dw}(h:fO e)(hm:e.bR=2)(op:Int){f u:Nat}(h1:f≤u)(h2:u≤e.au.av.length):fO (iU e op f u).1:=by
 have hr:=GK h.ring (JG h.line (f:=f) (u:=u)) 0
 obtain⟨c1,c2,c3⟩:=uF h.line h1 h2
 unfold iU
 (first|refine gJ (fun _=>?_) (fun _=>?_)|split)
 ·(first|refine gJ (fun _=>?_) (fun _=>?_)|split)
  ·exact h.oZ hm (by omega)
  ·exact h.Av
 (first|refine gJ (fun _=>?_) (fun _=>?_)|split)
 ·exact(h.NW hr).put (h.Mr (by omega))
 (first|refine gJ (fun _=>?_) (fun _=>?_)|split)
 ·exact(h.NW hr).typing (h.vi2 hm) (by show ¬e.bR=3;omega) c3
 ·exact(h.NW hr).put c3
theorem PD {n a u:Nat}(incl:Bool)(h1:a≤n)(h2:u≤n):min a u≤yw n a u incl∧yw n a u incl≤n:=by
 unfold yw
 (first|refine gJ (fun _=>?_) (fun _=>?_)|split)
 ·rename_i hc
  have:=hc.2
  omega
 ·omega
theorem fO.move {e:dw}(h:fO e)(hm:e.bR=2){u:Nat}(incl:Bool)(ht:u≤e.au.av.length):fO (uD e u incl).1:=by
 obtain⟨h1,h2,h3,h4⟩:=h.aS
 have:=PD incl h2 ht
 unfold uD
 (first|refine gJ (fun _=>?_) (fun _=>?_)|split)
 ·exact h.go _
 ·exact h.change hm _ this.1 this.2
theorem QJ {t:List Int}{r how:Int}{a p:Nat}(h:a≤t.length)(hp:jC t r how a=some p):p<t.length:=by
 unfold jC at hp
 (first|(rcases lF hp with⟨_,hp⟩|⟨_,hp⟩)|split at hp)
 ·simp only at hp
  (first|(rcases lF hp with⟨_,hp⟩|⟨_,hp⟩)|split at hp)
  ·injection hp with hp;omega
  ·cases hp
 (first|(rcases lF hp with⟨_,hp⟩|⟨_,hp⟩)|split at hp)
 ·simp only at hp
  (first|(rcases lF hp with⟨_,hp⟩|⟨_,hp⟩)|split at hp)
  ·injection hp with hp;omega
  ·cases hp
 (first|(rcases lF hp with⟨_,hp⟩|⟨_,hp⟩)|split at hp)
 ·simp only at hp
  (first|(rcases lF hp with⟨_,hp⟩|⟨_,hp⟩)|split at hp)
  ·injection hp with hp;omega
  ·cases hp
 (first|(rcases lF hp with⟨_,hp⟩|⟨_,hp⟩)|split at hp)
 ·simp only at hp
  (first|(rcases lF hp with⟨_,hp⟩|⟨_,hp⟩)|split at hp)
  ·injection hp with hp;omega
  ·cases hp
 ·cases hp
theorem KP {t:List Int}{r how:Int}:∀(n a p:Nat),a≤t.length→uq t r how n a=some p→p≤t.length
 | 0,a,p,h,hp=>by injection hp with hp;omega
 | n+1,a,p,h,hp=>by
  unfold uq at hp
  split at hp
  ·cases hp
  ·rename_i q hq
   exact KP n q p (Nat.le_of_lt (QJ h hq)) hp
theorem fO.ady {e:dw}(h:fO e)(hm:e.bR=2)(r how:Int)(n:Nat):fO (rP e r how n).1:=by
 obtain⟨h1,h2,h3,h4⟩:=h.aS
 unfold rP
 cases hp:uq e.au.av r how n (Proofs.YtlpdjhiggpblcaaGreat.aS e)with
 | none=>exact h.Av
 | some p=>exact h.move hm _ (KP n _ p h2 hp)
theorem KQ {t:List Int}(h:t.all iE=true){r:Int}(hr:iE r=true)(f:Nat):∀j,(p9 t f r j).length=t.length∧(p9 t f r j).all iE=true
 | 0=>⟨rfl,h⟩
 | j+1=>by
  have ih:=KQ h hr f j
  exact⟨by unfold p9;rw [List.length_set];exact ih.1,JA ih.2 _ hr⟩
theorem aiN {r:Int}(h:iE r=true):iE (aaW r)=true:=by
 unfold aaW
 (first|refine gJ (fun _=>?_) (fun _=>?_)|split)
 ·rename_i h1;have:=(KJ (r:=r) (by unfold isLet;rw [h1];rfl)).1;unfold upI at this;rw [if_pos h1]at this;exact this
 (first|refine gJ (fun _=>?_) (fun _=>?_)|split)
 ·rename_i h1 h2
  have:=(KJ (r:=r) (by unfold isLet;rw [h2];simp)).2;unfold NR at this;rw [if_pos h2]at this;exact this
 ·exact h
theorem KR {t:List Int}(h:t.all iE=true)(f:Nat):∀j,f+j≤t.length→(rQ t f j).length=t.length∧(rQ t f j).all iE=true
 | 0,_=>⟨rfl,h⟩
 | j+1,hj=>by
  have ih:=KR h f j (by omega)
  refine⟨by unfold rQ;rw [List.length_set];exact ih.1,JA ih.2 _ (aiN ?_)⟩
  have hl:f+j<(rQ t f j).length:=by omega
  rw [getD_at hl]
  exact List.all_eq_true.1 ih.2 _ (List.getElem_mem hl)
theorem fO.gY {e:dw}(h:fO e):1≤Proofs.YtlpdjhiggpblcaaGreat.gY e∧Proofs.YtlpdjhiggpblcaaGreat.gY e≤999∧(Proofs.YtlpdjhiggpblcaaGreat.gY e:Int)=min (max e.bA 1*max e.bH 1) 999:=by
 have aiO:1*1≤max e.bA 1*max e.bH 1:=Int.mul_le_mul (by omega) (by omega) (by omega) (by omega)
 unfold Proofs.YtlpdjhiggpblcaaGreat.gY
 omega
theorem TP (r:Int): -1≤jd r∧jd r≤3:=by
 unfold jd
 (repeat' (first|refine gJ (fun _=>?_) (fun _=>?_)|split))
 all_goals omega
theorem PE {fr:Int}(r:Int)(h:dh fr=true)(hr:0≤jd r):dO fr (jd r)=true:=by
 have:=TP r
 have h0:¬fr=0:=fun e=>by subst e;exact absurd h (by decide)
 unfold dO
 simp only [h,bC.2 (show 0≤jd r∧jd r≤3 by omega),Bool.and_true,Bool.or_eq_true,bne_iff_ne,ne_eq]
 exact .inr h0
theorem Ms {r:Int}(h:yh r=true)(h2:¬r=114):0≤jd r:=by
 simp only [yh,Bool.or_eq_true,beq_iff_eq]at h
 unfold jd
 (repeat' (first|refine gJ (fun _=>?_) (fun _=>?_)|split))
 all_goals omega
theorem fO.find' {e:dw}(h:fO e){r how:Int}(hf:dO r how=true):fO {e with dN:=r,bG:=how}:=
 ⟨h.line,h.own,h.back,h.cnt,h.zD,h.mode,h.end_,h.cmd,h.opz,h.op,h.wait,hf,h.last,h.ring,h.undo,h.A8,h.hit,h.Pq,h.ql,h.qp,h.Pt⟩
theorem fO.waited {e:dw}(h:fO e)(hm:e.bR=2)(hw:¬e.eY=0){k r:Int}(hk:ji k r=true){n:Nat}(hn:1≤n):fO (yx e k r n).1:=by
 obtain⟨h1,h2,h3,h4⟩:=h.aS
 unfold yx
 (first|refine gJ (fun _=>?_) (fun _=>?_)|split)
 ·exact h.Av
 rename_i hk1
 have hk1:k=1:=Classical.not_not.1 hk1
 subst hk1
 have hp:dh r=true:=hk
 (first|refine gJ (fun _=>?_) (fun _=>?_)|split)
 ·(first|refine gJ (fun _=>?_) (fun _=>?_)|split)
  ·exact h.Av
  ·obtain⟨r1,r2⟩:=KQ h4 (oG hp) (Proofs.YtlpdjhiggpblcaaGreat.aS e) n
   exact h.put (gI (by omega) r2 (by omega) (by omega))
 (first|refine gJ (fun _=>?_) (fun _=>?_)|split)
 ·exact h.Av
 ·rename_i hw2 _
  exact(h.find' (PE e.eY hp (Ms (h.wait.resolve_left hw) hw2))).ady hm _ _ _
theorem Aw {t:List Int}{a n:Nat}{r:Int}{p:Nat×Bool}(h:a≤t.length)(hp:gQ t a r n=some p):p.1≤t.length:=by
 unfold gQ at hp
 (first|(rcases lF hp with⟨_,hp⟩|⟨_,hp⟩)|split at hp)
 ·injection hp with hp;subst hp;show a-n≤_;omega
 (first|(rcases lF hp with⟨_,hp⟩|⟨_,hp⟩)|split at hp)
 ·injection hp with hp;subst hp;show min (a+n) t.length≤_;omega
 (first|(rcases lF hp with⟨_,hp⟩|⟨_,hp⟩)|split at hp)
 ·injection hp with hp;subst hp;exact sw (fun a ha=>(Rw ha).2) _ _ h
 (first|(rcases lF hp with⟨_,hp⟩|⟨_,hp⟩)|split at hp)
 ·injection hp with hp;subst hp;exact sw (fun a ha=>Nat.le_trans Cg ha) _ _ h
 (first|(rcases lF hp with⟨_,hp⟩|⟨_,hp⟩)|split at hp)
 ·injection hp with hp;subst hp;exact sw (fun a ha=>NU.1) _ _ h
 (first|(rcases lF hp with⟨_,hp⟩|⟨_,hp⟩)|split at hp)
 ·injection hp with hp;subst hp;exact Nat.zero_le _
 (first|(rcases lF hp with⟨_,hp⟩|⟨_,hp⟩)|split at hp)
 ·injection hp with hp;subst hp;exact(cB _ _).1
 (first|(rcases lF hp with⟨_,hp⟩|⟨_,hp⟩)|split at hp)
 ·injection hp with hp;subst hp;show t.length-1≤_;omega
 (first|(rcases lF hp with⟨_,hp⟩|⟨_,hp⟩)|split at hp)
 ·injection hp with hp;subst hp;show min (n-1) t.length≤_;omega
 ·cases hp
theorem fO.Yv {e:dw}(h:fO e)(hm:e.bR=2)(r:Int)(n:Nat):fO (l9 e r n).1:=by
 obtain⟨h1,h2,h3,h4⟩:=h.aS
 unfold l9
 cases hp:gQ e.au.av (Proofs.YtlpdjhiggpblcaaGreat.aS e) r n with
 | none=>exact h.move hm _ (Nat.zero_le _)
 | some p=>exact h.move hm _ (Aw h2 hp)
theorem fO.special {e:dw}(h:fO e)(hm:e.bR=2){f:Int}{l:List ByteArray}(hh:iB f l)(k r:Int)(n:Nat):fO (yA e f l k r n).1:=by
 obtain⟨h1,h2,h3,h4⟩:=h.aS
 unfold yA
 (first|refine gJ (fun _=>?_) (fun _=>?_)|split)
 ·exact h
 (first|refine gJ (fun _=>?_) (fun _=>?_)|split)
 ·(first|refine gJ (fun _=>?_) (fun _=>?_)|split)
  ·exact h.Av
  ·exact h.idle _ h.last
 (first|refine gJ (fun _=>?_) (fun _=>?_)|split)
 ·exact h.step hh _
 (first|refine gJ (fun _=>?_) (fun _=>?_)|split)
 ·exact h.step hh _
 (first|refine gJ (fun _=>?_) (fun _=>?_)|split)
 ·exact h.Yv hm _ _
 (first|refine gJ (fun _=>?_) (fun _=>?_)|split)
 ·exact h.Yv hm _ _
 (first|refine gJ (fun _=>?_) (fun _=>?_)|split)
 ·exact h.Yv hm _ _
 (first|refine gJ (fun _=>?_) (fun _=>?_)|split)
 ·exact h.Yv hm _ _
 (first|refine gJ (fun _=>?_) (fun _=>?_)|split)
 ·exact h.change hm _ (by omega) (by omega)
 (first|refine gJ (fun _=>?_) (fun _=>?_)|split)
 ·(first|refine gJ (fun _=>?_) (fun _=>?_)|split)
  ·exact h
  (first|refine gJ (fun _=>?_) (fun _=>?_)|split)
  ·exact h
  (first|refine gJ (fun _=>?_) (fun _=>?_)|split)
  ·exact h
  (first|refine gJ (fun _=>?_) (fun _=>?_)|split)
  ·exact h.aiM
  ·exact h.Av
 ·exact h.Av
theorem NZ {t:List Int}(h:t.all iE=true):∀n,(mg n t).length=t.length*n∧(mg n t).all iE=true
 | 0=>⟨rfl,rfl⟩
 | n+1=>by
  have ih:=NZ h n
  have e:mg (n+1) t=t++mg n t:=by unfold mg;rw [List.replicate_succ,List.flatten_cons]
  rw [e]
  refine⟨by rw [List.length_append,ih.1,Nat.mul_succ];omega,?_⟩
  rw [List.all_append,h,ih.2];rfl
theorem fO.paste {e:dw}(h:fO e){a:Nat}(ha:a≤e.au.av.length){n:Nat}(hn:1≤n):fO (AU e a n).1:=by
 obtain⟨h1,h2,h3,h4⟩:=h.aS
 unfold AU
 (first|refine gJ (fun _=>?_) (fun _=>?_)|split)
 ·exact h.Av
 ·rename_i hc
  have hc1:¬bE e.aM.aA= []:=fun q=>hc (.inl q)
  have hc2:e.au.av.length+(bE e.aM.aA).length*n≤400:=by
   rcases Nat.lt_or_ge 400 (e.au.av.length+(bE e.aM.aA).length*n)with q|q
   ·exact absurd (.inr q) hc
   ·exact q
  obtain⟨r1,r2⟩:=NZ (yC h.ring).1 n
  have hpos:1*1≤(bE e.aM.aA).length*n:=Nat.mul_le_mul (List.length_pos_iff.2 hc1) hn
  generalize (bE e.aM.aA).length*n=m at*
  exact h.put ((zQ (by omega) h4 r2 ha).2 _ (by omega) (by omega))
theorem fO.aiP {e:dw}(h:fO e)(n:Nat):fO (uQ e n).1:=by
 obtain⟨h1,h2,h3,h4⟩:=h.aS
 unfold uQ
 (first|refine gJ (fun _=>?_) (fun _=>?_)|split)
 ·exact h.Av
 ·obtain⟨r1,r2⟩:=KR h4 (Proofs.YtlpdjhiggpblcaaGreat.aS e) (min (Proofs.YtlpdjhiggpblcaaGreat.aS e+n) e.au.av.length-Proofs.YtlpdjhiggpblcaaGreat.aS e) (by omega)
  exact h.put (gI (by omega) r2 (by omega) (by omega))
theorem fO.afc {e:dw}(h:fO e)(hm:e.bR=2){r:Int}(hr:yh r=true):fO {e with eY:=r}:=
 ⟨h.line,h.own,h.back,h.cnt,h.zD,h.mode,h.end_, .inl hm,h.opz,h.op, .inr hr,h.find,h.last,h.ring,h.undo,h.A8,h.hit,h.Pq,h.ql,h.qp,h.Pt⟩
theorem aiQ {r:Int}(h:0≤jd r):yh r=true:=by
 unfold jd at h
 simp only [yh,Bool.or_eq_true,beq_iff_eq]
 split at h
 ·simp [*]
 split at h
 ·simp [*]
 split at h
 ·simp [*]
 split at h
 ·simp [*]
 ·omega
theorem fO.begun {e:dw}(h:fO e)(hm:e.bR=2){r:Int}{n:Nat}{p:dw×Int}(hp:GR e r n=some p):fO p.1:=by
 unfold GR at hp
 (first|(rcases lF hp with⟨_,hp⟩|⟨_,hp⟩)|split at hp)
 ·rename_i hc
  injection hp with hp;subst hp
  refine h.digit (bC.2 ?_)
  rcases hc with hc|⟨hc, -⟩
  ·have:=bC.1 hc;omega
  ·omega
 (first|(rcases lF hp with⟨_,hp⟩|⟨_,hp⟩)|split at hp)
 ·rename_i hc
  injection hp with hp;subst hp
  exact h.afc hm (aiQ hc)
 (first|(rcases lF hp with⟨_,hp⟩|⟨_,hp⟩)|split at hp)
 ·injection hp with hp;subst hp
  (first|refine gJ (fun _=>?_) (fun _=>?_)|split)
  ·exact h.Av
  ·exact h.ady hm _ _ _
 (first|(rcases lF hp with⟨_,hp⟩|⟨_,hp⟩)|split at hp)
 ·injection hp with hp;subst hp
  (first|refine gJ (fun _=>?_) (fun _=>?_)|split)
  ·exact h.Av
  ·exact h.ady hm _ _ _
 (first|(rcases lF hp with⟨_,hp⟩|⟨_,hp⟩)|split at hp)
 ·rename_i hc
  injection hp with hp;subst hp
  have h0:¬r=0:=fun q=>by rw [q]at hc;exact absurd hc.2 (by decide)
  exact⟨h.line,h.own,h.back,KX,h.cnt,h.mode,h.end_, .inl hm, .inl h0, .inr hc.2,h.wait,h.find,h.last,h.ring,h.undo,h.A8,h.hit,h.Pq,h.ql,h.qp,h.Pt⟩
 ·cases hp
theorem fO.begin {e:dw}(h:fO e)(hm:e.bR=2)(r:Int):fO (JD e r).1:=by
 obtain⟨h1,h2,h3,h4⟩:=h.aS
 unfold JD
 (first|refine gJ (fun _=>?_) (fun _=>?_)|split)
 ·exact h.oZ hm h2
 (first|refine gJ (fun _=>?_) (fun _=>?_)|split)
 ·exact h.oZ hm (cB _ _).1
 (first|refine gJ (fun _=>?_) (fun _=>?_)|split)
 ·exact h.oZ hm (by omega)
 (first|refine gJ (fun _=>?_) (fun _=>?_)|split)
 ·exact h.oZ hm (Nat.le_refl _)
 ·exact h.Av
theorem fO.akg {e:dw}(h:fO e)(hm:e.bR=2){f:Int}{l:List ByteArray}(hh:iB f l)(r:Int){n:Nat}(hn:1≤n):fO (Ar e f l r n).1:=by
 obtain⟨h1,h2,h3,h4⟩:=h.aS
 unfold Ar
 (first|refine gJ (fun _=>?_) (fun _=>?_)|split)
 ·exact h.change hm _ (by omega) (by omega)
 (first|refine gJ (fun _=>?_) (fun _=>?_)|split)
 ·exact h.change hm _ (by omega) (by omega)
 (first|refine gJ (fun _=>?_) (fun _=>?_)|split)
 ·exact h.change hm _ (by omega) (by omega)
 (first|refine gJ (fun _=>?_) (fun _=>?_)|split)
 ·exact h.change hm _ (by omega) (by omega)
 (first|refine gJ (fun _=>?_) (fun _=>?_)|split)
 ·exact h.change hm _ (by omega) (by omega)
 (first|refine gJ (fun _=>?_) (fun _=>?_)|split)
 ·exact h.change hm _ (by omega) (by omega)
 (first|refine gJ (fun _=>?_) (fun _=>?_)|split)
 ·exact h.afc hm (by decide)
 (first|refine gJ (fun _=>?_) (fun _=>?_)|split)
 ·exact h.paste (by omega) hn
 (first|refine gJ (fun _=>?_) (fun _=>?_)|split)
 ·exact h.paste h2 hn
 (first|refine gJ (fun _=>?_) (fun _=>?_)|split)
 ·exact h.aiP _
 (first|refine gJ (fun _=>?_) (fun _=>?_)|split)
 ·exact h.akX
 (first|refine gJ (fun _=>?_) (fun _=>?_)|split)
 ·exact h.step hh _
 (first|refine gJ (fun _=>?_) (fun _=>?_)|split)
 ·exact h.step hh _
 (first|refine gJ (fun _=>?_) (fun _=>?_)|split)
 ·exact h.aiM
 ·exact h.begin hm r
theorem fO.command {e:dw}(h:fO e)(hm:e.bR=2){f:Int}{l:List ByteArray}(hh:iB f l)(r:Int){n:Nat}(hn:1≤n):fO (uE e f l r n).1:=by
 obtain⟨h1,h2,h3,h4⟩:=h.aS
 unfold uE
 cases hb:GR e r n with
 | some p=>exact h.begun hm hb
 | none=>
  simp only
  (first|refine gJ (fun _=>?_) (fun _=>?_)|split)
  ·exact h.change hm _ (Nat.zero_le _) (Nat.le_refl _)
  cases hp:gQ e.au.av (Proofs.YtlpdjhiggpblcaaGreat.aS e) r n with
  | some p=>exact h.move hm _ (Aw h2 hp)
  | none=>
   simp only
   (first|refine gJ (fun _=>?_) (fun _=>?_)|split)
   ·exact h.Av
   ·exact h.akg hm hh r hn
theorem fO.esc {e:dw}(h:fO e)(hm:e.bR=1):fO (ake e).1:=by
 obtain⟨h1,h2,h3,h4⟩:=h.aS
 have hv:e.Vi=true:=by
  rcases h.mode with h1|h1|h1
  ·omega
  ·exact h1.2
  ·omega
 have hc:=h.cmd.resolve_left (by omega)
 have hs:=h.Pt.resolve_left (by omega)
 refine⟨gI h3 h4 (by show 0≤max (e.au.At-1) 0;omega) (by show max (e.au.At-1) 0≤e.au.av.length;omega),h.own,h.back,KX,h.zD, .inr (.inl ⟨.inr rfl,hv⟩),?_, .inl rfl,h.opz,h.op,h.wait,h.find,z3,h.ring,h.undo,h.A8,h.hit,h.Pq,h.ql,h.qp, .inr hs⟩
 rintro ⟨-,q⟩
 have q:atEnd e.au.av (max (e.au.At-1) 0)=true:=q
 simp only [atEnd,Bool.and_eq_true,decide_eq_true_eq,beq_iff_eq]at q
 omega
theorem fO.vi_ {e:dw}(h:fO e)(hm:e.bR=1∨e.bR=2){f:Int}{l:List ByteArray}(hh:iB f l){k r:Int}(hk:ji k r=true):fO (viE e f l k r).1:=by
 obtain⟨hn, -, -⟩:=h.gY
 unfold viE
 (first|refine gJ (fun _=>?_) (fun _=>?_)|split)
 ·rename_i hm
  cases hp:p8 e f l k r with
  | some p=>exact h.plain hh hk hp
  | none=>
   simp only
   (first|refine gJ (fun _=>?_) (fun _=>?_)|split)
   ·exact h.esc hm
   ·exact h.Av
 rename_i hm1
 have hm2:e.bR=2:=hm.resolve_left hm1
 (first|refine gJ (fun _=>?_) (fun _=>?_)|split)
 ·exact h.waited hm2 (by assumption) hk hn
 (first|refine gJ (fun _=>?_) (fun _=>?_)|split)
 ·exact h.special hm2 hh _ _ _
 ·exact h.command hm2 hh _ hn
theorem fO.left {e:dw}(h:fO e):fO (yB e):=by
 obtain⟨h1,h2,h3,h4⟩:=h.aS
 unfold yB
 have hz:¬e.bR=2→e.Op=0∧e.eY=0∧e.bH=0:=fun q=>h.cmd.resolve_left q
 obtain⟨c1,c2⟩:=GY (mode:=if e.Vi=true then 2 else 0) h.line
 refine⟨c1,h.own,rfl,h.cnt,h.zD,?_,c2,?_,h.opz,h.op,h.wait,h.find,h.last,h.ring,h.undo,h.A8,⟨by show(0:Int)≤0;omega,by show(0:Int)≤1000000060;omega⟩,h.Pq,Nat.zero_le _,rfl, .inr ⟨rfl,rfl,rfl⟩⟩
 ·show((if e.Vi=true then(2:Int)else 0)=0∧e.Vi=false)∨(((if e.Vi=true then(2:Int)else 0)=1∨(if e.Vi=true then(2:Int)else 0)=2)∧e.Vi=true)∨(if e.Vi=true then(2:Int)else 0)=3
  cases e.Vi
  ·exact .inl ⟨rfl,rfl⟩
  ·exact .inr (.inl ⟨.inr rfl,rfl⟩)
 ·show(if e.Vi=true then(2:Int)else 0)=2∨(e.Op=0∧e.eY=0∧e.bH=0)
  by_cases hv:e.Vi=true
  ·rw [if_pos hv];exact .inl rfl
  ·right
   apply hz
   intro hm
   exact hv (h.vi2 hm)
theorem DT (r:Int)(l:List Int):bM (r::l)=aY r++bM l:=by unfold bM;rw [List.flatMap_cons]
theorem G7:∀(l t:List Int) (rest:List UInt8),(∀r∈l,mI r=true)→(∀r∈t,mI r=true)→bM t=bM l++rest→∃t2,t=l++t2∧bM t2=rest
 | [],t,rest,_,_,h=>⟨t,rfl,h⟩
 | r::l,[],rest,h1,_,h=>by
  have hp:=Mj (h1 r (by simp))
  rw [DT]at h
  have:=congrArg List.length h
  simp [bM]at this
  omega
 | r::l,x::t,rest,h1,h2,h=>by
  rw [DT,DT,List.append_assoc]at h
  have d1:=Jv (h2 x (by simp)) (bM t)
  rw [h,Jv (h1 r (by simp))]at d1
  have hr:r=x:=congrArg Prod.fst (Option.some.inj d1)
  subst hr
  obtain⟨t2,e1,e2⟩:=G7 l t rest (fun y hy=>h1 y (by simp [hy])) (fun y hy=>h2 y (by simp [hy])) (List.append_cancel_left h)
  exact⟨t2,by rw [e1];rfl,e2⟩
theorem adz {b:List UInt8}(h:rO b= []):b=bM (nD b)∧∀r∈nD b,mI r=true:=by
 have:=uw b
 rw [h]at this
 exact⟨by have:=this.1;rwa [List.append_nil]at this,this.2.1⟩
theorem yD {b:List UInt8}{t:List Int}(h:Reads b t []):nD b=t∧rO b= []:=by
 obtain⟨h1,h2, -⟩:=h
 rw [List.append_nil]at h1
 obtain⟨q1,q2,q3⟩:=uw b
 obtain⟨t2,e1,e2⟩:=G7 (nD b) t (rO b) q2 h2 (by rw [←h1,←q1])
 cases t2 with
 | nil=>exact⟨by rw [e1,List.append_nil],e2.symm⟩
 | cons x t2=>
  exfalso
  rw [←e2,DT,Jv (h2 x (by rw [e1];simp))]at q3
  cases q3
theorem TQ {b:List UInt8}{t:List Int}(h:Reads b t [])(i:Nat)(s:ByteArray)(hs:s.data.toList=b.take i):(sV s).length≤t.length:=by
 unfold sV
 (first|refine gJ (fun _=>?_) (fun _=>?_)|split)
 ·rename_i hr
  obtain⟨q1,q2⟩:=adz hr
  obtain⟨h1,h2, -⟩:=h
  rw [List.append_nil]at h1
  obtain⟨t2,e1, -⟩:=G7 (nD s.data.toList) t (b.drop i) q2 h2 (by rw [←q1,hs,←h1,List.take_append_drop])
  rw [e1,List.length_append]
  omega
 ·exact Nat.zero_le _
theorem JM {f:Int}{sub:List UInt8}{fr:Int}{l:List ByteArray}(hf:1≤f):∀n:Nat,je f sub fr l n=0∨∃k:Nat,k<n∧je f sub fr l n=f+k
 | 0=> .inl rfl
 | n+1=>by
  unfold je
  (first|refine gJ (fun _=>?_) (fun _=>?_)|split)
  ·exact .inr ⟨n,by omega,rfl⟩
  ·rcases JM hf n with h|⟨k,h1,h2⟩
   ·exact .inl h
   ·exact .inr ⟨k,by omega,h2⟩
theorem fO.shown {e x:dw}(h:fO e)(hm:e.bR=3){f:Int}{l:List ByteArray}(hh:iB f l){n:Int}{q:List Int}(hq:q.all dh=true)(hs:nI e f l n q=some x):fO x:=by
 have h1:=hh.first
 have h2:=hh.len
 unfold nI at hs
 split at hs
 ·rename_i KY
  split at hs
  ·cases hs
  rename_i s hg
  split at hs
  ·cases hs
  rename_i t ht
  split at hs
  ·rename_i hi
   injection hs with hs
   subst hs
   obtain⟨tok,tr⟩:=KL ht
   have hn:f≤n∧n≤f+l.length-1:=by
    unfold pY at hg
    split at hg
    ·assumption
    ·cases hg
   have hext:(s.extract 0 (Lib.index s.data.toList (bM q)).toNat).data.toList=s.data.toList.take (Lib.index s.data.toList (bM q)).toNat:=by
    simp [ByteArray.data_extract]
   have hle:=TQ tr _ _ hext
   simp only [eT,Bool.and_eq_true,decide_eq_true_eq]at tok
   refine⟨gI tok.1 tok.2 (Int.natCast_nonneg _) (Int.ofNat_le.2 hle),?_,h.back,h.cnt,h.zD,h.mode,?_,h.cmd,h.opz,h.op,h.wait,h.find,h.last,h.ring,rfl,⟨by show 0≤n;omega,by show n≤1000000060;omega⟩,⟨by show 0≤n;omega,by show n≤1000000060;omega⟩, .inl (by show ¬n=0;omega),KY,hq, .inl hm⟩
   ·show bV (if e.jT=0 then e.bT else e.gG).av (if e.jT=0 then e.bT else e.gG).At=true
    (first|refine gJ (fun _=>?_) (fun _=>?_)|split)
    ·exact h.back
    ·exact h.own
   ·rintro ⟨q1, -⟩
    have q1:e.bR=2:=q1
    omega
  ·cases hs
 ·cases hs
theorem fO.amP {e:dw}(h:fO e)(hm:e.bR=3){f:Int}{l:List ByteArray}(hh:iB f l){q:List Int}(hq:q.all dh=true)(fr:Int):fO (JE e f l q fr).1:=by
 unfold JE
 cases hs:nI e f l (je f (bM q) (if e.kV=0 then gM f l else fr) l l.length) q with
 | none=>exact h
 | some x=>exact h.shown hm hh hq hs
theorem fO.search {e:dw}(h:fO e)(hm:e.bR=3){f:Int}{l:List ByteArray}(hh:iB f l){k r:Int}(hk:ji k r=true):fO (zP e f l k r).1:=by
 have hz:=h.cmd.resolve_left (show ¬e.bR=2 by omega)
 unfold zP
 (first|refine gJ (fun _=>?_) (fun _=>?_)|split)
 ·rename_i hk1
  subst hk1
  refine h.amP hm hh ?_ _
  have hp:dh r=true:=hk
  rw [List.all_append,h.qp]
  simp [hp]
 (first|refine gJ (fun _=>?_) (fun _=>?_)|split)
 ·(first|refine gJ (fun _=>?_) (fun _=>?_)|split)
  ·exact h
  ·exact h.amP hm hh h.qp _
 (first|refine gJ (fun _=>?_) (fun _=>?_)|split)
 ·(first|refine gJ (fun _=>?_) (fun _=>?_)|split)
  ·exact h
  ·refine⟨h.line,h.own,h.back,h.cnt,h.zD,h.mode,h.end_,h.cmd,h.opz,h.op,h.wait,h.find,h.last,h.ring,h.undo,h.A8,h.hit,h.Pq,?_,List.all_eq_true.2 fun x hx=>List.all_eq_true.1 h.qp x (List.dropLast_subset _ hx), .inl hm⟩
   show e.bI.dropLast.length≤40
   rw [List.length_dropLast]
   have:=h.ql
   omega
 (first|refine gJ (fun _=>?_) (fun _=>?_)|split)
 ·exact h.left
 (first|refine gJ (fun _=>?_) (fun _=>?_)|split)
 ·refine fO.left (e:= {e with au:=e.bT,jT:=0,gG:=⟨[],0⟩}) ?_
  refine⟨h.back,rfl,h.back,h.cnt,h.zD,h.mode,?_,h.cmd,h.opz,h.op,h.wait,h.find,h.last,h.ring,h.undo,⟨by show(0:Int)≤0;omega,by show(0:Int)≤1000000060;omega⟩,h.hit, .inr rfl,h.ql,h.qp, .inl hm⟩
  rintro ⟨q1, -⟩
  have q1:e.bR=2:=q1
  omega
 ·exact h.left
theorem fO.key {e:dw}(h:fO e){f:Int}{l:List ByteArray}(hh:iB f l){k r:Int}(hk:ji k r=true):fO (rR e f l k r).1:=by
 unfold rR
 (first|refine gJ (fun _=>?_) (fun _=>?_)|split)
 ·exact h.emacs hh hk
 (first|refine gJ (fun _=>?_) (fun _=>?_)|split)
 ·exact h.search (by assumption) hh hk
 ·refine h.vi_ ?_ hh hk
  rcases h.mode with h1|h1|h1
  ·omega
  ·exact h1.1
  ·omega
theorem JN (f:Int)(l:List ByteArray)(h:iB f l)(n:Int):tQ [.agg [vI f, .aL (some 0) (strs l)],vI n] [] []=some (match pY f l n with|some s=>⟨.fU [V.v (.string s),V.v (.bool true)],[],[]⟩|none=>⟨.fU [V.v (.string (⟨#[]⟩)),V.v (.bool false)],[],[]⟩):=by
 unfold pY
 by_cases hc:f≤n∧n≤f+l.length-1
 ·rw [if_pos hc]
  have hk:(n-f).toNat<l.length:=by omega
  rw [List.getElem?_eq_getElem hk]
  have e:=adk f l h (n-f).toNat hk
  have:f+((n-f).toNat:Int)=n:=by omega
  rw [this]at e
  exact e
 ·rw [if_neg hc]
  exact U7 f l h n (by omega)
theorem qd (s:ByteArray)(hs:s.size≤65536):wR [V.v (.string s)] [] []=some (match mK s with|some t=>⟨.fU [.agg [.own 0,vI (t.length:Int)],V.v (.bool true)],[],[(0,ints t)]⟩|none=>⟨.fU [.agg [.own 0,vI 0],V.v (.bool false)],[],[(0,[])]⟩):=by
 have hr:=uw s.data.toList
 unfold mK
 by_cases hc:rO s.data.toList= []∧eT (nD s.data.toList)=true
 ·rw [if_pos hc]
  rw [hc.1]at hr
  exact agu s _ hr hc.2 hs
 ·rw [if_neg hc]
  have e1:=Mk s _ _ hr hs
  generalize hE:wR _ _ _=R
  unfold wR at hE
  by_cases hz:rO s.data.toList= []
  ·have ht:eT (nD s.data.toList)=false:=by
    cases q:eT (nD s.data.toList)
    ·rfl
    ·exact absurd ⟨hz,q⟩ hc
   have hlen:=hr.len
   have hsz:s.data.toList.length=s.size:=by rw [Array.length_toList];rfl
   have e2:=bQ (nD s.data.toList) (nD s.data.toList).length (by omega)
   rw [show bV (nD s.data.toList) (nD s.data.toList).length=false from by unfold bV;rw [ht];rfl]at e2
   rw [hz]at e1
   simp only [List.isEmpty_nil,if_true]at e1
   generalize nD s.data.toList=t at*
   simp [func232,f232,e1,e2]at hE
   exact hE.symm
  ·have hz':(rO s.data.toList).isEmpty=false:=by simpa using hz
   rw [hz']at e1
   simp only [Bool.false_eq_true,if_false]at e1
   simp [func232,f232,e1]at hE
   exact hE.symm
abbrev sR (o:Option dw):A9:=match o with
 | some x=>⟨.fU [gO x,V.v (.bool true)],[],(hO x)⟩
 | none=>⟨.fU [.agg [V.v (.bool false),vI 0, .own 0,vI 0,vI 0,vI 0,vI 0,vI 0,vI 0,vI 0,vI 0, .own 1, .own 2,vI 0, .own 3,vI 0, .own 4,vI 0, .own 5,vI 0],V.v (.bool false)],[],[(0,[]),(1,[]),(2,[]),(3,[]),(4,[]),(5,[])]⟩
theorem sI {f:Int}{l:List ByteArray}(h:iB f l){n:Int}{s:ByteArray}(hs:pY f l n=some s):1≤s.size∧s.size≤1000:=by
 unfold pY at hs
 split at hs
 ·obtain⟨hk,e⟩:=List.getElem?_eq_some_iff.1 hs
  exact h.each s (by rw [←e];exact List.getElem_mem hk)
 ·cases hs
theorem agz (t:List Int)(a mode:Int)(h:bV t a=true):kJ [.agg [.aL (some 0) (ints t),vI a],vI mode] [] []=some ⟨.agg [.aL (some 0) (ints t),vI (jq mode t a)],[],[]⟩:=by
 obtain⟨h1,h2,h3,h4⟩:=bU h
 exact yj t a mode (by omega)
section
variable (e:dw) (h:fO e) {f:Int} {l:List ByteArray} (hh:iB f l)
include h hh
theorem agA (AB:Int)(hb:AB=1∨AB= -1):dQ [gL e,aH f l,vI AB] [] []=some (sR (uz e f l AB)):=by
 have h1:=hh.first
 have h2:=hh.len
 have aon:=h.A8
 have e1:=NQ e (fD.2 h)
 have e2:=zF e (Oy.of (fD.2 h)) 0
 have e3:=QG f l hh
 have hlast:0≤gM f l∧gM f l≤1000000059:=by unfold gM;split<;>omega
 have e6:=j5 e.au.av (some 0) e.au.At (by have:=(bU h.line).1;omega)
 have e7:=j5 e.gG.av (some 0) e.gG.At (by have:=(bU h.own).1;omega)
 have e8:=agz e.gG.av e.gG.At e.bR h.own
 have hzl:=qd ⟨#[]⟩ (by decide)
 have hz:mK ⟨#[]⟩=some []:=by
  unfold mK
  obtain⟨q1,q2⟩:=yD reads_nil
  rw [q1,q2,if_pos ⟨rfl,by decide⟩]
 rw [hz]at hzl
 simp only [aZ,List.length_nil,Int.natCast_zero]at hzl
 have hstep:Li e f l=if e.jT=0 then gM f l+1 else e.jT:=rfl
 unfold uz
 generalize gM f l=last at*
 have w1:=bN (last+1) (by omega)
 have w2:=bN (e.jT+1) (by omega)
 by_cases hc:AB=1∧¬e.jT=0∧e.jT=last
 ·rw [if_pos hc]
  obtain⟨rfl,c2,c3⟩:=hc
  subst c3
  generalize hE:dQ _ _ _=R
  simp [dQ,func218,f218,e1,e2,e3,e7,e8,c2,w1]at hE
  exact hE.symm
 ·rw [if_neg hc]
  have e4:=JN f l hh (Li e f l+AB)
  by_cases hn:e.jT=0
  ·rw [if_pos hn]at hstep
   rw [hstep]at e4⊢
   have w3:=bN (last+1+AB) (by omega)
   simp only [gL,gO,hO,hn]at e1 e2⊢
   rcases hb with rfl|rfl
   ·cases hg:pY f l (last+1+1)with
    | none=>
     rw [hg]at e4
     simp only [Option.bind_none]
     generalize hE:dQ _ _ _=R
     simp [dQ,func218,f218,e1,e2,e3,w1,w2,w3,hn,e4,hzl]at hE
     exact hE.symm
    | some s=>
     rw [hg]at e4
     simp only [Option.bind_some]
     have e5:=qd s (by have:=(sI hh hg).2;omega)
     cases hl:mK s with
     | none=>
      rw [hl]at e5
      generalize hE:dQ _ _ _=R
      simp [dQ,func218,f218,e1,e2,e3,w1,w2,w3,hn,e4,e5]at hE
      exact hE.symm
     | some t=>
      rw [hl]at e5
      simp only [if_true]
      by_cases hm:e.bR=2
      ·simp only [gL,gO,hO,hm,if_true]at e1 e2⊢
       generalize hE:dQ _ _ _=R
       simp [dQ,func218,f218,e1,e2,e3,w1,w2,w3,hn,e4,e5,e6,hm]at hE
       exact hE.symm.trans (by rw [←hm];rfl)
      ·rw [if_neg hm]
       generalize hE:dQ _ _ _=R
       simp [dQ,func218,f218,e1,e2,e3,w1,w2,w3,hn,e4,e5,e6,hm]at hE
       exact hE.symm
   ·cases hg:pY f l (last+1+ -1)with
    | none=>
     rw [hg]at e4
     simp only [Option.bind_none]
     generalize hE:dQ _ _ _=R
     simp [dQ,func218,f218,e1,e2,e3,w1,w2,w3,hn,e4,hzl]at hE
     exact hE.symm
    | some s=>
     rw [hg]at e4
     simp only [Option.bind_some]
     have e5:=qd s (by have:=(sI hh hg).2;omega)
     cases hl:mK s with
     | none=>
      rw [hl]at e5
      generalize hE:dQ _ _ _=R
      simp [dQ,func218,f218,e1,e2,e3,w1,w2,w3,hn,e4,e5]at hE
      exact hE.symm
     | some t=>
      rw [hl]at e5
      simp only [if_true]
      by_cases hm:e.bR=2
      ·simp only [gL,gO,hO,hm,if_true]at e1 e2⊢
       generalize hE:dQ _ _ _=R
       simp [dQ,func218,f218,e1,e2,e3,w1,w2,w3,hn,e4,e5,e6,hm]at hE
       exact hE.symm.trans (by rw [←hm];rfl)
      ·rw [if_neg hm]
       generalize hE:dQ _ _ _=R
       simp [dQ,func218,f218,e1,e2,e3,w1,w2,w3,hn,e4,e5,e6,hm]at hE
       exact hE.symm
  ·rw [if_neg hn]at hstep
   rw [hstep]at e4⊢
   have w3:=bN (e.jT+AB) (by omega)
   rcases hb with rfl|rfl
   ·have hne:¬e.jT=last:=fun q=>hc ⟨rfl,hn,q⟩
    cases hg:pY f l (e.jT+1)with
    | none=>
     rw [hg]at e4
     simp only [Option.bind_none]
     generalize hE:dQ _ _ _=R
     simp [dQ,func218,f218,e1,e2,e3,w1,w2,w3,hn,hne,e4,hzl]at hE
     exact hE.symm
    | some s=>
     rw [hg]at e4
     simp only [Option.bind_some]
     have e5:=qd s (by have:=(sI hh hg).2;omega)
     cases hl:mK s with
     | none=>
      rw [hl]at e5
      generalize hE:dQ _ _ _=R
      simp [dQ,func218,f218,e1,e2,e3,w1,w2,w3,hn,hne,e4,e5]at hE
      exact hE.symm
     | some t=>
      rw [hl]at e5
      simp only [hn,if_false]
      by_cases hm:e.bR=2
      ·simp only [gL,gO,hO,hm,if_true]at e1 e2⊢
       generalize hE:dQ _ _ _=R
       simp [dQ,func218,f218,e1,e2,e3,w1,w2,w3,hn,hne,e4,e5,e6,hm]at hE
       exact hE.symm.trans (by rw [←hm];rfl)
      ·rw [if_neg hm]
       generalize hE:dQ _ _ _=R
       simp [dQ,func218,f218,e1,e2,e3,w1,w2,w3,hn,hne,e4,e5,e6,hm]at hE
       exact hE.symm
   ·cases hg:pY f l (e.jT+ -1)with
    | none=>
     rw [hg]at e4
     simp only [Option.bind_none]
     generalize hE:dQ _ _ _=R
     simp [dQ,func218,f218,e1,e2,e3,w1,w2,w3,hn,e4,hzl]at hE
     exact hE.symm
    | some s=>
     rw [hg]at e4
     simp only [Option.bind_some]
     have e5:=qd s (by have:=(sI hh hg).2;omega)
     cases hl:mK s with
     | none=>
      rw [hl]at e5
      generalize hE:dQ _ _ _=R
      simp [dQ,func218,f218,e1,e2,e3,w1,w2,w3,hn,e4,e5]at hE
      exact hE.symm
     | some t=>
      rw [hl]at e5
      simp only [hn,if_false]
      by_cases hm:e.bR=2
      ·simp only [gL,gO,hO,hm,if_true]at e1 e2⊢
       generalize hE:dQ _ _ _=R
       simp [dQ,func218,f218,e1,e2,e3,w1,w2,w3,hn,e4,e5,e6,hm]at hE
       exact hE.symm.trans (by rw [←hm];rfl)
      ·rw [if_neg hm]
       generalize hE:dQ _ _ _=R
       simp [dQ,func218,f218,e1,e2,e3,w1,w2,w3,hn,e4,e5,e6,hm]at hE
       exact hE.symm
end
theorem JO (f:Int)(l:List ByteArray)(h:iB f l):Ag [.agg [vI f, .aL (some 0) (strs l)]] [] []=some ⟨vI (gM f l),[],[]⟩:=by
 have e:=uP f l h
 have h1:=h.first
 have h2:=h.len
 have w1:=bN (f+l.length) (by omega)
 have w2:=bN (f+l.length-1) (by omega)
 unfold Ag gM
 by_cases hl:l= []
 ·subst hl
  simp only [show strs []= []from rfl]at e
  simp [func111,f111,e,show strs []= []from rfl]
 ·simp [func111,f111,e,hl,w1,w2]
theorem JQ (f:Int)(l:List ByteArray)(h:iB f l)(n:Int)(hn: -100≤n∧n≤4000000000):wh [.agg [vI f, .aL (some 0) (strs l)],vI n] [] []=some (match pY f l n with|some s=>⟨.fU [V.v (.string s),V.v (.bool true)],[],[]⟩|none=>⟨.fU [V.v (.string (⟨#[]⟩)),V.v (.bool false)],[],[]⟩):=by
 have e:=uP f l h
 have h1:=h.first
 have h2:=h.len
 have w1:=bN (n-f) (by omega)
 unfold pY
 by_cases c1:n<f
 ·rw [if_neg (by omega)]
  simp [wh,func257,f257,e,c1]
 ·by_cases c2:(l.length:Int)≤n-f
  ·rw [if_neg (by omega)]
   simp [wh,func257,f257,e,c1,c2,w1]
  ·rw [if_pos (by omega)]
   have hk:(n-f).toNat<l.length:=by omega
   rw [List.getElem?_eq_getElem hk]
   have k1:0≤n-f:=by omega
   have k2:n-f<l.length:=by omega
   unfold wh
   have k3:f≤n:=by omega
   simp [func257,f257,e,c1,c2,w1,k1,k2,k3,hk,mE hk]
theorem qg (s:ByteArray)(hs:s.size≤65536):BS [V.v (.string s)] [] []=some (match mK s with|some t=>⟨.fU [.agg [.own 0,vI (t.length:Int)],V.v (.bool true)],[],[(0,ints t)]⟩|none=>⟨.fU [.agg [.own 0,vI 0],V.v (.bool false)],[],[(0,[])]⟩):=by
 have hr:=uw s.data.toList
 have hlen:=hr.len
 have hsz:s.data.toList.length=s.size:=by rw [Array.length_toList];rfl
 have e1:=Tz s _ _ hr hs
 unfold mK
 generalize hE:BS _ _ _=R
 unfold BS at hE
 by_cases hz:rO s.data.toList= []
 ·rw [hz]at e1
  simp only [List.isEmpty_nil,if_true]at e1
  have e2:=NY (nD s.data.toList) (nD s.data.toList).length true (by omega)
  by_cases hc:eT (nD s.data.toList)=true
  ·rw [if_pos ⟨hz,hc⟩]
   rw [if_pos ⟨rfl,by unfold bV;rw [hc,bC.2 (by omega)];rfl⟩]at e2
   generalize nD s.data.toList=t at*
   simp [func258,f258,e1,e2]at hE
   exact hE.symm
  ·rw [if_neg (fun q=>hc q.2)]
   have hb:bV (nD s.data.toList) (nD s.data.toList).length=false:=by
    unfold bV;rw [show eT (nD s.data.toList)=false by simpa using hc];rfl
   rw [hb,if_neg (by simp)]at e2
   generalize nD s.data.toList=t at*
   simp [func258,f258,e1,e2]at hE
   exact hE.symm
 ·rw [if_neg (fun q=>hz q.1)]
  have hz':(rO s.data.toList).isEmpty=false:=by simpa using hz
  rw [hz']at e1
  simp only [Bool.false_eq_true,if_false]at e1
  have e2:=NY [] 0 false (by simp)
  rw [if_neg (by simp)]at e2
  simp only [aZ]at e2
  simp [func258,f258,e1,e2]at hE
  exact hE.symm
section
variable (e:dw) (h:fO e) {f:Int} {l:List ByteArray} (hh:iB f l)
include h hh
theorem agB (AB:Int)(hb:AB=1∨AB= -1):dW [gL e,aH f l,vI AB] [] []=some (sR (uz e f l AB)):=by
 have h1:=hh.first
 have h2:=hh.len
 have aon:=h.A8
 have e1:=sD e (fD.2 h)
 have e2:=fV e h
 have e9:=wE e
 have e3:=JO f l hh
 have hlast:0≤gM f l∧gM f l≤1000000059:=by unfold gM;split<;>omega
 have e6:=lT e.au.av (some 0) e.au.At (by have:=(bU h.line).1;omega)
 have e7:=lT e.gG.av (some 0) e.gG.At (by have:=(bU h.own).1;omega)
 have e8:=qW {e with bA:=0,Op:=0,bH:=0,eY:=0,iA:=0,eO:=⟨[]⟩,au:=e.gG,gG:=⟨[],0⟩,jT:=0} (by have:=bU h.own;show 0≤e.gG.At∧e.gG.At≤1000;omega)
 simp only [gL,aZ,show aG []= []from rfl]at e8
 have hzl:=qg ⟨#[]⟩ (by decide)
 have hz:mK ⟨#[]⟩=some []:=by
  unfold mK
  obtain⟨q1,q2⟩:=yD reads_nil
  rw [q1,q2,if_pos ⟨rfl,by decide⟩]
 rw [hz]at hzl
 simp only [aZ,List.length_nil,Int.natCast_zero]at hzl
 have hstep:Li e f l=if e.jT=0 then gM f l+1 else e.jT:=rfl
 unfold uz
 generalize gM f l=last at*
 have w1:=bN (last+1) (by omega)
 have w2:=bN (e.jT+1) (by omega)
 by_cases hc:AB=1∧¬e.jT=0∧e.jT=last
 ·rw [if_pos hc]
  obtain⟨rfl,c2,c3⟩:=hc
  subst c3
  generalize hE:dW _ _ _=R
  simp [dW,func255,f255,e1,e2,e9,e3,e7,e8,c2,w1]at hE
  exact hE.symm
 ·rw [if_neg hc]
  have e4:=JQ f l hh (Li e f l+AB) (by rw [hstep];split<;>omega)
  by_cases hn:e.jT=0
  ·rw [if_pos hn]at hstep
   rw [hstep]at e4⊢
   have w3:=bN (last+1+AB) (by omega)
   simp only [gL,gO,hO,hn]at e1 e2 e9⊢
   rcases hb with rfl|rfl
   ·cases hg:pY f l (last+1+1)with
    | none=>
     rw [hg]at e4
     simp only [Option.bind_none]
     generalize hE:dW _ _ _=R
     simp [dW,func255,f255,e1,e2,e9,e3,w1,w2,w3,hn,e4,hzl]at hE
     exact hE.symm
    | some s=>
     rw [hg]at e4
     simp only [Option.bind_some]
     have e5:=qg s (by have:=(sI hh hg).2;omega)
     cases hl:mK s with
     | none=>
      rw [hl]at e5
      generalize hE:dW _ _ _=R
      simp [dW,func255,f255,e1,e2,e9,e3,w1,w2,w3,hn,e4,e5]at hE
      exact hE.symm
     | some t=>
      rw [hl]at e5
      simp only [if_true]
      by_cases hm:e.bR=2
      ·simp only [gL,gO,hO,hm,if_true]at e1 e2 e9⊢
       generalize hE:dW _ _ _=R
       simp [dW,func255,f255,e1,e2,e9,e3,w1,w2,w3,hn,e4,e5,e6,hm]at hE
       exact hE.symm.trans (by rw [←hm];rfl)
      ·rw [if_neg hm]
       generalize hE:dW _ _ _=R
       simp [dW,func255,f255,e1,e2,e9,e3,w1,w2,w3,hn,e4,e5,e6,hm]at hE
       exact hE.symm
   ·cases hg:pY f l (last+1+ -1)with
    | none=>
     rw [hg]at e4
     simp only [Option.bind_none]
     generalize hE:dW _ _ _=R
     simp [dW,func255,f255,e1,e2,e9,e3,w1,w2,w3,hn,e4,hzl]at hE
     exact hE.symm
    | some s=>
     rw [hg]at e4
     simp only [Option.bind_some]
     have e5:=qg s (by have:=(sI hh hg).2;omega)
     cases hl:mK s with
     | none=>
      rw [hl]at e5
      generalize hE:dW _ _ _=R
      simp [dW,func255,f255,e1,e2,e9,e3,w1,w2,w3,hn,e4,e5]at hE
      exact hE.symm
     | some t=>
      rw [hl]at e5
      simp only [if_true]
      by_cases hm:e.bR=2
      ·simp only [gL,gO,hO,hm,if_true]at e1 e2 e9⊢
       generalize hE:dW _ _ _=R
       simp [dW,func255,f255,e1,e2,e9,e3,w1,w2,w3,hn,e4,e5,e6,hm]at hE
       exact hE.symm.trans (by rw [←hm];rfl)
      ·rw [if_neg hm]
       generalize hE:dW _ _ _=R
       simp [dW,func255,f255,e1,e2,e9,e3,w1,w2,w3,hn,e4,e5,e6,hm]at hE
       exact hE.symm
  ·rw [if_neg hn]at hstep
   rw [hstep]at e4⊢
   have w3:=bN (e.jT+AB) (by omega)
   rcases hb with rfl|rfl
   ·have hne:¬e.jT=last:=fun q=>hc ⟨rfl,hn,q⟩
    cases hg:pY f l (e.jT+1)with
    | none=>
     rw [hg]at e4
     simp only [Option.bind_none]
     generalize hE:dW _ _ _=R
     simp [dW,func255,f255,e1,e2,e9,e3,w1,w2,w3,hn,hne,e4,hzl]at hE
     exact hE.symm
    | some s=>
     rw [hg]at e4
     simp only [Option.bind_some]
     have e5:=qg s (by have:=(sI hh hg).2;omega)
     cases hl:mK s with
     | none=>
      rw [hl]at e5
      generalize hE:dW _ _ _=R
      simp [dW,func255,f255,e1,e2,e9,e3,w1,w2,w3,hn,hne,e4,e5]at hE
      exact hE.symm
     | some t=>
      rw [hl]at e5
      simp only [hn,if_false]
      by_cases hm:e.bR=2
      ·simp only [gL,gO,hO,hm,if_true]at e1 e2 e9⊢
       generalize hE:dW _ _ _=R
       simp [dW,func255,f255,e1,e2,e9,e3,w1,w2,w3,hn,hne,e4,e5,e6,hm]at hE
       exact hE.symm.trans (by rw [←hm];rfl)
      ·rw [if_neg hm]
       generalize hE:dW _ _ _=R
       simp [dW,func255,f255,e1,e2,e9,e3,w1,w2,w3,hn,hne,e4,e5,e6,hm]at hE
       exact hE.symm
   ·cases hg:pY f l (e.jT+ -1)with
    | none=>
     rw [hg]at e4
     simp only [Option.bind_none]
     generalize hE:dW _ _ _=R
     simp [dW,func255,f255,e1,e2,e9,e3,w1,w2,w3,hn,e4,hzl]at hE
     exact hE.symm
    | some s=>
     rw [hg]at e4
     simp only [Option.bind_some]
     have e5:=qg s (by have:=(sI hh hg).2;omega)
     cases hl:mK s with
     | none=>
      rw [hl]at e5
      generalize hE:dW _ _ _=R
      simp [dW,func255,f255,e1,e2,e9,e3,w1,w2,w3,hn,e4,e5]at hE
      exact hE.symm
     | some t=>
      rw [hl]at e5
      simp only [hn,if_false]
      by_cases hm:e.bR=2
      ·simp only [gL,gO,hO,hm,if_true]at e1 e2 e9⊢
       generalize hE:dW _ _ _=R
       simp [dW,func255,f255,e1,e2,e9,e3,w1,w2,w3,hn,e4,e5,e6,hm]at hE
       exact hE.symm.trans (by rw [←hm];rfl)
      ·rw [if_neg hm]
       generalize hE:dW _ _ _=R
       simp [dW,func255,f255,e1,e2,e9,e3,w1,w2,w3,hn,e4,e5,e6,hm]at hE
       exact hE.symm
end
theorem adA (e:dw)(ok:e.ok=true)(f:Int)(l:List ByteArray)(h:iB f l)(k r:Int)(hk:Cy [aK k r] [] []=some ⟨V.v (.bool true),[],[]⟩):zi [gL e,aH f l,aK k r] [] []=some ⟨V.v (.bool true),[],[]⟩:=by
 have e1:=NQ e ok
 have e2:=E9 f l h
 simp [zi,func88,f88,e1,e2,hk]
section
variable {f:Int} {l:List ByteArray} (hh:iB f l) (e e':dw) (ok:e.ok=true) (hm:e.bR=0) (act:Int)
include hh ok hm in
include hh ok hm in
include hh ok hm in
include hh ok hm in
end
theorem Q8 (e:dw)(hb:Oy e)(r:Int)(h:¬r=99∧¬r=108∧¬r=100∧¬r=117∧¬r=119):iM [gL e,vI r] [] []=some ⟨.fU [.agg [V.v (.bool false),vI 0, .own 0,vI 0,vI 0,vI 0,vI 0,vI 0,vI 0,vI 0,vI 0, .own 1, .own 2,vI 0, .own 3,vI 0, .own 4,vI 0, .own 5,vI 0],vI 0,V.v (.bool false)],[],[(0,[]),(1,[]),(2,[]),(3,[]),(4,[]),(5,[])]⟩:=by
 obtain⟨h1,h2,h3,h4,h5⟩:=h
 have e1:=Fb e hb
 simp [iM,func151,f151,e1,h1,h2,h3,h4,h5,aZ]
theorem TR (e e':dw)(hb:Oy e)(act:Int)(h:qz [gL e,vI 0,vI e.au.At,vI 2] [] []=some ⟨.fU [.agg [V.v (.bool e'.Vi),vI e'.bR, .own 0,vI e'.au.At,vI e'.bA,vI e'.Op,vI e'.bH,vI e'.eY,vI e'.dN,vI e'.bG,vI e'.iA, .own 1, .own 2,vI e'.jT, .own 3,vI e'.gG.At, .own 4,vI e'.kV, .own 5,vI e'.bT.At],vI act],[],[(0,ints e'.au.av),(1,aC e'.aM.aA),(2,aG e'.eO.bP),(3,ints e'.gG.av),(4,ints e'.bI),(5,ints e'.bT.av)]⟩):iM [gL e,vI 117] [] []=some ⟨.fU [.agg [V.v (.bool e'.Vi),vI e'.bR, .own 0,vI e'.au.At,vI e'.bA,vI e'.Op,vI e'.bH,vI e'.eY,vI e'.dN,vI e'.bG,vI e'.iA, .own 1, .own 2,vI e'.jT, .own 3,vI e'.gG.At, .own 4,vI e'.kV, .own 5,vI e'.bT.At],vI act,V.v (.bool true)],[],[(0,ints e'.au.av),(1,aC e'.aM.aA),(2,aG e'.eO.bP),(3,ints e'.gG.av),(4,ints e'.bI),(5,ints e'.bT.av)]⟩:=by
 have e1:=Fb e hb
 simp [iM,func151,f151,e1,h]
theorem TS (e e':dw)(hb:Oy e)(act:Int)(b:Nat)(hv:nO [.aL (some 0) (ints e.au.av),vI e.au.At,V.v (.bool true)] [] []=some ⟨vI (b:Int),[],[]⟩)(h:qz [gL e,vI (b:Int),vI e.au.At,vI 2] [] []=some ⟨.fU [.agg [V.v (.bool e'.Vi),vI e'.bR, .own 0,vI e'.au.At,vI e'.bA,vI e'.Op,vI e'.bH,vI e'.eY,vI e'.dN,vI e'.bG,vI e'.iA, .own 1, .own 2,vI e'.jT, .own 3,vI e'.gG.At, .own 4,vI e'.kV, .own 5,vI e'.bT.At],vI act],[],[(0,ints e'.au.av),(1,aC e'.aM.aA),(2,aG e'.eO.bP),(3,ints e'.gG.av),(4,ints e'.bI),(5,ints e'.bT.av)]⟩):iM [gL e,vI 119] [] []=some ⟨.fU [.agg [V.v (.bool e'.Vi),vI e'.bR, .own 0,vI e'.au.At,vI e'.bA,vI e'.Op,vI e'.bH,vI e'.eY,vI e'.dN,vI e'.bG,vI e'.iA, .own 1, .own 2,vI e'.jT, .own 3,vI e'.gG.At, .own 4,vI e'.kV, .own 5,vI e'.bT.At],vI act,V.v (.bool true)],[],[(0,ints e'.au.av),(1,aC e'.aM.aA),(2,aG e'.eO.bP),(3,ints e'.gG.av),(4,ints e'.bI),(5,ints e'.bT.av)]⟩:=by
 have e1:=Fb e hb
 simp [iM,func151,f151,e1,h,hv]
theorem Ls (e e':dw)(f act r:Int)(ok:Bool)(l:List ByteArray)(h:iM [gL e,vI r] [] []=some ⟨.fU [.agg [V.v (.bool e'.Vi),vI e'.bR, .own 0,vI e'.au.At,vI e'.bA,vI e'.Op,vI e'.bH,vI e'.eY,vI e'.dN,vI e'.bG,vI e'.iA, .own 1, .own 2,vI e'.jT, .own 3,vI e'.gG.At, .own 4,vI e'.kV, .own 5,vI e'.bT.At],vI act,V.v (.bool ok)],[],[(0,ints e'.au.av),(1,aC e'.aM.aA),(2,aG e'.eO.bP),(3,ints e'.gG.av),(4,ints e'.bI),(5,ints e'.bT.av)]⟩):fC [gL e,aH f l,aK 2 r] [] []=some ⟨.fU [.agg [V.v (.bool e'.Vi),vI e'.bR, .own 0,vI e'.au.At,vI e'.bA,vI e'.Op,vI e'.bH,vI e'.eY,vI e'.dN,vI e'.bG,vI e'.iA, .own 1, .own 2,vI e'.jT, .own 3,vI e'.gG.At, .own 4,vI e'.kV, .own 5,vI e'.bT.At],vI act,V.v (.bool ok)],[],[(0,ints e'.au.av),(1,aC e'.aM.aA),(2,aG e'.eO.bP),(3,ints e'.gG.av),(4,ints e'.bI),(5,ints e'.bT.av)]⟩:=by
 simp [fC,func89,f89,h]
theorem TT (e e':dw)(f act:Int)(l:List ByteArray)(h:qz [gL e,vI e.au.At,vI (e.au.av.length:Int),vI 1] [] []=some ⟨.fU [.agg [V.v (.bool e'.Vi),vI e'.bR, .own 0,vI e'.au.At,vI e'.bA,vI e'.Op,vI e'.bH,vI e'.eY,vI e'.dN,vI e'.bG,vI e'.iA, .own 1, .own 2,vI e'.jT, .own 3,vI e'.gG.At, .own 4,vI e'.kV, .own 5,vI e'.bT.At],vI act],[],[(0,ints e'.au.av),(1,aC e'.aM.aA),(2,aG e'.eO.bP),(3,ints e'.gG.av),(4,ints e'.bI),(5,ints e'.bT.av)]⟩):bS [gL e,aH f l,vI 107] [] []=some ⟨.fU [.agg [V.v (.bool e'.Vi),vI e'.bR, .own 0,vI e'.au.At,vI e'.bA,vI e'.Op,vI e'.bH,vI e'.eY,vI e'.dN,vI e'.bG,vI e'.iA, .own 1, .own 2,vI e'.jT, .own 3,vI e'.gG.At, .own 4,vI e'.kV, .own 5,vI e'.bT.At],vI act],[],[(0,ints e'.au.av),(1,aC e'.aM.aA),(2,aG e'.eO.bP),(3,ints e'.gG.av),(4,ints e'.bI),(5,ints e'.bT.av)]⟩:=by
 simp [bS,func95,f95,h]
theorem TU (e e':dw)(f act:Int)(l:List ByteArray)(u:List Int)(a:Int)(hs:oQ [.agg [.aL (some 0) (ints e.au.av),vI e.au.At]] [] []=some ⟨.fU [.agg [.own 0,vI a],V.v (.bool true)],[],[(0,ints u)]⟩)(h:vT [gL e, .agg [.aL (some 6) (ints u),vI a]] [] []=some ⟨.fU [.agg [V.v (.bool e'.Vi),vI e'.bR, .own 0,vI e'.au.At,vI e'.bA,vI e'.Op,vI e'.bH,vI e'.eY,vI e'.dN,vI e'.bG,vI e'.iA, .own 1, .own 2,vI e'.jT, .own 3,vI e'.gG.At, .own 4,vI e'.kV, .own 5,vI e'.bT.At],vI act],[],[(0,ints e'.au.av),(1,aC e'.aM.aA),(2,aG e'.eO.bP),(3,ints e'.gG.av),(4,ints e'.bI),(5,ints e'.bT.av)]⟩):bS [gL e,aH f l,vI 116] [] []=some ⟨.fU [.agg [V.v (.bool e'.Vi),vI e'.bR, .own 0,vI e'.au.At,vI e'.bA,vI e'.Op,vI e'.bH,vI e'.eY,vI e'.dN,vI e'.bG,vI e'.iA, .own 1, .own 2,vI e'.jT, .own 3,vI e'.gG.At, .own 4,vI e'.kV, .own 5,vI e'.bT.At],vI act],[],[(0,ints e'.au.av),(1,aC e'.aM.aA),(2,aG e'.eO.bP),(3,ints e'.gG.av),(4,ints e'.bI),(5,ints e'.bT.av)]⟩:=by
 simp [bS,func95,f95,hs,h]
theorem N7 (e:dw)(hb:Oy e)(f:Int)(l:List ByteArray)(hs:oQ [.agg [.aL (some 0) (ints e.au.av),vI e.au.At]] [] []=some ⟨.fU [.agg [.own 0,vI 0],V.v (.bool false)],[],[(0,[])]⟩):bS [gL e,aH f l,vI 116] [] []=some ⟨.fU [.agg [V.v (.bool e.Vi),vI e.bR, .own 0,vI e.au.At,vI 0,vI 0,vI 0,vI 0,vI e.dN,vI e.bG,vI 0, .own 1, .own 2,vI e.jT, .own 3,vI e.gG.At, .own 4,vI e.kV, .own 5,vI e.bT.At],vI 1],[],(hO e)⟩:=by
 have e1:=NP e hb
 simp [bS,func95,f95,hs,e1]
theorem Vb (e:dw)(f r k:Int)(l:List ByteArray)(h:k=3∨k=7∨k=15∨k=16):fC [gL e,aH f l,aK k r] [] []=some ⟨.fU [.agg [V.v (.bool false),vI 0, .own 0,vI 0,vI 0,vI 0,vI 0,vI 0,vI 0,vI 0,vI 0, .own 1, .own 2,vI 0, .own 3,vI 0, .own 4,vI 0, .own 5,vI 0],vI 0,V.v (.bool false)],[],[(0,[]),(1,[]),(2,[]),(3,[]),(4,[]),(5,[])]⟩:=by
 unfold fC
 rcases h with rfl|rfl|rfl|rfl<;>simp [func89,f89,aZ]
abbrev kRo (o:Option (dw×Int)):A9:=match o with
 | some p=>JI p true
 | none=>JI (yH,0) false
section
variable (e:dw) (h:fO e)
include h
theorem fM:(gU e:Int)=max e.bA 1∧1≤gU e∧gU e≤999:=by
 have:=h.cnt
 unfold gU
 omega
theorem eF:jo [gL e] [] []=some ⟨gO e,[],hO e⟩:=Fb e (Oy.of (fD.2 h))
theorem Yw (f u:Int)(F U:Nat)(hf:f=F)(hu:u=U)(h1:F≤U)(h2:U≤e.au.av.length):Gg [gL e,vI f,vI u] [] []=some (kR (GQ e F U)):=by
 subst hf;subst hu;exact alD e h F U h1 h2
theorem JR (f u:Int)(F U:Nat)(how:Int)(hf:f=F)(hu:u=U)(hw:0≤how∧how≤2)(h1:F≤U)(h2:U≤e.au.av.length):qz [gL e,vI f,vI u,vI how] [] []=some (kR (mJ e F U how)):=by
 subst hf;subst hu;exact akf e h F U how hw h1 h2
theorem Vd (i:Option Nat)(big:Bool):nO [.aL i (ints e.au.av),vI e.au.At,V.v (.bool big)] [] []=some ⟨vI (((lD e.au.av big (aS e):Nat):Int)),[],[]⟩:=by
 obtain⟨h1,h2,h3,h4⟩:=h.aS
 rw [h1]
 exact Lm _ _ _ _ h2 (by omega)
theorem Yx (r:Int):iM [gL e,vI r] [] []=some (kRo (iq e r)):=by
 obtain⟨h1,h2,h3,h4⟩:=h.aS
 obtain⟨n1,n2,n3⟩:=fM e h
 have e0:=eF e h
 by_cases c1:r=99
 ·subst c1
  rw [show iq e 99=some (e,3)from by simp [iq]]
  simp [iM,func151,f151,e0]
 by_cases c2:r=108
 ·subst c2
  rw [show iq e 108=some (e,5)from by simp [iq]]
  simp [iM,func151,f151,e0]
 by_cases c3:r=100
 ·subst c3
  rw [show iq e 100=some (if e.au.av.length=0 then(e,4)else Q7 e)from by simp [iq]]
  by_cases hz:e.au.av.length=0
  ·rw [if_pos hz]
   have hz0:e.au.av= []:=List.length_eq_zero_iff.1 hz
   have hz':¬0<e.au.av.length:=by omega
   generalize hE:iM _ _ _=R
   simp [iM,func151,f151,e0,hz']at hE
   exact hE.symm
  ·rw [if_neg hz]
   have hz':0<e.au.av.length:=by omega
   have e1:=Yw e h e.au.At (min (e.au.At+max e.bA 1) e.au.av.length) (aS e) (min (aS e+gU e) e.au.av.length) h1 (by omega) (by omega) (by omega)
   have w:=bN (e.au.At+max e.bA 1) (by omega)
   unfold Q7
   generalize GQ e (aS e) (min (aS e+gU e) e.au.av.length)=p at*
   generalize hE:iM _ _ _=R
   simp [iM,func151,f151,e0,hz',e1,w]at hE
   exact hE.symm
 by_cases c4:r=117
 ·subst c4
  rw [show iq e 117=some (mJ e 0 (aS e) 2)from by simp [iq]]
  have e1:=JR e h 0 e.au.At 0 (aS e) 2 rfl h1 (by omega) (by omega) h2
  exact TR e _ (Oy.of (fD.2 h)) _ e1
 by_cases c5:r=119
 ·subst c5
  rw [show iq e 119=some (mJ e (lD e.au.av true (aS e)) (aS e) 2)from by simp [iq]]
  have e2:=Vd e h (some 0) true
  have e1:=JR e h _ e.au.At (lD e.au.av true (aS e)) (aS e) 2 rfl h1 (by omega) Cg h2
  exact TS e _ (Oy.of (fD.2 h)) _ _ e2 e1
 rw [show iq e r=none from by simp [iq,c1,c2,c3,c4,c5]]
 exact Q8 e (Oy.of (fD.2 h)) r ⟨c1,c2,c3,c4,c5⟩
theorem zH (a:Int):vT [gL e, .agg [.aL (some 6) (ints e.au.av),vI (max 0 (min a e.au.av.length))]] [] []=some (kR (zG e a)):=by
 obtain⟨h1,h2,h3,h4⟩:=h.aS
 exact JJ e h _ _ (gI h3 h4 (by omega) (by omega))
variable {f:Int} {l:List ByteArray} (hh:iB f l)
include hh
theorem DU (AB:Int)(hb:AB=1∨AB= -1):Bq [gL e,aH f l,vI AB] [] []=some (kR (jO e f l AB)):=by
 have e1:=agA e h hh AB hb
 have e2:=mq e h
 unfold jO
 cases hs:uz e f l AB with
 | none=>
  rw [hs]at e1
  exact adn e (Oy.of (fD.2 h)) f AB l e1
 | some x=>
  rw [hs]at e1
  exact adl e x f AB l e1
theorem N8 (k r c:Int)(hk:(k=1∧c=r)∨(k=6∧c=9))(hc:iE c=true):fC [gL e,aH f l,aK k r] [] []=some (JI (Da e (List.replicate (gU e) c) 1) true):=by
 obtain⟨n1,n2,n3⟩:=fM e h
 have e1:=aa2 [c] (some 0) (gU e) (by simp) n3
 rw [n1]at e1
 obtain⟨k1,k2,k3,k4,k5,k6⟩:=JK 1 (gU e) (by decide)
 have hrep:∀m,mg m [c]=List.replicate m c:=fun m=>by
  induction m with
  | zero=>rfl
  | succ m ih=>rw [KO,ih,List.replicate_succ']
 simp only [List.length_singleton,hrep]at e1
 have e2:=Xa e h (List.replicate (rT 1 (gU e)) c) 1 (JH hc _) (by simp;omega)
 have hq:Da e (List.replicate (rT 1 (gU e)) c) 1=Da e (List.replicate (gU e) c) 1:=by
  by_cases hle:gU e≤400
  ·rw [k2 (by omega)]
  ·have q1:=k3 (by omega)
   unfold Da
   rw [if_neg (by simp;omega),if_neg (by simp;omega)]
 rw [hq]at e2
 generalize Da e (List.replicate (gU e) c) 1=p at*
 generalize List.replicate (rT 1 (gU e)) c=q at*
 simp only [OL,aZ]at e1
 generalize hE:fC _ _ _=R
 unfold fC at hE
 rcases hk with⟨rfl,rfl⟩|⟨rfl,rfl⟩
 ·simp [-ak,func89,f89,e1,e2]at hE
  exact hE.symm
 ·simp [-ak,func89,f89,e1,e2]at hE
  exact hE.symm
theorem adB (r:Int):fC [gL e,aH f l,aK 4 r] [] []=some (JI ((e,2)) true):=by
 obtain⟨h1,h2,h3,h4⟩:=h.aS
 obtain⟨n1,n2,n3⟩:=fM e h
 have e0:=eF e h
 clear hh h
 generalize hE:fC _ _ _=R
 simp [fC,func89,f89,e0]at hE
 exact hE.symm
theorem adC (r:Int):fC [gL e,aH f l,aK 5 r] [] []=some (JI (GQ e (aS e-gU e) (aS e)) true):=by
 obtain⟨h1,h2,h3,h4⟩:=h.aS
 obtain⟨n1,n2,n3⟩:=fM e h
 have e1:=Yw e h (max (e.au.At-max e.bA 1) 0) e.au.At (aS e-gU e) (aS e) (by omega) h1 (by omega) h2
 have w:=bN (e.au.At-max e.bA 1) (by omega)
 generalize GQ e (aS e-gU e) (aS e)=p at*
 clear hh h
 generalize hE:fC _ _ _=R
 simp [fC,func89,f89,e1,w]at hE
 exact hE.symm
theorem aa4 (r:Int):fC [gL e,aH f l,aK 14 r] [] []=some (JI (Q7 e) true):=by
 obtain⟨h1,h2,h3,h4⟩:=h.aS
 obtain⟨n1,n2,n3⟩:=fM e h
 have e1:=Yw e h e.au.At (min (e.au.At+max e.bA 1) e.au.av.length) (aS e) (min (aS e+gU e) e.au.av.length) h1 (by omega) (by omega) (by omega)
 have w:=bN (e.au.At+max e.bA 1) (by omega)
 unfold Q7
 generalize GQ e (aS e) (min (aS e+gU e) e.au.av.length)=p at*
 clear hh h
 generalize hE:fC _ _ _=R
 simp [fC,func89,f89,e1,w]at hE
 exact hE.symm
theorem QK (r:Int):fC [gL e,aH f l,aK 11 r] [] []=some (JI (zG e (e.au.At-gU e)) true):=by
 obtain⟨h1,h2,h3,h4⟩:=h.aS
 obtain⟨n1,n2,n3⟩:=fM e h
 rw [n1]
 have e1:=zH e h (e.au.At-max e.bA 1)
 have e2:=vL e.au.av (some 0) e.au.At (e.au.At-max e.bA 1) (by omega)
 have w:=bN (e.au.At-max e.bA 1) (by omega)
 generalize zG e (e.au.At-max e.bA 1)=p at*
 clear hh h
 generalize hE:fC _ _ _=R
 simp [fC,func89,f89,e1,e2,w]at hE
 exact hE.symm
theorem QL (r:Int):fC [gL e,aH f l,aK 10 r] [] []=some (JI (zG e (e.au.At+gU e)) true):=by
 obtain⟨h1,h2,h3,h4⟩:=h.aS
 obtain⟨n1,n2,n3⟩:=fM e h
 rw [n1]
 have e1:=zH e h (e.au.At+max e.bA 1)
 have e2:=vL e.au.av (some 0) e.au.At (e.au.At+max e.bA 1) (by omega)
 have w:=bN (e.au.At+max e.bA 1) (by omega)
 generalize zG e (e.au.At+max e.bA 1)=p at*
 clear hh h
 generalize hE:fC _ _ _=R
 simp [fC,func89,f89,e1,e2,w]at hE
 exact hE.symm
theorem QM (r:Int):fC [gL e,aH f l,aK 12 r] [] []=some (JI (zG e 0) true):=by
 obtain⟨h1,h2,h3,h4⟩:=h.aS
 obtain⟨n1,n2,n3⟩:=fM e h
 have e1:=zH e h 0
 have e2:=vL e.au.av (some 0) e.au.At 0 (by omega)
 have m:max (0:Int) (min 0 e.au.av.length)=0:=by omega
 rw [m]at e1 e2
 generalize zG e 0=p at*
 clear hh h
 generalize hE:fC _ _ _=R
 simp [fC,func89,f89,e1,e2]at hE
 exact hE.symm
theorem QN (r:Int):fC [gL e,aH f l,aK 13 r] [] []=some (JI (zG e e.au.av.length) true):=by
 obtain⟨h1,h2,h3,h4⟩:=h.aS
 obtain⟨n1,n2,n3⟩:=fM e h
 have e1:=zH e h e.au.av.length
 have e2:=vL e.au.av (some 0) e.au.At e.au.av.length (by omega)
 have m:max (0:Int) (min e.au.av.length e.au.av.length)=e.au.av.length:=by omega
 rw [m]at e1 e2
 generalize zG e e.au.av.length=p at*
 clear hh h
 generalize hE:fC _ _ _=R
 simp [fC,func89,f89,e1,e2]at hE
 exact hE.symm
theorem TV (r:Int):fC [gL e,aH f l,aK 8 r] [] []=some (JI (jO e f l (-1)) true):=by
 obtain⟨h1,h2,h3,h4⟩:=h.aS
 obtain⟨n1,n2,n3⟩:=fM e h
 have e1:=DU e h hh (-1) (.inr rfl)
 generalize jO e f l (-1)=p at*
 clear hh h
 generalize hE:fC _ _ _=R
 simp [fC,func89,f89,e1]at hE
 exact hE.symm
theorem TW (r:Int):fC [gL e,aH f l,aK 9 r] [] []=some (JI (jO e f l 1) true):=by
 obtain⟨h1,h2,h3,h4⟩:=h.aS
 obtain⟨n1,n2,n3⟩:=fM e h
 have e1:=DU e h hh 1 (.inl rfl)
 generalize jO e f l 1=p at*
 clear hh h
 generalize hE:fC _ _ _=R
 simp [fC,func89,f89,e1]at hE
 exact hE.symm
theorem aa5 (k r:Int)(hk:ji k r=true):fC [gL e,aH f l,aK k r] [] []=some (kRo (p8 e f l k r)):=by
 unfold p8
 by_cases c1:k=1
 ·rw [if_pos c1]
  have hp:dh r=true:=by subst c1;exact hk
  exact N8 e h hh k r r (.inl ⟨c1,rfl⟩) (oG hp)
 rw [if_neg c1]
 by_cases c6:k=6
 ·rw [if_pos c6]
  exact N8 e h hh k r 9 (.inr ⟨c6,rfl⟩) (by decide)
 rw [if_neg c6]
 by_cases c4:k=4
 ·rw [if_pos c4];subst c4;exact adB e h hh r
 rw [if_neg c4]
 by_cases c2:k=2
 ·rw [if_pos c2]
  subst c2
  have e1:=Yx e h r
  cases hp:iq e r with
  | none=>
   rw [hp]at e1
   exact Ls e yH f 0 r false l e1
  | some p=>
   rw [hp]at e1
   exact Ls e p.1 f p.2 r true l e1
 rw [if_neg c2]
 by_cases c5:k=5
 ·rw [if_pos c5];subst c5;exact adC e h hh r
 rw [if_neg c5]
 by_cases c14:k=14
 ·rw [if_pos c14];subst c14;exact aa4 e h hh r
 rw [if_neg c14]
 by_cases c11:k=11
 ·rw [if_pos c11];subst c11;exact QK e h hh r
 rw [if_neg c11]
 by_cases c10:k=10
 ·rw [if_pos c10];subst c10;exact QL e h hh r
 rw [if_neg c10]
 by_cases c12:k=12
 ·rw [if_pos c12];subst c12;exact QM e h hh r
 rw [if_neg c12]
 by_cases c13:k=13
 ·rw [if_pos c13];subst c13;exact QN e h hh r
 rw [if_neg c13]
 by_cases c8:k=8
 ·rw [if_pos c8];subst c8;exact TV e h hh r
 rw [if_neg c8]
 by_cases c9:k=9
 ·rw [if_pos c9];subst c9;exact TW e h hh r
 rw [if_neg c9]
 have hk':k=3∨k=7∨k=15∨k=16:=by
  unfold ji at hk
  rw [if_neg c1,if_neg c2]at hk
  by_cases c3:k=3
  ·exact .inl c3
  ·rw [if_neg c3,Bool.and_eq_true]at hk
   have:=bC.1 hk.1
   omega
 exact Vb e f r k l hk'
end
theorem iC (e:dw):Dt [gL e] [] []=some ⟨vI (max e.bA 1),[],[]⟩:=by
 unfold Dt
 by_cases c:e.bA<1
 ·rw [show max e.bA 1=1 by omega]
  simp [func108,f108,c]
 ·rw [show max e.bA 1=e.bA by omega]
  simp [func108,f108,c]
theorem TY (r:Int)(n:Nat)(hn:n≤1000):CF [vI r,vI (n:Int)] [] []=some ⟨.own 0,[],[(0,ints (List.replicate n r))]⟩:=by
 generalize hE:CF _ _ _=R
 simp [CF,func244,f244]at hE
 rw [aD (fun j=> .on ⟨[(6,V.v (.int .i64 ((j:Int)))),(5, .own 2000000000),(1,V.v (.int .i64 ((n:Int)))),(0,V.v (.int .i64 r))],[],[(2000000000,ints (List.replicate j r))],[]⟩) n ?_ ?_]at hE
 ·simp at hE
  exact hE.symm
 ·simp [aZ]
 ·intro j hj
  have hw:=bN ((j:Int)+1) (by omega)
  have g1:(j+1)*8≤140737488355328:=by omega
  have g2:j+1≤4611686018427387904:=by omega
  have g4:j≤4611686018427387903:=by omega
  have g3:ints (List.replicate (j+1) r)=ints (List.replicate j r)++ [[D.a (.int .i64 r)]]:=by rw [List.replicate_succ',ak];rfl
  simp [hj,hw,g1,g2,g3,g4]
section
variable (e:dw) (h:fO e) {f:Int} {l:List ByteArray} (hh:iB f l)
include h hh
theorem uH (AB:Int)(hb:AB=1∨AB= -1):kK [gL e,aH f l,vI AB] [] []=some (kR (jO e f l AB)):=by
 have e1:=agB e h hh AB hb
 have e2:=jD e h
 unfold jO
 clear h hh
 cases hs:uz e f l AB with
 | none=>
  rw [hs]at e1
  simp only
  generalize dJ e=p at*
  generalize hE:kK _ _ _=R
  simp [kK, -ak,func196,f196,e1,e2]at hE
  exact hE.symm
 | some x=>
  rw [hs]at e1
  simp only
  generalize hE:kK _ _ _=R
  simp [kK, -ak,func196,f196,e1]at hE
  exact hE.symm
end
section
variable (e:dw) (h:fO e) {f:Int} {l:List ByteArray} (hh:iB f l)
include h hh
theorem adD (r:Int)(hr:iE r=true):bn [gL e,aH f l,aK 1 r] [] []=some (kR (Da e (List.replicate (gU e) r) 1)):=by
 obtain⟨h1,h2,h3,h4⟩:=h.aS
 obtain⟨n1,n2,n3⟩:=fM e h
 have en:=iC e
 have e1:=TY r (gU e) (by omega)
 rw [n1]at e1
 have e2:=Pz e h (List.replicate (gU e) r) 1 (JH hr _) (by simp;omega) (by omega)
 generalize Da e (List.replicate (gU e) r) 1=p at*
 generalize List.replicate (gU e) r=q at*
 clear h hh
 generalize hE:bn _ _ _=R
 simp [bn, -ak,func188,f188,en,e1,e2]at hE
 exact hE.symm
theorem adE (r:Int):bn [gL e,aH f l,aK 6 r] [] []=some (kR (Da e (List.replicate (gU e) 9) 1)):=by
 obtain⟨h1,h2,h3,h4⟩:=h.aS
 obtain⟨n1,n2,n3⟩:=fM e h
 have en:=iC e
 have e1:=TY 9 (gU e) (by omega)
 rw [n1]at e1
 have e2:=Pz e h (List.replicate (gU e) 9) 1 (JH (show iE 9=true by decide) _) (by simp;omega) (by omega)
 generalize Da e (List.replicate (gU e) 9) 1=p at*
 generalize List.replicate (gU e) 9=q at*
 clear h hh
 generalize hE:bn _ _ _=R
 simp [bn, -ak,func188,f188,en,e1,e2]at hE
 exact hE.symm
theorem adF (r:Int):bn [gL e,aH f l,aK 4 r] [] []=some (kR (e,2)):=by
 obtain⟨h1,h2,h3,h4⟩:=h.aS
 obtain⟨n1,n2,n3⟩:=fM e h
 have en:=iC e
 have e1:=fV e h
 clear h hh
 generalize hE:bn _ _ _=R
 simp [bn, -ak,func188,f188,en,e1]at hE
 exact hE.symm
theorem adG (r:Int):bn [gL e,aH f l,aK 5 r] [] []=some (kR (GQ e (aS e-gU e) (aS e))):=by
 obtain⟨h1,h2,h3,h4⟩:=h.aS
 obtain⟨n1,n2,n3⟩:=fM e h
 have en:=iC e
 have e1:=Py e h (e.au.At-max e.bA 1) e.au.At (aS e-gU e) (aS e) (by omega) (by omega) (by omega)
 have w1:=bN (e.au.At-max e.bA 1) (by omega)
 generalize GQ e (aS e-gU e) (aS e)=p at*
 clear h hh
 generalize hE:bn _ _ _=R
 simp [bn, -ak,func188,f188,en,e1,w1]at hE
 exact hE.symm
theorem aa6 (r:Int):bn [gL e,aH f l,aK 14 r] [] []=some (kR (Q7 e)):=by
 obtain⟨h1,h2,h3,h4⟩:=h.aS
 obtain⟨n1,n2,n3⟩:=fM e h
 have en:=iC e
 have e1:=Py e h e.au.At (e.au.At+max e.bA 1) (aS e) (min (aS e+gU e) e.au.av.length) (by omega) (by omega) (by omega)
 have w1:=bN (e.au.At+max e.bA 1) (by omega)
 unfold Q7
 generalize GQ e (aS e) (min (aS e+gU e) e.au.av.length)=p at*
 clear h hh
 generalize hE:bn _ _ _=R
 simp [bn, -ak,func188,f188,en,e1,w1]at hE
 exact hE.symm
theorem aa7 (r:Int):bn [gL e,aH f l,aK 11 r] [] []=some (kR (zG e (e.au.At-gU e))):=by
 obtain⟨h1,h2,h3,h4⟩:=h.aS
 obtain⟨n1,n2,n3⟩:=fM e h
 have en:=iC e
 rw [n1]
 have e1:=qN e h (e.au.At-max e.bA 1)
 have w1:=bN (e.au.At-max e.bA 1) (by omega)
 generalize zG e (e.au.At-max e.bA 1)=p at*
 clear h hh
 generalize hE:bn _ _ _=R
 simp [bn, -ak,func188,f188,en,e1,w1]at hE
 exact hE.symm
theorem aa8 (r:Int):bn [gL e,aH f l,aK 10 r] [] []=some (kR (zG e (e.au.At+gU e))):=by
 obtain⟨h1,h2,h3,h4⟩:=h.aS
 obtain⟨n1,n2,n3⟩:=fM e h
 have en:=iC e
 rw [n1]
 have e1:=qN e h (e.au.At+max e.bA 1)
 have w1:=bN (e.au.At+max e.bA 1) (by omega)
 generalize zG e (e.au.At+max e.bA 1)=p at*
 clear h hh
 generalize hE:bn _ _ _=R
 simp [bn, -ak,func188,f188,en,e1,w1]at hE
 exact hE.symm
theorem aa9 (r:Int):bn [gL e,aH f l,aK 12 r] [] []=some (kR (zG e 0)):=by
 obtain⟨h1,h2,h3,h4⟩:=h.aS
 obtain⟨n1,n2,n3⟩:=fM e h
 have en:=iC e
 have e1:=qN e h 0
 generalize zG e 0=p at*
 clear h hh
 generalize hE:bn _ _ _=R
 simp [bn, -ak,func188,f188,en,e1]at hE
 exact hE.symm
theorem abb (r:Int):bn [gL e,aH f l,aK 13 r] [] []=some (kR (zG e e.au.av.length)):=by
 obtain⟨h1,h2,h3,h4⟩:=h.aS
 obtain⟨n1,n2,n3⟩:=fM e h
 have en:=iC e
 have e1:=qN e h e.au.av.length
 generalize zG e e.au.av.length=p at*
 clear h hh
 generalize hE:bn _ _ _=R
 simp [bn, -ak,func188,f188,en,e1]at hE
 exact hE.symm
theorem adH (r:Int):bn [gL e,aH f l,aK 8 r] [] []=some (kR (jO e f l (-1))):=by
 obtain⟨h1,h2,h3,h4⟩:=h.aS
 obtain⟨n1,n2,n3⟩:=fM e h
 have en:=iC e
 have e1:=uH e h hh (-1) (.inr rfl)
 generalize jO e f l (-1)=p at*
 clear h hh
 generalize hE:bn _ _ _=R
 simp [bn, -ak,func188,f188,en,e1]at hE
 exact hE.symm
theorem adI (r:Int):bn [gL e,aH f l,aK 9 r] [] []=some (kR (jO e f l 1)):=by
 obtain⟨h1,h2,h3,h4⟩:=h.aS
 obtain⟨n1,n2,n3⟩:=fM e h
 have en:=iC e
 have e1:=uH e h hh 1 (.inl rfl)
 generalize jO e f l 1=p at*
 clear h hh
 generalize hE:bn _ _ _=R
 simp [bn, -ak,func188,f188,en,e1]at hE
 exact hE.symm
theorem abd  :bn [gL e,aH f l,aK 2 99] [] []=some (kR (e,3)):=by
 obtain⟨h1,h2,h3,h4⟩:=h.aS
 obtain⟨n1,n2,n3⟩:=fM e h
 have en:=iC e
 have e1:=fV e h
 clear h hh
 generalize hE:bn _ _ _=R
 simp [bn, -ak,func188,f188,en,e1]at hE
 exact hE.symm
theorem Yy  :bn [gL e,aH f l,aK 2 108] [] []=some (kR (e,5)):=by
 obtain⟨h1,h2,h3,h4⟩:=h.aS
 obtain⟨n1,n2,n3⟩:=fM e h
 have en:=iC e
 have e1:=fV e h
 clear h hh
 generalize hE:bn _ _ _=R
 simp [bn, -ak,func188,f188,en,e1]at hE
 exact hE.symm
theorem Yz  :bn [gL e,aH f l,aK 2 117] [] []=some (kR (mJ e 0 (aS e) 2)):=by
 obtain⟨h1,h2,h3,h4⟩:=h.aS
 obtain⟨n1,n2,n3⟩:=fM e h
 have en:=iC e
 have e1:=CY e h 0 e.au.At 2 0 (aS e) (by omega) (by omega) (by omega) (by omega)
 generalize mJ e 0 (aS e) 2=p at*
 clear h hh
 generalize hE:bn _ _ _=R
 simp [bn, -ak,func188,f188,en,e1]at hE
 exact hE.symm
theorem Ve  (hz:¬e.au.av.length=0):bn [gL e,aH f l,aK 2 100] [] []=some (kR (Q7 e)):=by
 obtain⟨h1,h2,h3,h4⟩:=h.aS
 obtain⟨n1,n2,n3⟩:=fM e h
 have en:=iC e
 have hz2:¬e.au.av= []:=fun q=>hz (by rw [q];rfl)
 have hz3:¬(e.au.av.length:Int)=0:=by omega
 have e1:=Py e h e.au.At (e.au.At+max e.bA 1) (aS e) (min (aS e+gU e) e.au.av.length) (by omega) (by omega) (by omega)
 have w1:=bN (e.au.At+max e.bA 1) (by omega)
 unfold Q7
 generalize GQ e (aS e) (min (aS e+gU e) e.au.av.length)=p at*
 clear h hh
 generalize hE:bn _ _ _=R
 simp [bn, -ak,func188,f188,en,e1,w1,hz2,hz3]at hE
 exact hE.symm
theorem YA  (hvb:pO [.aL (some 0) (ints e.au.av),vI e.au.At,V.v (.bool true)] [] []=some ⟨vI (((lD e.au.av true (aS e):Nat):Int)),[],[]⟩):bn [gL e,aH f l,aK 2 119] [] []=some (kR (mJ e (lD e.au.av true (aS e)) (aS e) 2)):=by
 obtain⟨h1,h2,h3,h4⟩:=h.aS
 obtain⟨n1,n2,n3⟩:=fM e h
 have en:=iC e
 have hv:=Cg (t:=e.au.av) (big:=true) (a:=aS e)
 have e1:=CY e h (lD e.au.av true (aS e)) e.au.At 2 (lD e.au.av true (aS e)) (aS e) (by omega) (by omega) hv (by omega)
 generalize mJ e (lD e.au.av true (aS e)) (aS e) 2=p at*
 generalize lD e.au.av true (aS e)=b at*
 clear h hh
 generalize hE:bn _ _ _=R
 simp [bn, -ak,func188,f188,en,e1,hvb]at hE
 exact hE.symm
theorem Vf (hz:e.au.av.length=0):bn [gL e,aH f l,aK 2 100] [] []=some (kR (e,4)):=by
 have en:=iC e
 have e1:=fV e h
 have hz2:e.au.av= []:=List.length_eq_zero_iff.1 hz
 clear h hh
 generalize hE:bn _ _ _=R
 unfold bn at hE
 simp only [gL,gO,hO,hz2,aZ]at e1 en hE
 simp [-ak,func188,f188,en,e1]at hE
 simp only [kR,gL,gO,hO,hz2,aZ]
 exact hE.symm
end
end Go.Proofs.YtlpdjhiggpblcaaGreat
