/- Part 12 of a proof in several texts (an abstract evaluator, what the functions compute). -/
import Derived.Test.YtlpdjhiggpblcaaGreatPkEdKey11
open Go.Proofs.Tryz
namespace Go.Proofs.YtlpdjhiggpblcaaGreat
set_option linter.unusedSectionVars false
set_option linter.unusedSimpArgs false
set_option linter.unusedVariables false
open Go.RowKit
set_option maxHeartbeats 16000000
set_option maxRecDepth 100000
theorem aeF (vi:Bool)(mode:Int)(lt:List Int)(la cnt op za wt fr fh last:Int)(rp:List dL)(ul:List fH)(Av:Int)(ot:List Int)(oa:Int)(q:List Int)(hit:Int)(bt:List Int)(ba:Int)(h1:lt.length≤1000000000)(h2:ot.length≤1000000000)(h3:bt.length≤1000000000)(h4:q.length≤1000000000)(h5:sD (aC rp)=true)(h6:sD (aG ul)=true):rY [.agg [V.v (.bool vi),vI mode, .aM (some 0) (ints lt),vI la,vI cnt,vI op,vI za,vI wt,vI fr,vI fh,vI last, .aM (some 1) (aC rp), .aM (some 2) (aG ul),vI Av, .aM (some 3) (ints ot),vI oa, .aM (some 4) (ints q),vI hit, .aM (some 5) (ints bt),vI ba]] [] []=some ⟨V.v (.bool (gy vi mode lt la cnt op za wt fr fh last rp ul Av ot oa q hit bt ba)),[],[]⟩:=by
 unfold rY
 cases x1:bU lt la
 ·skip
  simp [func69,f69,gy,dN,dB,h1,h2,h3,h5,h6,dA,dH,dM,aI,aW,x1]
 cases x2:bU ot oa
 ·skip
  simp [func69,f69,gy,dN,dB,h1,h2,h3,h5,h6,dA,dH,dM,aI,aW,x1,x2]
 cases x3:bU bt ba
 ·skip
  simp [func69,f69,gy,dN,dB,h1,h2,h3,h5,h6,dA,dH,dM,aI,aW,x1,x2,x3]
 cases x4:fP vi mode lt la op za wt
 ·skip
  simp [func69,f69,gy,dN,dB,h1,h2,h3,h5,h6,dA,dH,dM,aI,aW,x1,x2,x3,x4]
 cases x5:gq mode q hit bt ba
 ·skip
  simp [func69,f69,gy,dN,dB,h1,h2,h3,h5,h6,dA,dH,dM,aI,aW,x1,x2,x3,x4,x5]
 by_cases x6:cnt<0
 ·have x8:iq cnt 0 999=false:=qj (by rw [bB];omega)
  simp [func69,f69,gy,dN,dB,h1,h2,h3,h5,h6,dA,dH,dM,aI,aW,x1,x2,x3,x4,x5,x6,x8]
 by_cases x7:999<cnt
 ·have x8:iq cnt 0 999=false:=qj (by rw [bB];omega)
  simp [func69,f69,gy,dN,dB,h1,h2,h3,h5,h6,dA,dH,dM,aI,aW,x1,x2,x3,x4,x5,x6,x7,x8]
 have x8:iq cnt 0 999=true:=bB.2 (by omega)
 by_cases x9:za<0
 ·have J8:iq za 0 999=false:=qj (by rw [bB];omega)
  simp [func69,f69,gy,dN,dB,h1,h2,h3,h5,h6,dA,dH,dM,aI,aW,x1,x2,x3,x4,x5,x6,x7,x8,x9,J8]
 by_cases Kn:999<za
 ·have J8:iq za 0 999=false:=qj (by rw [bB];omega)
  simp [func69,f69,gy,dN,dB,h1,h2,h3,h5,h6,dA,dH,dM,aI,aW,x1,x2,x3,x4,x5,x6,x7,x8,x9,Kn,J8]
 have J8:iq za 0 999=true:=bB.2 (by omega)
 by_cases LP:last<0
 ·have KO:iq last 0 3=false:=qj (by rw [bB];omega)
  simp [func69,f69,gy,dN,dB,h1,h2,h3,h5,h6,dA,dH,dM,aI,aW,x1,x2,x3,x4,x5,x6,x7,x8,x9,Kn,J8,LP,KO]
 by_cases K4:3<last
 ·have KO:iq last 0 3=false:=qj (by rw [bB];omega)
  simp [func69,f69,gy,dN,dB,h1,h2,h3,h5,h6,dA,dH,dM,aI,aW,x1,x2,x3,x4,x5,x6,x7,x8,x9,Kn,J8,LP,K4,KO]
 have KO:iq last 0 3=true:=bB.2 (by omega)
 cases LM:iG rp
 ·skip
  simp [func69,f69,gy,dN,dB,h1,h2,h3,h5,h6,dA,dH,dM,aI,aW,x1,x2,x3,x4,x5,x6,x7,x8,x9,Kn,J8,LP,K4,KO,LM]
 cases OL:jT ul
 ·skip
  simp [func69,f69,gy,dN,dB,h1,h2,h3,h5,h6,dA,dH,dM,aI,aW,x1,x2,x3,x4,x5,x6,x7,x8,x9,Kn,J8,LP,K4,KO,LM,OL]
 by_cases f0:fr=0
 ·subst f0
  by_cases f1:fh=0
  rotate_left
  ·skip
   simp [func69,f69,gy,dN,dB,h1,h2,h3,h5,h6,dA,dH,dM,aI,aW,x1,x2,x3,x4,x5,x6,x7,x8,x9,Kn,J8,LP,K4,KO,LM,OL,f1]
  subst f1
  by_cases x17:Av<0
  ·have x19:iq Av 0 1000000060=false:=qj (by rw [bB];omega)
   simp [func69,f69,gy,dN,dB,h1,h2,h3,h5,h6,dA,dH,dM,aI,aW,x1,x2,x3,x4,x5,x6,x7,x8,x9,Kn,J8,LP,K4,KO,LM,OL,x17,x19]
  by_cases x18:1000000060<Av
  ·have x19:iq Av 0 1000000060=false:=qj (by rw [bB];omega)
   simp [func69,f69,gy,dN,dB,h1,h2,h3,h5,h6,dA,dH,dM,aI,aW,x1,x2,x3,x4,x5,x6,x7,x8,x9,Kn,J8,LP,K4,KO,LM,OL,x17,x18,x19]
  have x19:iq Av 0 1000000060=true:=bB.2 (by omega)
  by_cases x20:hit<0
  ·have x22:iq hit 0 1000000060=false:=qj (by rw [bB];omega)
   simp [func69,f69,gy,dN,dB,h1,h2,h3,h5,h6,dA,dH,dM,aI,aW,x1,x2,x3,x4,x5,x6,x7,x8,x9,Kn,J8,LP,K4,KO,LM,OL,x17,x18,x19,x20,x22]
  by_cases x21:1000000060<hit
  ·have x22:iq hit 0 1000000060=false:=qj (by rw [bB];omega)
   simp [func69,f69,gy,dN,dB,h1,h2,h3,h5,h6,dA,dH,dM,aI,aW,x1,x2,x3,x4,x5,x6,x7,x8,x9,Kn,J8,LP,K4,KO,LM,OL,x17,x18,x19,x20,x21,x22]
  have x22:iq hit 0 1000000060=true:=bB.2 (by omega)
  by_cases d0:Av=0
  ·subst d0
   cases x23:qA ot oa
   ·skip
    simp [func69,f69,gy,dN,dB,h1,h2,h3,h5,h6,dA,dH,dM,aI,aW,x1,x2,x3,x4,x5,x6,x7,x8,x9,Kn,J8,LP,K4,KO,LM,OL,x17,x18,x19,x20,x21,x22,x23]
   by_cases d1:q.length≤40
   rotate_left
   ·have d1':40<(q.length:Int):=by omega
    simp [func69,f69,gy,dN,dB,h1,h2,h3,h5,h6,dA,dH,dM,aI,aW,x1,x2,x3,x4,x5,x6,x7,x8,x9,Kn,J8,LP,K4,KO,LM,OL,x17,x18,x19,x20,x21,x22,x23,d1,d1']
   have d1':¬(40<(q.length:Int)):=by omega
   simp [func69,f69,gy,dN,dB,h1,h2,h3,h5,h6,dA,dH,dM,aI,aW,x1,x2,x3,x4,x5,x6,x7,x8,x9,Kn,J8,LP,K4,KO,LM,OL,x17,x18,x19,x20,x21,x22,x23,d1,d1']
   rcases lg dn q with g|⟨g,N,hN,g1,g2⟩
   ·rw [aF (fun j=> .on ⟨[(138,V.v (.int .i64 ((j:Int)))),(137,V.v (.int .i64 ((q.length:Int)))),(136, .aM (some 4) (ints q))],[],[],[]⟩) q.length ?_ ?_]
    ·simp [func69,f69,gy,dN,dB,h1,h2,h3,h5,h6,dA,dH,dM,aI,aW,x1,x2,x3,x4,x5,x6,x7,x8,x9,Kn,J8,LP,K4,KO,LM,OL,x17,x18,x19,x20,x21,x22,x23,d1,d1',g]
    ·simp
    ·intro j hj
     have hw:=bM (j+1) (by omega)
     have:=List.all_eq_true.1 g q[j] (List.getElem_mem hj)
     simp [hj,hw,aQ hj,aW,this]
   ·rw [aF (fun j=> .on ⟨[(138,V.v (.int .i64 ((j:Int)))),(137,V.v (.int .i64 ((q.length:Int)))),(136, .aM (some 4) (ints q))],[],[],[]⟩) N ?_ ?_]
    ·simp [hN,aQ hN,aW,g1,g,gy]
    ·simp
    ·intro j hj
     have hj':j<q.length:=by omega
     have hw:=bM (j+1) (by omega)
     simp [hj',hw,aQ hj',aW,g2 j hj' hj]
  ·have d2:(Av != 0)=true:=by simpa using d0
   by_cases d1:q.length≤40
   rotate_left
   ·have d1':40<(q.length:Int):=by omega
    simp [func69,f69,gy,dN,dB,h1,h2,h3,h5,h6,dA,dH,dM,aI,aW,x1,x2,x3,x4,x5,x6,x7,x8,x9,Kn,J8,LP,K4,KO,LM,OL,x17,x18,x19,x20,x21,x22,d0,d2,d1,d1']
   have d1':¬(40<(q.length:Int)):=by omega
   simp [func69,f69,gy,dN,dB,h1,h2,h3,h5,h6,dA,dH,dM,aI,aW,x1,x2,x3,x4,x5,x6,x7,x8,x9,Kn,J8,LP,K4,KO,LM,OL,x17,x18,x19,x20,x21,x22,d0,d2,d1,d1']
   rcases lg dn q with g|⟨g,N,hN,g1,g2⟩
   ·rw [aF (fun j=> .on ⟨[(138,V.v (.int .i64 ((j:Int)))),(137,V.v (.int .i64 ((q.length:Int)))),(136, .aM (some 4) (ints q))],[],[],[]⟩) q.length ?_ ?_]
    ·simp [func69,f69,gy,dN,dB,h1,h2,h3,h5,h6,dA,dH,dM,aI,aW,x1,x2,x3,x4,x5,x6,x7,x8,x9,Kn,J8,LP,K4,KO,LM,OL,x17,x18,x19,x20,x21,x22,d0,d2,d1,d1',g]
    ·simp
    ·intro j hj
     have hw:=bM (j+1) (by omega)
     have:=List.all_eq_true.1 g q[j] (List.getElem_mem hj)
     simp [hj,hw,aQ hj,aW,this]
   ·rw [aF (fun j=> .on ⟨[(138,V.v (.int .i64 ((j:Int)))),(137,V.v (.int .i64 ((q.length:Int)))),(136, .aM (some 4) (ints q))],[],[],[]⟩) N ?_ ?_]
    ·simp [hN,aQ hN,aW,g1,g,gy]
    ·simp
    ·intro j hj
     have hj':j<q.length:=by omega
     have hw:=bM (j+1) (by omega)
     simp [hj',hw,aQ hj',aW,g2 j hj' hj]
 ·have f2:(fr==0)=false:=by simpa using f0
  have f3:(fr != 0)=true:=by simpa using f0
  cases x24:dn fr
  ·skip
   simp [func69,f69,gy,dN,dB,h1,h2,h3,h5,h6,dA,dH,dM,aI,aW,x1,x2,x3,x4,x5,x6,x7,x8,x9,Kn,J8,LP,K4,KO,LM,OL,f0,f2,f3,x24]
  by_cases x25:fh<0
  ·have x27:iq fh 0 3=false:=qj (by rw [bB];omega)
   simp [func69,f69,gy,dN,dB,h1,h2,h3,h5,h6,dA,dH,dM,aI,aW,x1,x2,x3,x4,x5,x6,x7,x8,x9,Kn,J8,LP,K4,KO,LM,OL,f0,f2,f3,x24,x25,x27]
  by_cases x26:3<fh
  ·have x27:iq fh 0 3=false:=qj (by rw [bB];omega)
   simp [func69,f69,gy,dN,dB,h1,h2,h3,h5,h6,dA,dH,dM,aI,aW,x1,x2,x3,x4,x5,x6,x7,x8,x9,Kn,J8,LP,K4,KO,LM,OL,f0,f2,f3,x24,x25,x26,x27]
  have x27:iq fh 0 3=true:=bB.2 (by omega)
  by_cases x28:Av<0
  ·have x30:iq Av 0 1000000060=false:=qj (by rw [bB];omega)
   simp [func69,f69,gy,dN,dB,h1,h2,h3,h5,h6,dA,dH,dM,aI,aW,x1,x2,x3,x4,x5,x6,x7,x8,x9,Kn,J8,LP,K4,KO,LM,OL,f0,f2,f3,x24,x25,x26,x27,x28,x30]
  by_cases x29:1000000060<Av
  ·have x30:iq Av 0 1000000060=false:=qj (by rw [bB];omega)
   simp [func69,f69,gy,dN,dB,h1,h2,h3,h5,h6,dA,dH,dM,aI,aW,x1,x2,x3,x4,x5,x6,x7,x8,x9,Kn,J8,LP,K4,KO,LM,OL,f0,f2,f3,x24,x25,x26,x27,x28,x29,x30]
  have x30:iq Av 0 1000000060=true:=bB.2 (by omega)
  by_cases x31:hit<0
  ·have x33:iq hit 0 1000000060=false:=qj (by rw [bB];omega)
   simp [func69,f69,gy,dN,dB,h1,h2,h3,h5,h6,dA,dH,dM,aI,aW,x1,x2,x3,x4,x5,x6,x7,x8,x9,Kn,J8,LP,K4,KO,LM,OL,f0,f2,f3,x24,x25,x26,x27,x28,x29,x30,x31,x33]
  by_cases x32:1000000060<hit
  ·have x33:iq hit 0 1000000060=false:=qj (by rw [bB];omega)
   simp [func69,f69,gy,dN,dB,h1,h2,h3,h5,h6,dA,dH,dM,aI,aW,x1,x2,x3,x4,x5,x6,x7,x8,x9,Kn,J8,LP,K4,KO,LM,OL,f0,f2,f3,x24,x25,x26,x27,x28,x29,x30,x31,x32,x33]
  have x33:iq hit 0 1000000060=true:=bB.2 (by omega)
  by_cases d0:Av=0
  ·subst d0
   cases x34:qA ot oa
   ·skip
    simp [func69,f69,gy,dN,dB,h1,h2,h3,h5,h6,dA,dH,dM,aI,aW,x1,x2,x3,x4,x5,x6,x7,x8,x9,Kn,J8,LP,K4,KO,LM,OL,f0,f2,f3,x24,x25,x26,x27,x28,x29,x30,x31,x32,x33,x34]
   by_cases d1:q.length≤40
   rotate_left
   ·have d1':40<(q.length:Int):=by omega
    simp [func69,f69,gy,dN,dB,h1,h2,h3,h5,h6,dA,dH,dM,aI,aW,x1,x2,x3,x4,x5,x6,x7,x8,x9,Kn,J8,LP,K4,KO,LM,OL,f0,f2,f3,x24,x25,x26,x27,x28,x29,x30,x31,x32,x33,x34,d1,d1']
   have d1':¬(40<(q.length:Int)):=by omega
   simp [func69,f69,gy,dN,dB,h1,h2,h3,h5,h6,dA,dH,dM,aI,aW,x1,x2,x3,x4,x5,x6,x7,x8,x9,Kn,J8,LP,K4,KO,LM,OL,f0,f2,f3,x24,x25,x26,x27,x28,x29,x30,x31,x32,x33,x34,d1,d1']
   rcases lg dn q with g|⟨g,N,hN,g1,g2⟩
   ·rw [aF (fun j=> .on ⟨[(138,V.v (.int .i64 ((j:Int)))),(137,V.v (.int .i64 ((q.length:Int)))),(136, .aM (some 4) (ints q))],[],[],[]⟩) q.length ?_ ?_]
    ·simp [func69,f69,gy,dN,dB,h1,h2,h3,h5,h6,dA,dH,dM,aI,aW,x1,x2,x3,x4,x5,x6,x7,x8,x9,Kn,J8,LP,K4,KO,LM,OL,f0,f2,f3,x24,x25,x26,x27,x28,x29,x30,x31,x32,x33,x34,d1,d1',g]
    ·simp
    ·intro j hj
     have hw:=bM (j+1) (by omega)
     have:=List.all_eq_true.1 g q[j] (List.getElem_mem hj)
     simp [hj,hw,aQ hj,aW,this]
   ·rw [aF (fun j=> .on ⟨[(138,V.v (.int .i64 ((j:Int)))),(137,V.v (.int .i64 ((q.length:Int)))),(136, .aM (some 4) (ints q))],[],[],[]⟩) N ?_ ?_]
    ·simp [hN,aQ hN,aW,g1,g,gy]
    ·simp
    ·intro j hj
     have hj':j<q.length:=by omega
     have hw:=bM (j+1) (by omega)
     simp [hj',hw,aQ hj',aW,g2 j hj' hj]
  ·have d2:(Av != 0)=true:=by simpa using d0
   by_cases d1:q.length≤40
   rotate_left
   ·have d1':40<(q.length:Int):=by omega
    simp [func69,f69,gy,dN,dB,h1,h2,h3,h5,h6,dA,dH,dM,aI,aW,x1,x2,x3,x4,x5,x6,x7,x8,x9,Kn,J8,LP,K4,KO,LM,OL,f0,f2,f3,x24,x25,x26,x27,x28,x29,x30,x31,x32,x33,d0,d2,d1,d1']
   have d1':¬(40<(q.length:Int)):=by omega
   simp [func69,f69,gy,dN,dB,h1,h2,h3,h5,h6,dA,dH,dM,aI,aW,x1,x2,x3,x4,x5,x6,x7,x8,x9,Kn,J8,LP,K4,KO,LM,OL,f0,f2,f3,x24,x25,x26,x27,x28,x29,x30,x31,x32,x33,d0,d2,d1,d1']
   rcases lg dn q with g|⟨g,N,hN,g1,g2⟩
   ·rw [aF (fun j=> .on ⟨[(138,V.v (.int .i64 ((j:Int)))),(137,V.v (.int .i64 ((q.length:Int)))),(136, .aM (some 4) (ints q))],[],[],[]⟩) q.length ?_ ?_]
    ·simp [func69,f69,gy,dN,dB,h1,h2,h3,h5,h6,dA,dH,dM,aI,aW,x1,x2,x3,x4,x5,x6,x7,x8,x9,Kn,J8,LP,K4,KO,LM,OL,f0,f2,f3,x24,x25,x26,x27,x28,x29,x30,x31,x32,x33,d0,d2,d1,d1',g]
    ·simp
    ·intro j hj
     have hw:=bM (j+1) (by omega)
     have:=List.all_eq_true.1 g q[j] (List.getElem_mem hj)
     simp [hj,hw,aQ hj,aW,this]
   ·rw [aF (fun j=> .on ⟨[(138,V.v (.int .i64 ((j:Int)))),(137,V.v (.int .i64 ((q.length:Int)))),(136, .aM (some 4) (ints q))],[],[],[]⟩) N ?_ ?_]
    ·simp [hN,aQ hN,aW,g1,g,gy]
    ·simp
    ·intro j hj
     have hj':j<q.length:=by omega
     have hw:=bM (j+1) (by omega)
     simp [hj',hw,aQ hj',aW,g2 j hj' hj]
abbrev kR (p:dF×Int):Cw:=⟨.fT [gO p.1,vI p.2],[],(hO p.1)⟩
abbrev Ji (p:dF×Int)(b:Bool):Cw:=⟨.fT [gO p.1,vI p.2,V.v (.bool b)],[],(hO p.1)⟩
section
variable (e:dF) (h:fV e)
include h
theorem l5:kg [gL e] [] []=some (kR (dI e)):=M9 e (NM.of (fA.2 h))
theorem Jj (t:List Int)(a:Int)(ht:bU t a=true):vK [gL e, .agg [.aM (some 6) (ints t),vI a]] [] []=some (kR (vY e t a)):=by
 obtain⟨h1,h2,h3,h4⟩:=bS ht
 exact akC e (fA.2 h) t a h1 ⟨h3,h4⟩
theorem akE (f u:Nat)(h1:f≤u)(h2:u≤e.ak.av.length):FN [gL e,vI (f:Int),vI (u:Int)] [] []=some (kR (Gm e f u)):=by
 have e1:=Cm e.ak.av e.ak.At h.line f u h1 h2
 have hgl:(((e.ak.av.drop f).take (u-f)).length:Int)=(u:Int)-f:=by simp;omega
 unfold Gm
 by_cases hfu:f<u
 ·rw [if_pos hfu]
  obtain⟨c1,c2,c3⟩:=tX h.line h1 h2
  have e2:=Jj e h _ _ c1
  unfold nW at e2⊢
  have hg:¬(((e.ak.av.drop f).take (u-f)).length:Int)=0:=by omega
  generalize (e.ak.av.drop f).take (u-f)=gone at*
  have hg0:¬gone= []:=fun q=>hg (by rw [q];rfl)
  generalize e.ak.av.take f++e.ak.av.drop u=X at*
  generalize vY e X (cutAt e.ak.At f u)=p at*
  generalize hE:FN _ _ _=R
  simp [FN, -au,func152,f152,e1,e2,hg,hg0]at hE
  exact hE.symm
 ·rw [if_neg hfu]
  have hfe:f=u:=by omega
  subst hfe
  have e2:=l5 e h
  have hz:(e.ak.av.drop f).take (f-f)= []:=by simp
  rw [hz]at e1
  simp only [aZ]at e1
  generalize dI e=p at*
  generalize hE:FN _ _ _=R
  simp [FN, -au,func152,f152,e1,e2]at hE
  exact hE.symm
theorem ajo (f u:Nat)(how:Int)(hw:0≤how∧how≤2)(h1:f≤u)(h2:u≤e.ak.av.length):qd [gL e,vI (f:Int),vI (u:Int),vI how] [] []=some (kR (mq e f u how)):=by
 unfold mq
 by_cases hfu:f<u
 ·rw [if_pos hfu]
  exact ajl e (fA.2 h) f u how hw hfu h2
 ·rw [if_neg hfu]
  have hfe:f=u:=by omega
  subst hfe
  exact acV e (fA.2 h) f how h2
end
theorem J9 (n:Nat)(u:List Int):lZ (n+1) u=lZ n u++u:=by
 unfold lZ
 rw [List.replicate_succ',List.flatten_append]
 simp
def rz (m n:Nat):Nat:=gM (fun j=>decide (m*j≤400)) n
theorem Jk (m n:Nat)(hm:m≤400):rz m n≤n∧(m*n≤400→rz m n=n)∧(400<m*n→400<m*rz m n)∧m*rz m n≤800∧(∀j,j<rz m n→m*j≤400)∧(rz m n=n∨400<m*rz m n):=by
 obtain⟨h1,h2,h3⟩:=cK (fun j=>decide (m*j≤400)) n
 unfold rz
 generalize gM (fun j=>decide (m*j≤400)) n=k at*
 have h2:∀j,j<k→m*j≤400:=fun j hj=>of_decide_eq_true (h2 j hj)
 have h3:k=n∨¬m*k≤400:=h3.imp _root_.id of_decide_eq_false
 have hle:m*k≤m*n:=Nat.mul_le_mul_left m h1
 refine⟨h1,fun h=>?_,fun h=>?_,?_,h2,?_⟩
 ·rcases h3 with h3|h3
  ·exact h3
  ·omega
 ·rcases h3 with h3|h3
  ·rw [h3];exact h
  ·omega
 ·cases k with
  | zero=>rw [Nat.mul_zero];omega
  | succ k=>
   have:=h2 k (by omega)
   rw [Nat.mul_succ];omega
 ·rcases h3 with h3|h3
  ·exact .inl h3
  ·exact .inr (by omega)
theorem aau (u:List Int)(i:Option Nat)(n:Nat)(hu:u.length≤400)(hn:n≤999):Et [.aM i (ints u),vI (n:Int)] [] []=some ⟨.own 0,[],[(0,ints (lZ (rz u.length n) u))]⟩:=by
 obtain⟨k1,k2,k3,k4,k5,k6⟩:=Jk u.length n hu
 generalize rz u.length n=k at*
 have hlen:∀j,(lZ j u).length=u.length*j:=fun j=>by
  induction j with
  | zero=>rfl
  | succ j ih=>rw [J9,List.length_append,ih,Nat.mul_succ]
 generalize hE:Et _ _ _=R
 simp [Et,func150,f150]at hE
 rw [aF (fun j=> .on ⟨[(6,V.v (.int .i64 ((j:Int)))),(5, .own 2000000000),(1,V.v (.int .i64 ((n:Int)))),(0, .aM i (ints u))],[],[(2000000000,ints (lZ j u))],[]⟩) k ?_ ?_]at hE
 ·have hk:=hlen k
  rcases k6 with q|q
  ·subst q
   simp at hE
   exact hE.symm
  ·by_cases hkn:k<n
   ·have q2:¬(((lZ k u).length:Nat):Int)≤400:=by omega
    simp [hkn,q2]at hE
    exact hE.symm
   ·simp [hkn]at hE
    exact hE.symm
 ·simp [lZ,aZ]
 ·intro j hj
  have q1:j<n:=by omega
  have q2:=k5 j hj
  have q3:(((lZ j u).length:Nat):Int)≤400:=by rw [hlen];omega
  have q4:=hlen j
  have hw:=bM ((j:Int)+1) (by omega)
  have g1:((lZ j u).length+u.length)*8≤140737488355328:=by omega
  have g2:(lZ j u).length+u.length≤4611686018427387904:=by omega
  have g3:ints (lZ (j+1) u)=ints (lZ j u)++ints u:=by rw [J9,au]
  simp [q1,q3,hw,g1,g2,g3]
theorem Cr (t u:List Int)(a:Int)(h:bU t a=true)(hu:u.all iB=true)(hu2:u.length≤100000):nU [.agg [.aM (some 0) (ints t),vI a], .aM (some 1) (ints u)] [] []=
  some (if t.length+u.length≤400 then⟨.fT [.agg [.own 0,vI (a+u.length)],V.v (.bool true)],[],[(0,ints (Al t a.toNat u))]⟩else⟨.fT [.agg [.own 0,vI 0],V.v (.bool false)],[],[(0,[])]⟩):=by
 obtain⟨h1,h2,h3,h4⟩:=bS h
 obtain⟨A,hA⟩:=Int.eq_ofNat_of_zero_le h3
 subst hA
 have hA:A≤t.length:=by omega
 rw [Int.toNat_natCast]
 by_cases hc:t.length+u.length≤400
 ·rw [if_pos hc]
  exact acW t u A hA (by simp only [eO,Bool.and_eq_true,decide_eq_true_eq];exact⟨h1,h2⟩) hu hc
 ·rw [if_neg hc]
  have e1:=bP t A (by omega)
  rw [h]at e1
  by_cases hu4:400<u.length
  ·have akF:(400:Int)<u.length:=by omega
   simp [nU,func216,f216,e1,hu4,akF,aZ]
  ·have akF:¬(400:Int)<u.length:=by omega
   have e2:=kQ (t.take A) (some 0) (by simp;omega)
   have hXl:(t.take A++u++t.drop A).length=t.length+u.length:=by simp;omega
   have e3:=bP (t.take A++u++t.drop A) ((A:Int)+u.length) (by omega)
   rw [show bU (t.take A++u++t.drop A) ((A:Int)+u.length)=false from by unfold bU eO;rw [decide_eq_false (by omega)];rfl,List.append_assoc]at e3
   have q2:(A+u.length+(t.length-A))*8≤140737488355328:=by omega
   have q3:A+u.length+(t.length-A)≤4611686018427387904:=by omega
   have q4:(A+u.length)*8≤140737488355328:=by omega
   have q5:A+u.length≤4611686018427387904:=by omega
   have q6:min A t.length=A:=by omega
   have q7:(A:Int)≤t.length:=by omega
   have q8:(t.drop A).take (t.length-A)=t.drop A:=List.take_of_length_le (by simp)
   have w:=bM ((A:Int)+u.length) (by omega)
   have hX:ints (t.take A++u++t.drop A)=ints (t.take A)++ints u++ints (t.drop A):=by rw [au,au]
   generalize hE:nU _ _ _=R
   simp [nU, -au,←au,func216,f216,e1,e2,hu4,akF,q2,q3,q4,q5,q6,q7,q8,hA,w,e3]at hE
   exact hE.symm
section
variable (e:dF) (h:fV e)
include h
theorem OM (t:List Int)(a last:Int)(ht:bU t a=true):Aj [gL e, .agg [.aM (some 6) (ints t),vI a],vI last] [] []=some ⟨(gO (sF e t a last)),[],(hO (sF e t a last))⟩:=by
 obtain⟨h1,h2,h3,h4⟩:=bS ht
 exact acT e (fA.2 h) t a last h1 ⟨h3,h4⟩
theorem Wp (u:List Int)(last:Int)(hu:u.all iB=true)(hu2:u.length≤100000):wG [gL e, .aM (some 6) (ints u),vI last] [] []=some (kR (Cy e u last)):=by
 obtain⟨h1,h2,h3,h4⟩:=h.aS
 have e1:=Cr e.ak.av u e.ak.At h.line hu hu2
 have hn:e.ak.At.toNat=aS e:=rfl
 rw [hn]at e1
 unfold Cy
 by_cases hc:e.ak.av.length+u.length≤400
 ·rw [if_pos hc]at e1⊢
  have e2:=OM e h (Al e.ak.av (aS e) u) (e.ak.At+u.length) last ((zx hc h4 hu h2).2 _ (by omega) (by omega))
  generalize Al e.ak.av (aS e) u=X at*
  generalize sF e X (e.ak.At+u.length) last=p at*
  generalize hE:wG _ _ _=R
  simp [wG, -au,func149,f149,e1,e2]at hE
  exact hE.symm
 ·rw [if_neg hc]at e1⊢
  have e2:=l5 e h
  generalize dI e=p at*
  generalize hE:wG _ _ _=R
  simp [wG, -au,func149,f149,e1,e2]at hE
  exact hE.symm
end
theorem Jl (l:List fH)(i:Option Nat)(h:l.length≤1000)(hp:∀p∈l,p.av.length≤2000):qG [.agg [.aM i (aG l)]] [] []=some ⟨.agg [.own 0],[],[(0,aG l)]⟩:=by
 generalize hE:qG _ _ _=R
 simp [qG,func140,f140]at hE
 rw [aF (fun k=> .on ⟨[(10,V.v (.int .i64 ((k:Int)))),(9,V.v (.int .i64 ((l.length:Int)))),(8, .aM i (aG l)),(3, .ref 3 0),(2, .ref 2 0)],[(3,[.own 2000000000]),(2,[.own 2000000001])],[(2000000001,[]),(2000000000,aG (l.take k))],[]⟩) l.length ?_ ?_]at hE
 ·simp at hE
  exact hE.symm
 ·simp [show aG []= []from rfl]
 ·intro k hk
  have hw:=bM ((k:Int)+1) (by omega)
  have hq:=hp l[k] (List.getElem_mem hk)
  have e1:=lK l[k].av (some 0) l[k].At hq
  have g3:min k l.length=k:=by omega
  have g4:(k+1)*32≤140737488355328:=by omega
  have g5:k≤4611686018427387903:=by omega
  have g6:aG (l.take (k+1))=aG (l.take k)++ [[.l (ints l[k].av),D.a (.int .i64 (l[k].At))]]:=by rw [wz,←List.take_succ_eq_append_getElem hk]
  simp [hk,hw,e1,g3,g4,g5,g6,dW hk]
theorem Gu (a b:List Int)(ha:a.length≤1000000)(hb:b.length≤1000000):yK [.aM (some 0) (ints a), .aM (some 1) (ints b)] [] []=some ⟨V.v (.bool (decide (a=b))),[],[]⟩:=by
 unfold yK
 by_cases hl:a.length=b.length
 ·have hli:(a.length:Int)=b.length:=by omega
  simp [func147,f147,hl,hli]
  rcases OE a b hl with h|⟨N,h1,h2,h3,h4⟩
  ·subst h
   rw [aF (fun j=> .on ⟨[(13,V.v (.int .i64 ((j:Int)))),(12,V.v (.int .i64 ((a.length:Int)))),(1, .aM (some 1) (ints a)),(0, .aM (some 0) (ints a))],[],[],[]⟩) a.length ?_ ?_]
   ·simp
   ·simp
   ·intro j hj
    have hw:=bM ((j:Int)+1) (by omega)
    simp [hj,hw,aQ hj]
  ·have hab:¬a=b:=fun e=>by subst e;exact h3 rfl
   rw [aF (fun j=> .on ⟨[(13,V.v (.int .i64 ((j:Int)))),(12,V.v (.int .i64 ((b.length:Int)))),(1, .aM (some 1) (ints b)),(0, .aM (some 0) (ints a))],[],[],[]⟩) N ?_ ?_]
   ·simp [h1,h2,aQ h1,aQ h2,h3,hab]
   ·simp
   ·intro j hj
    have j1:j<a.length:=by omega
    have j2:j<b.length:=by omega
    have hw:=bM ((j:Int)+1) (by omega)
    simp [j1,j2,hw,aQ j1,aQ j2,h4 j j1 j2 hj]
 ·have hli:¬(a.length:Int)=b.length:=by omega
  have hab:¬a=b:=fun e=>hl (by rw [e])
  simp [func147,f147,hl,hli,hab]
theorem Lv (l:List fH)(h:jT l=true):wC [.agg [.aM (some 0) (aG l)]] [] []=some ⟨V.v (.bool true),[],[]⟩:=by
 have e1:=dM l (M8 h)
 rw [h]at e1
 exact e1
theorem acY (l:List fH)(t:List Int)(a:Int)(h:jT l=true)(ht:bU t a=true):BS [.agg [.aM (some 0) (aG l)], .agg [.aM (some 1) (ints t),vI a]] [] []=some ⟨.fT [.agg [.own 0],V.v (.bool true)],[],[(0,aG (Bb l ⟨t,a⟩))]⟩:=by
 obtain⟨hl,hp⟩:=pI h
 have htl:=(bS ht).1
 have e1:=Lv l h
 have e2:=vT t a ht
 have e3:=Jl l (some 0) (by omega) (fun p hq=>by have:=(bS (hp p hq)).1;omega)
 have e4:=lK t (some 0) a (by omega)
 have e6:aG (l++ [⟨t,a⟩])=aG l++ [[.l (ints t),D.a (.int .i64 a)]]:=(wz l ⟨t,a⟩).symm
 have g1:(l.length+1)*32≤140737488355328:=by omega
 have g2:l.length+1≤4611686018427387904:=by omega
 have g4:l.length≤4611686018427387903:=by omega
 generalize hE:BS _ _ _=R
 unfold BS at hE
 unfold Bb
 by_cases h0:l= []
 ·subst h0
  simp only [show aG []= []from rfl]at hE e1 e3
  simp [func80,f80,e1,e2,e3,e4]at hE
  exact hE.symm
 ·have hlen:0<l.length:=List.length_pos_iff.2 h0
  have hj:l.length-1<l.length:=by omega
  have hq:=(bS (hp l[l.length-1] (List.getElem_mem hj))).1
  have e5:=Gu l[l.length-1].av t (by omega) (by omega)
  have w:=bM ((l.length:Int)-1) (by omega)
  have k1:0≤(l.length:Int)-1:=by omega
  have k2:(l.length:Int)-1<l.length:=by omega
  have k3:((l.length:Int)-1).toNat=l.length-1:=by omega
  have k4:(0:Int)<l.length:=by omega
  have k5:1≤(l.length:Int):=by omega
  have hlast:l.getLast?.map (·.av)=some l[l.length-1].av:=by rw [List.getLast?_eq_getElem?,List.getElem?_eq_getElem hj];rfl
  simp only [hlast,Option.some.injEq]
  by_cases hs:l[l.length-1].av=t
  ·rw [decide_eq_true hs]at e5
   rw [if_pos hs]
   simp [func80,f80,e1,e2,e3,e4,e5,w,k1,k2,k3,k4,k5,hj,hlen,dW hj]at hE
   exact hE.symm
  ·rw [decide_eq_false hs]at e5
   rw [if_neg hs]
   by_cases h20:l.length=20
   ·rw [if_pos h20]
    have g3:((l.length:Int)=20)=True:=eq_true (by omega)
    have g3n:(l.length=20)=True:=eq_true h20
    have g5:(1:Int)≤(l.length:Int)+1:=by omega
    have g6:wid 2 (aG l++ [[.l (ints t),D.a (.int .i64 a)]])=true:=by rw [←e6];exact Ri _
    have g7:(1:Int)<(l.length:Int)+1:=by omega
    simp [func80,f80,e1,e2,e3,e4,e5,w,k1,k2,k3,k4,k5,hj,hlen,dW hj,g1,g2,g3,g3n,g4,g5,g6,g7]at hE
    rw [←hE,Wm h0]
   ·rw [if_neg h20,e6]
    have g3:¬(l.length:Int)=20:=by omega
    simp [func80,f80,e1,e2,e3,e4,e5,w,k1,k2,k3,k4,k5,hj,hlen,dW hj,g1,g2,g3,g4]at hE
    exact hE.symm
theorem wh (e:dF):qU [gL e] [] []=some ⟨.agg [V.v (.bool e.Vi),vI e.bQ, .aM (some 0) (ints e.ak.av),vI e.ak.At,vI 0,vI 0,vI 0,vI 0,vI e.dY,vI e.bL,vI e.iO, .aM (some 1) (aC e.aL.aA), .aM (some 2) (aG e.fD.bT),vI e.kr, .aM (some 3) (ints e.gX.av),vI e.gX.At, .aM (some 4) (ints e.bO),vI e.lV, .aM (some 5) (ints e.bX.av),vI e.bX.At],[],[]⟩:=by
 simp [qU,func117,f117]
theorem qJ (e:dF)(h:0≤e.ak.At∧e.ak.At≤1000):sP [gL e] [] []=some ⟨.agg [V.v (.bool e.Vi),vI e.bQ, .aM (some 0) (ints e.ak.av),vI (jl e.bQ e.ak.av e.ak.At),vI e.bD,vI e.Op,vI e.bN,vI e.fC,vI e.dY,vI e.bL,vI e.iO, .aM (some 1) (aC e.aL.aA), .aM (some 2) (aG e.fD.bT),vI e.kr, .aM (some 3) (ints e.gX.av),vI e.gX.At, .aM (some 4) (ints e.bO),vI e.lV, .aM (some 5) (ints e.bX.av),vI e.bX.At],[],[]⟩:=by
 have w:=bM (e.ak.At-1) (by omega)
 unfold jl SI
 generalize hE:sP _ _ _=R
 unfold sP at hE
 by_cases c1:e.bQ=2
 ·rw [if_pos c1]
  by_cases c2:e.ak.At=e.ak.av.length
  ·by_cases c3:0<e.ak.At
   ·have hA:atEnd e.ak.av e.ak.At=true:=by simp only [atEnd,Bool.and_eq_true,decide_eq_true_eq,beq_iff_eq];omega
    have c4:0<e.ak.av.length:=by omega
    have w2:=bM ((e.ak.av.length:Int)-1) (by omega)
    rw [if_pos hA]
    simp [func82,f82,c1,c2,c3,c4,w,w2]at hE
    rw [←hE]
    simp [c1,c2]
   ·have hA:¬atEnd e.ak.av e.ak.At=true:=by simp only [atEnd,Bool.and_eq_true,decide_eq_true_eq,beq_iff_eq];omega
    have c4:e.ak.av= []:=List.length_eq_zero_iff.1 (by omega)
    rw [if_neg hA]
    simp only [gL,gO,hO,c4]at c2
    simp only [gL,gO,hO,c4,aZ]at hE⊢
    simp [func82,f82,c1,c2]at hE
    rw [←hE]
    simp [c1,c2]
  ·have hA:¬atEnd e.ak.av e.ak.At=true:=by simp only [atEnd,Bool.and_eq_true,decide_eq_true_eq,beq_iff_eq];omega
   rw [if_neg hA]
   simp [func82,f82,c1,c2]at hE
   rw [←hE]
   simp [c1]
 ·rw [if_neg c1]
  simp [func82,f82,c1]at hE
  exact hE.symm
theorem acZ (e:dF)(h:NM e):gK [gL e] [] []=some ⟨gO e,[],hO e⟩:=by
 have e1:=lK e.ak.av (some 0) e.ak.At h.line
 have e2:=lK e.gX.av (some 0) e.gX.At h.own
 have e3:=lK e.bX.av (some 0) e.bX.At h.back
 have e4:=Lp e.aL.aA (some 0) h.ring.1 h.ring.2
 have e5:=Jl e.fD.bT (some 0) h.undo.1 h.undo.2
 have g1:e.bO.length*8≤140737488355328:=by have:=h.query;omega
 have g2:e.bO.length≤4611686018427387904:=by have:=h.query;omega
 generalize hE:gK _ _ _=R
 simp [gK, -au,func71,f71,e1,e2,e3,e4,e5,g1,g2]at hE
 exact hE.symm
theorem tZ (e:dF)(ok:e.ok=true):rY [gL e] [] []=some ⟨V.v (.bool true),[],[]⟩:=by
 have hsm:=dF.SG ok
 have hE:=aeF e.Vi e.bQ e.ak.av e.ak.At e.bD e.Op e.bN e.fC e.dY e.bL e.iO e.aL.aA e.fD.bT e.kr e.gX.av e.gX.At e.bO e.lV e.bX.av e.bX.At hsm.h1 hsm.h2 hsm.h3 hsm.h4 hsm.h5 hsm.h6
 rw [hE]
 have:gy e.Vi e.bQ e.ak.av e.ak.At e.bD e.Op e.bN e.fC e.dY e.bL e.iO e.aL.aA e.fD.bT e.kr e.gX.av e.gX.At e.bO e.lV e.bX.av e.bX.At=true:=ok
 rw [this]
section
variable (e:dF) (h:fV e)
include h
theorem gG:gK [gL e] [] []=some ⟨gO e,[],hO e⟩:=acZ e (NM.of (fA.2 h))
theorem jB:iF [gL e] [] []=some (kR (dI e)):=by
 have e1:=gG e h
 have e2:=wh e
 generalize hE:iF _ _ _=R
 simp [iF, -au,func110,f110,e1,e2]at hE
 exact hE.symm
theorem aav (t:List Int)(a last:Int)(ht:bU t a=true)(hl:0≤last∧last≤3):xH [gL e, .agg [.aM (some 6) (ints t),vI a],vI last] [] []=some ⟨.fT [(gO (sF e t a last)),V.v (.bool true)],[],(hO (sF e t a last))⟩:=by
 have e0:=tZ e (fA.2 h)
 have e1:=vT t a ht
 have e2:=gG e h
 have e3:=wh e
 have e4:=Gu e.ak.av t (by have:=(bS h.line).1;omega) (by have:=(bS ht).1;omega)
 have e5:=acY e.fD.bT e.ak.av e.ak.At h.undo h.line
 have e6:=lK t (some 0) a (by have:=(bS ht).1;omega)
 have l1:¬last<0:=by omega
 have l2:¬3<last:=by omega
 have hta:0≤a∧a≤1000:=by have:=bS ht;omega
 unfold sF rZ sj
 by_cases c1:t=e.ak.av
 ·rw [if_pos (.inl c1)]
  rw [decide_eq_true c1.symm]at e4
  have e7:=qJ {e with bD:=0,Op:=0,bN:=0,fC:=0,iO:=last,ak:=⟨t,a⟩} hta
  generalize hE:xH _ _ _=R
  simp [xH, -au,func253,f253,e0,e1,e2,e3,e4,e6,e7,l1,l2]at hE
  exact hE.symm
 rw [decide_eq_false (fun q=>c1 q.symm)]at e4
 by_cases c2:last=1∧e.iO=1
 ·rw [if_pos (.inr c2)]
  obtain⟨c3,c4⟩:=c2
  subst c3
  have e7:=qJ {e with bD:=0,Op:=0,bN:=0,fC:=0,iO:=1,ak:=⟨t,a⟩} hta
  generalize hE:xH _ _ _=R
  unfold xH at hE
  simp only [gL,gO,hO,c4]at e0 e2 e3 hE
  simp [-au,func253,f253,e0,e1,e2,e3,e4,e6,e7]at hE
  exact hE.symm
 ·rw [if_neg (fun q=>q.elim c1 c2)]
  have e7:=qJ {e with bD:=0,Op:=0,bN:=0,fC:=0,iO:=last,ak:=⟨t,a⟩,fD:=⟨Bb e.fD.bT e.ak⟩} hta
  simp only at e5 e7
  generalize Bb e.fD.bT _=ul at*
  generalize hE:xH _ _ _=R
  unfold xH at hE
  by_cases c3:last=1
  ·have c4:¬e.iO=1:=fun q=>c2 ⟨c3,q⟩
   subst c3
   simp [-au,func253,f253,e0,e1,e2,e3,e4,e5,e6,e7,c4]at hE
   exact hE.symm
  ·simp [-au,func253,f253,e0,e1,e2,e3,e4,e5,e6,e7,l1,l2,c3]at hE
   exact hE.symm
theorem qC (t:List Int)(a last:Int)(ht:bU t a=true)(hl:0≤last∧last≤3):jQ [gL e, .agg [.aM (some 6) (ints t),vI a],V.v (.bool true),vI last] [] []=some (kR (sF e t a last,0)):=by
 have e1:=aav e h t a last ht hl
 generalize sF e t a last=p at*
 generalize hE:jQ _ _ _=R
 simp [jQ, -au,func193,f193,e1]at hE
 exact hE.symm
theorem Bf (t:List Int)(a last:Int)(ht:bU t a=true)(hl:0≤last∧last≤3):jQ [gL e, .agg [.aM (some 6) (ints t),vI a],V.v (.bool false),vI last] [] []=some (kR (dI e)):=by
 have e1:=aav e h t a last ht hl
 have e2:=jB e h
 generalize sF e t a last=q at*
 generalize dI e=p at*
 generalize hE:jQ _ _ _=R
 simp [jQ, -au,func193,f193,e1,e2]at hE
 exact hE.symm
theorem qD (a:Int):uT [gL e,vI a] [] []=some (kR (zf e a)):=by
 obtain⟨h1,h2,h3,h4⟩:=h.aS
 have e1:=OJ e.ak.av e.ak.At a h.line
 have e2:=qC e h e.ak.av (max 0 (min a e.ak.av.length)) 0 (gD h3 h4 (by omega) (by omega)) (by omega)
 unfold zf vY SQ
 generalize sF e e.ak.av (max 0 (min a e.ak.av.length)) 0=p at*
 generalize hE:uT _ _ _=R
 simp [uT, -au,func189,f189,e1,e2]at hE
 exact hE.symm
theorem OO (a b:Int)(F U:Nat)(ha:max 0 (min a e.ak.av.length)=F)(hb:max 0 (min b e.ak.av.length)=U)(h1:F≤U):yV [gL e,vI a,vI b] [] []=some (kR (Gm e F U)):=by
 have h2:U≤e.ak.av.length:=by omega
 have e1:=dw a e.ak.av.length (by omega)
 have e2:=dw b e.ak.av.length (by omega)
 rw [ha]at e1
 rw [hb]at e2
 have e3:=Cq e.ak.av e.ak.At h.line F U h1 h2
 obtain⟨c1,c2,c3⟩:=tX h.line h1 h2
 unfold Gm vY
 unfold nW at c1 c2⊢
 by_cases hfu:F<U
 ·rw [if_pos hfu]
  have e4:=qC e h _ _ 0 c1 (by omega)
  generalize sF e (e.ak.av.take F++e.ak.av.drop U) (cutAt e.ak.At F U) 0=p at*
  have hlt:((e.ak.av.take F++e.ak.av.drop U).length:Int)<e.ak.av.length:=by omega
  generalize e.ak.av.take F++e.ak.av.drop U=X at*
  clear h
  generalize hE:yV _ _ _=R
  simp [yV, -au,func245,f245,e1,e2,e3,e4,hlt]at hE
  exact hE.symm
 ·rw [if_neg hfu]
  have e4:=Bf e h _ _ 0 c1 (by omega)
  have hlt:¬((e.ak.av.take F++e.ak.av.drop U).length:Int)<e.ak.av.length:=by omega
  generalize dI e=p at*
  generalize e.ak.av.take F++e.ak.av.drop U=X at*
  clear h
  generalize hE:yV _ _ _=R
  simp [yV, -au,func245,f245,e1,e2,e3,e4,hlt]at hE
  exact hE.symm
theorem OP (u:List Int)(last:Int)(hu:u.all iB=true)(hu2:u.length≤2000)(hl:0≤last∧last≤3):wL [gL e, .aM (some 6) (ints u),vI last] [] []=some (kR (Cy e u last)):=by
 obtain⟨h1,h2,h3,h4⟩:=h.aS
 have e1:=Co e.ak.av u e.ak.At h.line hu hu2
 have hn:e.ak.At.toNat=aS e:=rfl
 rw [hn]at e1
 unfold Cy
 by_cases hc:e.ak.av.length+u.length≤400
 ·rw [if_pos hc]at e1⊢
  have e2:=qC e h (Al e.ak.av (aS e) u) (e.ak.At+u.length) last ((zx hc h4 hu h2).2 _ (by omega) (by omega)) hl
  generalize Al e.ak.av (aS e) u=X at*
  generalize sF e X (e.ak.At+u.length) last=p at*
  generalize hE:wL _ _ _=R
  simp [wL, -au,func243,f243,e1,e2]at hE
  exact hE.symm
 ·rw [if_neg hc]at e1⊢
  have e2:=Bf e h [] 0 last rfl hl
  simp only [aZ]at e2
  generalize dI e=p at*
  generalize hE:wL _ _ _=R
  simp [wL, -au,func243,f243,e1,e2]at hE
  exact hE.symm
end
theorem Ta (l:List dL)(t:List Int)(how:Int)(hl:iG l=true)(ht:eO t=true)(hh:0≤how∧how≤2):yJ [.agg [.aM (some 0) (aC l)], .aM (some 1) (ints t),vI how] [] []=some ⟨.fT [.agg [.own 0],V.v (.bool true)],[],[(0,aC (nV l t how))]⟩:=by
 obtain⟨hn,hp⟩:=wS hl
 have htl:t.length≤400:=by simp only [eO,Bool.and_eq_true,decide_eq_true_eq]at ht;exact ht.1
 have e1:=SC l hl
 have e2:=Dm t (by omega)
 rw [ht]at e2
 have e3:=Lp l (some 0) (by omega) (fun p h=>by have:=(hp p h).2.1;omega)
 have q1:¬how<0:=by omega
 have q2:¬2<how:=by omega
 generalize hE:yJ _ _ _=R
 unfold yJ at hE
 unfold nV
 by_cases h0:t= []
 ·rw [if_pos h0]
  subst h0
  simp only [show ints []= []from rfl]at hE e2
  simp [func146,f146,e1,e2,e3,q1,q2]at hE
  exact hE.symm
 rw [if_neg h0]
 have g1:t.length*8≤140737488355328:=by omega
 have g2:t.length≤4611686018427387904:=by omega
 have hlen:0<t.length:=List.length_pos_iff.2 h0
 cases l with
 | nil=>
  simp only [show aC []= []from rfl]at hE e1 e3
  have e4:aC [⟨t⟩]= [[.l (ints t)]]:=rfl
  simp only
  rw [e4]
  have rf:dV ([]:List (List D))=true:=rfl
  by_cases h1:how=0
  ·subst h1
   simp [func146,f146,e1,e2,e3,q1,q2,h0,g1,g2,rf]at hE
   exact hE.symm
  ·simp [func146,f146,e1,e2,e3,q1,q2,h0,h1,g1,g2,rf]at hE
   exact hE.symm
 | cons p l=>
  have hpt:=hp p (by simp)
  have hll:l.length≤5:=by simpa using hn
  have rf:dV (aC (p::l))=false:=by simp [iI,dV,sH]
  have g3:(1+(l.length+1))*24≤140737488355328:=by omega
  have g4:1+(l.length+1)≤4611686018427387904:=by omega
  have w1:=bM ((p.av.length:Int)+t.length) (by omega)
  simp only
  by_cases h1:how=0
  ·rw [if_pos (.inl h1)]
   subst h1
   by_cases h6:l.length=5
   ·simp [func146,f146,e1,e2,e3,q1,q2,h0,g1,g2,h6,rf]at hE
    exact hE.symm
   ·have h6i:¬(6:Int)<(l.length:Int)+1+1:=by omega
    have h6t:l.take 4=l:=List.take_of_length_le (by omega)
    simp [func146,f146,e1,e2,e3,q1,q2,h0,g1,g2,g3,g4,h6i,rf]at hE
    rw [show List.take 6 (⟨t⟩::p::l)=⟨t⟩::p::l.take 4 from rfl,h6t]
    exact hE.symm
  by_cases h7:p.av.length+t.length≤400
  ·rw [if_neg (by omega)]
   have h7i:(p.av.length:Int)+t.length≤400:=by omega
   have j1:=M4 p.av t (some 0) (some 1) (some 2) (by omega)
   have j2:=M4 t p.av (some 0) (some 1) (some 2) (by omega)
   rw [iI]at e1 e3 hE
   by_cases h2:how=2
   ·rw [if_neg (by omega)]
    subst h2
    simp [func146,f146,e1,e2,e3,h0,g1,g2,w1,h7i,j1,j2]at hE
    rw [←au]at hE
    exact hE.symm
   ·rw [if_pos (by omega)]
    simp [func146,f146,e1,e2,e3,q1,q2,h0,h1,h2,g1,g2,w1,h7i,j1]at hE
    rw [←au]at hE
    exact hE.symm
  ·rw [if_pos (by omega)]
   have h7i:¬(p.av.length:Int)+t.length≤400:=by omega
   by_cases h6:l.length=5
   ·simp [func146,f146,e1,e2,e3,q1,q2,h0,h1,g1,g2,w1,h7i,h6,rf]at hE
    exact hE.symm
   ·have h6i:¬(6:Int)<(l.length:Int)+1+1:=by omega
    have h6t:l.take 4=l:=List.take_of_length_le (by omega)
    simp [func146,f146,e1,e2,e3,q1,q2,h0,h1,g1,g2,g3,g4,w1,h7i,h6i,rf]at hE
    rw [show List.take 6 (⟨t⟩::p::l)=⟨t⟩::p::l.take 4 from rfl,h6t]
    exact hE.symm
theorem Gv (l:List dL)(h:iG l=true):pE [.agg [.aM (some 0) (aC l)]] [] []=some ⟨.own 0,[],[(0,ints (bE l))]⟩:=by
 have e1:=SC l h
 obtain⟨hn,hp⟩:=wS h
 unfold bE
 generalize hE:pE _ _ _=R
 unfold pE at hE
 cases l with
 | nil=>
  simp only [show aC []= []from rfl]at hE e1
  simp [func248,f248,e1]at hE
  simp [aZ]
  exact hE.symm
 | cons p l=>
  have hpt:=hp p (by simp)
  have g1:p.av.length*8≤140737488355328:=by omega
  have g2:p.av.length≤4611686018427387904:=by omega
  rw [iI]at e1 hE
  have n0:¬(l.length:Int)+1=0:=by omega
  simp [func248,f248,e1,g1,g2,n0]at hE
  simp
  exact hE.symm
section
variable (e:dF) (h:fV e)
include h
theorem Ct (a b how:Int)(F U:Nat)(ha:max 0 (min a e.ak.av.length)=F)(hb:max 0 (min b e.ak.av.length)=U)(h1:F≤U)(hw:0≤how∧how≤2):o9 [gL e,vI a,vI b,vI how] [] []=some (kR (mq e F U how)):=by
 have h2:U≤e.ak.av.length:=by omega
 have e1:=dw a e.ak.av.length (by omega)
 have e2:=dw b e.ak.av.length (by omega)
 rw [ha]at e1
 rw [hb]at e2
 have e3:=Cq e.ak.av e.ak.At h.line F U h1 h2
 obtain⟨c1,c2,c3⟩:=tX h.line h1 h2
 have hgo:=Jg h.line (f:=F) (u:=U)
 unfold mq
 unfold nW at c1 c2⊢
 by_cases hfu:F<U
 ·rw [if_pos hfu]
  have e4:=qC e h _ _ 2 c1 (by omega)
  have e5:=Ta e.aL.aA ((e.ak.av.drop F).take (U-F)) (Bc e how) h.ring hgo (by unfold Bc;split<;>omega)
  have hlt:((e.ak.av.take F++e.ak.av.drop U).length:Int)<e.ak.av.length:=by omega
  simp only [sF,sj]at e4⊢
  generalize rZ e (e.ak.av.take F++e.ak.av.drop U) 2=ul at*
  generalize jl e.bQ (e.ak.av.take F++e.ak.av.drop U) (cutAt e.ak.At F U)=ia at*
  generalize e.ak.av.take F++e.ak.av.drop U=X at*
  generalize (e.ak.av.drop F).take (U-F)=gone at*
  generalize nV e.aL.aA gone (Bc e how)=rg at*
  unfold Bc at e5
  clear h
  generalize hE:o9 _ _ _=R
  unfold o9 at hE
  by_cases hk:e.iO=2
  ·rw [if_pos hk]at e5
   simp only [gL,gO,hO,hk]at e4 hE
   simp [-au,func106,f106,e1,e2,e3,e4,e5,hlt]at hE
   exact hE.symm
  ·rw [if_neg hk]at e5
   simp [-au,func106,f106,e1,e2,e3,e4,e5,hlt,hk]at hE
   exact hE.symm
 ·rw [if_neg hfu]
  have e4:=Bf e h _ _ 2 c1 (by omega)
  have hlt:¬((e.ak.av.take F++e.ak.av.drop U).length:Int)<e.ak.av.length:=by omega
  unfold dI at e4⊢
  generalize sj e 0=x at*
  generalize e.ak.av.take F++e.ak.av.drop U=X at*
  generalize (e.ak.av.drop F).take (U-F)=gone at*
  clear h
  generalize hE:o9 _ _ _=R
  unfold o9 at hE
  by_cases hk:e.iO=2
  ·simp only [gL,gO,hO,hk]at e4 hE
   simp [-au,func106,f106,e1,e2,e3,e4,hlt]at hE
   exact hE.symm
  ·simp [-au,func106,f106,e1,e2,e3,e4,hlt,hk]at hE
   exact hE.symm
end
theorem fV.typing {e:dF}(h:fV e)(hv:e.Vi=true)(hm:¬e.bQ=3){t:List Int}{a:Int}(ht:bU t a=true):fV {sF e t a 0 with bQ:=1,ak:=⟨t,a⟩}:=by
 have hs:=h.set 0 ht (by omega)
 have hsk:=h.OI.resolve_left hm
 exact⟨ht,h.own,h.back,Ko,Ko, .inr (.inl ⟨.inl rfl,hv⟩),fun q=>absurd q.1 (by show ¬(1:Int)=2;decide), .inr ⟨rfl,rfl,rfl⟩, .inr rfl, .inl rfl, .inl rfl,h.find,z3,h.ring,hs.undo,h.Av,h.hit,h.OH,h.ql,h.qp, .inr hsk⟩
theorem fV.vi2 {e:dF}(h:fV e)(hm:e.bQ=2):e.Vi=true:=by
 rcases h.mode with h1|h1|h1
 ·omega
 ·exact h1.2
 ·omega
theorem fV.Lx {e:dF}(h:fV e){a:Nat}(ha:a≤e.ak.av.length):bU e.ak.av (a:Int)=true:=by
 obtain⟨h1,h2,h3,h4⟩:=h.aS
 exact gD h3 h4 (by omega) (by omega)
theorem fV.oL {e:dF}(h:fV e)(hm:e.bQ=2){a:Nat}(ha:a≤e.ak.av.length):fV (Proofs.YtlpdjhiggpblcaaGreat.oL e a):=
 h.typing (h.vi2 hm) (by omega) (h.Lx ha)
theorem fV.change {e:dF}(h:fV e)(hm:e.bQ=2)(op:Int){f u:Nat}(h1:f≤u)(h2:u≤e.ak.av.length):fV (iR e op f u).1:=by
 have hr:=Gi h.ring (Jg h.line (f:=f) (u:=u)) 0
 obtain⟨c1,c2,c3⟩:=tX h.line h1 h2
 unfold iR
 (first|refine gF (fun _=>?_) (fun _=>?_)|split)
 ·(first|refine gF (fun _=>?_) (fun _=>?_)|split)
  ·exact h.oL hm (by omega)
  ·exact h.Aa
 (first|refine gF (fun _=>?_) (fun _=>?_)|split)
 ·exact(h.Nh hr).put (h.Lx (by omega))
 (first|refine gF (fun _=>?_) (fun _=>?_)|split)
 ·exact(h.Nh hr).typing (h.vi2 hm) (by show ¬e.bQ=3;omega) c3
 ·exact(h.Nh hr).put c3
theorem OQ {n a u:Nat}(incl:Bool)(h1:a≤n)(h2:u≤n):min a u≤xR n a u incl∧xR n a u incl≤n:=by
 unfold xR
 (first|refine gF (fun _=>?_) (fun _=>?_)|split)
 ·rename_i hc
  have:=hc.2
  omega
 ·omega
theorem fV.move {e:dF}(h:fV e)(hm:e.bQ=2){u:Nat}(incl:Bool)(ht:u≤e.ak.av.length):fV (tT e u incl).1:=by
 obtain⟨h1,h2,h3,h4⟩:=h.aS
 have:=OQ incl h2 ht
 unfold tT
 (first|refine gF (fun _=>?_) (fun _=>?_)|split)
 ·exact h.go _
 ·exact h.change hm _ this.1 this.2
theorem Qb {t:List Int}{r how:Int}{a p:Nat}(h:a≤t.length)(hp:jA t r how a=some p):p<t.length:=by
 unfold jA at hp
 (first|(rcases kW hp with⟨_,hp⟩|⟨_,hp⟩)|split at hp)
 ·simp only at hp
  (first|(rcases kW hp with⟨_,hp⟩|⟨_,hp⟩)|split at hp)
  ·injection hp with hp;omega
  ·cases hp
 (first|(rcases kW hp with⟨_,hp⟩|⟨_,hp⟩)|split at hp)
 ·simp only at hp
  (first|(rcases kW hp with⟨_,hp⟩|⟨_,hp⟩)|split at hp)
  ·injection hp with hp;omega
  ·cases hp
 (first|(rcases kW hp with⟨_,hp⟩|⟨_,hp⟩)|split at hp)
 ·simp only at hp
  (first|(rcases kW hp with⟨_,hp⟩|⟨_,hp⟩)|split at hp)
  ·injection hp with hp;omega
  ·cases hp
 (first|(rcases kW hp with⟨_,hp⟩|⟨_,hp⟩)|split at hp)
 ·simp only at hp
  (first|(rcases kW hp with⟨_,hp⟩|⟨_,hp⟩)|split at hp)
  ·injection hp with hp;omega
  ·cases hp
 ·cases hp
theorem Ka {t:List Int}{r how:Int}:∀(n a p:Nat),a≤t.length→tN t r how n a=some p→p≤t.length
 | 0,a,p,h,hp=>by injection hp with hp;omega
 | n+1,a,p,h,hp=>by
  unfold tN at hp
  split at hp
  ·cases hp
  ·rename_i q hq
   exact Ka n q p (Nat.le_of_lt (Qb h hq)) hp
theorem fV.ac0 {e:dF}(h:fV e)(hm:e.bQ=2)(r how:Int)(n:Nat):fV (qZ e r how n).1:=by
 obtain⟨h1,h2,h3,h4⟩:=h.aS
 unfold qZ
 cases hp:tN e.ak.av r how n (Proofs.YtlpdjhiggpblcaaGreat.aS e)with
 | none=>exact h.Aa
 | some p=>exact h.move hm _ (Ka n _ p h2 hp)
theorem Kc {t:List Int}(h:t.all iB=true){r:Int}(hr:iB r=true)(f:Nat):∀j,(pQ t f r j).length=t.length∧(pQ t f r j).all iB=true
 | 0=>⟨rfl,h⟩
 | j+1=>by
  have ih:=Kc h hr f j
  exact⟨by unfold pQ;rw [List.length_set];exact ih.1,Ja ih.2 _ hr⟩
theorem ah1 {r:Int}(h:iB r=true):iB (aao r)=true:=by
 unfold aao
 (first|refine gF (fun _=>?_) (fun _=>?_)|split)
 ·rename_i h1;have:=(J5 (r:=r) (by unfold isLet;rw [h1];rfl)).1;unfold upI at this;rw [if_pos h1]at this;exact this
 (first|refine gF (fun _=>?_) (fun _=>?_)|split)
 ·rename_i h1 h2
  have:=(J5 (r:=r) (by unfold isLet;rw [h2];simp)).2;unfold Na at this;rw [if_pos h2]at this;exact this
 ·exact h
theorem Ke {t:List Int}(h:t.all iB=true)(f:Nat):∀j,f+j≤t.length→(ru t f j).length=t.length∧(ru t f j).all iB=true
 | 0,_=>⟨rfl,h⟩
 | j+1,hj=>by
  have ih:=Ke h f j (by omega)
  refine⟨by unfold ru;rw [List.length_set];exact ih.1,Ja ih.2 _ (ah1 ?_)⟩
  have hl:f+j<(ru t f j).length:=by omega
  rw [getD_at hl]
  exact List.all_eq_true.1 ih.2 _ (List.getElem_mem hl)
theorem fV.gW {e:dF}(h:fV e):1≤Proofs.YtlpdjhiggpblcaaGreat.gW e∧Proofs.YtlpdjhiggpblcaaGreat.gW e≤999∧(Proofs.YtlpdjhiggpblcaaGreat.gW e:Int)=min (max e.bD 1*max e.bN 1) 999:=by
 have ah2:1*1≤max e.bD 1*max e.bN 1:=Int.mul_le_mul (by omega) (by omega) (by omega) (by omega)
 unfold Proofs.YtlpdjhiggpblcaaGreat.gW
 omega
theorem Tc (r:Int): -1≤iZ r∧iZ r≤3:=by
 unfold iZ
 (repeat' (first|refine gF (fun _=>?_) (fun _=>?_)|split))
 all_goals omega
theorem OT {fr:Int}(r:Int)(h:dn fr=true)(hr:0≤iZ r):dN fr (iZ r)=true:=by
 have:=Tc r
 have h0:¬fr=0:=fun e=>by subst e;exact absurd h (by decide)
 unfold dN
 simp only [h,bB.2 (show 0≤iZ r∧iZ r≤3 by omega),Bool.and_true,Bool.or_eq_true,bne_iff_ne,ne_eq]
 exact .inr h0
theorem LA {r:Int}(h:xM r=true)(h2:¬r=114):0≤iZ r:=by
 simp only [xM,Bool.or_eq_true,beq_iff_eq]at h
 unfold iZ
 (repeat' (first|refine gF (fun _=>?_) (fun _=>?_)|split))
 all_goals omega
theorem fV.find' {e:dF}(h:fV e){r how:Int}(hf:dN r how=true):fV {e with dY:=r,bL:=how}:=
 ⟨h.line,h.own,h.back,h.cnt,h.za,h.mode,h.end_,h.cmd,h.opz,h.op,h.wait,hf,h.last,h.ring,h.undo,h.Av,h.hit,h.OH,h.ql,h.qp,h.OI⟩
theorem fV.waited {e:dF}(h:fV e)(hm:e.bQ=2)(hw:¬e.fC=0){k r:Int}(hk:jk k r=true){n:Nat}(hn:1≤n):fV (xS e k r n).1:=by
 obtain⟨h1,h2,h3,h4⟩:=h.aS
 unfold xS
 (first|refine gF (fun _=>?_) (fun _=>?_)|split)
 ·exact h.Aa
 rename_i hk1
 have hk1:k=1:=Classical.not_not.1 hk1
 subst hk1
 have hp:dn r=true:=hk
 (first|refine gF (fun _=>?_) (fun _=>?_)|split)
 ·(first|refine gF (fun _=>?_) (fun _=>?_)|split)
  ·exact h.Aa
  ·obtain⟨r1,r2⟩:=Kc h4 (om hp) (Proofs.YtlpdjhiggpblcaaGreat.aS e) n
   exact h.put (gD (by omega) r2 (by omega) (by omega))
 (first|refine gF (fun _=>?_) (fun _=>?_)|split)
 ·exact h.Aa
 ·rename_i hw2 _
  exact(h.find' (OT e.fC hp (LA (h.wait.resolve_left hw) hw2))).ac0 hm _ _ _
theorem Ab {t:List Int}{a n:Nat}{r:Int}{p:Nat×Bool}(h:a≤t.length)(hp:gN t a r n=some p):p.1≤t.length:=by
 unfold gN at hp
 (first|(rcases kW hp with⟨_,hp⟩|⟨_,hp⟩)|split at hp)
 ·injection hp with hp;subst hp;show a-n≤_;omega
 (first|(rcases kW hp with⟨_,hp⟩|⟨_,hp⟩)|split at hp)
 ·injection hp with hp;subst hp;show min (a+n) t.length≤_;omega
 (first|(rcases kW hp with⟨_,hp⟩|⟨_,hp⟩)|split at hp)
 ·injection hp with hp;subst hp;exact rO (fun a ha=>(QS ha).2) _ _ h
 (first|(rcases kW hp with⟨_,hp⟩|⟨_,hp⟩)|split at hp)
 ·injection hp with hp;subst hp;exact rO (fun a ha=>Nat.le_trans BH ha) _ _ h
 (first|(rcases kW hp with⟨_,hp⟩|⟨_,hp⟩)|split at hp)
 ·injection hp with hp;subst hp;exact rO (fun a ha=>Nf.1) _ _ h
 (first|(rcases kW hp with⟨_,hp⟩|⟨_,hp⟩)|split at hp)
 ·injection hp with hp;subst hp;exact Nat.zero_le _
 (first|(rcases kW hp with⟨_,hp⟩|⟨_,hp⟩)|split at hp)
 ·injection hp with hp;subst hp;exact(cK _ _).1
 (first|(rcases kW hp with⟨_,hp⟩|⟨_,hp⟩)|split at hp)
 ·injection hp with hp;subst hp;show t.length-1≤_;omega
 (first|(rcases kW hp with⟨_,hp⟩|⟨_,hp⟩)|split at hp)
 ·injection hp with hp;subst hp;show min (n-1) t.length≤_;omega
 ·cases hp
theorem fV.XV {e:dF}(h:fV e)(hm:e.bQ=2)(r:Int)(n:Nat):fV (lY e r n).1:=by
 obtain⟨h1,h2,h3,h4⟩:=h.aS
 unfold lY
 cases hp:gN e.ak.av (Proofs.YtlpdjhiggpblcaaGreat.aS e) r n with
 | none=>exact h.move hm _ (Nat.zero_le _)
 | some p=>exact h.move hm _ (Ab h2 hp)
theorem fV.special {e:dF}(h:fV e)(hm:e.bQ=2){f:Int}{l:List ByteArray}(hh:iQ f l)(k r:Int)(n:Nat):fV (xU e f l k r n).1:=by
 obtain⟨h1,h2,h3,h4⟩:=h.aS
 unfold xU
 (first|refine gF (fun _=>?_) (fun _=>?_)|split)
 ·exact h
 (first|refine gF (fun _=>?_) (fun _=>?_)|split)
 ·(first|refine gF (fun _=>?_) (fun _=>?_)|split)
  ·exact h.Aa
  ·exact h.idle _ h.last
 (first|refine gF (fun _=>?_) (fun _=>?_)|split)
 ·exact h.step hh _
 (first|refine gF (fun _=>?_) (fun _=>?_)|split)
 ·exact h.step hh _
 (first|refine gF (fun _=>?_) (fun _=>?_)|split)
 ·exact h.XV hm _ _
 (first|refine gF (fun _=>?_) (fun _=>?_)|split)
 ·exact h.XV hm _ _
 (first|refine gF (fun _=>?_) (fun _=>?_)|split)
 ·exact h.XV hm _ _
 (first|refine gF (fun _=>?_) (fun _=>?_)|split)
 ·exact h.XV hm _ _
 (first|refine gF (fun _=>?_) (fun _=>?_)|split)
 ·exact h.change hm _ (by omega) (by omega)
 (first|refine gF (fun _=>?_) (fun _=>?_)|split)
 ·(first|refine gF (fun _=>?_) (fun _=>?_)|split)
  ·exact h
  (first|refine gF (fun _=>?_) (fun _=>?_)|split)
  ·exact h
  (first|refine gF (fun _=>?_) (fun _=>?_)|split)
  ·exact h
  (first|refine gF (fun _=>?_) (fun _=>?_)|split)
  ·exact h.ah0
  ·exact h.Aa
 ·exact h.Aa
theorem Nj {t:List Int}(h:t.all iB=true):∀n,(lZ n t).length=t.length*n∧(lZ n t).all iB=true
 | 0=>⟨rfl,rfl⟩
 | n+1=>by
  have ih:=Nj h n
  have e:lZ (n+1) t=t++lZ n t:=by unfold lZ;rw [List.replicate_succ,List.flatten_cons]
  rw [e]
  refine⟨by rw [List.length_append,ih.1,Nat.mul_succ];omega,?_⟩
  rw [List.all_append,h,ih.2];rfl
theorem fV.paste {e:dF}(h:fV e){a:Nat}(ha:a≤e.ak.av.length){n:Nat}(hn:1≤n):fV (Am e a n).1:=by
 obtain⟨h1,h2,h3,h4⟩:=h.aS
 unfold Am
 (first|refine gF (fun _=>?_) (fun _=>?_)|split)
 ·exact h.Aa
 ·rename_i hc
  have hc1:¬bE e.aL.aA= []:=fun q=>hc (.inl q)
  have hc2:e.ak.av.length+(bE e.aL.aA).length*n≤400:=by
   rcases Nat.lt_or_ge 400 (e.ak.av.length+(bE e.aL.aA).length*n)with q|q
   ·exact absurd (.inr q) hc
   ·exact q
  obtain⟨r1,r2⟩:=Nj (xW h.ring).1 n
  have hpos:1*1≤(bE e.aL.aA).length*n:=Nat.mul_le_mul (List.length_pos_iff.2 hc1) hn
  generalize (bE e.aL.aA).length*n=m at*
  exact h.put ((zx (by omega) h4 r2 ha).2 _ (by omega) (by omega))
theorem fV.ah3 {e:dF}(h:fV e)(n:Nat):fV (uF e n).1:=by
 obtain⟨h1,h2,h3,h4⟩:=h.aS
 unfold uF
 (first|refine gF (fun _=>?_) (fun _=>?_)|split)
 ·exact h.Aa
 ·obtain⟨r1,r2⟩:=Ke h4 (Proofs.YtlpdjhiggpblcaaGreat.aS e) (min (Proofs.YtlpdjhiggpblcaaGreat.aS e+n) e.ak.av.length-Proofs.YtlpdjhiggpblcaaGreat.aS e) (by omega)
  exact h.put (gD (by omega) r2 (by omega) (by omega))
theorem fV.aeG {e:dF}(h:fV e)(hm:e.bQ=2){r:Int}(hr:xM r=true):fV {e with fC:=r}:=
 ⟨h.line,h.own,h.back,h.cnt,h.za,h.mode,h.end_, .inl hm,h.opz,h.op, .inr hr,h.find,h.last,h.ring,h.undo,h.Av,h.hit,h.OH,h.ql,h.qp,h.OI⟩
theorem ah4 {r:Int}(h:0≤iZ r):xM r=true:=by
 unfold iZ at h
 simp only [xM,Bool.or_eq_true,beq_iff_eq]
 split at h
 ·simp [*]
 split at h
 ·simp [*]
 split at h
 ·simp [*]
 split at h
 ·simp [*]
 ·omega
theorem fV.begun {e:dF}(h:fV e)(hm:e.bQ=2){r:Int}{n:Nat}{p:dF×Int}(hp:Gn e r n=some p):fV p.1:=by
 unfold Gn at hp
 (first|(rcases kW hp with⟨_,hp⟩|⟨_,hp⟩)|split at hp)
 ·rename_i hc
  injection hp with hp;subst hp
  refine h.digit (bB.2 ?_)
  rcases hc with hc|⟨hc, -⟩
  ·have:=bB.1 hc;omega
  ·omega
 (first|(rcases kW hp with⟨_,hp⟩|⟨_,hp⟩)|split at hp)
 ·rename_i hc
  injection hp with hp;subst hp
  exact h.aeG hm (ah4 hc)
 (first|(rcases kW hp with⟨_,hp⟩|⟨_,hp⟩)|split at hp)
 ·injection hp with hp;subst hp
  (first|refine gF (fun _=>?_) (fun _=>?_)|split)
  ·exact h.Aa
  ·exact h.ac0 hm _ _ _
 (first|(rcases kW hp with⟨_,hp⟩|⟨_,hp⟩)|split at hp)
 ·injection hp with hp;subst hp
  (first|refine gF (fun _=>?_) (fun _=>?_)|split)
  ·exact h.Aa
  ·exact h.ac0 hm _ _ _
 (first|(rcases kW hp with⟨_,hp⟩|⟨_,hp⟩)|split at hp)
 ·rename_i hc
  injection hp with hp;subst hp
  have h0:¬r=0:=fun q=>by rw [q]at hc;exact absurd hc.2 (by decide)
  exact⟨h.line,h.own,h.back,Ko,h.cnt,h.mode,h.end_, .inl hm, .inl h0, .inr hc.2,h.wait,h.find,h.last,h.ring,h.undo,h.Av,h.hit,h.OH,h.ql,h.qp,h.OI⟩
 ·cases hp
theorem fV.begin {e:dF}(h:fV e)(hm:e.bQ=2)(r:Int):fV (Jd e r).1:=by
 obtain⟨h1,h2,h3,h4⟩:=h.aS
 unfold Jd
 (first|refine gF (fun _=>?_) (fun _=>?_)|split)
 ·exact h.oL hm h2
 (first|refine gF (fun _=>?_) (fun _=>?_)|split)
 ·exact h.oL hm (cK _ _).1
 (first|refine gF (fun _=>?_) (fun _=>?_)|split)
 ·exact h.oL hm (by omega)
 (first|refine gF (fun _=>?_) (fun _=>?_)|split)
 ·exact h.oL hm (Nat.le_refl _)
 ·exact h.Aa
theorem fV.ajp {e:dF}(h:fV e)(hm:e.bQ=2){f:Int}{l:List ByteArray}(hh:iQ f l)(r:Int){n:Nat}(hn:1≤n):fV (zY e f l r n).1:=by
 obtain⟨h1,h2,h3,h4⟩:=h.aS
 unfold zY
 (first|refine gF (fun _=>?_) (fun _=>?_)|split)
 ·exact h.change hm _ (by omega) (by omega)
 (first|refine gF (fun _=>?_) (fun _=>?_)|split)
 ·exact h.change hm _ (by omega) (by omega)
 (first|refine gF (fun _=>?_) (fun _=>?_)|split)
 ·exact h.change hm _ (by omega) (by omega)
 (first|refine gF (fun _=>?_) (fun _=>?_)|split)
 ·exact h.change hm _ (by omega) (by omega)
 (first|refine gF (fun _=>?_) (fun _=>?_)|split)
 ·exact h.change hm _ (by omega) (by omega)
 (first|refine gF (fun _=>?_) (fun _=>?_)|split)
 ·exact h.change hm _ (by omega) (by omega)
 (first|refine gF (fun _=>?_) (fun _=>?_)|split)
 ·exact h.aeG hm (by decide)
 (first|refine gF (fun _=>?_) (fun _=>?_)|split)
 ·exact h.paste (by omega) hn
 (first|refine gF (fun _=>?_) (fun _=>?_)|split)
 ·exact h.paste h2 hn
 (first|refine gF (fun _=>?_) (fun _=>?_)|split)
 ·exact h.ah3 _
 (first|refine gF (fun _=>?_) (fun _=>?_)|split)
 ·exact h.aj6
 (first|refine gF (fun _=>?_) (fun _=>?_)|split)
 ·exact h.step hh _
 (first|refine gF (fun _=>?_) (fun _=>?_)|split)
 ·exact h.step hh _
 (first|refine gF (fun _=>?_) (fun _=>?_)|split)
 ·exact h.ah0
 ·exact h.begin hm r
theorem fV.command {e:dF}(h:fV e)(hm:e.bQ=2){f:Int}{l:List ByteArray}(hh:iQ f l)(r:Int){n:Nat}(hn:1≤n):fV (tV e f l r n).1:=by
 obtain⟨h1,h2,h3,h4⟩:=h.aS
 unfold tV
 cases hb:Gn e r n with
 | some p=>exact h.begun hm hb
 | none=>
  simp only
  (first|refine gF (fun _=>?_) (fun _=>?_)|split)
  ·exact h.change hm _ (Nat.zero_le _) (Nat.le_refl _)
  cases hp:gN e.ak.av (Proofs.YtlpdjhiggpblcaaGreat.aS e) r n with
  | some p=>exact h.move hm _ (Ab h2 hp)
  | none=>
   simp only
   (first|refine gF (fun _=>?_) (fun _=>?_)|split)
   ·exact h.Aa
   ·exact h.ajp hm hh r hn
theorem fV.esc {e:dF}(h:fV e)(hm:e.bQ=1):fV (ajn e).1:=by
 obtain⟨h1,h2,h3,h4⟩:=h.aS
 have hv:e.Vi=true:=by
  rcases h.mode with h1|h1|h1
  ·omega
  ·exact h1.2
  ·omega
 have hc:=h.cmd.resolve_left (by omega)
 have hs:=h.OI.resolve_left (by omega)
 refine⟨gD h3 h4 (by show 0≤max (e.ak.At-1) 0;omega) (by show max (e.ak.At-1) 0≤e.ak.av.length;omega),h.own,h.back,Ko,h.za, .inr (.inl ⟨.inr rfl,hv⟩),?_, .inl rfl,h.opz,h.op,h.wait,h.find,z3,h.ring,h.undo,h.Av,h.hit,h.OH,h.ql,h.qp, .inr hs⟩
 rintro ⟨-,q⟩
 have q:atEnd e.ak.av (max (e.ak.At-1) 0)=true:=q
 simp only [atEnd,Bool.and_eq_true,decide_eq_true_eq,beq_iff_eq]at q
 omega
theorem fV.vi_ {e:dF}(h:fV e)(hm:e.bQ=1∨e.bQ=2){f:Int}{l:List ByteArray}(hh:iQ f l){k r:Int}(hk:jk k r=true):fV (viE e f l k r).1:=by
 obtain⟨hn, -, -⟩:=h.gW
 unfold viE
 (first|refine gF (fun _=>?_) (fun _=>?_)|split)
 ·rename_i hm
  cases hp:pO e f l k r with
  | some p=>exact h.plain hh hk hp
  | none=>
   simp only
   (first|refine gF (fun _=>?_) (fun _=>?_)|split)
   ·exact h.esc hm
   ·exact h.Aa
 rename_i hm1
 have hm2:e.bQ=2:=hm.resolve_left hm1
 (first|refine gF (fun _=>?_) (fun _=>?_)|split)
 ·exact h.waited hm2 (by assumption) hk hn
 (first|refine gF (fun _=>?_) (fun _=>?_)|split)
 ·exact h.special hm2 hh _ _ _
 ·exact h.command hm2 hh _ hn
theorem fV.left {e:dF}(h:fV e):fV (xV e):=by
 obtain⟨h1,h2,h3,h4⟩:=h.aS
 unfold xV
 have hz:¬e.bQ=2→e.Op=0∧e.fC=0∧e.bN=0:=fun q=>h.cmd.resolve_left q
 obtain⟨c1,c2⟩:=Gs (mode:=if e.Vi=true then 2 else 0) h.line
 refine⟨c1,h.own,rfl,h.cnt,h.za,?_,c2,?_,h.opz,h.op,h.wait,h.find,h.last,h.ring,h.undo,h.Av,⟨by show(0:Int)≤0;omega,by show(0:Int)≤1000000060;omega⟩,h.OH,Nat.zero_le _,rfl, .inr ⟨rfl,rfl,rfl⟩⟩
 ·show((if e.Vi=true then(2:Int)else 0)=0∧e.Vi=false)∨(((if e.Vi=true then(2:Int)else 0)=1∨(if e.Vi=true then(2:Int)else 0)=2)∧e.Vi=true)∨(if e.Vi=true then(2:Int)else 0)=3
  cases e.Vi
  ·exact .inl ⟨rfl,rfl⟩
  ·exact .inr (.inl ⟨.inr rfl,rfl⟩)
 ·show(if e.Vi=true then(2:Int)else 0)=2∨(e.Op=0∧e.fC=0∧e.bN=0)
  by_cases hv:e.Vi=true
  ·rw [if_pos hv];exact .inl rfl
  ·right
   apply hz
   intro hm
   exact hv (h.vi2 hm)
theorem Dq (r:Int)(l:List Int):bJ (r::l)=aY r++bJ l:=by unfold bJ;rw [List.flatMap_cons]
theorem Gw:∀(l t:List Int) (rest:List UInt8),(∀r∈l,mg r=true)→(∀r∈t,mg r=true)→bJ t=bJ l++rest→∃t2,t=l++t2∧bJ t2=rest
 | [],t,rest,_,_,h=>⟨t,rfl,h⟩
 | r::l,[],rest,h1,_,h=>by
  have hp:=Lr (h1 r (by simp))
  rw [Dq]at h
  have:=congrArg List.length h
  simp [bJ]at this
  omega
 | r::l,x::t,rest,h1,h2,h=>by
  rw [Dq,Dq,List.append_assoc]at h
  have d1:=I6 (h2 x (by simp)) (bJ t)
  rw [h,I6 (h1 r (by simp))]at d1
  have hr:r=x:=congrArg Prod.fst (Option.some.inj d1)
  subst hr
  obtain⟨t2,e1,e2⟩:=Gw l t rest (fun y hy=>h1 y (by simp [hy])) (fun y hy=>h2 y (by simp [hy])) (List.append_cancel_left h)
  exact⟨t2,by rw [e1];rfl,e2⟩
theorem ac1 {b:List UInt8}(h:qY b= []):b=bJ (mY b)∧∀r∈mY b,mg r=true:=by
 have:=tO b
 rw [h]at this
 exact⟨by have:=this.1;rwa [List.append_nil]at this,this.2.1⟩
theorem xX {b:List UInt8}{t:List Int}(h:Reads b t []):mY b=t∧qY b= []:=by
 obtain⟨h1,h2, -⟩:=h
 rw [List.append_nil]at h1
 obtain⟨q1,q2,q3⟩:=tO b
 obtain⟨t2,e1,e2⟩:=Gw (mY b) t (qY b) q2 h2 (by rw [←h1,←q1])
 cases t2 with
 | nil=>exact⟨by rw [e1,List.append_nil],e2.symm⟩
 | cons x t2=>
  exfalso
  rw [←e2,Dq,I6 (h2 x (by rw [e1];simp))]at q3
  cases q3
theorem Td {b:List UInt8}{t:List Int}(h:Reads b t [])(i:Nat)(s:ByteArray)(hs:s.data.toList=b.take i):(su s).length≤t.length:=by
 unfold su
 (first|refine gF (fun _=>?_) (fun _=>?_)|split)
 ·rename_i hr
  obtain⟨q1,q2⟩:=ac1 hr
  obtain⟨h1,h2, -⟩:=h
  rw [List.append_nil]at h1
  obtain⟨t2,e1, -⟩:=Gw (mY s.data.toList) t (b.drop i) q2 h2 (by rw [←q1,hs,←h1,List.take_append_drop])
  rw [e1,List.length_append]
  omega
 ·exact Nat.zero_le _
theorem Jm {f:Int}{sub:List UInt8}{fr:Int}{l:List ByteArray}(hf:1≤f):∀n:Nat,jc f sub fr l n=0∨∃k:Nat,k<n∧jc f sub fr l n=f+k
 | 0=> .inl rfl
 | n+1=>by
  unfold jc
  (first|refine gF (fun _=>?_) (fun _=>?_)|split)
  ·exact .inr ⟨n,by omega,rfl⟩
  ·rcases Jm hf n with h|⟨k,h1,h2⟩
   ·exact .inl h
   ·exact .inr ⟨k,by omega,h2⟩
theorem fV.shown {e x:dF}(h:fV e)(hm:e.bQ=3){f:Int}{l:List ByteArray}(hh:iQ f l){n:Int}{q:List Int}(hq:q.all dn=true)(hs:nA e f l n q=some x):fV x:=by
 have h1:=hh.first
 have h2:=hh.len
 unfold nA at hs
 split at hs
 ·rename_i Kq
  split at hs
  ·cases hs
  rename_i s hg
  split at hs
  ·cases hs
  rename_i t ht
  split at hs
  ·rename_i hi
   injection hs with hs
   subst hs
   obtain⟨tok,tr⟩:=J6 ht
   have hn:f≤n∧n≤f+l.length-1:=by
    unfold pK at hg
    split at hg
    ·assumption
    ·cases hg
   have hext:(s.extract 0 (Lib.index s.data.toList (bJ q)).toNat).data.toList=s.data.toList.take (Lib.index s.data.toList (bJ q)).toNat:=by
    simp [ByteArray.data_extract]
   have hle:=Td tr _ _ hext
   simp only [eO,Bool.and_eq_true,decide_eq_true_eq]at tok
   refine⟨gD tok.1 tok.2 (Int.natCast_nonneg _) (Int.ofNat_le.2 hle),?_,h.back,h.cnt,h.za,h.mode,?_,h.cmd,h.opz,h.op,h.wait,h.find,h.last,h.ring,rfl,⟨by show 0≤n;omega,by show n≤1000000060;omega⟩,⟨by show 0≤n;omega,by show n≤1000000060;omega⟩, .inl (by show ¬n=0;omega),Kq,hq, .inl hm⟩
   ·show bU (if e.kr=0 then e.bX else e.gX).av (if e.kr=0 then e.bX else e.gX).At=true
    (first|refine gF (fun _=>?_) (fun _=>?_)|split)
    ·exact h.back
    ·exact h.own
   ·rintro ⟨q1, -⟩
    have q1:e.bQ=2:=q1
    omega
  ·cases hs
 ·cases hs
theorem fV.alM {e:dF}(h:fV e)(hm:e.bQ=3){f:Int}{l:List ByteArray}(hh:iQ f l){q:List Int}(hq:q.all dn=true)(fr:Int):fV (Je e f l q fr).1:=by
 unfold Je
 cases hs:nA e f l (jc f (bJ q) (if e.lV=0 then gI f l else fr) l l.length) q with
 | none=>exact h
 | some x=>exact h.shown hm hh hq hs
theorem fV.search {e:dF}(h:fV e)(hm:e.bQ=3){f:Int}{l:List ByteArray}(hh:iQ f l){k r:Int}(hk:jk k r=true):fV (zu e f l k r).1:=by
 have hz:=h.cmd.resolve_left (show ¬e.bQ=2 by omega)
 unfold zu
 (first|refine gF (fun _=>?_) (fun _=>?_)|split)
 ·rename_i hk1
  subst hk1
  refine h.alM hm hh ?_ _
  have hp:dn r=true:=hk
  rw [List.all_append,h.qp]
  simp [hp]
 (first|refine gF (fun _=>?_) (fun _=>?_)|split)
 ·(first|refine gF (fun _=>?_) (fun _=>?_)|split)
  ·exact h
  ·exact h.alM hm hh h.qp _
 (first|refine gF (fun _=>?_) (fun _=>?_)|split)
 ·(first|refine gF (fun _=>?_) (fun _=>?_)|split)
  ·exact h
  ·refine⟨h.line,h.own,h.back,h.cnt,h.za,h.mode,h.end_,h.cmd,h.opz,h.op,h.wait,h.find,h.last,h.ring,h.undo,h.Av,h.hit,h.OH,?_,List.all_eq_true.2 fun x hx=>List.all_eq_true.1 h.qp x (List.dropLast_subset _ hx), .inl hm⟩
   show e.bO.dropLast.length≤40
   rw [List.length_dropLast]
   have:=h.ql
   omega
 (first|refine gF (fun _=>?_) (fun _=>?_)|split)
 ·exact h.left
 (first|refine gF (fun _=>?_) (fun _=>?_)|split)
 ·refine fV.left (e:= {e with ak:=e.bX,kr:=0,gX:=⟨[],0⟩}) ?_
  refine⟨h.back,rfl,h.back,h.cnt,h.za,h.mode,?_,h.cmd,h.opz,h.op,h.wait,h.find,h.last,h.ring,h.undo,⟨by show(0:Int)≤0;omega,by show(0:Int)≤1000000060;omega⟩,h.hit, .inr rfl,h.ql,h.qp, .inl hm⟩
  rintro ⟨q1, -⟩
  have q1:e.bQ=2:=q1
  omega
 ·exact h.left
theorem fV.key {e:dF}(h:fV e){f:Int}{l:List ByteArray}(hh:iQ f l){k r:Int}(hk:jk k r=true):fV (vZ e f l k r).1:=by
 unfold vZ
 (first|refine gF (fun _=>?_) (fun _=>?_)|split)
 ·exact h.emacs hh hk
 (first|refine gF (fun _=>?_) (fun _=>?_)|split)
 ·exact h.search (by assumption) hh hk
 ·refine h.vi_ ?_ hh hk
  rcases h.mode with h1|h1|h1
  ·omega
  ·exact h1.1
  ·omega
theorem Jo (f:Int)(l:List ByteArray)(h:iQ f l)(n:Int):sU [.agg [vI f, .aM (some 0) (strs l)],vI n] [] []=some (match pK f l n with|some s=>⟨.fT [V.v (.string s),V.v (.bool true)],[],[]⟩|none=>⟨.fT [V.v (.string (⟨#[]⟩)),V.v (.bool false)],[],[]⟩):=by
 unfold pK
 by_cases hc:f≤n∧n≤f+l.length-1
 ·rw [if_pos hc]
  have hk:(n-f).toNat<l.length:=by omega
  rw [List.getElem?_eq_getElem hk]
  have e:=acN f l h (n-f).toNat hk
  have:f+((n-f).toNat:Int)=n:=by omega
  rw [this]at e
  exact e
 ·rw [if_neg hc]
  exact Us f l h n (by omega)
theorem pR (s:ByteArray)(hs:s.size≤65536):wH [V.v (.string s)] [] []=some (match mD s with|some t=>⟨.fT [.agg [.own 0,vI (t.length:Int)],V.v (.bool true)],[],[(0,ints t)]⟩|none=>⟨.fT [.agg [.own 0,vI 0],V.v (.bool false)],[],[(0,[])]⟩):=by
 have hr:=tO s.data.toList
 unfold mD
 by_cases hc:qY s.data.toList= []∧eO (mY s.data.toList)=true
 ·rw [if_pos hc]
  rw [hc.1]at hr
  exact afO s _ hr hc.2 hs
 ·rw [if_neg hc]
  have e1:=Ls s _ _ hr hs
  generalize hE:wH _ _ _=R
  unfold wH at hE
  by_cases hz:qY s.data.toList= []
  ·have ht:eO (mY s.data.toList)=false:=by
    cases q:eO (mY s.data.toList)
    ·rfl
    ·exact absurd ⟨hz,q⟩ hc
   have hlen:=hr.len
   have hsz:s.data.toList.length=s.size:=by rw [Array.length_toList];rfl
   have e2:=bP (mY s.data.toList) (mY s.data.toList).length (by omega)
   rw [show bU (mY s.data.toList) (mY s.data.toList).length=false from by unfold bU;rw [ht];rfl]at e2
   rw [hz]at e1
   simp only [List.isEmpty_nil,if_true]at e1
   generalize mY s.data.toList=t at*
   simp [func232,f232,e1,e2]at hE
   exact hE.symm
  ·have hz':(qY s.data.toList).isEmpty=false:=by simpa using hz
   rw [hz']at e1
   simp only [Bool.false_eq_true,if_false]at e1
   simp [func232,f232,e1]at hE
   exact hE.symm
abbrev sR (o:Option dF):Cw:=match o with
 | some x=>⟨.fT [gO x,V.v (.bool true)],[],(hO x)⟩
 | none=>⟨.fT [.agg [V.v (.bool false),vI 0, .own 0,vI 0,vI 0,vI 0,vI 0,vI 0,vI 0,vI 0,vI 0, .own 1, .own 2,vI 0, .own 3,vI 0, .own 4,vI 0, .own 5,vI 0],V.v (.bool false)],[],[(0,[]),(1,[]),(2,[]),(3,[]),(4,[]),(5,[])]⟩
theorem rT {f:Int}{l:List ByteArray}(h:iQ f l){n:Int}{s:ByteArray}(hs:pK f l n=some s):1≤s.size∧s.size≤1000:=by
 unfold pK at hs
 split at hs
 ·obtain⟨hk,e⟩:=List.getElem?_eq_some_iff.1 hs
  exact h.each s (by rw [←e];exact List.getElem_mem hk)
 ·cases hs
theorem afT (t:List Int)(a mode:Int)(h:bU t a=true):kI [.agg [.aM (some 0) (ints t),vI a],vI mode] [] []=some ⟨.agg [.aM (some 0) (ints t),vI (jl mode t a)],[],[]⟩:=by
 obtain⟨h1,h2,h3,h4⟩:=bS h
 exact xO t a mode (by omega)
section
variable (e:dF) (h:fV e) {f:Int} {l:List ByteArray} (hh:iQ f l)
include h hh
theorem afU (Af:Int)(hb:Af=1∨Af= -1):dO [gL e,aH f l,vI Af] [] []=some (sR (tQ e f l Af)):=by
 have h1:=hh.first
 have h2:=hh.len
 have ani:=h.Av
 have e1:=SH e (fA.2 h)
 have e2:=ze e (NM.of (fA.2 h)) 0
 have e3:=P8 f l hh
 have hlast:0≤gI f l∧gI f l≤1000000059:=by unfold gI;split<;>omega
 have e6:=j4 e.ak.av (some 0) e.ak.At (by have:=(bS h.line).1;omega)
 have e7:=j4 e.gX.av (some 0) e.gX.At (by have:=(bS h.own).1;omega)
 have e8:=afT e.gX.av e.gX.At e.bQ h.own
 have hzl:=pR ⟨#[]⟩ (by decide)
 have hz:mD ⟨#[]⟩=some []:=by
  unfold mD
  obtain⟨q1,q2⟩:=xX reads_nil
  rw [q1,q2,if_pos ⟨rfl,by decide⟩]
 rw [hz]at hzl
 simp only [aZ,List.length_nil,Int.natCast_zero]at hzl
 have hstep:KI e f l=if e.kr=0 then gI f l+1 else e.kr:=rfl
 unfold tQ
 generalize gI f l=last at*
 have w1:=bM (last+1) (by omega)
 have w2:=bM (e.kr+1) (by omega)
 by_cases hc:Af=1∧¬e.kr=0∧e.kr=last
 ·rw [if_pos hc]
  obtain⟨rfl,c2,c3⟩:=hc
  subst c3
  generalize hE:dO _ _ _=R
  simp [dO,func218,f218,e1,e2,e3,e7,e8,c2,w1]at hE
  exact hE.symm
 ·rw [if_neg hc]
  have e4:=Jo f l hh (KI e f l+Af)
  by_cases hn:e.kr=0
  ·rw [if_pos hn]at hstep
   rw [hstep]at e4⊢
   have w3:=bM (last+1+Af) (by omega)
   simp only [gL,gO,hO,hn]at e1 e2⊢
   rcases hb with rfl|rfl
   ·cases hg:pK f l (last+1+1)with
    | none=>
     rw [hg]at e4
     simp only [Option.bind_none]
     generalize hE:dO _ _ _=R
     simp [dO,func218,f218,e1,e2,e3,w1,w2,w3,hn,e4,hzl]at hE
     exact hE.symm
    | some s=>
     rw [hg]at e4
     simp only [Option.bind_some]
     have e5:=pR s (by have:=(rT hh hg).2;omega)
     cases hl:mD s with
     | none=>
      rw [hl]at e5
      generalize hE:dO _ _ _=R
      simp [dO,func218,f218,e1,e2,e3,w1,w2,w3,hn,e4,e5]at hE
      exact hE.symm
     | some t=>
      rw [hl]at e5
      simp only [if_true]
      by_cases hm:e.bQ=2
      ·simp only [gL,gO,hO,hm,if_true]at e1 e2⊢
       generalize hE:dO _ _ _=R
       simp [dO,func218,f218,e1,e2,e3,w1,w2,w3,hn,e4,e5,e6,hm]at hE
       exact hE.symm.trans (by rw [←hm];rfl)
      ·rw [if_neg hm]
       generalize hE:dO _ _ _=R
       simp [dO,func218,f218,e1,e2,e3,w1,w2,w3,hn,e4,e5,e6,hm]at hE
       exact hE.symm
   ·cases hg:pK f l (last+1+ -1)with
    | none=>
     rw [hg]at e4
     simp only [Option.bind_none]
     generalize hE:dO _ _ _=R
     simp [dO,func218,f218,e1,e2,e3,w1,w2,w3,hn,e4,hzl]at hE
     exact hE.symm
    | some s=>
     rw [hg]at e4
     simp only [Option.bind_some]
     have e5:=pR s (by have:=(rT hh hg).2;omega)
     cases hl:mD s with
     | none=>
      rw [hl]at e5
      generalize hE:dO _ _ _=R
      simp [dO,func218,f218,e1,e2,e3,w1,w2,w3,hn,e4,e5]at hE
      exact hE.symm
     | some t=>
      rw [hl]at e5
      simp only [if_true]
      by_cases hm:e.bQ=2
      ·simp only [gL,gO,hO,hm,if_true]at e1 e2⊢
       generalize hE:dO _ _ _=R
       simp [dO,func218,f218,e1,e2,e3,w1,w2,w3,hn,e4,e5,e6,hm]at hE
       exact hE.symm.trans (by rw [←hm];rfl)
      ·rw [if_neg hm]
       generalize hE:dO _ _ _=R
       simp [dO,func218,f218,e1,e2,e3,w1,w2,w3,hn,e4,e5,e6,hm]at hE
       exact hE.symm
  ·rw [if_neg hn]at hstep
   rw [hstep]at e4⊢
   have w3:=bM (e.kr+Af) (by omega)
   rcases hb with rfl|rfl
   ·have hne:¬e.kr=last:=fun q=>hc ⟨rfl,hn,q⟩
    cases hg:pK f l (e.kr+1)with
    | none=>
     rw [hg]at e4
     simp only [Option.bind_none]
     generalize hE:dO _ _ _=R
     simp [dO,func218,f218,e1,e2,e3,w1,w2,w3,hn,hne,e4,hzl]at hE
     exact hE.symm
    | some s=>
     rw [hg]at e4
     simp only [Option.bind_some]
     have e5:=pR s (by have:=(rT hh hg).2;omega)
     cases hl:mD s with
     | none=>
      rw [hl]at e5
      generalize hE:dO _ _ _=R
      simp [dO,func218,f218,e1,e2,e3,w1,w2,w3,hn,hne,e4,e5]at hE
      exact hE.symm
     | some t=>
      rw [hl]at e5
      simp only [hn,if_false]
      by_cases hm:e.bQ=2
      ·simp only [gL,gO,hO,hm,if_true]at e1 e2⊢
       generalize hE:dO _ _ _=R
       simp [dO,func218,f218,e1,e2,e3,w1,w2,w3,hn,hne,e4,e5,e6,hm]at hE
       exact hE.symm.trans (by rw [←hm];rfl)
      ·rw [if_neg hm]
       generalize hE:dO _ _ _=R
       simp [dO,func218,f218,e1,e2,e3,w1,w2,w3,hn,hne,e4,e5,e6,hm]at hE
       exact hE.symm
   ·cases hg:pK f l (e.kr+ -1)with
    | none=>
     rw [hg]at e4
     simp only [Option.bind_none]
     generalize hE:dO _ _ _=R
     simp [dO,func218,f218,e1,e2,e3,w1,w2,w3,hn,e4,hzl]at hE
     exact hE.symm
    | some s=>
     rw [hg]at e4
     simp only [Option.bind_some]
     have e5:=pR s (by have:=(rT hh hg).2;omega)
     cases hl:mD s with
     | none=>
      rw [hl]at e5
      generalize hE:dO _ _ _=R
      simp [dO,func218,f218,e1,e2,e3,w1,w2,w3,hn,e4,e5]at hE
      exact hE.symm
     | some t=>
      rw [hl]at e5
      simp only [hn,if_false]
      by_cases hm:e.bQ=2
      ·simp only [gL,gO,hO,hm,if_true]at e1 e2⊢
       generalize hE:dO _ _ _=R
       simp [dO,func218,f218,e1,e2,e3,w1,w2,w3,hn,e4,e5,e6,hm]at hE
       exact hE.symm.trans (by rw [←hm];rfl)
      ·rw [if_neg hm]
       generalize hE:dO _ _ _=R
       simp [dO,func218,f218,e1,e2,e3,w1,w2,w3,hn,e4,e5,e6,hm]at hE
       exact hE.symm
end
theorem Jp (f:Int)(l:List ByteArray)(h:iQ f l):zQ [.agg [vI f, .aM (some 0) (strs l)]] [] []=some ⟨vI (gI f l),[],[]⟩:=by
 have e:=uE f l h
 have h1:=h.first
 have h2:=h.len
 have w1:=bM (f+l.length) (by omega)
 have w2:=bM (f+l.length-1) (by omega)
 unfold zQ gI
 by_cases hl:l= []
 ·subst hl
  simp only [show strs []= []from rfl]at e
  simp [func111,f111,e,show strs []= []from rfl]
 ·simp [func111,f111,e,hl,w1,w2]
theorem Jq (f:Int)(l:List ByteArray)(h:iQ f l)(n:Int)(hn: -100≤n∧n≤4000000000):vQ [.agg [vI f, .aM (some 0) (strs l)],vI n] [] []=some (match pK f l n with|some s=>⟨.fT [V.v (.string s),V.v (.bool true)],[],[]⟩|none=>⟨.fT [V.v (.string (⟨#[]⟩)),V.v (.bool false)],[],[]⟩):=by
 have e:=uE f l h
 have h1:=h.first
 have h2:=h.len
 have w1:=bM (n-f) (by omega)
 unfold pK
 by_cases c1:n<f
 ·rw [if_neg (by omega)]
  simp [vQ,func257,f257,e,c1]
 ·by_cases c2:(l.length:Int)≤n-f
  ·rw [if_neg (by omega)]
   simp [vQ,func257,f257,e,c1,c2,w1]
  ·rw [if_pos (by omega)]
   have hk:(n-f).toNat<l.length:=by omega
   rw [List.getElem?_eq_getElem hk]
   have k1:0≤n-f:=by omega
   have k2:n-f<l.length:=by omega
   unfold vQ
   have k3:f≤n:=by omega
   simp [func257,f257,e,c1,c2,w1,k1,k2,k3,hk,l7 hk]
theorem pU (s:ByteArray)(hs:s.size≤65536):Bt [V.v (.string s)] [] []=some (match mD s with|some t=>⟨.fT [.agg [.own 0,vI (t.length:Int)],V.v (.bool true)],[],[(0,ints t)]⟩|none=>⟨.fT [.agg [.own 0,vI 0],V.v (.bool false)],[],[(0,[])]⟩):=by
 have hr:=tO s.data.toList
 have hlen:=hr.len
 have hsz:s.data.toList.length=s.size:=by rw [Array.length_toList];rfl
 have e1:=SF s _ _ hr hs
 unfold mD
 generalize hE:Bt _ _ _=R
 unfold Bt at hE
 by_cases hz:qY s.data.toList= []
 ·rw [hz]at e1
  simp only [List.isEmpty_nil,if_true]at e1
  have e2:=Ni (mY s.data.toList) (mY s.data.toList).length true (by omega)
  by_cases hc:eO (mY s.data.toList)=true
  ·rw [if_pos ⟨hz,hc⟩]
   rw [if_pos ⟨rfl,by unfold bU;rw [hc,bB.2 (by omega)];rfl⟩]at e2
   generalize mY s.data.toList=t at*
   simp [func258,f258,e1,e2]at hE
   exact hE.symm
  ·rw [if_neg (fun q=>hc q.2)]
   have hb:bU (mY s.data.toList) (mY s.data.toList).length=false:=by
    unfold bU;rw [show eO (mY s.data.toList)=false by simpa using hc];rfl
   rw [hb,if_neg (by simp)]at e2
   generalize mY s.data.toList=t at*
   simp [func258,f258,e1,e2]at hE
   exact hE.symm
 ·rw [if_neg (fun q=>hz q.1)]
  have hz':(qY s.data.toList).isEmpty=false:=by simpa using hz
  rw [hz']at e1
  simp only [Bool.false_eq_true,if_false]at e1
  have e2:=Ni [] 0 false (by simp)
  rw [if_neg (by simp)]at e2
  simp only [aZ]at e2
  simp [func258,f258,e1,e2]at hE
  exact hE.symm
section
variable (e:dF) (h:fV e) {f:Int} {l:List ByteArray} (hh:iQ f l)
include h hh
theorem afV (Af:Int)(hb:Af=1∨Af= -1):dU [gL e,aH f l,vI Af] [] []=some (sR (tQ e f l Af)):=by
 have h1:=hh.first
 have h2:=hh.len
 have ani:=h.Av
 have e1:=tZ e (fA.2 h)
 have e2:=gG e h
 have e9:=wh e
 have e3:=Jp f l hh
 have hlast:0≤gI f l∧gI f l≤1000000059:=by unfold gI;split<;>omega
 have e6:=lK e.ak.av (some 0) e.ak.At (by have:=(bS h.line).1;omega)
 have e7:=lK e.gX.av (some 0) e.gX.At (by have:=(bS h.own).1;omega)
 have e8:=qJ {e with bD:=0,Op:=0,bN:=0,fC:=0,iO:=0,fD:=⟨[]⟩,ak:=e.gX,gX:=⟨[],0⟩,kr:=0} (by have:=bS h.own;show 0≤e.gX.At∧e.gX.At≤1000;omega)
 simp only [gL,aZ,show aG []= []from rfl]at e8
 have hzl:=pU ⟨#[]⟩ (by decide)
 have hz:mD ⟨#[]⟩=some []:=by
  unfold mD
  obtain⟨q1,q2⟩:=xX reads_nil
  rw [q1,q2,if_pos ⟨rfl,by decide⟩]
 rw [hz]at hzl
 simp only [aZ,List.length_nil,Int.natCast_zero]at hzl
 have hstep:KI e f l=if e.kr=0 then gI f l+1 else e.kr:=rfl
 unfold tQ
 generalize gI f l=last at*
 have w1:=bM (last+1) (by omega)
 have w2:=bM (e.kr+1) (by omega)
 by_cases hc:Af=1∧¬e.kr=0∧e.kr=last
 ·rw [if_pos hc]
  obtain⟨rfl,c2,c3⟩:=hc
  subst c3
  generalize hE:dU _ _ _=R
  simp [dU,func255,f255,e1,e2,e9,e3,e7,e8,c2,w1]at hE
  exact hE.symm
 ·rw [if_neg hc]
  have e4:=Jq f l hh (KI e f l+Af) (by rw [hstep];split<;>omega)
  by_cases hn:e.kr=0
  ·rw [if_pos hn]at hstep
   rw [hstep]at e4⊢
   have w3:=bM (last+1+Af) (by omega)
   simp only [gL,gO,hO,hn]at e1 e2 e9⊢
   rcases hb with rfl|rfl
   ·cases hg:pK f l (last+1+1)with
    | none=>
     rw [hg]at e4
     simp only [Option.bind_none]
     generalize hE:dU _ _ _=R
     simp [dU,func255,f255,e1,e2,e9,e3,w1,w2,w3,hn,e4,hzl]at hE
     exact hE.symm
    | some s=>
     rw [hg]at e4
     simp only [Option.bind_some]
     have e5:=pU s (by have:=(rT hh hg).2;omega)
     cases hl:mD s with
     | none=>
      rw [hl]at e5
      generalize hE:dU _ _ _=R
      simp [dU,func255,f255,e1,e2,e9,e3,w1,w2,w3,hn,e4,e5]at hE
      exact hE.symm
     | some t=>
      rw [hl]at e5
      simp only [if_true]
      by_cases hm:e.bQ=2
      ·simp only [gL,gO,hO,hm,if_true]at e1 e2 e9⊢
       generalize hE:dU _ _ _=R
       simp [dU,func255,f255,e1,e2,e9,e3,w1,w2,w3,hn,e4,e5,e6,hm]at hE
       exact hE.symm.trans (by rw [←hm];rfl)
      ·rw [if_neg hm]
       generalize hE:dU _ _ _=R
       simp [dU,func255,f255,e1,e2,e9,e3,w1,w2,w3,hn,e4,e5,e6,hm]at hE
       exact hE.symm
   ·cases hg:pK f l (last+1+ -1)with
    | none=>
     rw [hg]at e4
     simp only [Option.bind_none]
     generalize hE:dU _ _ _=R
     simp [dU,func255,f255,e1,e2,e9,e3,w1,w2,w3,hn,e4,hzl]at hE
     exact hE.symm
    | some s=>
     rw [hg]at e4
     simp only [Option.bind_some]
     have e5:=pU s (by have:=(rT hh hg).2;omega)
     cases hl:mD s with
     | none=>
      rw [hl]at e5
      generalize hE:dU _ _ _=R
      simp [dU,func255,f255,e1,e2,e9,e3,w1,w2,w3,hn,e4,e5]at hE
      exact hE.symm
     | some t=>
      rw [hl]at e5
      simp only [if_true]
      by_cases hm:e.bQ=2
      ·simp only [gL,gO,hO,hm,if_true]at e1 e2 e9⊢
       generalize hE:dU _ _ _=R
       simp [dU,func255,f255,e1,e2,e9,e3,w1,w2,w3,hn,e4,e5,e6,hm]at hE
       exact hE.symm.trans (by rw [←hm];rfl)
      ·rw [if_neg hm]
       generalize hE:dU _ _ _=R
       simp [dU,func255,f255,e1,e2,e9,e3,w1,w2,w3,hn,e4,e5,e6,hm]at hE
       exact hE.symm
  ·rw [if_neg hn]at hstep
   rw [hstep]at e4⊢
   have w3:=bM (e.kr+Af) (by omega)
   rcases hb with rfl|rfl
   ·have hne:¬e.kr=last:=fun q=>hc ⟨rfl,hn,q⟩
    cases hg:pK f l (e.kr+1)with
    | none=>
     rw [hg]at e4
     simp only [Option.bind_none]
     generalize hE:dU _ _ _=R
     simp [dU,func255,f255,e1,e2,e9,e3,w1,w2,w3,hn,hne,e4,hzl]at hE
     exact hE.symm
    | some s=>
     rw [hg]at e4
     simp only [Option.bind_some]
     have e5:=pU s (by have:=(rT hh hg).2;omega)
     cases hl:mD s with
     | none=>
      rw [hl]at e5
      generalize hE:dU _ _ _=R
      simp [dU,func255,f255,e1,e2,e9,e3,w1,w2,w3,hn,hne,e4,e5]at hE
      exact hE.symm
     | some t=>
      rw [hl]at e5
      simp only [hn,if_false]
      by_cases hm:e.bQ=2
      ·simp only [gL,gO,hO,hm,if_true]at e1 e2 e9⊢
       generalize hE:dU _ _ _=R
       simp [dU,func255,f255,e1,e2,e9,e3,w1,w2,w3,hn,hne,e4,e5,e6,hm]at hE
       exact hE.symm.trans (by rw [←hm];rfl)
      ·rw [if_neg hm]
       generalize hE:dU _ _ _=R
       simp [dU,func255,f255,e1,e2,e9,e3,w1,w2,w3,hn,hne,e4,e5,e6,hm]at hE
       exact hE.symm
   ·cases hg:pK f l (e.kr+ -1)with
    | none=>
     rw [hg]at e4
     simp only [Option.bind_none]
     generalize hE:dU _ _ _=R
     simp [dU,func255,f255,e1,e2,e9,e3,w1,w2,w3,hn,e4,hzl]at hE
     exact hE.symm
    | some s=>
     rw [hg]at e4
     simp only [Option.bind_some]
     have e5:=pU s (by have:=(rT hh hg).2;omega)
     cases hl:mD s with
     | none=>
      rw [hl]at e5
      generalize hE:dU _ _ _=R
      simp [dU,func255,f255,e1,e2,e9,e3,w1,w2,w3,hn,e4,e5]at hE
      exact hE.symm
     | some t=>
      rw [hl]at e5
      simp only [hn,if_false]
      by_cases hm:e.bQ=2
      ·simp only [gL,gO,hO,hm,if_true]at e1 e2 e9⊢
       generalize hE:dU _ _ _=R
       simp [dU,func255,f255,e1,e2,e9,e3,w1,w2,w3,hn,e4,e5,e6,hm]at hE
       exact hE.symm.trans (by rw [←hm];rfl)
      ·rw [if_neg hm]
       generalize hE:dU _ _ _=R
       simp [dU,func255,f255,e1,e2,e9,e3,w1,w2,w3,hn,e4,e5,e6,hm]at hE
       exact hE.symm
end
theorem ac2 (e:dF)(ok:e.ok=true)(f:Int)(l:List ByteArray)(h:iQ f l)(k r:Int)(hk:Es [aK k r] [] []=some ⟨V.v (.bool true),[],[]⟩):rQ [gL e,aH f l,aK k r] [] []=some ⟨V.v (.bool true),[],[]⟩:=by
 have e1:=SH e ok
 have e2:=EH f l h
 simp [rQ,func88,f88,e1,e2,hk]
section
variable {f:Int} {l:List ByteArray} (hh:iQ f l) (e e':dF) (ok:e.ok=true) (hm:e.bQ=0) (act:Int)
include hh ok hm in
include hh ok hm in
include hh ok hm in
include hh ok hm in
end
theorem Qs (e:dF)(hb:NM e)(r:Int)(h:¬r=99∧¬r=108∧¬r=100∧¬r=117∧¬r=119):iJ [gL e,vI r] [] []=some ⟨.fT [.agg [V.v (.bool false),vI 0, .own 0,vI 0,vI 0,vI 0,vI 0,vI 0,vI 0,vI 0,vI 0, .own 1, .own 2,vI 0, .own 3,vI 0, .own 4,vI 0, .own 5,vI 0],vI 0,V.v (.bool false)],[],[(0,[]),(1,[]),(2,[]),(3,[]),(4,[]),(5,[])]⟩:=by
 obtain⟨h1,h2,h3,h4,h5⟩:=h
 have e1:=EJ e hb
 simp [iJ,func151,f151,e1,h1,h2,h3,h4,h5,aZ]
theorem Te (e e':dF)(hb:NM e)(act:Int)(h:qd [gL e,vI 0,vI e.ak.At,vI 2] [] []=some ⟨.fT [.agg [V.v (.bool e'.Vi),vI e'.bQ, .own 0,vI e'.ak.At,vI e'.bD,vI e'.Op,vI e'.bN,vI e'.fC,vI e'.dY,vI e'.bL,vI e'.iO, .own 1, .own 2,vI e'.kr, .own 3,vI e'.gX.At, .own 4,vI e'.lV, .own 5,vI e'.bX.At],vI act],[],[(0,ints e'.ak.av),(1,aC e'.aL.aA),(2,aG e'.fD.bT),(3,ints e'.gX.av),(4,ints e'.bO),(5,ints e'.bX.av)]⟩):iJ [gL e,vI 117] [] []=some ⟨.fT [.agg [V.v (.bool e'.Vi),vI e'.bQ, .own 0,vI e'.ak.At,vI e'.bD,vI e'.Op,vI e'.bN,vI e'.fC,vI e'.dY,vI e'.bL,vI e'.iO, .own 1, .own 2,vI e'.kr, .own 3,vI e'.gX.At, .own 4,vI e'.lV, .own 5,vI e'.bX.At],vI act,V.v (.bool true)],[],[(0,ints e'.ak.av),(1,aC e'.aL.aA),(2,aG e'.fD.bT),(3,ints e'.gX.av),(4,ints e'.bO),(5,ints e'.bX.av)]⟩:=by
 have e1:=EJ e hb
 simp [iJ,func151,f151,e1,h]
theorem Tf (e e':dF)(hb:NM e)(act:Int)(b:Nat)(hv:nH [.aM (some 0) (ints e.ak.av),vI e.ak.At,V.v (.bool true)] [] []=some ⟨vI (b:Int),[],[]⟩)(h:qd [gL e,vI (b:Int),vI e.ak.At,vI 2] [] []=some ⟨.fT [.agg [V.v (.bool e'.Vi),vI e'.bQ, .own 0,vI e'.ak.At,vI e'.bD,vI e'.Op,vI e'.bN,vI e'.fC,vI e'.dY,vI e'.bL,vI e'.iO, .own 1, .own 2,vI e'.kr, .own 3,vI e'.gX.At, .own 4,vI e'.lV, .own 5,vI e'.bX.At],vI act],[],[(0,ints e'.ak.av),(1,aC e'.aL.aA),(2,aG e'.fD.bT),(3,ints e'.gX.av),(4,ints e'.bO),(5,ints e'.bX.av)]⟩):iJ [gL e,vI 119] [] []=some ⟨.fT [.agg [V.v (.bool e'.Vi),vI e'.bQ, .own 0,vI e'.ak.At,vI e'.bD,vI e'.Op,vI e'.bN,vI e'.fC,vI e'.dY,vI e'.bL,vI e'.iO, .own 1, .own 2,vI e'.kr, .own 3,vI e'.gX.At, .own 4,vI e'.lV, .own 5,vI e'.bX.At],vI act,V.v (.bool true)],[],[(0,ints e'.ak.av),(1,aC e'.aL.aA),(2,aG e'.fD.bT),(3,ints e'.gX.av),(4,ints e'.bO),(5,ints e'.bX.av)]⟩:=by
 have e1:=EJ e hb
 simp [iJ,func151,f151,e1,h,hv]
theorem KP (e e':dF)(f act r:Int)(ok:Bool)(l:List ByteArray)(h:iJ [gL e,vI r] [] []=some ⟨.fT [.agg [V.v (.bool e'.Vi),vI e'.bQ, .own 0,vI e'.ak.At,vI e'.bD,vI e'.Op,vI e'.bN,vI e'.fC,vI e'.dY,vI e'.bL,vI e'.iO, .own 1, .own 2,vI e'.kr, .own 3,vI e'.gX.At, .own 4,vI e'.lV, .own 5,vI e'.bX.At],vI act,V.v (.bool ok)],[],[(0,ints e'.ak.av),(1,aC e'.aL.aA),(2,aG e'.fD.bT),(3,ints e'.gX.av),(4,ints e'.bO),(5,ints e'.bX.av)]⟩):fu [gL e,aH f l,aK 2 r] [] []=some ⟨.fT [.agg [V.v (.bool e'.Vi),vI e'.bQ, .own 0,vI e'.ak.At,vI e'.bD,vI e'.Op,vI e'.bN,vI e'.fC,vI e'.dY,vI e'.bL,vI e'.iO, .own 1, .own 2,vI e'.kr, .own 3,vI e'.gX.At, .own 4,vI e'.lV, .own 5,vI e'.bX.At],vI act,V.v (.bool ok)],[],[(0,ints e'.ak.av),(1,aC e'.aL.aA),(2,aG e'.fD.bT),(3,ints e'.gX.av),(4,ints e'.bO),(5,ints e'.bX.av)]⟩:=by
 simp [fu,func89,f89,h]
theorem Tg (e e':dF)(f act:Int)(l:List ByteArray)(h:qd [gL e,vI e.ak.At,vI (e.ak.av.length:Int),vI 1] [] []=some ⟨.fT [.agg [V.v (.bool e'.Vi),vI e'.bQ, .own 0,vI e'.ak.At,vI e'.bD,vI e'.Op,vI e'.bN,vI e'.fC,vI e'.dY,vI e'.bL,vI e'.iO, .own 1, .own 2,vI e'.kr, .own 3,vI e'.gX.At, .own 4,vI e'.lV, .own 5,vI e'.bX.At],vI act],[],[(0,ints e'.ak.av),(1,aC e'.aL.aA),(2,aG e'.fD.bT),(3,ints e'.gX.av),(4,ints e'.bO),(5,ints e'.bX.av)]⟩):bR [gL e,aH f l,vI 107] [] []=some ⟨.fT [.agg [V.v (.bool e'.Vi),vI e'.bQ, .own 0,vI e'.ak.At,vI e'.bD,vI e'.Op,vI e'.bN,vI e'.fC,vI e'.dY,vI e'.bL,vI e'.iO, .own 1, .own 2,vI e'.kr, .own 3,vI e'.gX.At, .own 4,vI e'.lV, .own 5,vI e'.bX.At],vI act],[],[(0,ints e'.ak.av),(1,aC e'.aL.aA),(2,aG e'.fD.bT),(3,ints e'.gX.av),(4,ints e'.bO),(5,ints e'.bX.av)]⟩:=by
 simp [bR,func95,f95,h]
theorem Ti (e e':dF)(f act:Int)(l:List ByteArray)(u:List Int)(a:Int)(hs:oJ [.agg [.aM (some 0) (ints e.ak.av),vI e.ak.At]] [] []=some ⟨.fT [.agg [.own 0,vI a],V.v (.bool true)],[],[(0,ints u)]⟩)(h:vK [gL e, .agg [.aM (some 6) (ints u),vI a]] [] []=some ⟨.fT [.agg [V.v (.bool e'.Vi),vI e'.bQ, .own 0,vI e'.ak.At,vI e'.bD,vI e'.Op,vI e'.bN,vI e'.fC,vI e'.dY,vI e'.bL,vI e'.iO, .own 1, .own 2,vI e'.kr, .own 3,vI e'.gX.At, .own 4,vI e'.lV, .own 5,vI e'.bX.At],vI act],[],[(0,ints e'.ak.av),(1,aC e'.aL.aA),(2,aG e'.fD.bT),(3,ints e'.gX.av),(4,ints e'.bO),(5,ints e'.bX.av)]⟩):bR [gL e,aH f l,vI 116] [] []=some ⟨.fT [.agg [V.v (.bool e'.Vi),vI e'.bQ, .own 0,vI e'.ak.At,vI e'.bD,vI e'.Op,vI e'.bN,vI e'.fC,vI e'.dY,vI e'.bL,vI e'.iO, .own 1, .own 2,vI e'.kr, .own 3,vI e'.gX.At, .own 4,vI e'.lV, .own 5,vI e'.bX.At],vI act],[],[(0,ints e'.ak.av),(1,aC e'.aL.aA),(2,aG e'.fD.bT),(3,ints e'.gX.av),(4,ints e'.bO),(5,ints e'.bX.av)]⟩:=by
 simp [bR,func95,f95,hs,h]
theorem Nk (e:dF)(hb:NM e)(f:Int)(l:List ByteArray)(hs:oJ [.agg [.aM (some 0) (ints e.ak.av),vI e.ak.At]] [] []=some ⟨.fT [.agg [.own 0,vI 0],V.v (.bool false)],[],[(0,[])]⟩):bR [gL e,aH f l,vI 116] [] []=some ⟨.fT [.agg [V.v (.bool e.Vi),vI e.bQ, .own 0,vI e.ak.At,vI 0,vI 0,vI 0,vI 0,vI e.dY,vI e.bL,vI 0, .own 1, .own 2,vI e.kr, .own 3,vI e.gX.At, .own 4,vI e.lV, .own 5,vI e.bX.At],vI 1],[],(hO e)⟩:=by
 have e1:=M9 e hb
 simp [bR,func95,f95,hs,e1]
theorem Uw (e:dF)(f r k:Int)(l:List ByteArray)(h:k=3∨k=7∨k=15∨k=16):fu [gL e,aH f l,aK k r] [] []=some ⟨.fT [.agg [V.v (.bool false),vI 0, .own 0,vI 0,vI 0,vI 0,vI 0,vI 0,vI 0,vI 0,vI 0, .own 1, .own 2,vI 0, .own 3,vI 0, .own 4,vI 0, .own 5,vI 0],vI 0,V.v (.bool false)],[],[(0,[]),(1,[]),(2,[]),(3,[]),(4,[]),(5,[])]⟩:=by
 unfold fu
 rcases h with rfl|rfl|rfl|rfl<;>simp [func89,f89,aZ]
abbrev kRo (o:Option (dF×Int)):Cw:=match o with
 | some p=>Ji p true
 | none=>Ji (vC,0) false
section
variable (e:dF) (h:fV e)
include h
theorem fM:(gQ e:Int)=max e.bD 1∧1≤gQ e∧gQ e≤999:=by
 have:=h.cnt
 unfold gQ
 omega
theorem eP:jG [gL e] [] []=some ⟨gO e,[],hO e⟩:=EJ e (NM.of (fA.2 h))
theorem XW (f u:Int)(F U:Nat)(hf:f=F)(hu:u=U)(h1:F≤U)(h2:U≤e.ak.av.length):FN [gL e,vI f,vI u] [] []=some (kR (Gm e F U)):=by
 subst hf;subst hu;exact akE e h F U h1 h2
theorem Jr (f u:Int)(F U:Nat)(how:Int)(hf:f=F)(hu:u=U)(hw:0≤how∧how≤2)(h1:F≤U)(h2:U≤e.ak.av.length):qd [gL e,vI f,vI u,vI how] [] []=some (kR (mq e F U how)):=by
 subst hf;subst hu;exact ajo e h F U how hw h1 h2
theorem Ux (i:Option Nat)(big:Bool):nH [.aM i (ints e.ak.av),vI e.ak.At,V.v (.bool big)] [] []=some ⟨vI (((kV e.ak.av big (aS e):Nat):Int)),[],[]⟩:=by
 obtain⟨h1,h2,h3,h4⟩:=h.aS
 rw [h1]
 exact KM _ _ _ _ h2 (by omega)
theorem XY (r:Int):iJ [gL e,vI r] [] []=some (kRo (ig e r)):=by
 obtain⟨h1,h2,h3,h4⟩:=h.aS
 obtain⟨n1,n2,n3⟩:=fM e h
 have e0:=eP e h
 by_cases c1:r=99
 ·subst c1
  rw [show ig e 99=some (e,3)from by simp [ig]]
  simp [iJ,func151,f151,e0]
 by_cases c2:r=108
 ·subst c2
  rw [show ig e 108=some (e,5)from by simp [ig]]
  simp [iJ,func151,f151,e0]
 by_cases c3:r=100
 ·subst c3
  rw [show ig e 100=some (if e.ak.av.length=0 then(e,4)else Qr e)from by simp [ig]]
  by_cases hz:e.ak.av.length=0
  ·rw [if_pos hz]
   have hz0:e.ak.av= []:=List.length_eq_zero_iff.1 hz
   have hz':¬0<e.ak.av.length:=by omega
   generalize hE:iJ _ _ _=R
   simp [iJ,func151,f151,e0,hz']at hE
   exact hE.symm
  ·rw [if_neg hz]
   have hz':0<e.ak.av.length:=by omega
   have e1:=XW e h e.ak.At (min (e.ak.At+max e.bD 1) e.ak.av.length) (aS e) (min (aS e+gQ e) e.ak.av.length) h1 (by omega) (by omega) (by omega)
   have w:=bM (e.ak.At+max e.bD 1) (by omega)
   unfold Qr
   generalize Gm e (aS e) (min (aS e+gQ e) e.ak.av.length)=p at*
   generalize hE:iJ _ _ _=R
   simp [iJ,func151,f151,e0,hz',e1,w]at hE
   exact hE.symm
 by_cases c4:r=117
 ·subst c4
  rw [show ig e 117=some (mq e 0 (aS e) 2)from by simp [ig]]
  have e1:=Jr e h 0 e.ak.At 0 (aS e) 2 rfl h1 (by omega) (by omega) h2
  exact Te e _ (NM.of (fA.2 h)) _ e1
 by_cases c5:r=119
 ·subst c5
  rw [show ig e 119=some (mq e (kV e.ak.av true (aS e)) (aS e) 2)from by simp [ig]]
  have e2:=Ux e h (some 0) true
  have e1:=Jr e h _ e.ak.At (kV e.ak.av true (aS e)) (aS e) 2 rfl h1 (by omega) BH h2
  exact Tf e _ (NM.of (fA.2 h)) _ _ e2 e1
 rw [show ig e r=none from by simp [ig,c1,c2,c3,c4,c5]]
 exact Qs e (NM.of (fA.2 h)) r ⟨c1,c2,c3,c4,c5⟩
theorem zh (a:Int):vK [gL e, .agg [.aM (some 6) (ints e.ak.av),vI (max 0 (min a e.ak.av.length))]] [] []=some (kR (zf e a)):=by
 obtain⟨h1,h2,h3,h4⟩:=h.aS
 exact Jj e h _ _ (gD h3 h4 (by omega) (by omega))
variable {f:Int} {l:List ByteArray} (hh:iQ f l)
include hh
theorem Dr (Af:Int)(hb:Af=1∨Af= -1):AU [gL e,aH f l,vI Af] [] []=some (kR (jP e f l Af)):=by
 have e1:=afU e h hh Af hb
 have e2:=l5 e h
 unfold jP
 cases hs:tQ e f l Af with
 | none=>
  rw [hs]at e1
  exact acP e (NM.of (fA.2 h)) f Af l e1
 | some x=>
  rw [hs]at e1
  exact acO e x f Af l e1
theorem Nl (k r c:Int)(hk:(k=1∧c=r)∨(k=6∧c=9))(hc:iB c=true):fu [gL e,aH f l,aK k r] [] []=some (Ji (Cy e (List.replicate (gQ e) c) 1) true):=by
 obtain⟨n1,n2,n3⟩:=fM e h
 have e1:=aau [c] (some 0) (gQ e) (by simp) n3
 rw [n1]at e1
 obtain⟨k1,k2,k3,k4,k5,k6⟩:=Jk 1 (gQ e) (by decide)
 have hrep:∀m,lZ m [c]=List.replicate m c:=fun m=>by
  induction m with
  | zero=>rfl
  | succ m ih=>rw [J9,ih,List.replicate_succ']
 simp only [List.length_singleton,hrep]at e1
 have e2:=Wp e h (List.replicate (rz 1 (gQ e)) c) 1 (Jh hc _) (by simp;omega)
 have hq:Cy e (List.replicate (rz 1 (gQ e)) c) 1=Cy e (List.replicate (gQ e) c) 1:=by
  by_cases hle:gQ e≤400
  ·rw [k2 (by omega)]
  ·have q1:=k3 (by omega)
   unfold Cy
   rw [if_neg (by simp;omega),if_neg (by simp;omega)]
 rw [hq]at e2
 generalize Cy e (List.replicate (gQ e) c) 1=p at*
 generalize List.replicate (rz 1 (gQ e)) c=q at*
 simp only [N8,aZ]at e1
 generalize hE:fu _ _ _=R
 unfold fu at hE
 rcases hk with⟨rfl,rfl⟩|⟨rfl,rfl⟩
 ·simp [-au,func89,f89,e1,e2]at hE
  exact hE.symm
 ·simp [-au,func89,f89,e1,e2]at hE
  exact hE.symm
theorem ac3 (r:Int):fu [gL e,aH f l,aK 4 r] [] []=some (Ji ((e,2)) true):=by
 obtain⟨h1,h2,h3,h4⟩:=h.aS
 obtain⟨n1,n2,n3⟩:=fM e h
 have e0:=eP e h
 clear hh h
 generalize hE:fu _ _ _=R
 simp [fu,func89,f89,e0]at hE
 exact hE.symm
theorem ac4 (r:Int):fu [gL e,aH f l,aK 5 r] [] []=some (Ji (Gm e (aS e-gQ e) (aS e)) true):=by
 obtain⟨h1,h2,h3,h4⟩:=h.aS
 obtain⟨n1,n2,n3⟩:=fM e h
 have e1:=XW e h (max (e.ak.At-max e.bD 1) 0) e.ak.At (aS e-gQ e) (aS e) (by omega) h1 (by omega) h2
 have w:=bM (e.ak.At-max e.bD 1) (by omega)
 generalize Gm e (aS e-gQ e) (aS e)=p at*
 clear hh h
 generalize hE:fu _ _ _=R
 simp [fu,func89,f89,e1,w]at hE
 exact hE.symm
theorem aaw (r:Int):fu [gL e,aH f l,aK 14 r] [] []=some (Ji (Qr e) true):=by
 obtain⟨h1,h2,h3,h4⟩:=h.aS
 obtain⟨n1,n2,n3⟩:=fM e h
 have e1:=XW e h e.ak.At (min (e.ak.At+max e.bD 1) e.ak.av.length) (aS e) (min (aS e+gQ e) e.ak.av.length) h1 (by omega) (by omega) (by omega)
 have w:=bM (e.ak.At+max e.bD 1) (by omega)
 unfold Qr
 generalize Gm e (aS e) (min (aS e+gQ e) e.ak.av.length)=p at*
 clear hh h
 generalize hE:fu _ _ _=R
 simp [fu,func89,f89,e1,w]at hE
 exact hE.symm
theorem Qc (r:Int):fu [gL e,aH f l,aK 11 r] [] []=some (Ji (zf e (e.ak.At-gQ e)) true):=by
 obtain⟨h1,h2,h3,h4⟩:=h.aS
 obtain⟨n1,n2,n3⟩:=fM e h
 rw [n1]
 have e1:=zh e h (e.ak.At-max e.bD 1)
 have e2:=vo e.ak.av (some 0) e.ak.At (e.ak.At-max e.bD 1) (by omega)
 have w:=bM (e.ak.At-max e.bD 1) (by omega)
 generalize zf e (e.ak.At-max e.bD 1)=p at*
 clear hh h
 generalize hE:fu _ _ _=R
 simp [fu,func89,f89,e1,e2,w]at hE
 exact hE.symm
theorem Qd (r:Int):fu [gL e,aH f l,aK 10 r] [] []=some (Ji (zf e (e.ak.At+gQ e)) true):=by
 obtain⟨h1,h2,h3,h4⟩:=h.aS
 obtain⟨n1,n2,n3⟩:=fM e h
 rw [n1]
 have e1:=zh e h (e.ak.At+max e.bD 1)
 have e2:=vo e.ak.av (some 0) e.ak.At (e.ak.At+max e.bD 1) (by omega)
 have w:=bM (e.ak.At+max e.bD 1) (by omega)
 generalize zf e (e.ak.At+max e.bD 1)=p at*
 clear hh h
 generalize hE:fu _ _ _=R
 simp [fu,func89,f89,e1,e2,w]at hE
 exact hE.symm
theorem Qe (r:Int):fu [gL e,aH f l,aK 12 r] [] []=some (Ji (zf e 0) true):=by
 obtain⟨h1,h2,h3,h4⟩:=h.aS
 obtain⟨n1,n2,n3⟩:=fM e h
 have e1:=zh e h 0
 have e2:=vo e.ak.av (some 0) e.ak.At 0 (by omega)
 have m:max (0:Int) (min 0 e.ak.av.length)=0:=by omega
 rw [m]at e1 e2
 generalize zf e 0=p at*
 clear hh h
 generalize hE:fu _ _ _=R
 simp [fu,func89,f89,e1,e2]at hE
 exact hE.symm
theorem Qf (r:Int):fu [gL e,aH f l,aK 13 r] [] []=some (Ji (zf e e.ak.av.length) true):=by
 obtain⟨h1,h2,h3,h4⟩:=h.aS
 obtain⟨n1,n2,n3⟩:=fM e h
 have e1:=zh e h e.ak.av.length
 have e2:=vo e.ak.av (some 0) e.ak.At e.ak.av.length (by omega)
 have m:max (0:Int) (min e.ak.av.length e.ak.av.length)=e.ak.av.length:=by omega
 rw [m]at e1 e2
 generalize zf e e.ak.av.length=p at*
 clear hh h
 generalize hE:fu _ _ _=R
 simp [fu,func89,f89,e1,e2]at hE
 exact hE.symm
theorem Tj (r:Int):fu [gL e,aH f l,aK 8 r] [] []=some (Ji (jP e f l (-1)) true):=by
 obtain⟨h1,h2,h3,h4⟩:=h.aS
 obtain⟨n1,n2,n3⟩:=fM e h
 have e1:=Dr e h hh (-1) (.inr rfl)
 generalize jP e f l (-1)=p at*
 clear hh h
 generalize hE:fu _ _ _=R
 simp [fu,func89,f89,e1]at hE
 exact hE.symm
theorem Tk (r:Int):fu [gL e,aH f l,aK 9 r] [] []=some (Ji (jP e f l 1) true):=by
 obtain⟨h1,h2,h3,h4⟩:=h.aS
 obtain⟨n1,n2,n3⟩:=fM e h
 have e1:=Dr e h hh 1 (.inl rfl)
 generalize jP e f l 1=p at*
 clear hh h
 generalize hE:fu _ _ _=R
 simp [fu,func89,f89,e1]at hE
 exact hE.symm
theorem aax (k r:Int)(hk:jk k r=true):fu [gL e,aH f l,aK k r] [] []=some (kRo (pO e f l k r)):=by
 unfold pO
 by_cases c1:k=1
 ·rw [if_pos c1]
  have hp:dn r=true:=by subst c1;exact hk
  exact Nl e h hh k r r (.inl ⟨c1,rfl⟩) (om hp)
 rw [if_neg c1]
 by_cases c6:k=6
 ·rw [if_pos c6]
  exact Nl e h hh k r 9 (.inr ⟨c6,rfl⟩) (by decide)
 rw [if_neg c6]
 by_cases c4:k=4
 ·rw [if_pos c4];subst c4;exact ac3 e h hh r
 rw [if_neg c4]
 by_cases c2:k=2
 ·rw [if_pos c2]
  subst c2
  have e1:=XY e h r
  cases hp:ig e r with
  | none=>
   rw [hp]at e1
   exact KP e vC f 0 r false l e1
  | some p=>
   rw [hp]at e1
   exact KP e p.1 f p.2 r true l e1
 rw [if_neg c2]
 by_cases c5:k=5
 ·rw [if_pos c5];subst c5;exact ac4 e h hh r
 rw [if_neg c5]
 by_cases c14:k=14
 ·rw [if_pos c14];subst c14;exact aaw e h hh r
 rw [if_neg c14]
 by_cases c11:k=11
 ·rw [if_pos c11];subst c11;exact Qc e h hh r
 rw [if_neg c11]
 by_cases c10:k=10
 ·rw [if_pos c10];subst c10;exact Qd e h hh r
 rw [if_neg c10]
 by_cases c12:k=12
 ·rw [if_pos c12];subst c12;exact Qe e h hh r
 rw [if_neg c12]
 by_cases c13:k=13
 ·rw [if_pos c13];subst c13;exact Qf e h hh r
 rw [if_neg c13]
 by_cases c8:k=8
 ·rw [if_pos c8];subst c8;exact Tj e h hh r
 rw [if_neg c8]
 by_cases c9:k=9
 ·rw [if_pos c9];subst c9;exact Tk e h hh r
 rw [if_neg c9]
 have hk':k=3∨k=7∨k=15∨k=16:=by
  unfold jk at hk
  rw [if_neg c1,if_neg c2]at hk
  by_cases c3:k=3
  ·exact .inl c3
  ·rw [if_neg c3,Bool.and_eq_true]at hk
   have:=bB.1 hk.1
   omega
 exact Uw e f r k l hk'
end
theorem iy (e:dF):CY [gL e] [] []=some ⟨vI (max e.bD 1),[],[]⟩:=by
 unfold CY
 by_cases c:e.bD<1
 ·rw [show max e.bD 1=1 by omega]
  simp [func108,f108,c]
 ·rw [show max e.bD 1=e.bD by omega]
  simp [func108,f108,c]
theorem Tm (r:Int)(n:Nat)(hn:n≤1000):Cc [vI r,vI (n:Int)] [] []=some ⟨.own 0,[],[(0,ints (List.replicate n r))]⟩:=by
 generalize hE:Cc _ _ _=R
 simp [Cc,func244,f244]at hE
 rw [aF (fun j=> .on ⟨[(6,V.v (.int .i64 ((j:Int)))),(5, .own 2000000000),(1,V.v (.int .i64 ((n:Int)))),(0,V.v (.int .i64 r))],[],[(2000000000,ints (List.replicate j r))],[]⟩) n ?_ ?_]at hE
 ·simp at hE
  exact hE.symm
 ·simp [aZ]
 ·intro j hj
  have hw:=bM ((j:Int)+1) (by omega)
  have g1:(j+1)*8≤140737488355328:=by omega
  have g2:j+1≤4611686018427387904:=by omega
  have g4:j≤4611686018427387903:=by omega
  have g3:ints (List.replicate (j+1) r)=ints (List.replicate j r)++ [[D.a (.int .i64 r)]]:=by rw [List.replicate_succ',au];rfl
  simp [hj,hw,g1,g2,g3,g4]
section
variable (e:dF) (h:fV e) {f:Int} {l:List ByteArray} (hh:iQ f l)
include h hh
theorem uf (Af:Int)(hb:Af=1∨Af= -1):kJ [gL e,aH f l,vI Af] [] []=some (kR (jP e f l Af)):=by
 have e1:=afV e h hh Af hb
 have e2:=jB e h
 unfold jP
 clear h hh
 cases hs:tQ e f l Af with
 | none=>
  rw [hs]at e1
  simp only
  generalize dI e=p at*
  generalize hE:kJ _ _ _=R
  simp [kJ, -au,func196,f196,e1,e2]at hE
  exact hE.symm
 | some x=>
  rw [hs]at e1
  simp only
  generalize hE:kJ _ _ _=R
  simp [kJ, -au,func196,f196,e1]at hE
  exact hE.symm
end
section
variable (e:dF) (h:fV e) {f:Int} {l:List ByteArray} (hh:iQ f l)
include h hh
theorem ac5 (r:Int)(hr:iB r=true):bn [gL e,aH f l,aK 1 r] [] []=some (kR (Cy e (List.replicate (gQ e) r) 1)):=by
 obtain⟨h1,h2,h3,h4⟩:=h.aS
 obtain⟨n1,n2,n3⟩:=fM e h
 have en:=iy e
 have e1:=Tm r (gQ e) (by omega)
 rw [n1]at e1
 have e2:=OP e h (List.replicate (gQ e) r) 1 (Jh hr _) (by simp;omega) (by omega)
 generalize Cy e (List.replicate (gQ e) r) 1=p at*
 generalize List.replicate (gQ e) r=q at*
 clear h hh
 generalize hE:bn _ _ _=R
 simp [bn, -au,func188,f188,en,e1,e2]at hE
 exact hE.symm
theorem ac6 (r:Int):bn [gL e,aH f l,aK 6 r] [] []=some (kR (Cy e (List.replicate (gQ e) 9) 1)):=by
 obtain⟨h1,h2,h3,h4⟩:=h.aS
 obtain⟨n1,n2,n3⟩:=fM e h
 have en:=iy e
 have e1:=Tm 9 (gQ e) (by omega)
 rw [n1]at e1
 have e2:=OP e h (List.replicate (gQ e) 9) 1 (Jh (show iB 9=true by decide) _) (by simp;omega) (by omega)
 generalize Cy e (List.replicate (gQ e) 9) 1=p at*
 generalize List.replicate (gQ e) 9=q at*
 clear h hh
 generalize hE:bn _ _ _=R
 simp [bn, -au,func188,f188,en,e1,e2]at hE
 exact hE.symm
theorem ac7 (r:Int):bn [gL e,aH f l,aK 4 r] [] []=some (kR (e,2)):=by
 obtain⟨h1,h2,h3,h4⟩:=h.aS
 obtain⟨n1,n2,n3⟩:=fM e h
 have en:=iy e
 have e1:=gG e h
 clear h hh
 generalize hE:bn _ _ _=R
 simp [bn, -au,func188,f188,en,e1]at hE
 exact hE.symm
theorem ac8 (r:Int):bn [gL e,aH f l,aK 5 r] [] []=some (kR (Gm e (aS e-gQ e) (aS e))):=by
 obtain⟨h1,h2,h3,h4⟩:=h.aS
 obtain⟨n1,n2,n3⟩:=fM e h
 have en:=iy e
 have e1:=OO e h (e.ak.At-max e.bD 1) e.ak.At (aS e-gQ e) (aS e) (by omega) (by omega) (by omega)
 have w1:=bM (e.ak.At-max e.bD 1) (by omega)
 generalize Gm e (aS e-gQ e) (aS e)=p at*
 clear h hh
 generalize hE:bn _ _ _=R
 simp [bn, -au,func188,f188,en,e1,w1]at hE
 exact hE.symm
theorem aay (r:Int):bn [gL e,aH f l,aK 14 r] [] []=some (kR (Qr e)):=by
 obtain⟨h1,h2,h3,h4⟩:=h.aS
 obtain⟨n1,n2,n3⟩:=fM e h
 have en:=iy e
 have e1:=OO e h e.ak.At (e.ak.At+max e.bD 1) (aS e) (min (aS e+gQ e) e.ak.av.length) (by omega) (by omega) (by omega)
 have w1:=bM (e.ak.At+max e.bD 1) (by omega)
 unfold Qr
 generalize Gm e (aS e) (min (aS e+gQ e) e.ak.av.length)=p at*
 clear h hh
 generalize hE:bn _ _ _=R
 simp [bn, -au,func188,f188,en,e1,w1]at hE
 exact hE.symm
theorem aaz (r:Int):bn [gL e,aH f l,aK 11 r] [] []=some (kR (zf e (e.ak.At-gQ e))):=by
 obtain⟨h1,h2,h3,h4⟩:=h.aS
 obtain⟨n1,n2,n3⟩:=fM e h
 have en:=iy e
 rw [n1]
 have e1:=qD e h (e.ak.At-max e.bD 1)
 have w1:=bM (e.ak.At-max e.bD 1) (by omega)
 generalize zf e (e.ak.At-max e.bD 1)=p at*
 clear h hh
 generalize hE:bn _ _ _=R
 simp [bn, -au,func188,f188,en,e1,w1]at hE
 exact hE.symm
theorem aaA (r:Int):bn [gL e,aH f l,aK 10 r] [] []=some (kR (zf e (e.ak.At+gQ e))):=by
 obtain⟨h1,h2,h3,h4⟩:=h.aS
 obtain⟨n1,n2,n3⟩:=fM e h
 have en:=iy e
 rw [n1]
 have e1:=qD e h (e.ak.At+max e.bD 1)
 have w1:=bM (e.ak.At+max e.bD 1) (by omega)
 generalize zf e (e.ak.At+max e.bD 1)=p at*
 clear h hh
 generalize hE:bn _ _ _=R
 simp [bn, -au,func188,f188,en,e1,w1]at hE
 exact hE.symm
theorem aaB (r:Int):bn [gL e,aH f l,aK 12 r] [] []=some (kR (zf e 0)):=by
 obtain⟨h1,h2,h3,h4⟩:=h.aS
 obtain⟨n1,n2,n3⟩:=fM e h
 have en:=iy e
 have e1:=qD e h 0
 generalize zf e 0=p at*
 clear h hh
 generalize hE:bn _ _ _=R
 simp [bn, -au,func188,f188,en,e1]at hE
 exact hE.symm
theorem aaC (r:Int):bn [gL e,aH f l,aK 13 r] [] []=some (kR (zf e e.ak.av.length)):=by
 obtain⟨h1,h2,h3,h4⟩:=h.aS
 obtain⟨n1,n2,n3⟩:=fM e h
 have en:=iy e
 have e1:=qD e h e.ak.av.length
 generalize zf e e.ak.av.length=p at*
 clear h hh
 generalize hE:bn _ _ _=R
 simp [bn, -au,func188,f188,en,e1]at hE
 exact hE.symm
theorem ac9 (r:Int):bn [gL e,aH f l,aK 8 r] [] []=some (kR (jP e f l (-1))):=by
 obtain⟨h1,h2,h3,h4⟩:=h.aS
 obtain⟨n1,n2,n3⟩:=fM e h
 have en:=iy e
 have e1:=uf e h hh (-1) (.inr rfl)
 generalize jP e f l (-1)=p at*
 clear h hh
 generalize hE:bn _ _ _=R
 simp [bn, -au,func188,f188,en,e1]at hE
 exact hE.symm
theorem ada (r:Int):bn [gL e,aH f l,aK 9 r] [] []=some (kR (jP e f l 1)):=by
 obtain⟨h1,h2,h3,h4⟩:=h.aS
 obtain⟨n1,n2,n3⟩:=fM e h
 have en:=iy e
 have e1:=uf e h hh 1 (.inl rfl)
 generalize jP e f l 1=p at*
 clear h hh
 generalize hE:bn _ _ _=R
 simp [bn, -au,func188,f188,en,e1]at hE
 exact hE.symm
theorem aaD  :bn [gL e,aH f l,aK 2 99] [] []=some (kR (e,3)):=by
 obtain⟨h1,h2,h3,h4⟩:=h.aS
 obtain⟨n1,n2,n3⟩:=fM e h
 have en:=iy e
 have e1:=gG e h
 clear h hh
 generalize hE:bn _ _ _=R
 simp [bn, -au,func188,f188,en,e1]at hE
 exact hE.symm
theorem XZ  :bn [gL e,aH f l,aK 2 108] [] []=some (kR (e,5)):=by
 obtain⟨h1,h2,h3,h4⟩:=h.aS
 obtain⟨n1,n2,n3⟩:=fM e h
 have en:=iy e
 have e1:=gG e h
 clear h hh
 generalize hE:bn _ _ _=R
 simp [bn, -au,func188,f188,en,e1]at hE
 exact hE.symm
theorem X0  :bn [gL e,aH f l,aK 2 117] [] []=some (kR (mq e 0 (aS e) 2)):=by
 obtain⟨h1,h2,h3,h4⟩:=h.aS
 obtain⟨n1,n2,n3⟩:=fM e h
 have en:=iy e
 have e1:=Ct e h 0 e.ak.At 2 0 (aS e) (by omega) (by omega) (by omega) (by omega)
 generalize mq e 0 (aS e) 2=p at*
 clear h hh
 generalize hE:bn _ _ _=R
 simp [bn, -au,func188,f188,en,e1]at hE
 exact hE.symm
theorem Uy  (hz:¬e.ak.av.length=0):bn [gL e,aH f l,aK 2 100] [] []=some (kR (Qr e)):=by
 obtain⟨h1,h2,h3,h4⟩:=h.aS
 obtain⟨n1,n2,n3⟩:=fM e h
 have en:=iy e
 have hz2:¬e.ak.av= []:=fun q=>hz (by rw [q];rfl)
 have hz3:¬(e.ak.av.length:Int)=0:=by omega
 have e1:=OO e h e.ak.At (e.ak.At+max e.bD 1) (aS e) (min (aS e+gQ e) e.ak.av.length) (by omega) (by omega) (by omega)
 have w1:=bM (e.ak.At+max e.bD 1) (by omega)
 unfold Qr
 generalize Gm e (aS e) (min (aS e+gQ e) e.ak.av.length)=p at*
 clear h hh
 generalize hE:bn _ _ _=R
 simp [bn, -au,func188,f188,en,e1,w1,hz2,hz3]at hE
 exact hE.symm
theorem X3  (hvb:pq [.aM (some 0) (ints e.ak.av),vI e.ak.At,V.v (.bool true)] [] []=some ⟨vI (((kV e.ak.av true (aS e):Nat):Int)),[],[]⟩):bn [gL e,aH f l,aK 2 119] [] []=some (kR (mq e (kV e.ak.av true (aS e)) (aS e) 2)):=by
 obtain⟨h1,h2,h3,h4⟩:=h.aS
 obtain⟨n1,n2,n3⟩:=fM e h
 have en:=iy e
 have hv:=BH (t:=e.ak.av) (big:=true) (a:=aS e)
 have e1:=Ct e h (kV e.ak.av true (aS e)) e.ak.At 2 (kV e.ak.av true (aS e)) (aS e) (by omega) (by omega) hv (by omega)
 generalize mq e (kV e.ak.av true (aS e)) (aS e) 2=p at*
 generalize kV e.ak.av true (aS e)=b at*
 clear h hh
 generalize hE:bn _ _ _=R
 simp [bn, -au,func188,f188,en,e1,hvb]at hE
 exact hE.symm
theorem Uz (hz:e.ak.av.length=0):bn [gL e,aH f l,aK 2 100] [] []=some (kR (e,4)):=by
 have en:=iy e
 have e1:=gG e h
 have hz2:e.ak.av= []:=List.length_eq_zero_iff.1 hz
 clear h hh
 generalize hE:bn _ _ _=R
 unfold bn at hE
 simp only [gL,gO,hO,hz2,aZ]at e1 en hE
 simp [-au,func188,f188,en,e1]at hE
 simp only [kR,gL,gO,hO,hz2,aZ]
 exact hE.symm
end
end Go.Proofs.YtlpdjhiggpblcaaGreat
