/- Part 10 of a proof in several texts (an abstract evaluator, what the functions compute). -/
import Derived.Test.YtlpdjhiggpblcaaGreatPkFnEdOk9
open Go.Proofs.Tryz
namespace Go.Proofs.YtlpdjhiggpblcaaGreat
set_option linter.unusedSectionVars false
set_option linter.unusedSimpArgs false
set_option linter.unusedVariables false
open Go.RowKit
set_option maxHeartbeats 16000000
set_option maxRecDepth 100000
def dI (fr fh:Int):Bool:=(fr==0&&fh==0)||(fr != 0&&(bS fr&&gY fh 0 3))
def fQ (vi:Bool)(mode:Int)(lt:List Int)(la cnt op uV wt fr fh last:Int)(rp:List eT)(ul:List iG)(zX:Int)(ot:List Int)(oa:Int)(q:List Int)(hit:Int)(bt:List Int)(ba:Int):Bool:=
 bN lt la&&(bN ot oa&&(bN bt ba&&(gY cnt 0 999&&(gY uV 0 999&&(eU vi mode lt la op uV wt&&(dI fr fh&&(gY last 0 3&&(eZ rp&&(jB ul&&(gY zX 0 1000000060&&(gY hit 0 1000000060&&((zX != 0||nE ot oa)&&(decide (q.length≤40)&&(q.all bS&&fu mode q hit bt ba))))))))))))))
theorem agV (vi:Bool)(mode:Int)(lt:List Int)(la cnt op uV wt fr fh last:Int)(rp:List eT)(ul:List iG)(zX:Int)(ot:List Int)(oa:Int)(q:List Int)(hit:Int)(bt:List Int)(ba:Int)(h1:lt.length≤1000000000)(h2:ot.length≤1000000000)(h3:bt.length≤1000000000)(h4:q.length≤1000000000)(h5:smL (aC rp)=true)(h6:smL (aS ul)=true):Cu [.agg [V.v (.bool vi),vI mode, .aP (some 0) (ints lt),vI la,vI cnt,vI op,vI uV,vI wt,vI fr,vI fh,vI last, .aP (some 1) (aC rp), .aP (some 2) (aS ul),vI zX, .aP (some 3) (ints ot),vI oa, .aP (some 4) (ints q),vI hit, .aP (some 5) (ints bt),vI ba]] [] []=some ⟨V.v (.bool (fQ vi mode lt la cnt op uV wt fr fh last rp ul zX ot oa q hit bt ba)),[],[]⟩:=by
 unfold Cu
 cases a0:bN lt la
 ·simp [func9,f9,fQ,dI,bQ,h1,h2,h3,h5,h6,dQ,dx,cK,cO,bK,aQ,a0]
 cases a1:bN ot oa
 ·simp [func9,f9,fQ,dI,bQ,h1,h2,h3,h5,h6,dQ,dx,cK,cO,bK,aQ,a0,a1]
 cases a2:bN bt ba
 ·simp [func9,f9,fQ,dI,bQ,h1,h2,h3,h5,h6,dQ,dx,cK,cO,bK,aQ,a0,a1,a2]
 cases a3:gY cnt 0 999
 ·simp [func9,f9,fQ,dI,bQ,h1,h2,h3,h5,h6,dQ,dx,cK,cO,bK,aQ,a0,a1,a2,a3]
 cases a4:gY uV 0 999
 ·simp [func9,f9,fQ,dI,bQ,h1,h2,h3,h5,h6,dQ,dx,cK,cO,bK,aQ,a0,a1,a2,a3,a4]
 cases a5:eU vi mode lt la op uV wt
 ·simp [func9,f9,fQ,dI,bQ,h1,h2,h3,h5,h6,dQ,dx,cK,cO,bK,aQ,a0,a1,a2,a3,a4,a5]
 by_cases f0:fr=0
 ·subst f0
  by_cases f1:fh=0
  rotate_left
  ·simp [func9,f9,fQ,dI,bQ,h1,h2,h3,h5,h6,dQ,dx,cK,cO,bK,aQ,a0,a1,a2,a3,a4,a5,f1]
  subst f1
  cases c0:gY last 0 3
  ·simp [func9,f9,fQ,dI,bQ,h1,h2,h3,h5,h6,dQ,dx,cK,cO,bK,aQ,a0,a1,a2,a3,a4,a5,c0]
  cases c1:eZ rp
  ·simp [func9,f9,fQ,dI,bQ,h1,h2,h3,h5,h6,dQ,dx,cK,cO,bK,aQ,a0,a1,a2,a3,a4,a5,c0,c1]
  cases c2:jB ul
  ·simp [func9,f9,fQ,dI,bQ,h1,h2,h3,h5,h6,dQ,dx,cK,cO,bK,aQ,a0,a1,a2,a3,a4,a5,c0,c1,c2]
  cases c3:gY zX 0 1000000060
  ·simp [func9,f9,fQ,dI,bQ,h1,h2,h3,h5,h6,dQ,dx,cK,cO,bK,aQ,a0,a1,a2,a3,a4,a5,c0,c1,c2,c3]
  cases c4:gY hit 0 1000000060
  ·simp [func9,f9,fQ,dI,bQ,h1,h2,h3,h5,h6,dQ,dx,cK,cO,bK,aQ,a0,a1,a2,a3,a4,a5,c0,c1,c2,c3,c4]
  by_cases d0:zX=0
  ·subst d0
   cases e0:nE ot oa
   ·simp [func9,f9,fQ,dI,bQ,h1,h2,h3,h5,h6,dQ,dx,cK,cO,bK,aQ,a0,a1,a2,a3,a4,a5,c0,c1,c2,c3,c4,e0]
   by_cases d1:q.length≤40
   rotate_left
   ·have d1':40<(q.length:Int):=by omega
    simp [func9,f9,fQ,dI,bQ,h1,h2,h3,h5,h6,dQ,dx,cK,cO,bK,aQ,a0,a1,a2,a3,a4,a5,c0,c1,c2,c3,c4,e0,d1,d1']
   have d1':¬(40<(q.length:Int)):=by omega
   simp [func9,f9,fQ,dI,bQ,h1,h2,h3,h5,h6,dQ,dx,cK,cO,bK,aQ,a0,a1,a2,a3,a4,a5,c0,c1,c2,c3,c4,e0,d1,d1']
   rcases nJ bS q with g|⟨g,N,hN,g1,g2⟩
   ·rw [aJ (fun j=> .on ⟨[(109,V.v (.int .i64 ((j:Int)))),(108,V.v (.int .i64 ((q.length:Int)))),(107, .aP (some 4) (ints q)),(1, .ref 1 0)],[(1,[V.v (.bool vi),vI mode, .aP (some 0) (ints lt),vI la,vI cnt,vI op,vI uV,vI wt,vI 0,vI 0,vI last, .aP (some 1) (aC rp), .aP (some 2) (aS ul),vI 0, .aP (some 3) (ints ot),vI oa, .aP (some 4) (ints q),vI hit, .aP (some 5) (ints bt),vI ba])],[],[]⟩) q.length ?_ ?_]
    ·by_cases m3:mode=3
     ·simp [func9,f9,fQ,dI,bQ,h1,h2,h3,h5,h6,dQ,dx,cK,cO,bK,aQ,a0,a1,a2,a3,a4,a5,c0,c1,c2,c3,c4,e0,d1,d1',g,fu,m3]
     ·by_cases q0:q= []
      ·subst q0
       by_cases t0:hit=0
       ·subst t0;cases em:nE bt ba<;>simp [func9,f9,fQ,dI,bQ,h1,h2,h3,h5,h6,dQ,dx,cK,cO,bK,aQ,a0,a1,a2,a3,a4,a5,c0,c1,c2,c3,c4,e0,d1,d1',g,fu,m3,em]
       ·simp [func9,f9,fQ,dI,bQ,h1,h2,h3,h5,h6,dQ,dx,cK,cO,bK,aQ,a0,a1,a2,a3,a4,a5,c0,c1,c2,c3,c4,e0,d1,d1',g,fu,m3,t0]
      ·simp [func9,f9,fQ,dI,bQ,h1,h2,h3,h5,h6,dQ,dx,cK,cO,bK,aQ,a0,a1,a2,a3,a4,a5,c0,c1,c2,c3,c4,e0,d1,d1',g,fu,m3,q0]
    ·simp
    ·intro j hj
     have hw:=bM (j+1) (by omega)
     have:=List.all_eq_true.1 g q[j] (List.getElem_mem hj)
     simp [hj,hw,aO hj,aQ,this]
   ·rw [aJ (fun j=> .on ⟨[(109,V.v (.int .i64 ((j:Int)))),(108,V.v (.int .i64 ((q.length:Int)))),(107, .aP (some 4) (ints q)),(1, .ref 1 0)],[(1,[V.v (.bool vi),vI mode, .aP (some 0) (ints lt),vI la,vI cnt,vI op,vI uV,vI wt,vI 0,vI 0,vI last, .aP (some 1) (aC rp), .aP (some 2) (aS ul),vI 0, .aP (some 3) (ints ot),vI oa, .aP (some 4) (ints q),vI hit, .aP (some 5) (ints bt),vI ba])],[],[]⟩) N ?_ ?_]
    ·simp [hN,aO hN,aQ,g1,g,fQ]
    ·simp
    ·intro j hj
     have hj':j<q.length:=by omega
     have hw:=bM (j+1) (by omega)
     simp [hj',hw,aO hj',aQ,g2 j hj' hj]
  ·skip
   by_cases d1:q.length≤40
   rotate_left
   ·have d1':40<(q.length:Int):=by omega
    simp [func9,f9,fQ,dI,bQ,h1,h2,h3,h5,h6,dQ,dx,cK,cO,bK,aQ,a0,a1,a2,a3,a4,a5,c0,c1,c2,c3,c4,d0,d1,d1']
   have d1':¬(40<(q.length:Int)):=by omega
   simp [func9,f9,fQ,dI,bQ,h1,h2,h3,h5,h6,dQ,dx,cK,cO,bK,aQ,a0,a1,a2,a3,a4,a5,c0,c1,c2,c3,c4,d0,d1,d1']
   rcases nJ bS q with g|⟨g,N,hN,g1,g2⟩
   ·rw [aJ (fun j=> .on ⟨[(109,V.v (.int .i64 ((j:Int)))),(108,V.v (.int .i64 ((q.length:Int)))),(107, .aP (some 4) (ints q)),(1, .ref 1 0)],[(1,[V.v (.bool vi),vI mode, .aP (some 0) (ints lt),vI la,vI cnt,vI op,vI uV,vI wt,vI 0,vI 0,vI last, .aP (some 1) (aC rp), .aP (some 2) (aS ul),vI zX, .aP (some 3) (ints ot),vI oa, .aP (some 4) (ints q),vI hit, .aP (some 5) (ints bt),vI ba])],[],[]⟩) q.length ?_ ?_]
    ·by_cases m3:mode=3
     ·simp [func9,f9,fQ,dI,bQ,h1,h2,h3,h5,h6,dQ,dx,cK,cO,bK,aQ,a0,a1,a2,a3,a4,a5,c0,c1,c2,c3,c4,d0,d1,d1',g,fu,m3]
     ·by_cases q0:q= []
      ·subst q0
       by_cases t0:hit=0
       ·subst t0;cases em:nE bt ba<;>simp [func9,f9,fQ,dI,bQ,h1,h2,h3,h5,h6,dQ,dx,cK,cO,bK,aQ,a0,a1,a2,a3,a4,a5,c0,c1,c2,c3,c4,d0,d1,d1',g,fu,m3,em]
       ·simp [func9,f9,fQ,dI,bQ,h1,h2,h3,h5,h6,dQ,dx,cK,cO,bK,aQ,a0,a1,a2,a3,a4,a5,c0,c1,c2,c3,c4,d0,d1,d1',g,fu,m3,t0]
      ·simp [func9,f9,fQ,dI,bQ,h1,h2,h3,h5,h6,dQ,dx,cK,cO,bK,aQ,a0,a1,a2,a3,a4,a5,c0,c1,c2,c3,c4,d0,d1,d1',g,fu,m3,q0]
    ·simp
    ·intro j hj
     have hw:=bM (j+1) (by omega)
     have:=List.all_eq_true.1 g q[j] (List.getElem_mem hj)
     simp [hj,hw,aO hj,aQ,this]
   ·rw [aJ (fun j=> .on ⟨[(109,V.v (.int .i64 ((j:Int)))),(108,V.v (.int .i64 ((q.length:Int)))),(107, .aP (some 4) (ints q)),(1, .ref 1 0)],[(1,[V.v (.bool vi),vI mode, .aP (some 0) (ints lt),vI la,vI cnt,vI op,vI uV,vI wt,vI 0,vI 0,vI last, .aP (some 1) (aC rp), .aP (some 2) (aS ul),vI zX, .aP (some 3) (ints ot),vI oa, .aP (some 4) (ints q),vI hit, .aP (some 5) (ints bt),vI ba])],[],[]⟩) N ?_ ?_]
    ·simp [hN,aO hN,aQ,g1,g,fQ]
    ·simp
    ·intro j hj
     have hj':j<q.length:=by omega
     have hw:=bM (j+1) (by omega)
     simp [hj',hw,aO hj',aQ,g2 j hj' hj]
 ·skip
  cases f1:bS fr
  ·simp [func9,f9,fQ,dI,bQ,h1,h2,h3,h5,h6,dQ,dx,cK,cO,bK,aQ,a0,a1,a2,a3,a4,a5,f0,f1]
  cases f2:gY fh 0 3
  ·simp [func9,f9,fQ,dI,bQ,h1,h2,h3,h5,h6,dQ,dx,cK,cO,bK,aQ,a0,a1,a2,a3,a4,a5,f0,f1,f2]
  cases c0:gY last 0 3
  ·simp [func9,f9,fQ,dI,bQ,h1,h2,h3,h5,h6,dQ,dx,cK,cO,bK,aQ,a0,a1,a2,a3,a4,a5,f0,f1,f2,c0]
  cases c1:eZ rp
  ·simp [func9,f9,fQ,dI,bQ,h1,h2,h3,h5,h6,dQ,dx,cK,cO,bK,aQ,a0,a1,a2,a3,a4,a5,f0,f1,f2,c0,c1]
  cases c2:jB ul
  ·simp [func9,f9,fQ,dI,bQ,h1,h2,h3,h5,h6,dQ,dx,cK,cO,bK,aQ,a0,a1,a2,a3,a4,a5,f0,f1,f2,c0,c1,c2]
  cases c3:gY zX 0 1000000060
  ·simp [func9,f9,fQ,dI,bQ,h1,h2,h3,h5,h6,dQ,dx,cK,cO,bK,aQ,a0,a1,a2,a3,a4,a5,f0,f1,f2,c0,c1,c2,c3]
  cases c4:gY hit 0 1000000060
  ·simp [func9,f9,fQ,dI,bQ,h1,h2,h3,h5,h6,dQ,dx,cK,cO,bK,aQ,a0,a1,a2,a3,a4,a5,f0,f1,f2,c0,c1,c2,c3,c4]
  by_cases d0:zX=0
  ·subst d0
   cases e0:nE ot oa
   ·simp [func9,f9,fQ,dI,bQ,h1,h2,h3,h5,h6,dQ,dx,cK,cO,bK,aQ,a0,a1,a2,a3,a4,a5,f0,f1,f2,c0,c1,c2,c3,c4,e0]
   by_cases d1:q.length≤40
   rotate_left
   ·have d1':40<(q.length:Int):=by omega
    simp [func9,f9,fQ,dI,bQ,h1,h2,h3,h5,h6,dQ,dx,cK,cO,bK,aQ,a0,a1,a2,a3,a4,a5,f0,f1,f2,c0,c1,c2,c3,c4,e0,d1,d1']
   have d1':¬(40<(q.length:Int)):=by omega
   simp [func9,f9,fQ,dI,bQ,h1,h2,h3,h5,h6,dQ,dx,cK,cO,bK,aQ,a0,a1,a2,a3,a4,a5,f0,f1,f2,c0,c1,c2,c3,c4,e0,d1,d1']
   rcases nJ bS q with g|⟨g,N,hN,g1,g2⟩
   ·rw [aJ (fun j=> .on ⟨[(109,V.v (.int .i64 ((j:Int)))),(108,V.v (.int .i64 ((q.length:Int)))),(107, .aP (some 4) (ints q)),(1, .ref 1 0)],[(1,[V.v (.bool vi),vI mode, .aP (some 0) (ints lt),vI la,vI cnt,vI op,vI uV,vI wt,vI fr,vI fh,vI last, .aP (some 1) (aC rp), .aP (some 2) (aS ul),vI 0, .aP (some 3) (ints ot),vI oa, .aP (some 4) (ints q),vI hit, .aP (some 5) (ints bt),vI ba])],[],[]⟩) q.length ?_ ?_]
    ·by_cases m3:mode=3
     ·simp [func9,f9,fQ,dI,bQ,h1,h2,h3,h5,h6,dQ,dx,cK,cO,bK,aQ,a0,a1,a2,a3,a4,a5,f0,f1,f2,c0,c1,c2,c3,c4,e0,d1,d1',g,fu,m3]
     ·by_cases q0:q= []
      ·subst q0
       by_cases t0:hit=0
       ·subst t0;cases em:nE bt ba<;>simp [func9,f9,fQ,dI,bQ,h1,h2,h3,h5,h6,dQ,dx,cK,cO,bK,aQ,a0,a1,a2,a3,a4,a5,f0,f1,f2,c0,c1,c2,c3,c4,e0,d1,d1',g,fu,m3,em]
       ·simp [func9,f9,fQ,dI,bQ,h1,h2,h3,h5,h6,dQ,dx,cK,cO,bK,aQ,a0,a1,a2,a3,a4,a5,f0,f1,f2,c0,c1,c2,c3,c4,e0,d1,d1',g,fu,m3,t0]
      ·simp [func9,f9,fQ,dI,bQ,h1,h2,h3,h5,h6,dQ,dx,cK,cO,bK,aQ,a0,a1,a2,a3,a4,a5,f0,f1,f2,c0,c1,c2,c3,c4,e0,d1,d1',g,fu,m3,q0]
    ·simp
    ·intro j hj
     have hw:=bM (j+1) (by omega)
     have:=List.all_eq_true.1 g q[j] (List.getElem_mem hj)
     simp [hj,hw,aO hj,aQ,this]
   ·rw [aJ (fun j=> .on ⟨[(109,V.v (.int .i64 ((j:Int)))),(108,V.v (.int .i64 ((q.length:Int)))),(107, .aP (some 4) (ints q)),(1, .ref 1 0)],[(1,[V.v (.bool vi),vI mode, .aP (some 0) (ints lt),vI la,vI cnt,vI op,vI uV,vI wt,vI fr,vI fh,vI last, .aP (some 1) (aC rp), .aP (some 2) (aS ul),vI 0, .aP (some 3) (ints ot),vI oa, .aP (some 4) (ints q),vI hit, .aP (some 5) (ints bt),vI ba])],[],[]⟩) N ?_ ?_]
    ·simp [hN,aO hN,aQ,g1,g,fQ]
    ·simp
    ·intro j hj
     have hj':j<q.length:=by omega
     have hw:=bM (j+1) (by omega)
     simp [hj',hw,aO hj',aQ,g2 j hj' hj]
  ·skip
   by_cases d1:q.length≤40
   rotate_left
   ·have d1':40<(q.length:Int):=by omega
    simp [func9,f9,fQ,dI,bQ,h1,h2,h3,h5,h6,dQ,dx,cK,cO,bK,aQ,a0,a1,a2,a3,a4,a5,f0,f1,f2,c0,c1,c2,c3,c4,d0,d1,d1']
   have d1':¬(40<(q.length:Int)):=by omega
   simp [func9,f9,fQ,dI,bQ,h1,h2,h3,h5,h6,dQ,dx,cK,cO,bK,aQ,a0,a1,a2,a3,a4,a5,f0,f1,f2,c0,c1,c2,c3,c4,d0,d1,d1']
   rcases nJ bS q with g|⟨g,N,hN,g1,g2⟩
   ·rw [aJ (fun j=> .on ⟨[(109,V.v (.int .i64 ((j:Int)))),(108,V.v (.int .i64 ((q.length:Int)))),(107, .aP (some 4) (ints q)),(1, .ref 1 0)],[(1,[V.v (.bool vi),vI mode, .aP (some 0) (ints lt),vI la,vI cnt,vI op,vI uV,vI wt,vI fr,vI fh,vI last, .aP (some 1) (aC rp), .aP (some 2) (aS ul),vI zX, .aP (some 3) (ints ot),vI oa, .aP (some 4) (ints q),vI hit, .aP (some 5) (ints bt),vI ba])],[],[]⟩) q.length ?_ ?_]
    ·by_cases m3:mode=3
     ·simp [func9,f9,fQ,dI,bQ,h1,h2,h3,h5,h6,dQ,dx,cK,cO,bK,aQ,a0,a1,a2,a3,a4,a5,f0,f1,f2,c0,c1,c2,c3,c4,d0,d1,d1',g,fu,m3]
     ·by_cases q0:q= []
      ·subst q0
       by_cases t0:hit=0
       ·subst t0;cases em:nE bt ba<;>simp [func9,f9,fQ,dI,bQ,h1,h2,h3,h5,h6,dQ,dx,cK,cO,bK,aQ,a0,a1,a2,a3,a4,a5,f0,f1,f2,c0,c1,c2,c3,c4,d0,d1,d1',g,fu,m3,em]
       ·simp [func9,f9,fQ,dI,bQ,h1,h2,h3,h5,h6,dQ,dx,cK,cO,bK,aQ,a0,a1,a2,a3,a4,a5,f0,f1,f2,c0,c1,c2,c3,c4,d0,d1,d1',g,fu,m3,t0]
      ·simp [func9,f9,fQ,dI,bQ,h1,h2,h3,h5,h6,dQ,dx,cK,cO,bK,aQ,a0,a1,a2,a3,a4,a5,f0,f1,f2,c0,c1,c2,c3,c4,d0,d1,d1',g,fu,m3,q0]
    ·simp
    ·intro j hj
     have hw:=bM (j+1) (by omega)
     have:=List.all_eq_true.1 g q[j] (List.getElem_mem hj)
     simp [hj,hw,aO hj,aQ,this]
   ·rw [aJ (fun j=> .on ⟨[(109,V.v (.int .i64 ((j:Int)))),(108,V.v (.int .i64 ((q.length:Int)))),(107, .aP (some 4) (ints q)),(1, .ref 1 0)],[(1,[V.v (.bool vi),vI mode, .aP (some 0) (ints lt),vI la,vI cnt,vI op,vI uV,vI wt,vI fr,vI fh,vI last, .aP (some 1) (aC rp), .aP (some 2) (aS ul),vI zX, .aP (some 3) (ints ot),vI oa, .aP (some 4) (ints q),vI hit, .aP (some 5) (ints bt),vI ba])],[],[]⟩) N ?_ ?_]
    ·simp [hN,aO hN,aQ,g1,g,fQ]
    ·simp
    ·intro j hj
     have hj':j<q.length:=by omega
     have hw:=bM (j+1) (by omega)
     simp [hj',hw,aO hj',aQ,g2 j hj' hj]
def dB.ok (e:dB):Bool:=fQ e.Vi e.bV e.ak.av e.ak.At e.bH e.Op e.bU e.fT e.eY e.bT e.iZ e.aI.aA e.gH.eX e.kF e.iM.av e.iM.At e.bP e.nH e.dH.av e.dH.At
structure dB.sm (e:dB):Prop where
 h1:e.ak.av.length≤1000000000
 h2:e.iM.av.length≤1000000000
 h3:e.dH.av.length≤1000000000
 h4:e.bP.length≤1000000000
 h5:smL (aC e.aI.aA)=true
 h6:smL (aS e.gH.eX)=true
theorem dB.Ut {e:dB}(h:e.ok=true):bN e.ak.av e.ak.At=true∧e.bP.length≤40∧e.bP.all bS=true:=by
 simp only [dB.ok,fQ,Bool.and_eq_true,decide_eq_true_eq]at h
 exact⟨h.1,h.2.2.2.2.2.2.2.2.2.2.2.2.2.1,h.2.2.2.2.2.2.2.2.2.2.2.2.2.2.1⟩
theorem Ee {l:List eT}(h:eZ l=true):smL (aC l)=true:=by
 simp only [eZ,Bool.and_eq_true,decide_eq_true_eq]at h
 refine aaK (by simp;omega) fun j r e=>?_
 have hj:j<l.length:=by have:=(List.getElem?_eq_some_iff.1 e).1;simpa using this
 rw [jq hj]at e
 injection e with e;subst e
 have:=List.all_eq_true.1 h.1 l[j] (List.getElem_mem hj)
 simp only [qJ,dF,Bool.and_eq_true,decide_eq_true_eq]at this
 simp only [zD,FB,QI,Bool.and_true]
 exact QJ (by omega)
theorem LY {l:List iG}(h:jB l=true):smL (aS l)=true:=by
 simp only [jB,Bool.and_eq_true,decide_eq_true_eq]at h
 refine aaK (by simp;omega) fun j r e=>?_
 have hj:j<l.length:=by have:=(List.getElem?_eq_some_iff.1 e).1;simpa using this
 rw [iR hj]at e
 injection e with e;subst e
 have:=List.all_eq_true.1 h.1 l[j] (List.getElem_mem hj)
 simp only [CG,bN,dF,Bool.and_eq_true,decide_eq_true_eq]at this
 simp only [zD,FB,QI,Yp,Bool.and_true]
 exact QJ (by omega)
theorem dB.acw {e:dB}(h:e.ok=true):e.sm:=by
 simp only [dB.ok,fQ,Bool.and_eq_true,decide_eq_true_eq]at h
 obtain⟨a1,a2,a3,a4,a5,a6,a7,a8,a9,a10,a11,a12,a13,a14,a15,a16⟩:=h
 have len:∀{l:List Int} {a:Int},bN l a=true→l.length≤1000000000:=fun h=>by
  simp only [bN,dF,Bool.and_eq_true,decide_eq_true_eq]at h;omega
 exact⟨len a1,len a2,len a3,by omega,Ee a9,LY a10⟩
theorem afL {l:List Int}{a:Int}(h:atEnd l a=false):l= []∨(l≠ []∧¬a=l.length):=by
 cases l with
 | nil=>exact .inl rfl
 | cons x l=>exact .inr ⟨by simp,by simpa [atEnd] using h⟩
theorem adC {l:List Int}{a:Int}(h:atEnd l a=true):0<l.length∧a=l.length:=by
 simpa [atEnd,List.length_pos_iff] using h
theorem dz (vi:Bool)(mode:Int)(lt:List Int)(la cnt op uV wt fr fh last:Int)(rp:List eT)(ul:List iG)(zX:Int)(ot:List Int)(oa:Int)(q:List Int)(hit:Int)(bt:List Int)(ba:Int):Fp [.agg [V.v (.bool vi),vI mode, .aP (some 0) (ints lt),vI la,vI cnt,vI op,vI uV,vI wt,vI fr,vI fh,vI last, .aP (some 1) (aC rp), .aP (some 2) (aS ul),vI zX, .aP (some 3) (ints ot),vI oa, .aP (some 4) (ints q),vI hit, .aP (some 5) (ints bt),vI ba]] [] []=some ⟨V.v (.bool (eU vi mode lt la op uV wt&&fu mode q hit bt ba)),[],[]⟩:=by
 unfold Fp
 by_cases m2:mode=2
 ·subst m2
  cases vi
  ·simp [func135,f135,eU,fu,aD,aV,aL]
  cases hA:atEnd lt la
  ·rcases afL hA with e|⟨e,e2⟩
   ·subst e
    by_cases q0:q= []
    ·subst q0
     by_cases t0:hit=0
     ·subst t0
      cases em:nE bt ba
      ·simp [func135,f135,eU,fu,aD,aV,aL,hA,em]
      by_cases o0:op=0
      ·subst o0
       by_cases k0:uV=0
       ·subst k0
        by_cases w0:wt=0
        ·subst w0
         simp [func135,f135,eU,fu,aD,aV,aL,hA,em]
        ·skip
         cases hW:wI wt<;>simp [func135,f135,eU,fu,aD,aV,aL,hA,em,w0,hW]
       ·skip
        by_cases w0:wt=0
        ·subst w0
         simp [func135,f135,eU,fu,aD,aV,aL,hA,em,k0]
        ·skip
         cases hW:wI wt<;>simp [func135,f135,eU,fu,aD,aV,aL,hA,em,k0,w0,hW]
      ·skip
       cases hO:opC op
       ·simp [func135,f135,eU,fu,aD,aV,aL,hA,em,o0,hO]
       by_cases w0:wt=0
       ·subst w0
        simp [func135,f135,eU,fu,aD,aV,aL,hA,em,o0,hO]
       ·skip
        cases hW:wI wt<;>simp [func135,f135,eU,fu,aD,aV,aL,hA,em,o0,hO,w0,hW]
     ·skip
      simp [func135,f135,eU,fu,aD,aV,aL,hA,t0]
    ·have q1:0<q.length:=List.length_pos_iff.2 q0
     simp [func135,f135,eU,fu,aD,aV,aL,hA,q0,q1]
   ·have e3:0<lt.length:=List.length_pos_iff.2 e
    by_cases q0:q= []
    ·subst q0
     by_cases t0:hit=0
     ·subst t0
      cases em:nE bt ba
      ·simp [func135,f135,eU,fu,aD,aV,aL,hA,e,e2,e3,em]
      by_cases o0:op=0
      ·subst o0
       by_cases k0:uV=0
       ·subst k0
        by_cases w0:wt=0
        ·subst w0
         simp [func135,f135,eU,fu,aD,aV,aL,hA,e,e2,e3,em]
        ·skip
         cases hW:wI wt<;>simp [func135,f135,eU,fu,aD,aV,aL,hA,e,e2,e3,em,w0,hW]
       ·skip
        by_cases w0:wt=0
        ·subst w0
         simp [func135,f135,eU,fu,aD,aV,aL,hA,e,e2,e3,em,k0]
        ·skip
         cases hW:wI wt<;>simp [func135,f135,eU,fu,aD,aV,aL,hA,e,e2,e3,em,k0,w0,hW]
      ·skip
       cases hO:opC op
       ·simp [func135,f135,eU,fu,aD,aV,aL,hA,e,e2,e3,em,o0,hO]
       by_cases w0:wt=0
       ·subst w0
        simp [func135,f135,eU,fu,aD,aV,aL,hA,e,e2,e3,em,o0,hO]
       ·skip
        cases hW:wI wt<;>simp [func135,f135,eU,fu,aD,aV,aL,hA,e,e2,e3,em,o0,hO,w0,hW]
     ·skip
      simp [func135,f135,eU,fu,aD,aV,aL,hA,e,e2,e3,t0]
    ·have q1:0<q.length:=List.length_pos_iff.2 q0
     simp [func135,f135,eU,fu,aD,aV,aL,hA,e,e2,e3,q0,q1]
  ·obtain⟨e1,e2⟩:=adC hA
   subst e2
   simp [func135,f135,eU,fu,aD,aV,aL,hA,e1]
 by_cases m0:mode=0
 ·subst m0
  cases vi
  ·skip
   by_cases o0:op=0
   ·subst o0
    by_cases k0:uV=0
    ·subst k0
     by_cases w0:wt=0
     ·subst w0
      by_cases q0:q= []
      ·subst q0
       by_cases t0:hit=0
       ·subst t0
        cases em:nE bt ba
        ·simp [func135,f135,eU,fu,aD,aV,aL,em]
        simp [func135,f135,eU,fu,aD,aV,aL,em]
       ·skip
        simp [func135,f135,eU,fu,aD,aV,aL,t0]
      ·have q1:0<q.length:=List.length_pos_iff.2 q0
       simp [func135,f135,eU,fu,aD,aV,aL,q0,q1]
     ·skip
      simp [func135,f135,eU,fu,aD,aV,aL,w0]
    ·skip
     simp [func135,f135,eU,fu,aD,aV,aL,k0]
   ·skip
    simp [func135,f135,eU,fu,aD,aV,aL,o0]
  ·simp [func135,f135,eU,fu,aD,aV,aL]
 by_cases m1:mode=1
 ·subst m1
  cases vi
  ·simp [func135,f135,eU,fu,aD,aV,aL]
  ·skip
   by_cases o0:op=0
   ·subst o0
    by_cases k0:uV=0
    ·subst k0
     by_cases w0:wt=0
     ·subst w0
      by_cases q0:q= []
      ·subst q0
       by_cases t0:hit=0
       ·subst t0
        cases em:nE bt ba
        ·simp [func135,f135,eU,fu,aD,aV,aL,em]
        simp [func135,f135,eU,fu,aD,aV,aL,em]
       ·skip
        simp [func135,f135,eU,fu,aD,aV,aL,t0]
      ·have q1:0<q.length:=List.length_pos_iff.2 q0
       simp [func135,f135,eU,fu,aD,aV,aL,q0,q1]
     ·skip
      simp [func135,f135,eU,fu,aD,aV,aL,w0]
    ·skip
     simp [func135,f135,eU,fu,aD,aV,aL,k0]
   ·skip
    simp [func135,f135,eU,fu,aD,aV,aL,o0]
 by_cases m3:mode=3
 ·subst m3
  cases vi
  ·skip
   by_cases o0:op=0
   ·subst o0
    by_cases k0:uV=0
    ·subst k0
     by_cases w0:wt=0
     ·subst w0
      simp [func135,f135,eU,fu,aD,aV,aL]
     ·skip
      simp [func135,f135,eU,fu,aD,aV,aL,w0]
    ·skip
     simp [func135,f135,eU,fu,aD,aV,aL,k0]
   ·skip
    simp [func135,f135,eU,fu,aD,aV,aL,o0]
  ·skip
   by_cases o0:op=0
   ·subst o0
    by_cases k0:uV=0
    ·subst k0
     by_cases w0:wt=0
     ·subst w0
      simp [func135,f135,eU,fu,aD,aV,aL]
     ·skip
      simp [func135,f135,eU,fu,aD,aV,aL,w0]
    ·skip
     simp [func135,f135,eU,fu,aD,aV,aL,k0]
   ·skip
    simp [func135,f135,eU,fu,aD,aV,aL,o0]
 by_cases ml:mode<0
 ·simp [func135,f135,eU,fu,aD,aV,aL,m0,m1,m2,m3,ml]
 ·have mh:3<mode:=by omega
  simp [func135,f135,eU,fu,aD,aV,aL,m0,m1,m2,m3,ml,mh]
theorem lq (l:List Int)(i:Option Nat)(h:l.length≤1000000):kg [.aP i (ints l)] [] []=some ⟨.own 0,[],[(0,ints l)]⟩:=by
 have g1:l.length*8≤140737488355328:=by omega
 have g2:l.length≤4611686018427387904:=by omega
 simp [kg,func98,f98,g1,g2]
theorem ku (l:List Int)(i:Option Nat)(a:Int)(h:l.length≤1000000):kZ [.agg [.aP i (ints l),vI a]] [] []=some ⟨.agg [.own 0,vI a],[],[(0,ints l)]⟩:=by
 have e:=lq l (some 0) h
 simp [kZ,func100,f100,e]
theorem Il (l:List eT)(i:Option Nat)(h:l.length≤1000)(hp:∀p∈l,p.av.length≤2000):wm [.agg [.aP i (aC l)]] [] []=some ⟨.agg [.own 0],[],[(0,aC l)]⟩:=by
 simp [wm,func142,f142]
 rw [aJ (fun k=> .on ⟨[(9,V.v (.int .i64 ((k:Int)))),(8,V.v (.int .i64 ((l.length:Int)))),(7, .aP i (aC l)),(3, .ref 3 0),(2, .ref 2 0)],[(3,[.own 2000000000]),(2,[.own 2000000001])],[(2000000001,[]),(2000000000,aC (l.take k))],[]⟩) l.length ?_ ?_]
 ·simp
 ·simp [show aC []= []from rfl]
 ·intro k hk
  have hw:=bM ((k:Int)+1) (by omega)
  have hq:=hp l[k] (List.getElem_mem hk)
  have e:=lq l[k].av (some 0) (by omega)
  have g3:min k l.length=k:=by omega
  have g4:(k+1)*24≤140737488355328:=by omega
  have g5:k≤4611686018427387903:=by omega
  have g6:aC (l.take (k+1))=aC (l.take k)++ [[.l (ints l[k].av)]]:=by rw [Ey,←List.take_succ_eq_append_getElem hk]
  simp [hk,hw,e,g3,g4,g5,g6]
theorem CJ (l:List iG)(i:Option Nat)(h:l.length≤1000)(hp:∀p∈l,p.av.length≤2000):wo [.agg [.aP i (aS l)]] [] []=some ⟨.agg [.own 0],[],[(0,aS l)]⟩:=by
 simp [wo,func143,f143]
 rw [aJ (fun k=> .on ⟨[(9,V.v (.int .i64 ((k:Int)))),(8,V.v (.int .i64 ((l.length:Int)))),(7, .aP i (aS l)),(3, .ref 3 0),(2, .ref 2 0)],[(3,[.own 2000000000]),(2,[.own 2000000001])],[(2000000001,[]),(2000000000,aS (l.take k))],[]⟩) l.length ?_ ?_]
 ·simp
 ·simp [show aS []= []from rfl]
 ·intro k hk
  have hw:=bM ((k:Int)+1) (by omega)
  have hq:=hp l[k] (List.getElem_mem hk)
  have e:=ku l[k].av (some 0) l[k].At (by omega)
  have g3:min k l.length=k:=by omega
  have g4:(k+1)*32≤140737488355328:=by omega
  have g5:k≤4611686018427387903:=by omega
  have g6:aS (l.take (k+1))=aS (l.take k)++ [[.l (ints l[k].av),D.a (.int .i64 (l[k].At))]]:=by rw [vW,←List.take_succ_eq_append_getElem hk]
  simp [hk,hw,e,g3,g4,g5,g6]
structure Mq (e:dB):Prop where
 line:e.ak.av.length≤2000
 own:e.iM.av.length≤2000
 back:e.dH.av.length≤2000
 query:e.bP.length≤2000
 ring:e.aI.aA.length≤1000∧∀p∈e.aI.aA,p.av.length≤2000
 undo:e.gH.eX.length≤1000∧∀p∈e.gH.eX,p.av.length≤2000
theorem Ef (e:dB)(h:Mq e):jG [gL e] [] []=some ⟨gO e,[],hO e⟩:=by
 have e1:=ku e.ak.av (some 0) e.ak.At (by have:=h.line;omega)
 have e2:=ku e.iM.av (some 0) e.iM.At (by have:=h.own;omega)
 have e3:=ku e.dH.av (some 0) e.dH.At (by have:=h.back;omega)
 have e4:=Il e.aI.aA (some 0) h.ring.1 h.ring.2
 have e5:=CJ e.gH.eX (some 0) h.undo.1 h.undo.2
 have e6:=lq e.bP (some 0) (by have:=h.query;omega)
 simp [jG,func74,f74,e1,e2,e3,e4,e5,e6]
theorem yN (e:dB)(h:Mq e)(last:Int):rA [gL e,vI last] [] []=some ⟨.agg [V.v (.bool e.Vi),vI e.bV, .own 0,vI e.ak.At,vI 0,vI 0,vI 0,vI 0,vI e.eY,vI e.bT,vI last, .own 1, .own 2,vI e.kF, .own 3,vI e.iM.At, .own 4,vI e.nH, .own 5,vI e.dH.At],[],(hO e)⟩:=by
 have e1:=Ef e h
 simp [rA,func171,f171,e1]
theorem LZ (e:dB)(h:Mq e):kE [gL e] [] []=some ⟨.fK [.agg [V.v (.bool e.Vi),vI e.bV, .own 0,vI e.ak.At,vI 0,vI 0,vI 0,vI 0,vI e.eY,vI e.bT,vI 0, .own 1, .own 2,vI e.kF, .own 3,vI e.iM.At, .own 4,vI e.nH, .own 5,vI e.dH.At],vI 1],[],(hO e)⟩:=by
 have e1:=yN e h 0
 simp [kE,func96,f96,e1]
theorem Im (e:dB)(ok:e.ok=true):Cu [gL e] [] []=some ⟨V.v (.bool true),[],[]⟩:=by
 have hsm:=dB.acw ok
 have hE:=agV e.Vi e.bV e.ak.av e.ak.At e.bH e.Op e.bU e.fT e.eY e.bT e.iZ e.aI.aA e.gH.eX e.kF e.iM.av e.iM.At e.bP e.nH e.dH.av e.dH.At hsm.h1 hsm.h2 hsm.h3 hsm.h4 hsm.h5 hsm.h6
 rw [hE]
 have:fQ e.Vi e.bV e.ak.av e.ak.At e.bH e.Op e.bU e.fT e.eY e.bT e.iZ e.aI.aA e.gH.eX e.kF e.iM.av e.iM.At e.bP e.nH e.dH.av e.dH.At=true:=ok
 rw [this]
theorem Mq.of {e:dB}(ok:e.ok=true):Mq e:=by
 simp only [dB.ok,fQ,Bool.and_eq_true,decide_eq_true_eq]at ok
 obtain⟨a1,a2,a3,a4,a5,a6,a7,a8,a9,a10,a11,a12,a13,a14,a15,a16⟩:=ok
 have len:∀{l:List Int} {a:Int},bN l a=true→l.length≤400:=fun h=>by
  simp only [bN,dF,Bool.and_eq_true,decide_eq_true_eq]at h;exact h.1.1
 simp only [eZ,jB,Bool.and_eq_true,decide_eq_true_eq]at a9 a10
 refine⟨by have:=len a1;omega,by have:=len a2;omega,by have:=len a3;omega,by omega,⟨by omega,fun p hp=>?_⟩,by omega,fun p hp=>?_⟩
 ·have:=List.all_eq_true.1 a9.1 p hp
  simp only [qJ,dF,Bool.and_eq_true,decide_eq_true_eq]at this;omega
 ·have:=List.all_eq_true.1 a10.1 p hp
  simp only [CG]at this
  have:=len this;omega
theorem Sj (t:List Int)(a mode:Int)(h:¬mode=2):kM [.agg [.aP (some 0) (ints t),vI a],vI mode] [] []=some ⟨.agg [.aP (some 0) (ints t),vI a],[],[]⟩:=by
 simp [kM,func176,f176,h]
theorem adD (s:ByteArray)(t:List Int)(h:Reads s.data.toList t [])(ht:dF t=true)(hs:s.size≤65536):wB [V.v (.string s)] [] []=some ⟨.fK [.agg [.own 0,vI (t.length:Int)],V.v (.bool true)],[],[(0,ints t)]⟩:=by
 have e1:=KC s t [] h hs
 have hl:t.length≤400:=by simp only [dF,Bool.and_eq_true,decide_eq_true_eq]at ht;exact ht.1
 have e2:=bQ t t.length (by omega)
 have q:bN t t.length=true:=by
  unfold bN
  rw [ht,bA.2 (by omega)];rfl
 rw [q]at e2
 simp [wB,func232,f232,e1,e2]
theorem reads_nil:Reads (⟨#[]⟩:ByteArray).data.toList [] []:=⟨rfl,(fun _ h=>nomatch h),rfl⟩
theorem aaO (e e':dB)(f zM:Int)(l:List ByteArray)(h:dO [gL e,aH f l,vI zM] [] []=some ⟨.fK [.agg [V.v (.bool e'.Vi),vI e'.bV, .own 0,vI e'.ak.At,vI e'.bH,vI e'.Op,vI e'.bU,vI e'.fT,vI e'.eY,vI e'.bT,vI e'.iZ, .own 1, .own 2,vI e'.kF, .own 3,vI e'.iM.At, .own 4,vI e'.nH, .own 5,vI e'.dH.At],V.v (.bool true)],[],[(0,ints e'.ak.av),(1,aC e'.aI.aA),(2,aS e'.gH.eX),(3,ints e'.iM.av),(4,ints e'.bP),(5,ints e'.dH.av)]⟩):
  Ai [gL e,aH f l,vI zM] [] []=some ⟨.fK [.agg [V.v (.bool e'.Vi),vI e'.bV, .own 0,vI e'.ak.At,vI e'.bH,vI e'.Op,vI e'.bU,vI e'.fT,vI e'.eY,vI e'.bT,vI e'.iZ, .own 1, .own 2,vI e'.kF, .own 3,vI e'.iM.At, .own 4,vI e'.nH, .own 5,vI e'.dH.At],vI 0],[],[(0,ints e'.ak.av),(1,aC e'.aI.aA),(2,aS e'.gH.eX),(3,ints e'.iM.av),(4,ints e'.bP),(5,ints e'.dH.av)]⟩:=by
 simp [Ai,func155,f155,h]
theorem aaP (e:dB)(hb:Mq e)(f zM:Int)(l:List ByteArray)(h:dO [gL e,aH f l,vI zM] [] []=some ⟨.fK [.agg [V.v (.bool false),vI 0, .own 0,vI 0,vI 0,vI 0,vI 0,vI 0,vI 0,vI 0,vI 0, .own 1, .own 2,vI 0, .own 3,vI 0, .own 4,vI 0, .own 5,vI 0],V.v (.bool false)],[],[(0,[]),(1,[]),(2,[]),(3,[]),(4,[]),(5,[])]⟩):
  Ai [gL e,aH f l,vI zM] [] []=some ⟨.fK [.agg [V.v (.bool e.Vi),vI e.bV, .own 0,vI e.ak.At,vI 0,vI 0,vI 0,vI 0,vI e.eY,vI e.bT,vI 0, .own 1, .own 2,vI e.kF, .own 3,vI e.iM.At, .own 4,vI e.nH, .own 5,vI e.dH.At],vI 1],[],(hO e)⟩:=by
 have e1:=LZ e hb
 simp [Ai,func155,f155,h,e1]
theorem M8:∀(a b:List Int),a.length=b.length→a=b∨∃N,∃h:N<a.length,∃h':N<b.length,a[N]≠b[N]∧∀j (hj:j<a.length) (hj':j<b.length),j<N→a[j]=b[j]
 | [],[],_=> .inl rfl
 | x::a,y::b,h=>by
  by_cases e:x=y
  ·subst e
   rcases M8 a b (by simpa using h)with h1|⟨N,h1,h2,h3,h4⟩
   ·exact .inl (by rw [h1])
   ·refine .inr ⟨N+1,by simp;exact h1,by simp;exact h2,by simpa using h3,fun j hj hj' hjN=>?_⟩
    cases j with
    | zero=>rfl
    | succ j=>simpa using h4 j (by simpa using hj) (by simpa using hj') (by omega)
  ·exact .inr ⟨0,by simp,by simp,by simpa using e,fun j _ _ hj=>by omega⟩
theorem CK (a b:List Int)(ha:a.length≤1000000)(hb:b.length≤1000000):wu [.aP (some 0) (ints a), .aP (some 1) (ints b)] [] []=some ⟨V.v (.bool (decide (a=b))),[],[]⟩:=by
 unfold wu
 by_cases hl:a.length=b.length
 ·have hli:(a.length:Int)=b.length:=by omega
  simp [func220,f220,hl,hli]
  rcases M8 a b hl with h|⟨N,h1,h2,h3,h4⟩
  ·subst h
   rw [aJ (fun j=> .on ⟨[(13,V.v (.int .i64 ((j:Int)))),(12,V.v (.int .i64 ((a.length:Int)))),(1, .aP (some 1) (ints a)),(0, .aP (some 0) (ints a))],[],[],[]⟩) a.length ?_ ?_]
   ·simp
   ·simp
   ·intro j hj
    have hw:=bM ((j:Int)+1) (by omega)
    simp [hj,hw,aO hj]
  ·have hab:¬a=b:=fun e=>by subst e;exact h3 rfl
   rw [aJ (fun j=> .on ⟨[(13,V.v (.int .i64 ((j:Int)))),(12,V.v (.int .i64 ((b.length:Int)))),(1, .aP (some 1) (ints b)),(0, .aP (some 0) (ints a))],[],[],[]⟩) N ?_ ?_]
   ·simp [h1,h2,aO h1,aO h2,h3,hab]
   ·simp
   ·intro j hj
    have j1:j<a.length:=by omega
    have j2:j<b.length:=by omega
    have hw:=bM ((j:Int)+1) (by omega)
    simp [j1,j2,hw,aO j1,aO j2,h4 j j1 j2 hj]
 ·have hli:¬(a.length:Int)=b.length:=by omega
  have hab:¬a=b:=fun e=>hl (by rw [e])
  simp [func220,f220,hl,hli,hab]
theorem uY (t:List Int)(i:Option Nat)(a at_:Int)(h:t.length≤1000000):rC [.agg [.aP i (ints t),vI a],vI at_] [] []=some ⟨.agg [.own 0,vI (max 0 (min at_ t.length))],[],[(0,ints t)]⟩:=by
 have e:=lq t (some 0) h
 simp [rC,func154,f154,e]
def cutAt (a from_ nu:Int):Int:=if nu≤a then a-(nu-from_)else if from_<a then from_ else a
theorem BK (t:List Int)(a:Int)(h:bN t a=true)(f nu:Nat)(h1:f≤nu)(h2:nu≤t.length):tC [.agg [.aP (some 0) (ints t),vI a],vI (f:Int),vI (nu:Int)] [] []=some ⟨.fK [.agg [.own 0,vI (cutAt a f nu)], .own 1,V.v (.bool true)],[],[(0,ints (t.take f++t.drop nu)),(1,ints ((t.drop f).take (nu-f)))]⟩:=by
 have hl:t.length≤400:=by simp only [bN,dF,Bool.and_eq_true,decide_eq_true_eq]at h;exact h.1.1
 have ha:0≤a∧a≤t.length:=by simp only [bN,Bool.and_eq_true]at h;exact MG h.2
 have e1:=bQ t a (by omega)
 rw [h]at e1
 have e2:yF [.agg [.aP (some 0) (ints t),vI a],vI (f:Int),vI (nu:Int)] [] []=some ⟨V.v (.bool true),[],[]⟩:=by
  have q1:(f:Int)≤nu:=by omega
  have q2:(nu:Int)≤t.length:=by omega
  simp [yF,func222,f222,e1,q1,q2]
 have e3:=lq (t.take f) (some 0) (by simp;omega)
 have e4:=lq ((t.drop f).take (nu-f)) (some 0) (by simp;omega)
 have q0:f≤t.length:=by omega
 have q1:(f:Int)≤nu:=by omega
 have q2:(nu:Int)≤t.length:=by omega
 have q3:(f:Int)≤t.length:=by omega
 have q4:(min f t.length+(t.length-nu))*8≤140737488355328:=by omega
 have q5:min f t.length+(t.length-nu)≤4611686018427387904:=by omega
 have q6:min f t.length=f:=by omega
 have q7:(f+(t.length-nu))*8≤140737488355328:=by omega
 have q8:f+(t.length-nu)≤4611686018427387904:=by omega
 have q9:(t.drop nu).take (t.length-nu)=t.drop nu:=List.take_of_length_le (by simp)
 have w1:=bM ((nu:Int)-f) (by omega)
 have w2:=bM (a-((nu:Int)-f)) (by omega)
 generalize hE:tC _ _ _=R
 unfold tC at hE
 unfold cutAt
 by_cases c1:(nu:Int)≤a
 ·simp [-au,←au,func164,f164,e2,e3,e4,q0,q1,q2,q3,q4,q5,q6,q7,q8,q9,w1,w2,c1,h1,h2]at hE
  rw [if_pos c1]
  exact hE.symm
 ·by_cases c2:(f:Int)<a
  ·simp [-au,←au,func164,f164,e2,e3,e4,q0,q1,q2,q3,q4,q5,q6,q7,q8,q9,c1,c2,h1,h2]at hE
   rw [if_neg c1,if_pos c2]
   exact hE.symm
  ·simp [-au,←au,func164,f164,e2,e3,e4,q0,q1,q2,q3,q4,q5,q6,q7,q8,q9,c1,c2,h1,h2]at hE
   rw [if_neg c1,if_neg c2]
   exact hE.symm
theorem yO {l:List eT}(h:eZ l=true):l.length≤6∧∀p∈l,0<p.av.length∧p.av.length≤400∧p.av.all fP=true:=by
 simp only [eZ,Bool.and_eq_true,decide_eq_true_eq]at h
 refine⟨h.2,fun p hp=>?_⟩
 have:=List.all_eq_true.1 h.1 p hp
 simp only [qJ,dF,Bool.and_eq_true,decide_eq_true_eq]at this
 exact⟨this.1,this.2.1,this.2.2⟩
theorem Yw {l:List eT}{t:List Int}(h:eZ l=true)(ht:dF t=true)(h0:t≠ []):eZ ((⟨t⟩::l).take 6)=true:=by
 simp only [eZ,Bool.and_eq_true,decide_eq_true_eq]at h⊢
 refine⟨List.all_eq_true.2 fun p hp=>?_,by simp;omega⟩
 rcases List.mem_cons.1 (List.mem_of_mem_take hp)with rfl|hp
 ·simp [qJ,ht,List.length_pos_iff.2 h0]
 ·exact List.all_eq_true.1 h.1 p hp
theorem FH (l:List eT)(h:eZ l=true):pR [.agg [.aP (some 0) (aC l)]] [] []=some ⟨.own 0,[],[(0,ints ((l.head?.map (·.av)).getD []))]⟩:=by
 obtain⟨hl,hp⟩:=yO h
 have e1:=cK l (Ee h)
 rw [h]at e1
 unfold pR
 cases l with
 | nil=>
  simp only [show aC []= []from rfl]at e1⊢
  simp [func219,f219,e1,bn]
 | cons p l=>
  have e2:=lq p.av (some 0) (by have:=(hp p (by simp)).2.1;omega)
  have hn:¬(l.length:Int)+1=0:=by omega
  rw [gN]at e1⊢
  simp [func219,f219,e1,e2,hn]
theorem afM {l:List iG}(h:jB l=true):∀p∈l,bN p.av p.At=true:=by
 simp only [jB,Bool.and_eq_true,decide_eq_true_eq]at h
 intro p hp
 have:=List.all_eq_true.1 h.1 p hp
 simpa [CG] using this
def QU (t:List Int)(a:Int):Int:=if atEnd t a=true then a-1 else a
theorem Sk (t:List Int)(a:Int)(ha:0≤a∧a≤1000):kM [.agg [.aP (some 0) (ints t),vI a],vI 2] [] []=some ⟨.agg [.aP (some 0) (ints t),vI (QU t a)],[],[]⟩:=by
 have e1:=vM t a
 have w:=bM (a-1) (by omega)
 unfold kM QU
 cases h:atEnd t a
 ·rw [h]at e1
  simp [func176,f176,e1]
 ·rw [h]at e1
  simp [func176,f176,e1,w]
structure akB (e:dB):Prop where
 b:Mq e
 mode:e.bV=2
 line:bN e.ak.av e.ak.At=true
 undo:jB e.gH.eX=true∧e.gH.eX.length≤19
theorem fC (a n:Int):oI [vI a,vI n] [] []=some ⟨vI (max 0 (min a n)),[],[]⟩:=by
 simp [oI,func162,f162]
theorem dZ (r:Int):vD [vI r] [] []=some ⟨V.v (.bool (gY r 65 90)),[],[]⟩:=by
 simp [vD,func223,f223,dQ]
theorem fI (r:Int):tu [vI r] [] []=some ⟨V.v (.bool (gY r 97 122)),[],[]⟩:=by
 simp [tu,func141,f141,dQ]
theorem lX (r:Int):BA [vI r] [] []=some ⟨V.v (.bool (gY r 48 57)),[],[]⟩:=by
 simp [BA,func159,f159,dQ]
def oC (l:List eT)(t:List Int)(how:Int):List eT:=
 if t= []then l else match l with
 | []=> [⟨t⟩]
 | p::r=>if how=0∨400<p.av.length+t.length then(⟨t⟩::p::r).take 6 else if how=1 then⟨p.av++t⟩::r else⟨t++p.av⟩::r
theorem FI {l:List eT}{t:List Int}(h:eZ l=true)(ht:dF t=true)(how:Int):eZ (oC l t how)=true:=by
 unfold oC
 by_cases h0:t= []
 ·rw [if_pos h0];exact h
 rw [if_neg h0]
 cases l with
 | nil=>exact Yw h ht h0
 | cons p r=>
  simp only
  have hp:dF p.av=true∧eZ r=true∧r.length≤5:=by
   simp only [eZ,List.all_cons,qJ,Bool.and_eq_true,decide_eq_true_eq,List.length_cons]at h⊢
   exact⟨h.1.1.2,⟨h.1.2,by omega⟩,by omega⟩
  by_cases h1:how=0∨400<p.av.length+t.length
  ·rw [if_pos h1];exact Yw h ht h0
  rw [if_neg h1]
  have key:∀x:List Int,dF x=true→x≠ []→eZ (⟨x⟩::r)=true:=fun x hx h0=>by
   have hr:=hp.2.1
   simp only [eZ,List.all_cons,qJ,Bool.and_eq_true,decide_eq_true_eq,List.length_cons]at hr⊢
   exact⟨⟨⟨List.length_pos_iff.2 h0,hx⟩,hr.1⟩,by omega⟩
  have ht':=ht
  have hp':=hp.1
  simp only [dF,Bool.and_eq_true,decide_eq_true_eq]at ht' hp'
  have hl:p.av.length+t.length≤400:=by omega
  split
  ·exact key _ (by simp only [dF,List.length_append,List.all_append,Bool.and_eq_true,decide_eq_true_eq];exact⟨hl,hp'.2,ht'.2⟩) (by simp [h0])
  ·exact key _ (by simp only [dF,List.length_append,List.all_append,Bool.and_eq_true,decide_eq_true_eq];exact⟨by omega,ht'.2,hp'.2⟩) (by simp [h0])
theorem QV (l:List eT)(t:List Int)(how:Int)(h:eZ l=true)(ht:dF t=true)(hw:0≤how∧how≤2):yG [.agg [.aP (some 0) (aC l)], .aP (some 1) (ints t),vI how] [] []=some ⟨.fK [.agg [.own 0],V.v (.bool true)],[],[(0,aC (oC l t how))]⟩:=by
 obtain⟨hl,hp⟩:=yO h
 have htl:t.length≤400:=by simp only [dF,Bool.and_eq_true,decide_eq_true_eq]at ht;exact ht.1
 have e1:=cK l (Ee h)
 rw [h]at e1
 have e2:=qI t (by omega)
 rw [ht]at e2
 have e3:=Il l (some 0) (by omega) (fun p hq=>by have:=(hp p hq).2.1;omega)
 have e4:=lq t (some 0) (by omega)
 have q1:gY how 0 2=true:=bA.2 hw
 have q2:gY 0 0 2=true:=by decide
 have q3:gY 1 0 2=true:=by decide
 generalize hE:yG _ _ _=R
 unfold yG at hE
 by_cases h0:t= []
 ·subst h0
  unfold oC
  rw [if_pos rfl]
  simp only [show ints []= []from rfl]at hE e2
  simp [func166,f166,e1,e2,e3,e4,dQ,q1]at hE
  exact hE.symm
 unfold oC
 rw [if_neg h0]
 have hn:¬(t.length:Int)=0:=by have:=List.length_pos_iff.2 h0;omega
 cases l with
 | nil=>
  simp only [show aC []= []from rfl]at hE e1 e3
  have rf:dN ([]:List (List D))=true:=rfl
  rw [show aC [⟨t⟩]= [[.l (ints t)]]from rfl]
  by_cases hc1:how=0
  ·simp [func166,f166,e1,e2,e3,e4,dQ,q1,q2,q3,h0,rf,hc1]at hE
   exact hE.symm
  ·simp [func166,f166,e1,e2,e3,e4,dQ,q1,q2,q3,h0,rf,hc1]at hE
   exact hE.symm
 | cons p l=>
  have hll:l.length≤5:=by simpa using hl
  have hpl:=(hp p (by simp)).2.1
  have hn0:¬(l.length:Int)+1=0:=by omega
  have wl:=bM ((p.av.length:Int)+t.length) (by omega)
  have rf:dN (aC (p::l))=false:=by simp [gN,dN,sF]
  simp only
  by_cases hc:how=0∨400<p.av.length+t.length
  ·rw [if_pos hc]
   have g3:(1+(l.length+1))*24≤140737488355328:=by omega
   have g4:1+(l.length+1)≤4611686018427387904:=by omega
   have hc':how=0∨¬how=0∧(400:Int)<(p.av.length:Int)+t.length:=by omega
   by_cases h6:l.length=5
   ·have m76:min (7:Int) 6=6:=by decide
    rcases hc' with hc'|⟨hc',hc2⟩
    ·simp [func166,f166,e1,e2,e3,e4,dQ,q1,q2,q3,h0,h6,m76,rf,hc']at hE
     exact hE.symm
    ·rw [gN]at e1 e3
     simp [func166,f166,e1,e2,e3,e4,dQ,q1,q2,q3,h0,h6,m76,rf,hc',hc2,hn0,wl,gN]at hE
     exact hE.symm
   ·have h6i:¬(6:Int)≤(l.length:Int)+1+1∨(l.length:Int)+1+1=6:=by omega
    have h6m:min ((l.length:Int)+1+1) 6=(l.length:Int)+1+1:=by omega
    have h6t:l.take 4=l:=List.take_of_length_le (by omega)
    have h6n:((l.length:Int)+1+1).toNat=l.length+2:=by omega
    have h6p:0≤(l.length:Int)+1+1:=by omega
    rw [show List.take 6 (⟨t⟩::p::l)=⟨t⟩::p::l.take 4 from rfl,h6t]
    rcases hc' with hc'|⟨hc',hc2⟩
    ·simp [func166,f166,e1,e2,e3,e4,dQ,q1,q2,q3,h0,g3,g4,h6m,h6n,h6p,rf,hc']at hE
     exact hE.symm
    ·rw [gN]at e1 e3
     simp [func166,f166,e1,e2,e3,e4,dQ,q1,q2,q3,h0,g3,g4,h6m,h6n,h6p,rf,hc',hc2,hn0,wl,gN]at hE
     exact hE.symm
  ·rw [if_neg hc]
   have hc1:¬how=0:=fun e=>hc (.inl e)
   have hc2:¬(400:Int)<(p.av.length:Int)+t.length:=by omega
   have g3:(p.av.length+t.length)*8≤140737488355328:=by omega
   have g4:p.av.length+t.length≤4611686018427387904:=by omega
   have g5:(t.length+p.av.length)*8≤140737488355328:=by omega
   have g6:t.length+p.av.length≤4611686018427387904:=by omega
   by_cases hc3:how=1
   ·rw [if_pos hc3]
    rw [gN]at e1 e3
    simp [func166,f166,e1,e2,e3,e4,dQ,q1,q2,q3,h0,rf,hc3,hc2,wl,gN,hn0,g3,g4]at hE
    rw [gN,au]
    exact hE.symm
   ·rw [if_neg hc3]
    rw [gN]at e1 e3
    simp [func166,f166,e1,e2,e3,e4,dQ,q1,q2,q3,h0,rf,hc1,hc3,hc2,wl,gN,hn0,g5,g6]at hE
    rw [gN,au]
    exact hE.symm
def Ap (l:List iG)(x:iG):List iG:=
 if l.getLast?.map (·.av)=some x.av then l else if l.length=20 then l.drop 1++ [x]else l++ [x]
theorem rH {l:List iG}(h:jB l=true):l.length≤20∧∀p∈l,bN p.av p.At=true:=by
 refine⟨?_,afM h⟩
 simp only [jB,Bool.and_eq_true,decide_eq_true_eq]at h
 omega
theorem VW {l:List iG}(h:l.length≤20)(hp:∀p∈l,bN p.av p.At=true):jB l=true:=by
 simp only [jB,Bool.and_eq_true,decide_eq_true_eq]
 exact⟨List.all_eq_true.2 fun p hq=>by simpa [CG] using hp p hq,by omega⟩
theorem aaQ {l:List iG}{x:iG}(h:jB l=true)(hx:bN x.av x.At=true):jB (Ap l x)=true:=by
 obtain⟨h1,h2⟩:=rH h
 unfold Ap
 split
 ·exact h
 ·split
  ·refine VW (by simp;omega) fun p hp=>?_
   rcases List.mem_append.1 hp with hp|hp
   ·exact h2 p (List.mem_of_mem_drop hp)
   ·rw [List.mem_singleton.1 hp];exact hx
  ·refine VW (by simp;omega) fun p hp=>?_
   rcases List.mem_append.1 hp with hp|hp
   ·exact h2 p hp
   ·rw [List.mem_singleton.1 hp];exact hx
theorem bX {t:List Int}{a:Int}(h:bN t a=true):t.length≤400∧t.all fP=true∧0≤a∧a≤t.length:=by
 simp only [bN,dF,Bool.and_eq_true,decide_eq_true_eq]at h
 have:=bA.1 h.2
 exact⟨h.1.1,h.1.2,this.1,this.2⟩
theorem Uu {l:List iG}(h0:l≠ []){t:List Int}{a:Int}:List.take l.length (aS l++ [[.l (ints t),D.a (.int .i64 a)]]).tail=aS (l.drop 1++ [⟨t,a⟩]):=by
 obtain⟨x,r,rfl⟩:=List.exists_cons_of_ne_nil h0
 rw [Xe,List.cons_append,List.tail_cons,show aS r++ [[.l (ints t),D.a (.int .i64 a)]]=aS (r++ [⟨t,a⟩])from vW r ⟨t,a⟩]
 exact List.take_of_length_le (by simp)
theorem aaR (l:List iG)(t:List Int)(a:Int)(h:jB l=true)(ht:bN t a=true):Bz [.agg [.aP (some 0) (aS l)], .agg [.aP (some 1) (ints t),vI a]] [] []=some ⟨.fK [.agg [.own 0],V.v (.bool true)],[],[(0,aS (Ap l ⟨t,a⟩))]⟩:=by
 obtain⟨hl,hp⟩:=rH h
 have htl:=(bX ht).1
 have e1:=cO l (LY h)
 rw [h]at e1
 have e2:=bQ t a (by omega)
 rw [ht]at e2
 have e3:=CJ l (some 0) (by omega) (fun p hq=>by have:=(bX (hp p hq)).1;omega)
 have e4:=ku t (some 0) a (by omega)
 have e6:aS (l++ [⟨t,a⟩])=aS l++ [[.l (ints t),D.a (.int .i64 a)]]:=(vW l ⟨t,a⟩).symm
 have g1:(l.length+1)*32≤140737488355328:=by omega
 have g2:l.length+1≤4611686018427387904:=by omega
 have g4:l.length≤4611686018427387903:=by omega
 generalize hE:Bz _ _ _=R
 unfold Bz at hE
 unfold Ap
 by_cases h0:l= []
 ·subst h0
  simp only [show aS []= []from rfl]at hE e1 e3
  simp [func226,f226,e1,e2,e3,e4]at hE
  exact hE.symm
 ·have hlen:0<l.length:=List.length_pos_iff.2 h0
  have hj:l.length-1<l.length:=by omega
  have hq:=(bX (hp l[l.length-1] (List.getElem_mem hj))).1
  have e5:=CK l[l.length-1].av t (by omega) (by omega)
  have w:=bM ((l.length:Int)-1) (by omega)
  have k1:0≤(l.length:Int)-1:=by omega
  have k2:(l.length:Int)-1<l.length:=by omega
  have k3:((l.length:Int)-1).toNat=l.length-1:=by omega
  have k4:(0:Int)<l.length:=by omega
  have k5:1≤(l.length:Int):=by omega
  have hlast:l.getLast?.map (·.av)=some l[l.length-1].av:=by rw [List.getLast?_eq_getElem?,List.getElem?_eq_getElem hj];rfl
  simp only [hlast,Option.some.injEq]
  by_cases hs:l[l.length-1].av=t
  ·rw [decide_eq_true hs]at e5
   rw [if_pos hs]
   simp [func226,f226,e1,e2,e3,e4,e5,w,k1,k2,k3,k4,k5,hj,hlen,iR hj]at hE
   exact hE.symm
  ·rw [decide_eq_false hs]at e5
   rw [if_neg hs]
   by_cases h20:l.length=20
   ·rw [if_pos h20]
    have g3:(20:Int)<(l.length:Int)+1:=by omega
    have g5:(1:Int)≤(l.length:Int)+1:=by omega
    have g6:wid 2 (aS l++ [[.l (ints t),D.a (.int .i64 a)]])=true:=by rw [←e6];exact Pv _
    have g7:(1:Int)<(l.length:Int)+1:=by omega
    simp [func226,f226,e1,e2,e3,e4,e5,w,k1,k2,k3,k4,k5,hj,hlen,iR hj,g1,g2,g3,g4,g5,g6,g7]at hE
    rw [←hE,Uu h0]
   ·rw [if_neg h20,e6]
    have g3:¬(20:Int)<(l.length:Int)+1:=by omega
    simp [func226,f226,e1,e2,e3,e4,e5,w,k1,k2,k3,k4,k5,hj,hlen,iR hj,g1,g2,g3,g4]at hE
    exact hE.symm
theorem Yx (l:List iG)(h:jB l=true)(h0:l≠ []):tH [.agg [.aP (some 0) (aS l)]] [] []=some ⟨.fK [.agg [.own 0], .agg [.own 1,vI ((l.getLast h0).At)],V.v (.bool true)],[],[(0,aS l.dropLast),(1,ints (l.getLast h0).av)]⟩:=by
 obtain⟨hl,hp⟩:=rH h
 have e1:=cO l (LY h)
 rw [h]at e1
 have hlen:0<l.length:=List.length_pos_iff.2 h0
 have hj:l.length-1<l.length:=by omega
 have hq:=(bX (hp l[l.length-1] (List.getElem_mem hj))).1
 have e3:=CJ l.dropLast (some 0) (by simp;omega) (fun p hq=>by have:=(bX (hp p (List.dropLast_subset _ hq))).1;omega)
 have e3':=CJ l.dropLast none (by simp;omega) (fun p hq=>by have:=(bX (hp p (List.dropLast_subset _ hq))).1;omega)
 have e4:=ku l[l.length-1].av (some 0) l[l.length-1].At (by omega)
 have w:=bM ((l.length:Int)-1) (by omega)
 have k1:0≤(l.length:Int)-1:=by omega
 have k2:(l.length:Int)-1<l.length:=by omega
 have k3:((l.length:Int)-1).toNat=l.length-1:=by omega
 have k4:(0:Int)<l.length:=by omega
 have k5:1≤(l.length:Int):=by omega
 have k6:(l.length:Int)-1≤l.length:=by omega
 have k7:¬l.length=0:=by omega
 have k8:l.take (l.length-1)=l.dropLast:=(List.dropLast_eq_take ..).symm
 rw [List.getLast_eq_getElem]
 generalize hE:tH _ _ _=R
 simp [tH,func227,f227,e1,e3,e3',e4,w,k1,k2,k3,k4,k5,k6,k7,k8,h0,hj,iR hj]at hE
 exact hE.symm
theorem QW:tH [.agg [.aP (some 0) (aS [])]] [] []=some ⟨.fK [.agg [.own 0], .agg [.own 1,vI 0],V.v (.bool false)],[],[(0,[]),(1,[])]⟩:=by
 have e1:=cO [] rfl
 simp only [show jB []=true from rfl,show aS []= []from rfl]at e1⊢
 simp [tH,func227,f227,e1]
def jl (mode:Int)(t:List Int)(a:Int):Int:=if mode=2 then QU t a else a
theorem xF (t:List Int)(a mode:Int)(ha:0≤a∧a≤1000):kM [.agg [.aP (some 0) (ints t),vI a],vI mode] [] []=some ⟨.agg [.aP (some 0) (ints t),vI (jl mode t a)],[],[]⟩:=by
 unfold jl
 by_cases h:mode=2
 ·rw [if_pos h,h];exact Sk t a ha
 ·rw [if_neg h];exact Sj t a mode h
def sJ (e:dB)(t:List Int)(last:Int):List iG:=if t=e.ak.av∨(last=1∧e.iZ=1)then e.gH.eX else Ap e.gH.eX e.ak
theorem Io {e:dB}(h:e.ok=true):bN e.ak.av e.ak.At=true∧eZ e.aI.aA=true∧jB e.gH.eX=true:=by
 simp only [dB.ok,fQ,Bool.and_eq_true,decide_eq_true_eq]at h
 exact⟨h.1,h.2.2.2.2.2.2.2.2.1,h.2.2.2.2.2.2.2.2.2.1⟩
theorem aaS {e:dB}(ok:e.ok=true)(t:List Int)(last:Int):jB (sJ e t last)=true:=by
 obtain⟨h1,h2,h3⟩:=Io ok
 unfold sJ
 split
 ·exact h3
 ·exact aaQ h3 h1
theorem aaT (e:dB)(ok:e.ok=true)(t:List Int)(a last:Int)(ht:t.length≤400)(ha:0≤a∧a≤t.length):zP [gL e, .agg [.aP (some 6) (ints t),vI a],vI last] [] []=some ⟨.agg [V.v (.bool e.Vi),vI e.bV, .own 0,vI (jl e.bV t a),vI 0,vI 0,vI 0,vI 0,vI e.eY,vI e.bT,vI last, .own 1, .own 2,vI e.kF, .own 3,vI e.iM.At, .own 4,vI e.nH, .own 5,vI e.dH.At],[],[(0,ints t),(1,aC e.aI.aA),(2,aS (sJ e t last)),(3,ints e.iM.av),(4,ints e.bP),(5,ints e.dH.av)]⟩:=by
 obtain⟨h1,h2,h3⟩:=Io ok
 have e1:=yN e (Mq.of ok) last
 have hel:=(bX h1).1
 have e2:=CK t e.ak.av (by omega) (by omega)
 have e3:=aaR e.gH.eX e.ak.av e.ak.At h3 h1
 have e4:=ku t (some 0) a (by omega)
 have e5:=xF t a e.bV (by omega)
 generalize hE:zP _ _ _=R
 unfold zP at hE
 unfold sJ
 by_cases hs:t=e.ak.av
 ·rw [decide_eq_true hs]at e2
  rw [if_pos (.inl hs)]
  simp [func165,f165,e1,e2,e4,e5]at hE
  exact hE.symm
 ·rw [decide_eq_false hs]at e2
  by_cases hl:last=1
  ·subst hl
   by_cases hl2:e.iZ=1
   ·rw [if_pos (.inr ⟨rfl,hl2⟩)]
    simp only [gL,gO,hO,hl2]at e1 hE
    simp [func165,f165,e1,e2,e4,e5]at hE
    exact hE.symm
   ·rw [if_neg (by simp [hs,hl2])]
    simp [func165,f165,e1,e2,e3,e4,e5,hl2]at hE
    exact hE.symm
  ·rw [if_neg (by simp [hs,hl])]
   simp [func165,f165,e1,e2,e3,e4,e5,hl]at hE
   exact hE.symm
theorem ah3 (e:dB)(ok:e.ok=true)(t:List Int)(a:Int)(ht:t.length≤400)(ha:0≤a∧a≤t.length):vC [gL e, .agg [.aP (some 6) (ints t),vI a]] [] []=some ⟨.fK [.agg [V.v (.bool e.Vi),vI e.bV, .own 0,vI (jl e.bV t a),vI 0,vI 0,vI 0,vI 0,vI e.eY,vI e.bT,vI 0, .own 1, .own 2,vI e.kF, .own 3,vI e.iM.At, .own 4,vI e.nH, .own 5,vI e.dH.At],vI 0],[],[(0,ints t),(1,aC e.aI.aA),(2,aS (sJ e t 0)),(3,ints e.iM.av),(4,ints e.bP),(5,ints e.dH.av)]⟩:=by
 have e1:=aaT e ok t a 0 ht ha
 simp [vC,func153,f153,e1]
theorem agW (e:dB)(ok:e.ok=true)(h0:e.gH.eX≠ []):yV [gL e] [] []=some ⟨.fK [.agg [V.v (.bool e.Vi),vI e.bV, .own 0,V.v (.int .i64 (jl e.bV (e.gH.eX.getLast h0).av (e.gH.eX.getLast h0).At)),vI 0,vI 0,vI 0,vI 0,vI e.eY,vI e.bT,vI 0, .own 1, .own 2,vI e.kF, .own 3,vI e.iM.At, .own 4,vI e.nH, .own 5,vI e.dH.At],vI 0],[],[(0,ints ((e.gH.eX.getLast h0).av)),(1,aC e.aI.aA),(2,aS e.gH.eX.dropLast),(3,ints e.iM.av),(4,ints e.bP),(5,ints e.dH.av)]⟩:=by
 obtain⟨h1,h2,h3⟩:=Io ok
 have e1:=Yx e.gH.eX h3 h0
 have e2:=yN e (Mq.of ok) 0
 have hx:=bX ((rH h3).2 _ (List.getLast_mem h0))
 have e5:=xF (e.gH.eX.getLast h0).av (e.gH.eX.getLast h0).At e.bV (by omega)
 generalize e.gH.eX.getLast h0=x at*
 generalize hE:yV _ _ _=R
 simp [yV,func169,f169,e1,e2,e5]at hE
 exact hE.symm
theorem aaU (e:dB)(ok:e.ok=true)(h0:e.gH.eX= []):yV [gL e] [] []=some ⟨.fK [.agg [V.v (.bool e.Vi),vI e.bV, .own 0,vI e.ak.At,vI 0,vI 0,vI 0,vI 0,vI e.eY,vI e.bT,vI 0, .own 1, .own 2,vI e.kF, .own 3,vI e.iM.At, .own 4,vI e.nH, .own 5,vI e.dH.At],vI 1],[],(hO e)⟩:=by
 have e1:=QW
 have e2:=LZ e (Mq.of ok)
 rw [←h0]at e1
 generalize hE:yV _ _ _=R
 simp [yV,func169,f169,e1,e2]at hE
 exact hE.symm
def Aq (e:dB)(how:Int):Int:=if e.iZ=2 then how else 0
theorem agX (e:dB)(ok:e.ok=true)(f nu:Nat)(how:Int)(hw:0≤how∧how≤2)(h1:f<nu)(h2:nu≤e.ak.av.length):qA [gL e,vI (f:Int),vI (nu:Int),vI how] [] []=
   some ⟨.fK [.agg [V.v (.bool e.Vi),vI e.bV, .own 0,V.v (.int .i64 (jl e.bV (e.ak.av.take f++e.ak.av.drop nu) (cutAt e.ak.At f nu))),vI 0,vI 0,vI 0,vI 0,vI e.eY,vI e.bT,vI 2, .own 1, .own 2,vI e.kF, .own 3,vI e.iM.At, .own 4,vI e.nH, .own 5,vI e.dH.At],vI 0],[],
    [(0,ints (e.ak.av.take f++e.ak.av.drop nu)),(1,aC (oC e.aI.aA ((e.ak.av.drop f).take (nu-f)) (Aq e how))),(2,aS (sJ e (e.ak.av.take f++e.ak.av.drop nu) 2)),(3,ints e.iM.av),(4,ints e.bP),(5,ints e.dH.av)]⟩:=by
 obtain⟨o1,o2,o3⟩:=Io ok
 have hl:=bX o1
 have e1:=BK e.ak.av e.ak.At o1 f nu (by omega) h2
 have hg0:(e.ak.av.drop f).take (nu-f)≠ []:=fun e=>by have:=congrArg List.length e;simp at this;omega
 have hgo:dF ((e.ak.av.drop f).take (nu-f))=true:=by
  simp only [dF,Bool.and_eq_true,decide_eq_true_eq]
  refine⟨by simp;omega,List.all_eq_true.2 fun x hx=>List.all_eq_true.1 hl.2.1 x (List.mem_of_mem_drop (List.mem_of_mem_take hx))⟩
 have e3:=QV e.aI.aA ((e.ak.av.drop f).take (nu-f)) (Aq e how) o2 hgo (by unfold Aq;split<;>omega)
 have hxl:(e.ak.av.take f++e.ak.av.drop nu).length=f+(e.ak.av.length-nu):=by simp;omega
 generalize (e.ak.av.drop f).take (nu-f)=gone at*
 generalize e.ak.av.take f++e.ak.av.drop nu=X at*
 have hca:0≤cutAt e.ak.At f nu∧cutAt e.ak.At f nu≤X.length:=by
  unfold cutAt
  split
  ·omega
  ·split<;>omega
 have e5:=aaT e ok X (cutAt e.ak.At f nu) 2 (by omega) hca
 have hgn:¬(gone.length:Int)=0:=by have:=List.length_pos_iff.2 hg0;omega
 generalize hE:qA _ _ _=R
 unfold qA at hE
 unfold Aq at*
 by_cases hk:e.iZ=2
 ·rw [if_pos hk]at e3⊢
  simp only [gL,gO,hO,hk]at e5 hE
  simp [-au,func94,f94,e1,e3,e5,hgn,hg0]at hE
  exact hE.symm
 ·rw [if_neg hk]at e3⊢
  simp [-au,func94,f94,e1,e3,e5,hgn,hg0,hk]at hE
  exact hE.symm
theorem aaV (e:dB)(ok:e.ok=true)(f:Nat)(how:Int)(h2:f≤e.ak.av.length):qA [gL e,vI (f:Int),vI (f:Int),vI how] [] []=some ⟨.fK [.agg [V.v (.bool e.Vi),vI e.bV, .own 0,vI e.ak.At,vI 0,vI 0,vI 0,vI 0,vI e.eY,vI e.bT,vI 0, .own 1, .own 2,vI e.kF, .own 3,vI e.iM.At, .own 4,vI e.nH, .own 5,vI e.dH.At],vI 1],[],(hO e)⟩:=by
 obtain⟨o1,o2,o3⟩:=Io ok
 have e1:=BK e.ak.av e.ak.At o1 f f (by omega) h2
 have e2:=LZ e (Mq.of ok)
 have hz:(e.ak.av.drop f).take (f-f)= []:=by simp
 rw [hz]at e1
 simp only [show ints []= []from rfl]at e1
 generalize hE:qA _ _ _=R
 simp [qA, -au,func94,f94,e1,e2]at hE
 exact hE.symm
def upI (r:Int):Int:=if gY r 97 122=true then r-32 else r
def L6 (r:Int):Int:=if gY r 65 90=true then r+32 else r
theorem tV (r:Int):H6 [vI r] [] []=some ⟨vI (upI r),[],[]⟩:=by
 unfold H6 upI
 by_cases h:gY r 97 122=true
 ·have:=bA.1 h
  have w:=bM (r-32) (by omega)
  simp [func224,f224,fI,h,w]
 ·simp [func224,f224,fI,h]
theorem tX (r:Int):H7 [vI r] [] []=some ⟨vI (L6 r),[],[]⟩:=by
 unfold H7 L6
 by_cases h:gY r 65 90=true
 ·have:=bA.1 h
  have w:=bM (r+32) (by omega)
  simp [func225,f225,dZ,h,w]
 ·simp [func225,f225,dZ,h]
def isLet (r:Int):Bool:=gY r 97 122||gY r 65 90
def jL (t:List Int)(f:Nat)(how:Int):Nat→List Int×Bool
 | 0=>(t,true)
 | j+1=>
  if isLet ((jL t f how j).1.getD (f+j) 0)=true then((jL t f how j).1.set (f+j) (if how=1∨(how=2∧(jL t f how j).2=true)then upI ((jL t f how j).1.getD (f+j) 0)else L6 ((jL t f how j).1.getD (f+j) 0)),false)else jL t f how j
theorem tY (t:List Int)(f:Nat)(how:Int):∀j,(jL t f how j).1.length=t.length
 | 0=>rfl
 | j+1=>by
  have ih:=tY t f how j
  unfold jL
  split
  ·simpa using ih
  ·exact ih
theorem Jl {r:Int}(h:isLet r=true):fP (upI r)=true∧fP (L6 r)=true:=by
 unfold isLet at h
 simp only [Bool.or_eq_true,bA]at h
 have key:∀x:Int,65≤x→x≤122→fP x=true:=fun x h1 h2=>by
  unfold fP bS lV gY
  simp only [Bool.or_eq_true,Bool.and_eq_true,decide_eq_true_eq,Bool.not_eq_true',Bool.and_eq_false_iff,decide_eq_false_iff_not]
  exact .inl (.inl ⟨⟨⟨⟨by omega,by omega⟩,by omega⟩,by omega⟩,by omega⟩)
 refine⟨?_,?_⟩
 ·unfold upI
  split
  ·rename_i h1;rw [bA]at h1;exact key _ (by omega) (by omega)
  ·exact key _ (by omega) (by omega)
 ·unfold L6
  split
  ·rename_i h1;rw [bA]at h1;exact key _ (by omega) (by omega)
  ·exact key _ (by omega) (by omega)
theorem Ip {l:List Int}{p:Int→Bool}(h:l.all p=true)(i:Nat){x:Int}(hx:p x=true):(l.set i x).all p=true:=by
 refine List.all_eq_true.2 fun y hy=>?_
 rcases List.mem_or_eq_of_mem_set hy with hy|rfl
 ·exact List.all_eq_true.1 h y hy
 ·exact hx
theorem Ar {t:List Int}(h:t.all fP=true)(f:Nat)(how:Int):∀j,(jL t f how j).1.all fP=true
 | 0=>h
 | j+1=>by
  have ih:=Ar h f how j
  unfold jL
  split
  ·rename_i hl
   refine Ip ih _ ?_
   split
   ·exact(Jl hl).1
   ·exact(Jl hl).2
  ·exact ih
theorem adE (t:List Int)(a:Int)(h:bN t a=true)(f nu:Nat)(h1:f≤nu)(h2:nu≤t.length)(i:Option Nat):yF [.agg [.aP (some 0) (ints t),vI a],vI (f:Int),vI (nu:Int)] [] []=some ⟨V.v (.bool true),[],[]⟩:=by
 have hl:=bX h
 have e1:=bQ t a (by omega)
 rw [h]at e1
 have q1:(f:Int)≤nu:=by omega
 have q2:(nu:Int)≤t.length:=by omega
 simp [yF,func222,f222,e1,q1,q2]
theorem Yy (t:List Int)(a:Int)(h:bN t a=true)(f nu:Nat)(h1:f≤nu)(h2:nu≤t.length)(how:Int)(hw:0≤how∧how≤2):zn [.agg [.aP (some 0) (ints t),vI a],vI (f:Int),vI (nu:Int),vI how] [] []=some ⟨.fK [.agg [.own 0,vI (nu:Int)],V.v (.bool true)],[],[(0,ints (jL t f how (nu-f)).1)]⟩:=by
 have hl:=bX h
 have e1:=adE t a h f nu h1 h2 none
 have e2:=uY t (some 0) a nu (by omega)
 have m1:max 0 (min (nu:Int) t.length)=nu:=by omega
 rw [m1]at e2
 have q1:gY how 0 2=true:=bA.2 hw
 generalize hE:zn _ _ _=R
 simp [zn,func161,f161,e1,e2,dQ,q1]at hE
 rw [aJ (fun j=> .on ⟨[(12,V.v (.int .i64 (((f+j:Nat):Int)))),(11,V.v (.bool ((jL t f how j).2))),(10, .ref 10 0),(8, .ref 8 0),(3,V.v (.int .i64 how)),(2,V.v (.int .i64 ((nu:Int))))],[(10,[.own 2000000000,vI (nu:Int)]),(8,[.own 2000000001,vI 0])],[(2000000001,[]),(2000000000,ints (jL t f how j).1)],[]⟩) (nu-f) ?_ ?_]at hE
 ·have q2:(f:Int)+((nu-f:Nat):Int)=nu:=by omega
  have q3:f+(nu-f)=nu:=by omega
  simp [q2,q3]at hE
  exact hE.symm
 ·simp [jL]
 ·intro j hj
  have hjl:f+j<(jL t f how j).1.length:=by rw [tY];omega
  have hq:f+j<nu:=by omega
  have hq2:(f:Int)+j<nu:=by omega
  have hjt:f+j<t.length:=by omega
  have hq3:(f:Int)+j<t.length:=by omega
  have hlen:=tY t f how j
  have hw1:=bM ((f:Int)+(j+1)) (by omega)
  have hs:(f:Int)+j+1=(f:Int)+(j+1):=by omega
  rw [jL]
  have hgd:(jL t f how j).1.getD (f+j) 0=(jL t f how j).1[f+j]:=by rw [List.getD_eq_getElem?_getD,List.getElem?_eq_getElem hjl];rfl
  rw [hgd]
  generalize hX:jL t f how j=X at*
  obtain⟨u,fst⟩:=X
  simp only at hjl hlen hgd⊢
  have hgu:=aO hjl
  generalize hr:u[f+j]=r at*
  have hset:∀x:Int,(ints u).set (f+j) [.a (.int .i64 x)]=ints (u.set (f+j) x):=fun x=>su u (f+j) x
  have Sl:0≤(f:Int)+j:=by omega
  have Gg:((f:Int)+j).toNat=f+j:=by omega
  unfold isLet
  by_cases c1:gY r 97 122=true
  ·by_cases c3:how=1∨(how=2∧fst=true)
   ·rcases c3 with c3|⟨c3,c4⟩
    ·simp [hq,hq2,hq3,hjt,hlen,hgu,hr,Sl,Gg,fI,dZ,tV,tX,c1,c3,hw1,hs,hset]
    ·simp [hq,hq2,hq3,hjt,hlen,hgu,hr,Sl,Gg,fI,dZ,tV,tX,c1,c3,c4,hw1,hs,hset]
   ·have c4:¬how=1:=fun e=>c3 (.inl e)
    by_cases c5:how=2
    ·have c6:fst=false:=by cases fst;rfl;exact absurd (.inr ⟨c5,rfl⟩) c3
     simp [hq,hq2,hq3,hjt,hlen,hgu,hr,Sl,Gg,fI,dZ,tV,tX,c1,c5,c6,hw1,hs,hset]
    ·simp [hq,hq2,hq3,hjt,hlen,hgu,hr,Sl,Gg,fI,dZ,tV,tX,c1,c4,c5,hw1,hs,hset]
  ·by_cases c2:gY r 65 90=true
   ·by_cases c3:how=1∨(how=2∧fst=true)
    ·rcases c3 with c3|⟨c3,c4⟩
     ·simp [hq,hq2,hq3,hjt,hlen,hgu,hr,Sl,Gg,fI,dZ,tV,tX,c1,c2,c3,hw1,hs,hset]
     ·simp [hq,hq2,hq3,hjt,hlen,hgu,hr,Sl,Gg,fI,dZ,tV,tX,c1,c2,c3,c4,hw1,hs,hset]
    ·have c4:¬how=1:=fun e=>c3 (.inl e)
     by_cases c5:how=2
     ·have c6:fst=false:=by cases fst;rfl;exact absurd (.inr ⟨c5,rfl⟩) c3
      simp [hq,hq2,hq3,hjt,hlen,hgu,hr,Sl,Gg,fI,dZ,tV,tX,c1,c2,c5,c6,hw1,hs,hset]
     ·simp [hq,hq2,hq3,hjt,hlen,hgu,hr,Sl,Gg,fI,dZ,tV,tX,c1,c2,c4,c5,hw1,hs,hset]
   ·simp [hq,hq2,hq3,hjt,hlen,hgu,hr,Sl,Gg,fI,dZ,c1,c2,hw1,hs]
def swapAt (t:List Int)(k:Nat):List Int:=(t.set (k-1) (t.getD k 0)).set k (t.getD (k-1) 0)
theorem Yz (t:List Int)(a:Int)(h:bN t a=true)(h2:2≤t.length)(k:Nat)(hk:(k:Int)=min a (t.length-1))(hk0:1≤k):oW [.agg [.aP (some 0) (ints t),vI a]] [] []=some ⟨.fK [.agg [.own 0,vI ((k:Int)+1)],V.v (.bool true)],[],[(0,ints (swapAt t k))]⟩:=by
 have hl:=bX h
 have e1:=bQ t a (by omega)
 rw [h]at e1
 have e2:=uY t (some 0) a ((k:Int)+1) (by omega)
 have m1:max 0 (min ((k:Int)+1) t.length)=(k:Int)+1:=by omega
 rw [m1]at e2
 have hkl:k<t.length:=by omega
 have hk1:k-1<t.length:=by omega
 have w1:=bM ((t.length:Int)-1) (by omega)
 have w2:=bM ((k:Int)+1) (by omega)
 have w3:=bM ((k:Int)-1) (by omega)
 have a0:¬a=0:=by omega
 have l2:¬(t.length:Int)<2:=by omega
 have i1:(k:Int)<t.length:=by omega
 have i2:(k:Int)-1<t.length:=by omega
 have i3:0≤(k:Int)-1:=by omega
 have i4:((k:Int)-1).toNat=k-1:=by omega
 have i5:1≤(k:Int):=by omega
 have hset:∀(u:List Int) (j:Nat) (x:Int),(ints u).set j [.a (.int .i64 x)]=ints (u.set j x):=fun u j x=>su u j x
 have g1:t.getD k 0=t[k]:=by rw [List.getD_eq_getElem?_getD,List.getElem?_eq_getElem hkl];rfl
 have g2:t.getD (k-1) 0=t[k-1]:=by rw [List.getD_eq_getElem?_getD,List.getElem?_eq_getElem hk1];rfl
 have aja:k<(t.set (k-1) t[k]).length:=by simpa using hkl
 have hgs:=aO aja
 unfold swapAt
 rw [g1,g2]
 generalize hE:oW _ _ _=R
 simp [oW,func168,f168,e1,e2,a0,l2,w1,w2,w3,←hk,i1,i2,i3,i4,i5,hkl,hk1,aO hkl,aO hk1,hset]at hE
 exact hE.symm
theorem QX (t:List Int)(a:Int)(h:bN t a=true)(h2:t.length<2∨a=0):oW [.agg [.aP (some 0) (ints t),vI a]] [] []=some ⟨.fK [.agg [.own 0,vI 0],V.v (.bool false)],[],[(0,[])]⟩:=by
 have hl:=bX h
 have e1:=bQ t a (by omega)
 rw [h]at e1
 unfold oW
 by_cases c:t.length<2
 ·have l2:(t.length:Int)<2:=by omega
  simp [func168,f168,e1,l2]
 ·have l2:¬(t.length:Int)<2:=by omega
  have a0:a=0:=h2.resolve_left c
  subst a0
  simp [func168,f168,e1,l2]
theorem KD (t:List Int)(k:Nat):(swapAt t k).length=t.length:=by unfold swapAt;simp
theorem FJ {t:List Int}(h:t.all fP=true){k:Nat}(hk:k<t.length):(swapAt t k).all fP=true:=by
 unfold swapAt
 have g:∀j,j<t.length→fP (t.getD j 0)=true:=fun j hj=>by
  rw [List.getD_eq_getElem?_getD,List.getElem?_eq_getElem hj]
  exact List.all_eq_true.1 h _ (List.getElem_mem hj)
 exact Ip (Ip h _ (g k hk)) _ (g (k-1) (by omega))
def gK (p:Nat→Bool):Nat→Nat
 | 0=>0
 | n+1=>if gK p n=n∧p n=true then n+1 else gK p n
theorem cB (p:Nat→Bool):∀n,gK p n≤n∧(∀j,j<gK p n→p j=true)∧(gK p n=n∨p (gK p n)=false)
 | 0=>⟨Nat.le_refl _,fun j h=>absurd h (Nat.not_lt_zero _), .inl rfl⟩
 | n+1=>by
  obtain⟨h1,h2,h3⟩:=cB p n
  unfold gK
  by_cases h:gK p n=n∧p n=true
  ·rw [if_pos h]
   refine⟨Nat.le_refl _,fun j hj=>?_, .inl rfl⟩
   by_cases e:j<gK p n
   ·exact h2 j e
   ·have:j=n:=by omega
    rw [this];exact h.2
  ·rw [if_neg h]
   refine⟨by omega,h2, .inr ?_⟩
   rcases h3 with h3|h3
   ·rw [h3]
    cases e:p n
    ·rfl
    ·exact absurd ⟨h3,e⟩ h
   ·exact h3
def kV (r:Int):Int:=if r=9∨r=10∨r=32 then 0 else if gY r 97 122=true∨gY r 65 90=true∨gY r 48 57=true∨r=95∨(159<r∧bS r=true)then 1 else 2
def agY (big:Bool)(r:Int):Int:=if big=true∧kV r=2 then 1 else kV r
def dw (t:List Int)(big:Bool)(j:Nat):Int:=agY big (t.getD j 0)
def iq (t:List Int)(a:Nat):Nat:=
 let k:=gK (fun j=>decide (¬kV (t.getD (a+j) 0)=1)) (t.length-a)
 a+k+gK (fun j=>decide (kV (t.getD (a+k+j) 0)=1)) (t.length-(a+k))
def fq (t:List Int)(a:Nat):Nat:=
 let k:=gK (fun j=>decide (¬kV (t.getD (a-j-1) 0)=1)) a
 a-k-gK (fun j=>decide (kV (t.getD (a-k-j-1) 0)=1)) (a-k)
def xG (t:List Int)(big:Bool)(a:Nat):Nat:=a+gK (fun j=>decide (dw t big (a+j)=dw t big a)) (t.length-a)
def FK (t:List Int)(big:Bool)(a:Nat):Nat:=
 let b:=if a<t.length∧¬dw t big a=0 then xG t big a else a
 b+gK (fun j=>decide (dw t big (b+j)=0)) (t.length-b)
def lG (t:List Int)(big:Bool)(a:Nat):Nat:=
 let n:=a-gK (fun j=>decide (dw t big (a-j-1)=0)) a
 n-gK (fun j=>decide (dw t big (n-j-1)=dw t big (n-1))) n
def xH (t:List Int)(big:Bool)(a:Nat):Nat:=
 if t.length=0 then 0 else
 let c:=a+1+gK (fun j=>decide (dw t big (a+1+j)=0)) (t.length-(a+1))
 if t.length≤c then t.length-1 else xG t big c-1
def dD (f:Nat→Nat):Nat→Nat→Nat
 | 0,a=>a
 | n+1,a=>dD f n (f a)
theorem p8 (f:Nat→Nat):∀n a,dD f (n+1) a=f (dD f n a)
 | 0,a=>rfl
 | n+1,a=>by show dD f (n+1) (f a)=_;rw [p8 f n (f a)];rfl
def jC (t:List Int)(r how:Int)(a:Nat):Option Nat:=
 if how=0 then
  let k:=gK (fun j=>decide (¬t.getD (a+1+j) 0=r)) (t.length-(a+1))
  if a+1+k<t.length then some (a+1+k)else none
 else if how=1 then
  let k:=gK (fun j=>decide (¬t.getD (a-1-j) 0=r)) a
  if k<a then some (a-1-k)else none
 else if how=2 then
  let k:=gK (fun j=>decide (¬t.getD (a+2+j) 0=r)) (t.length-(a+2))
  if a+2+k<t.length then some (a+1+k)else none
 else if how=3 then
  let k:=gK (fun j=>decide (¬t.getD (a-2-j) 0=r)) (a-1)
  if k<a-1 then some (a-1-k)else none
 else none
def tZ (t:List Int)(r how:Int):Nat→Nat→Option Nat
 | 0,a=>some a
 | n+1,a=>match jC t r how a with
  | none=>none
  | some p=>tZ t r how n p
def iV (r:Int):Int:=if r=102 then 0 else if r=70 then 1 else if r=116 then 2 else if r=84 then 3 else -1
def zQ (t:List Int):Nat:=gK (fun j=>decide (kV (t.getD j 0)=0)) t.length
def gM (t:List Int)(a:Nat)(r:Int)(n:Nat):Option (Nat×Bool):=
 if r=104 then some (a-n,false)
 else if r=108∨r=32 then some (min (a+n) t.length,false)
 else if r=119∨r=87 then some (dD (FK t (decide (r=87))) n a,false)
 else if r=98∨r=66 then some (dD (lG t (decide (r=66))) n a,false)
 else if r=101∨r=69 then some (dD (xH t (decide (r=69))) n a,decide (0<t.length))
 else if r=48 then some (0,false)
 else if r=94 then some (zQ t,false)
 else if r=36 then some (t.length-1,decide (0<t.length))
 else if r=124 then some (min (n-1) t.length,false)
 else none
def aR (e:dB):Nat:=e.ak.At.toNat
def gQ (e:dB):Nat:=(max e.bH 1).toNat
def gW (e:dB):Nat:=(min (max e.bH 1*max e.bU 1) 999).toNat
def QY (a:Int)(n:Nat):Int:=max 0 (min a n)
def oD (t:List Int)(f u:Nat):List Int:=t.take f++t.drop u
def sK (e:dB)(last:Int):dB:= {e with bH:=0,Op:=0,bU:=0,fT:=0,iZ:=last}
def dM (e:dB):dB×Int:=(sK e 0,1)
def sO (e:dB)(t:List Int)(a last:Int):dB:= {sK e last with ak:=⟨t,jl e.bV t a⟩,gH:=⟨sJ e t last⟩}
def vQ (e:dB)(t:List Int)(a:Int):dB×Int:=(sO e t a 0,0)
def yP (e:dB)(a:Int):dB×Int:=vQ e e.ak.av (QY a e.ak.av.length)
def Dp (e:dB)(f u:Nat):dB×Int:=if f<u then vQ e (oD e.ak.av f u) (cutAt e.ak.At f u)else dM e
def lH (e:dB)(f u:Nat)(how:Int):dB×Int:=
 if f<u then({sO e (oD e.ak.av f u) (cutAt e.ak.At f u) 2 with aI:=⟨oC e.aI.aA ((e.ak.av.drop f).take (u-f)) (Aq e how)⟩},0)else dM e
def zR (t:List Int)(a:Nat)(u:List Int):List Int:=t.take a++u++t.drop a
def Au (e:dB)(u:List Int)(last:Int):dB×Int:=
 if e.ak.av.length+u.length≤400 then(sO e (zR e.ak.av (aR e) u) (e.ak.At+u.length) last,0)else dM e
def p9 (f:Int)(l:List ByteArray)(n:Int):Option ByteArray:=if f≤n∧n≤f+l.length-1 then l[(n-f).toNat]? else none
noncomputable def nG (b:List UInt8):List Int:=(LX b.length b (Nat.le_refl _)).choose
noncomputable def rJ (b:List UInt8):List UInt8:=(LX b.length b (Nat.le_refl _)).choose_spec.choose
theorem uf (b:List UInt8):Reads b (nG b) (rJ b):=(LX b.length b (Nat.le_refl _)).choose_spec.choose_spec
noncomputable def sM (s:ByteArray):List Int:=if rJ s.data.toList= []then nG s.data.toList else []
noncomputable def mP (s:ByteArray):Option (List Int):=if rJ s.data.toList= []∧dF (nG s.data.toList)=true then some (nG s.data.toList)else none
def JO (e:dB)(f:Int)(l:List ByteArray):Int:=if e.kF=0 then gF f l+1 else e.kF
noncomputable def qK (e:dB)(f:Int)(l:List ByteArray)(zM:Int):Option dB:=
 if zM=1∧¬e.kF=0∧e.kF=gF f l then some {sK e 0 with gH:=⟨[]⟩,ak:=⟨e.iM.av,jl e.bV e.iM.av e.iM.At⟩,kF:=0,iM:=⟨[],0⟩}
 else match (p9 f l (JO e f l+zM)).bind mP with
  | none=>none
  | some t=>some {sK e 0 with gH:=⟨[]⟩,ak:=⟨t,if e.bV=2 then 0 else t.length⟩,kF:=JO e f l+zM,iM:=if e.kF=0 then e.ak else e.iM}
noncomputable def jF (e:dB)(f:Int)(l:List ByteArray)(zM:Int):dB×Int:=match qK e f l zM with
 | none=>dM e
 | some x=>(x,0)
def mQ (e:dB):dB×Int:=match e.gH.eX.getLast? with
 | none=>dM e
 | some x=>({sK e 0 with ak:=⟨x.av,jl e.bV x.av x.At⟩,gH:=⟨e.gH.eX.dropLast⟩},0)
def BL (e:dB):dB×Int:=({sK e 0 with bV:=3,dH:=e.ak,bP:= [],nH:=0},0)
def bE (l:List eT):List Int:=(l.head?.map (·.av)).getD []
def BM (e:dB):dB×Int:=if bE e.aI.aA= []then dM e else Au e (bE e.aI.aA) 3
def lC (l:List eT):List eT:=l.drop 1++l.take 1
def Oo (e:dB):Bool:=decide (e.iZ=3)&&(decide (¬bE e.aI.aA= [])&&(decide ((bE e.aI.aA).length≤aR e)&&decide ((e.ak.av.drop (aR e-(bE e.aI.aA).length)).take (bE e.aI.aA).length=bE e.aI.aA)))
def jO (e:dB):dB×Int:=
 if Oo e=true∧(oD e.ak.av (aR e-(bE e.aI.aA).length) (aR e)).length+(bE (lC e.aI.aA)).length≤400 then
  (sO {e with aI:=⟨lC e.aI.aA⟩} (zR (oD e.ak.av (aR e-(bE e.aI.aA).length) (aR e)) (aR e-(bE e.aI.aA).length) (bE (lC e.aI.aA))) ((aR e-(bE e.aI.aA).length:Nat)+(bE (lC e.aI.aA)).length) 3,0)
 else dM e
def JQ (e:dB)(how:Int):dB×Int:=vQ e (jL e.ak.av (aR e) how (iq e.ak.av (aR e)-aR e)).1 (iq e.ak.av (aR e))
def Iq (e:dB)(r:Int):dB×Int:=({e with bH:=min (10*e.bH+r-48) 999},0)
def zY (e:dB)(r:Int):dB×Int:=
 if gY r 48 57=true then Iq e r
 else if r=98 then yP e (dD (fq e.ak.av) (gQ e) (aR e))
 else if r=102 then yP e (dD (iq e.ak.av) (gQ e) (aR e))
 else if r=100 then lH e (aR e) (dD (iq e.ak.av) (gQ e) (aR e)) 1
 else if r=121 then jO e
 else if r=117 then JQ e 1
 else if r=108 then JQ e 0
 else if r=99 then JQ e 2
 else dM e
def Ir (e:dB):dB×Int:=if e.ak.av.length<2∨e.ak.At=0 then dM e else vQ e (swapAt e.ak.av (min (aR e) (e.ak.av.length-1))) ((min (aR e) (e.ak.av.length-1):Nat)+1)
noncomputable def CO (e:dB)(f:Int)(l:List ByteArray)(r:Int):dB×Int:=
 if r=97 then yP e 0
 else if r=101 then yP e e.ak.av.length
 else if r=98 then yP e (e.ak.At-gQ e)
 else if r=102 then yP e (e.ak.At+gQ e)
 else if r=112 then jF e f l (-1)
 else if r=110 then jF e f l 1
 else if r=107 then lH e (aR e) e.ak.av.length 1
 else if r=121 then BM e
 else if r=116 then Ir e
 else if r=95 then mQ e
 else if r=114 then BL e
 else dM e
def OI (e:dB):dB×Int:=Dp e (aR e) (min (aR e+gQ e) e.ak.av.length)
def fZ (e:dB)(r:Int):Option (dB×Int):=
 if r=99 then some (e,3)
 else if r=108 then some (e,5)
 else if r=100 then some (if e.ak.av.length=0 then(e,4)else OI e)
 else if r=117 then some (lH e 0 (aR e) 2)
 else if r=119 then some (lH e (lG e.ak.av true (aR e)) (aR e) 2)
 else none
noncomputable def lY (e:dB)(f:Int)(l:List ByteArray)(k r:Int):Option (dB×Int):=
 if k=1 then some (Au e (List.replicate (gQ e) r) 1)
 else if k=6 then some (Au e (List.replicate (gQ e) 9) 1)
 else if k=4 then some (e,2)
 else if k=2 then fZ e r
 else if k=5 then some (Dp e (aR e-gQ e) (aR e))
 else if k=14 then some (OI e)
 else if k=11 then some (yP e (e.ak.At-gQ e))
 else if k=10 then some (yP e (e.ak.At+gQ e))
 else if k=12 then some (yP e 0)
 else if k=13 then some (yP e e.ak.av.length)
 else if k=8 then some (jF e f l (-1))
 else if k=9 then some (jF e f l 1)
 else none
noncomputable def xI (e:dB)(f:Int)(l:List ByteArray)(k r:Int):dB×Int:=match lY e f l k r with
 | some p=>p
 | none=>
  if k=3 then zY e r
  else if k=15 then lH e (dD (fq e.ak.av) (gQ e) (aR e)) (aR e) 2
  else if k=2 then CO e f l r
  else dM e
theorem iE {α:Type}{c:Prop} [Decidable c]{a b:Option α}{p:α}(h:(if c then a else b)=some p):(c∧a=some p)∨(¬c∧b=some p):=by
 by_cases hc:c
 ·rw [if_pos hc]at h;exact .inl ⟨hc,h⟩
 ·rw [if_neg hc]at h;exact .inr ⟨hc,h⟩
theorem iT {c:Prop} [Decidable c]{a b:dB×Int}{v:Bool}(ha:c→a.1.Vi=v)(hb:¬c→b.1.Vi=v):(if c then a else b).1.Vi=v:=by
 by_cases hc:c
 ·rw [if_pos hc];exact ha hc
 ·rw [if_neg hc];exact hb hc
def o7 (e:dB)(a:Nat):dB:= {sO e e.ak.av a 0 with bV:=1,ak:=⟨e.ak.av,a⟩}
def gZ (e:dB)(op:Int)(f u:Nat):dB×Int:=
 if f=u then(if op=99 then(o7 e f,0)else dM e)
 else if op=121 then vQ {e with aI:=⟨oC e.aI.aA ((e.ak.av.drop f).take (u-f)) 0⟩} e.ak.av f
 else if op=99 then({sO {e with aI:=⟨oC e.aI.aA ((e.ak.av.drop f).take (u-f)) 0⟩} (oD e.ak.av f u) f 0 with bV:=1,ak:=⟨oD e.ak.av f u,f⟩},0)
 else vQ {e with aI:=⟨oC e.aI.aA ((e.ak.av.drop f).take (u-f)) 0⟩} (oD e.ak.av f u) f
def xJ (n a u:Nat)(incl:Bool):Nat:=if incl=true∧max a u<n then max a u+1 else max a u
def qL (e:dB)(u:Nat)(incl:Bool):dB×Int:=if e.Op=0 then yP e u else gZ e e.Op (min (aR e) u) (xJ e.ak.av.length (aR e) u incl)
def nN (e:dB)(r how:Int)(n:Nat):dB×Int:=match tZ e.ak.av r how n (aR e)with
 | none=>dM e
 | some p=>qL e p (decide (how=0∨how=2))
def qd (t:List Int)(f:Nat)(r:Int):Nat→List Int
 | 0=>t
 | j+1=>(qd t f r j).set (f+j) r
def YA (r:Int):Int:=if gY r 97 122=true then r-32 else if gY r 65 90=true then r+32 else r
def rM (t:List Int)(f:Nat):Nat→List Int
 | 0=>t
 | j+1=>(rM t f j).set (f+j) (YA ((rM t f j).getD (f+j) 0))
def rO (e:dB)(k r:Int)(n:Nat):dB×Int:=
 if ¬k=1 then dM e
 else if e.fT=114 then(if e.ak.av.length<aR e+n then dM e else vQ e (qd e.ak.av (aR e) r n) (aR e+n-1:Nat))
 else if tZ e.ak.av r (iV e.fT) n (aR e)=none then dM e
 else nN {e with eY:=r,bT:=iV e.fT} r (iV e.fT) n
def jR (e:dB)(r:Int)(n:Nat):dB×Int:=match gM e.ak.av (aR e) r n with
 | none=>qL e 0 false
 | some p=>qL e p.1 p.2
noncomputable def qM (e:dB)(f:Int)(l:List ByteArray)(k r:Int)(n:Nat):dB×Int:=
 if k=4 then(e,2)
 else if k=7 then(if e.bH=0∧e.Op=0∧e.bU=0∧e.fT=0 then dM e else(sK e e.iZ,0))
 else if k=8 then jF e f l (-1)
 else if k=9 then jF e f l 1
 else if k=11∨k=5 then jR e 104 n
 else if k=10 then jR e 108 n
 else if k=12 then jR e 48 n
 else if k=13 then jR e 36 n
 else if k=14 then gZ e 100 (aR e) (min (aR e+n) e.ak.av.length)
 else if k=2 then
  if r=99 then(e,3)
  else if r=108 then(e,5)
  else if r=100∧e.ak.av.length=0 then(e,4)
  else if r=114 then BL e
  else dM e
 else dM e
def mH (n:Nat)(t:List Int):List Int:=(List.replicate n t).flatten
def uP (e:dB)(a n:Nat):dB×Int:=
 if bE e.aI.aA= []∨400<e.ak.av.length+(bE e.aI.aA).length*n then dM e
 else vQ e (zR e.ak.av a (mH n (bE e.aI.aA))) ((a+(bE e.aI.aA).length*n:Nat)-1)
def nY (e:dB)(n:Nat):dB×Int:=
 if e.ak.av.length=0 then dM e
 else vQ e (rM e.ak.av (aR e) (min (aR e+n) e.ak.av.length-aR e)) (min (aR e+n) e.ak.av.length:Nat)
def uI (how:Int):Int:=if how=0 then 1 else if how=1 then 0 else if how=2 then 3 else 2
def vR (e:dB)(r:Int)(n:Nat):Option (dB×Int):=
 if gY r 49 57=true∨(r=48∧¬e.bH=0)then some (Iq e r)
 else if 0≤iV r then some ({e with fT:=r},0)
 else if r=59 then some (if e.eY=0 then dM e else nN e e.eY e.bT n)
 else if r=44 then some (if e.eY=0 then dM e else nN e e.eY (uI e.bT) n)
 else if e.Op=0∧opC r=true then some ({e with Op:=r,bU:=e.bH,bH:=0},0)
 else none
def zS (e:dB)(r:Int):dB×Int:=
 if r=105 then(o7 e (aR e),0)
 else if r=73 then(o7 e (zQ e.ak.av),0)
 else if r=97 then(o7 e (min (aR e+1) e.ak.av.length),0)
 else if r=65 then(o7 e e.ak.av.length,0)
 else dM e
noncomputable def rX (e:dB)(f:Int)(l:List ByteArray)(r:Int)(n:Nat):dB×Int:=
 if r=120 then gZ e 100 (aR e) (min (aR e+n) e.ak.av.length)
 else if r=88 then gZ e 100 (aR e-n) (aR e)
 else if r=68 then gZ e 100 (aR e) e.ak.av.length
 else if r=67 then gZ e 99 (aR e) e.ak.av.length
 else if r=115 then gZ e 99 (aR e) (min (aR e+n) e.ak.av.length)
 else if r=83 then gZ e 99 0 e.ak.av.length
 else if r=114 then({e with fT:=114},0)
 else if r=112 then uP e (min (aR e+1) e.ak.av.length) n
 else if r=80 then uP e (aR e) n
 else if r=126 then nY e n
 else if r=117 then mQ e
 else if r=107∨r=45 then jF e f l (-1)
 else if r=106∨r=43 then jF e f l 1
 else if r=47 then BL e
 else zS e r
noncomputable def oz (e:dB)(f:Int)(l:List ByteArray)(r:Int)(n:Nat):dB×Int:=match vR e r n with
 | some p=>p
 | none=>
  if ¬e.Op=0∧r=e.Op then gZ e r 0 e.ak.av.length
  else match gM e.ak.av (aR e) r n with
   | some p=>qL e p.1 p.2
   | none=>if ¬e.Op=0 then dM e else rX e f l r n
def agZ (e:dB):dB×Int:=({e with bV:=2,bH:=0,iZ:=0,ak:=⟨e.ak.av,max (e.ak.At-1) 0⟩},0)
noncomputable def viE (e:dB)(f:Int)(l:List ByteArray)(k r:Int):dB×Int:=
 if e.bV=1 then
  match lY e f l k r with
  | some p=>p
  | none=>if k=7 then agZ e else dM e
 else if ¬e.fT=0 then rO e k r (gW e)
 else if ¬k=1 then qM e f l k r (gW e)
 else oz e f l r (gW e)
def xK (e:dB):dB:= {e with bV:=if e.Vi=true then 2 else 0,bP:= [],nH:=0,dH:=⟨[],0⟩,ak:=⟨e.ak.av,jl (if e.Vi=true then 2 else 0) e.ak.av e.ak.At⟩}
def iW (f:Int)(sub:List UInt8)(fr:Int):List ByteArray→Nat→Int
 | l,0=>0
 | l,n+1=>if f+n≤fr∧(l[n]?.map fun s=>Lib.contains s.data.toList sub)=some true then f+n else iW f sub fr l n
noncomputable def mI (e:dB)(f:Int)(l:List ByteArray)(n:Int)(q:List Int):Option dB:=
 if q.length≤40 then
  match p9 f l n with
  | none=>none
  | some s=>match mP s with
   | none=>none
   | some t=>
    if 0≤Lib.index s.data.toList (bI q)then
     some {e with iM:=if e.kF=0 then e.dH else e.iM,ak:=⟨t,(sM (s.extract 0 (Lib.index s.data.toList (bI q)).toNat)).length⟩,bP:=q,nH:=n,kF:=n,gH:=⟨[]⟩}
    else none
 else none
noncomputable def BN (e:dB)(f:Int)(l:List ByteArray)(q:List Int)(fr:Int):dB×Int:=
 match mI e f l (iW f (bI q) (if e.nH=0 then gF f l else fr) l l.length) q with
 | none=>(e,1)
 | some x=>(x,0)
noncomputable def sN (e:dB)(f:Int)(l:List ByteArray)(k r:Int):dB×Int:=
 if k=1 then BN e f l (e.bP++ [r]) e.nH
 else if k=2∧r=114 then(if e.bP= []then(e,1)else BN e f l e.bP (e.nH-1))
 else if k=5 then(if e.bP= []then(e,1)else({e with bP:=e.bP.dropLast},0))
 else if k=4 then(xK e,2)
 else if k=2∧(r=103∨r=99)then(xK {e with ak:=e.dH,kF:=0,iM:=⟨[],0⟩},1)
 else(xK e,0)
noncomputable def ug (e:dB)(f:Int)(l:List ByteArray)(k r:Int):dB×Int:=
 if e.bV=0 then xI e f l k r else if e.bV=3 then sN e f l k r else viE e f l k r
def jh (k r:Int):Bool:=
 if k=1 then bS r
 else if k=2 then decide (r=95)||(gY r 97 122&&(decide (¬r=104)&&(decide (¬r=105)&&(decide (¬r=106)&&decide (¬r=109)))))
 else if k=3 then gY r 33 126
 else gY k 4 16&&decide (r=0)
theorem FL (r:Int):pQ [vI r] [] []=some ⟨vI (kV r),[],[]⟩:=by
 unfold pQ kV
 by_cases h1:r=9
 ·simp [func163,f163,h1]
 by_cases h2:r=10
 ·simp [func163,f163,h2]
 by_cases h3:r=32
 ·simp [func163,f163,h3]
 cases h4:gY r 97 122
 case true=>simp [func163,f163,h1,h2,h3,fI,h4]
 cases h5:gY r 65 90
 case true=>simp [func163,f163,h1,h2,h3,fI,h4,dZ,h5]
 cases h6:gY r 48 57
 case true=>simp [func163,f163,h1,h2,h3,fI,h4,dZ,h5,lX,h6]
 by_cases h7:r=95
 ·subst h7;simp [func163,f163,fI,h4,dZ,h5,lX,h6]
 by_cases h8:159<r
 ·cases h9:bS r<;>simp [func163,f163,h1,h2,h3,fI,h4,dZ,h5,lX,h6,h7,h8,aQ,h9]
 ·simp [func163,f163,h1,h2,h3,fI,h4,dZ,h5,lX,h6,h7,h8]
theorem getD_at {t:List Int}{j:Nat}(h:j<t.length):t.getD j 0=t[j]:=by rw [List.getD_eq_getElem?_getD,List.getElem?_eq_getElem h];rfl
theorem FM (t:List Int)(i:Option Nat)(a:Nat)(big:Bool)(h:a<t.length):vF [.aP i (ints t),vI (a:Int),V.v (.bool big)] [] []=some ⟨vI (dw t big a),[],[]⟩:=by
 have e:=FL t[a]
 unfold vF dw agY
 rw [getD_at h]
 generalize kV t[a]=c at*
 cases big
 ·simp [func273,f273,h,aO h,e]
 ·by_cases h2:c=2
  ·simp [func273,f273,h,aO h,e,h2]
  ·simp [func273,f273,h,aO h,e,h2]
theorem L8 {t:List Int}{big:Bool}{a:Nat}(h:a≤t.length):a≤xG t big a∧xG t big a≤t.length:=by
 obtain⟨h1,h2,h3⟩:=cB (fun j=>decide (dw t big (a+j)=dw t big a)) (t.length-a)
 unfold xG
 omega
theorem afN {t:List Int}{big:Bool}{a:Nat}(h:a<t.length):a<xG t big a:=by
 obtain⟨h1,h2,h3⟩:=cB (fun j=>decide (dw t big (a+j)=dw t big a)) (t.length-a)
 unfold xG
 rcases h3 with h3|h3
 ·omega
 ·generalize gK (fun j=>decide (dw t big (a+j)=dw t big a)) (t.length-a)=k at*
  cases k with
  | zero=>simp at h3
  | succ k=>omega
theorem Uv (t:List Int)(i:Option Nat)(a:Nat)(big:Bool)(h:a<t.length)(ht:t.length≤2000):D6 [.aP i (ints t),vI (a:Int),V.v (.bool big)] [] []=some ⟨vI (((xG t big a:Nat):Int)),[],[]⟩:=by
 have hc:=fun j (hj:j<t.length)=>FM t (some 0) j big hj
 obtain⟨h1,h2,h3⟩:=cB (fun j=>decide (dw t big (a+j)=dw t big a)) (t.length-a)
 unfold xG
 generalize gK (fun j=>decide (dw t big (a+j)=dw t big a)) (t.length-a)=k at*
 have e0:=hc a h
 simp [D6,func277,f277,e0]
 rw [aJ (fun j=> .on ⟨[(7,V.v (.int .i64 (dw t big a))),(2,V.v (.bool big)),(1,V.v (.int .i64 (((a+j:Nat):Int)))),(0, .aP i (ints t))],[],[],[]⟩) k ?_ ?_]
 ·rcases h3 with h3|h3
  ·have q:a+k=t.length:=by omega
   have q2:(a:Int)+k=t.length:=by omega
   simp [q,q2]
  ·by_cases hq:a+k<t.length
   ·have e1:=hc (a+k) hq
    have h3':¬dw t big (a+k)=dw t big a:=of_decide_eq_false h3
    have hq2:(a:Int)+k<t.length:=by omega
    simp only [Int.natCast_add]at e1
    simp [hq,hq2,e1,h3']
   ·have q:a+k=t.length:=by omega
    have q2:(a:Int)+k=t.length:=by omega
    simp [q,q2]
 ·simp
 ·intro j hj
  have hq:a+j<t.length:=by omega
  have hq2:(a:Int)+j<t.length:=by omega
  have e1:=hc (a+j) hq
  have h2':dw t big (a+j)=dw t big a:=of_decide_eq_true (h2 j hj)
  have hw:=bM ((a:Int)+(j+1)) (by omega)
  have hs:(a:Int)+j+1=(a:Int)+(j+1):=by omega
  simp only [Int.natCast_add]at e1
  simp [hq,hq2,e1,h2',hw,hs]
theorem YB (t:List Int)(i:Option Nat)(a:Nat)(big:Bool)(h:a≤t.length)(ht:t.length≤2000):wC [.aP i (ints t),vI (a:Int),V.v (.bool big)] [] []=some ⟨vI (((FK t big a:Nat):Int)),[],[]⟩:=by
 have hc:=fun j (hj:j<t.length)=>FM t (some 0) j big hj
 have m1:max 0 (min (a:Int) t.length)=a:=by omega
 unfold FK
 by_cases h0:a<t.length
 ·have e0:=hc a h0
  by_cases hz:dw t big a=0
  ·rw [if_neg (fun e=>e.2 hz)]
   simp only
   obtain⟨k1,k2,k3⟩:=cB (fun j=>decide (dw t big (a+j)=0)) (t.length-a)
   generalize gK (fun j=>decide (dw t big (a+j)=0)) (t.length-a)=k at*
   simp [wC,func238,f238,fC,m1,h0,e0,hz]
   rw [aJ (fun j=> .on ⟨[(2,V.v (.bool big)),(1,V.v (.int .i64 (((a+j:Nat):Int)))),(0, .aP i (ints t))],[],[],[]⟩) k ?_ ?_]
   ·by_cases q:a+k=t.length
    ·have q2:(a:Int)+k=t.length:=by omega
     simp [q,q2]
    ·have hq:a+k<t.length:=by omega
     have hq2:(a:Int)+k<t.length:=by omega
     have e1:=hc (a+k) hq
     have h3':¬dw t big (a+k)=0:=of_decide_eq_false (k3.resolve_left (by omega))
     simp only [Int.natCast_add]at e1
     simp [hq,hq2,e1,h3']
   ·simp
   ·intro j hj
    have hq:a+j<t.length:=by omega
    have hq2:(a:Int)+j<t.length:=by omega
    have e1:=hc (a+j) hq
    have h2':dw t big (a+j)=0:=of_decide_eq_true (k2 j hj)
    have hw:=bM ((a:Int)+(j+1)) (by omega)
    have hs:(a:Int)+j+1=(a:Int)+(j+1):=by omega
    simp only [Int.natCast_add]at e1
    simp [hq,hq2,e1,h2',hw,hs]
  ·rw [if_pos ⟨h0,hz⟩]
   have e2:=Uv t (some 0) a big h0 ht
   obtain⟨r1,r2⟩:=L8 (t:=t) (big:=big) h
   generalize xG t big a=a1 at*
   obtain⟨k1,k2,k3⟩:=cB (fun j=>decide (dw t big (a1+j)=0)) (t.length-a1)
   simp only
   generalize gK (fun j=>decide (dw t big (a1+j)=0)) (t.length-a1)=k at*
   simp [wC,func238,f238,fC,m1,h0,e0,hz,e2]
   rw [aJ (fun j=> .on ⟨[(2,V.v (.bool big)),(1,V.v (.int .i64 (((a1+j:Nat):Int)))),(0, .aP i (ints t))],[],[],[]⟩) k ?_ ?_]
   ·by_cases q:a1+k=t.length
    ·have q2:(a1:Int)+k=t.length:=by omega
     simp [q,q2]
    ·have hq:a1+k<t.length:=by omega
     have hq2:(a1:Int)+k<t.length:=by omega
     have e1:=hc (a1+k) hq
     have h3':¬dw t big (a1+k)=0:=of_decide_eq_false (k3.resolve_left (by omega))
     simp only [Int.natCast_add]at e1
     simp [hq,hq2,e1,h3']
   ·simp
   ·intro j hj
    have hq:a1+j<t.length:=by omega
    have hq2:(a1:Int)+j<t.length:=by omega
    have e1:=hc (a1+j) hq
    have h2':dw t big (a1+j)=0:=of_decide_eq_true (k2 j hj)
    have hw:=bM ((a1:Int)+(j+1)) (by omega)
    have hs:(a1:Int)+j+1=(a1:Int)+(j+1):=by omega
    simp only [Int.natCast_add]at e1
    simp [hq,hq2,e1,h2',hw,hs]
 ·have ha:a=t.length:=by omega
  rw [if_neg (fun e=>h0 e.1)]
  simp only
  rw [ha,Nat.sub_self,show gK (fun j=>decide (dw t big (t.length+j)=0)) 0=0 from rfl]
  simp [wC,func238,f238,fC]
  rw [bL]
  simp
theorem L9 {t:List Int}{a:Nat}(ha:a≤t.length)(ht:t.length≤2000)(n:Nat)(h1:n≤a)(h2:0<n):n-1<t.length∧(0:Int)<n∧IntKind.i64.wrap ((n:Int)-1)=n-1∧((n-1:Nat):Int)=(n:Int)-1∧¬(n:Int)=0∧(n:Int)-1<t.length∧0≤(n:Int)-1∧((n:Int)-1).toNat=n-1∧1≤(n:Int):=
 ⟨by omega,by omega,bM _ (by omega),by omega,by omega,by omega,by omega,by omega,by omega⟩
theorem JR (t:List Int)(i:Option Nat)(a:Nat)(big:Bool)(h:a≤t.length)(ht:t.length≤2000):nS [.aP i (ints t),vI (a:Int),V.v (.bool big)] [] []=some ⟨vI (((lG t big a:Nat):Int)),[],[]⟩:=by
 have hc:=fun j (hj:j<t.length)=>FM t (some 0) j big hj
 have m1:max 0 (min (a:Int) t.length)=a:=by omega
 have idx:=L9 h ht
 unfold lG
 obtain⟨k1,k2,k3⟩:=cB (fun j=>decide (dw t big (a-j-1)=0)) a
 generalize gK (fun j=>decide (dw t big (a-j-1)=0)) a=k at*
 have hk2:∀j,j<k→dw t big (a-j-1)=0:=fun j hj=>of_decide_eq_true (k2 j hj)
 simp only
 by_cases hka:k=a
 ·rw [hka,Nat.sub_self,show gK (fun j=>decide (dw t big (0-j-1)=dw t big (0-1))) 0=0 from rfl]
  simp [nS,func217,f217,fC,m1]
  rw [aJ (fun j=> .on ⟨[(2,V.v (.bool big)),(1,V.v (.int .i64 (((a-j:Nat):Int)))),(0, .aP i (ints t))],[],[],[]⟩) k ?_ ?_]
  ·subst hka;simp
  ·simp
  ·intro j hj
   have hp2:0<a-j:=by omega
   have r1:=hk2 j hj
   have hle2:a-j≤a:=by omega
   have hs:a-(j+1)=a-j-1:=by omega
   rw [hs]
   generalize a-j=p at*
   obtain⟨i1,i2,i3,i4,i5, -⟩:=idx p hle2 hp2
   have e2:=hc (p-1) i1
   rw [i4]at e2
   simp [i2,i3,i4,e2,r1,hp2]
 ·have k4:¬dw t big (a-k-1)=0:=of_decide_eq_false (k3.resolve_left hka)
  have hn0:0<a-k:=by omega
  have ah4:a-k≤a:=by omega
  simp [nS,func217,f217,fC,m1]
  rw [aJ (fun j=> .on ⟨[(2,V.v (.bool big)),(1,V.v (.int .i64 (((a-j:Nat):Int)))),(0, .aP i (ints t))],[],[],[]⟩) k ?_ ?_]
  ·generalize a-k=n at*
   obtain⟨n1,n2,n3⟩:=cB (fun j=>decide (dw t big (n-j-1)=dw t big (n-1))) n
   generalize gK (fun j=>decide (dw t big (n-j-1)=dw t big (n-1))) n=m at*
   have hm2:∀j,j<m→dw t big (n-j-1)=dw t big (n-1):=fun j hj=>of_decide_eq_true (n2 j hj)
   have hm3:m=n∨¬dw t big (n-m-1)=dw t big (n-1):=n3.imp _root_.id of_decide_eq_false
   obtain⟨i1,i2,i3,i4,i5, -⟩:=idx n ah4 hn0
   have e1:=hc (n-1) i1
   rw [i4]at e1
   have hnz:¬n=0:=by omega
   simp [i2,i3,i4,i5,e1,k4,hn0,hnz]
   rw [aJ (fun j=> .on ⟨[(7,V.v (.int .i64 (dw t big (n-1)))),(2,V.v (.bool big)),(1,V.v (.int .i64 (((n-j:Nat):Int)))),(0, .aP i (ints t))],[],[],[]⟩) m ?_ ?_]
   ·by_cases r:m=n
    ·subst r;simp
    ·have hp2:0<n-m:=by omega
     have r1:=hm3.resolve_left r
     have hle2:n-m≤a:=by omega
     generalize n-m=p at*
     obtain⟨i1,i2,i3,i4,i5, -⟩:=idx p hle2 hp2
     have e2:=hc (p-1) i1
     rw [i4]at e2
     simp [i2,i3,i4,e2,r1,hp2]
   ·simp
   ·intro j hj
    have hp2:0<n-j:=by omega
    have r1:=hm2 j hj
    have hle2:n-j≤a:=by omega
    have hs:n-(j+1)=n-j-1:=by omega
    rw [hs]
    generalize n-j=p at*
    obtain⟨i1,i2,i3,i4,i5, -⟩:=idx p hle2 hp2
    have e2:=hc (p-1) i1
    rw [i4]at e2
    simp [i2,i3,i4,e2,r1,hp2]
  ·simp
  ·intro j hj
   have hp2:0<a-j:=by omega
   have r1:=hk2 j hj
   have hle2:a-j≤a:=by omega
   have hs:a-(j+1)=a-j-1:=by omega
   rw [hs]
   generalize a-j=p at*
   obtain⟨i1,i2,i3,i4,i5, -⟩:=idx p hle2 hp2
   have e2:=hc (p-1) i1
   rw [i4]at e2
   simp [i2,i3,i4,e2,r1,hp2]
theorem VX (t:List Int)(i:Option Nat)(a:Nat)(big:Bool)(h:a≤t.length)(ht:t.length≤2000):xu [.aP i (ints t),vI (a:Int),V.v (.bool big)] [] []=some ⟨vI (((xH t big a:Nat):Int)),[],[]⟩:=by
 have hc:=fun j (hj:j<t.length)=>FM t (some 0) j big hj
 have m1:max 0 (min (a:Int) t.length)=a:=by omega
 have w1:=bM ((a:Int)+1) (by omega)
 unfold xH
 by_cases h0:t.length=0
 ·rw [if_pos h0]
  have:t= []:=List.length_eq_zero_iff.1 h0
  subst this
  simp [xu,func241,f241,fC,bn]
 rw [if_neg h0]
 have h0i:¬(t.length:Int)=0:=by omega
 have h0t:¬t= []:=fun e=>h0 (by rw [e];rfl)
 obtain⟨k1,k2,k3⟩:=cB (fun j=>decide (dw t big (a+1+j)=0)) (t.length-(a+1))
 generalize gK (fun j=>decide (dw t big (a+1+j)=0)) (t.length-(a+1))=k at*
 simp only
 simp [xu,func241,f241,fC,m1,h0i,h0t,w1]
 rw [aJ (fun j=> .on ⟨[(7,V.v (.int .i64 ((t.length:Int)))),(2,V.v (.bool big)),(1,V.v (.int .i64 (((a+1+j:Nat):Int)))),(0, .aP i (ints t))],[],[],[]⟩) k ?_ ?_]
 ·by_cases q:t.length≤a+1+k
  ·have q2:¬(a:Int)+1+k<t.length:=by omega
   have q2n:¬a+1+k<t.length:=by omega
   have q3:(t.length:Int)≤(a:Int)+1+k:=by omega
   have w2:=bM ((t.length:Int)-1) (by omega)
   have q4:((t.length-1:Nat):Int)=(t.length:Int)-1:=by omega
   rw [if_pos q]
   simp [q2,q2n,q,q3,w2,q4]
  ·rw [if_neg q]
   have hq:a+1+k<t.length:=by omega
   have hq2:(a:Int)+1+k<t.length:=by omega
   have hq3:¬(t.length:Int)≤(a:Int)+1+k:=by omega
   have e1:=hc (a+1+k) hq
   have e2:=Uv t (some 0) (a+1+k) big hq ht
   have h3':¬dw t big (a+1+k)=0:=of_decide_eq_false (k3.resolve_left (by omega))
   obtain⟨r1,r2⟩:=L8 (t:=t) (big:=big) (Nat.le_of_lt hq)
   have r3:=afN (t:=t) (big:=big) hq
   have w2:=bM ((xG t big (a+1+k):Int)-1) (by omega)
   have q4:((xG t big (a+1+k)-1:Nat):Int)=(xG t big (a+1+k):Int)-1:=by omega
   rw [q4]
   generalize xG t big (a+1+k)=u at*
   simp only [Int.natCast_add,Int.natCast_one]at e1 e2
   simp [hq,hq2,hq3,e1,e2,h3',w2]
 ·simp
 ·intro j hj
  have hq:a+1+j<t.length:=by omega
  have hq2:(a:Int)+1+j<t.length:=by omega
  have e1:=hc (a+1+j) hq
  have h2':dw t big (a+1+j)=0:=of_decide_eq_true (k2 j hj)
  have hw:=bM ((a:Int)+1+(j+1)) (by omega)
  have hs:(a:Int)+1+j+1=(a:Int)+1+(j+1):=by omega
  simp only [Int.natCast_add,Int.natCast_one]at e1
  simp [hq,hq2,e1,h2',hw,hs]
end Go.Proofs.YtlpdjhiggpblcaaGreat
