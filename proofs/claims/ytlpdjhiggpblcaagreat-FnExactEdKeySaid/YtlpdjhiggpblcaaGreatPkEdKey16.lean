/- Part 16 of a proof in several texts (an abstract evaluator, what the functions compute). -/
import Derived.Test.YtlpdjhiggpblcaaGreatPkEdKey15
import Derived.HandedShaped
import Derived.ProofKit
import Derived.Shelf.Vars
open Go.Proofs.Tryz
namespace Go.Proofs.YtlpdjhiggpblcaaGreat
set_option linter.unusedSectionVars false
set_option linter.unusedSimpArgs false
set_option linter.unusedVariables false
open Go.RowKit
set_option maxHeartbeats 4000000
set_option maxRecDepth 100000
def mkS {α:Type}(len:α→Nat)(mk:Int→α→α):Int→List α→List α
 | _,[]=> []
 | x,a::l=>mk x a::mkS len mk (x+len a) l
def lQ {α:Type}(len:α→Nat)(l:List α):Nat:=(l.map len).sum
section
variable {α:Type} (len:α→Nat) (mk:Int→α→α)
theorem vw:∀(x:Int) (l:List α),(mkS len mk x l).length=l.length
 | _,[]=>rfl
 | x,a::l=>by show(mkS len mk _ l).length+1=_;rw [vw];rfl
theorem EO:∀(l:List α) (j:Nat) (h:j<l.length),lQ len (l.take (j+1))=lQ len (l.take j)+len l[j]
 | a::l,0,h=>by simp [lQ]
 | a::l,j+1,h=>by
  have:=EO l j (by simpa using h)
  simp only [lQ,List.take_succ_cons,List.map_cons,List.sum_cons,List.getElem_cons_succ]at this⊢
  omega
theorem adV:∀(x:Int) (l:List α) (j:Nat) (h:j<l.length),(mkS len mk x l)[j]'(by rw [vw];exact h)=mk (x+lQ len (l.take j)) l[j]
 | x,a::l,0,h=>by simp [mkS,lQ]
 | x,a::l,j+1,h=>by
  have:=adV (x+len a) l j (by simpa using h)
  simp only [mkS,List.getElem_cons_succ,this,List.take_succ_cons,lQ,List.map_cons,List.sum_cons,Int.natCast_add]
  congr 1
  omega
theorem Dx {B:Nat}(l:List α)(h:∀a∈l,len a≤B):lQ len l≤l.length*B:=by
 induction l with
 | nil=>simp [lQ]
 | cons a l ih=>
  have h1:=h a (by simp)
  have h2:=ih fun b hb=>h b (List.mem_cons_of_mem _ hb)
  simp only [lQ,List.map_cons,List.sum_cons,List.length_cons,Nat.add_mul,Nat.one_mul]at h2⊢
  omega
theorem BI (l:List α)(j:Nat):lQ len (l.take j)≤lQ len l:=by
 induction l generalizing j with
 | nil=>simp [lQ]
 | cons a l ih=>
  cases j with
  | zero=>simp [lQ]
  | succ j=>
   have:=ih j
   simp only [lQ,List.take_succ_cons,List.map_cons,List.sum_cons]at this⊢
   omega
def Ku (x:Int)(l:List α)(j:Nat):List α:=(mkS len mk x l).take j++l.drop j
theorem WA (x:Int)(l:List α):Ku len mk x l 0=l:=by simp [Ku]
theorem abr (x:Int)(l:List α):Ku len mk x l l.length=mkS len mk x l:=by
 unfold Ku
 rw [List.drop_length,List.append_nil,List.take_of_length_le (by rw [vw];exact Nat.le_refl _)]
theorem EP (x:Int)(l:List α)(j:Nat)(h:j≤l.length):(Ku len mk x l j).length=l.length:=by
 unfold Ku
 rw [List.length_append,List.length_take,List.length_drop,vw];omega
theorem ajz (x:Int)(l:List α)(j:Nat)(h:j<l.length):(Ku len mk x l j)[j]'(by rw [EP len mk x l j (by omega)];exact h)=l[j]:=by
 unfold Ku
 rw [List.getElem_append_right (by rw [List.length_take,vw];omega)]
 simp only [List.length_take,vw,List.getElem_drop]
 congr 1
 omega
theorem abt (x:Int)(l:List α)(j:Nat)(h:j<l.length):(Ku len mk x l j).set j (mk (x+lQ len (l.take j)) l[j])=Ku len mk x l (j+1):=by
 have hj:j<(mkS len mk x l).length:=by rw [vw];exact h
 unfold Ku
 rw [List.set_append_right _ _ (by rw [List.length_take];omega),List.length_take,Nat.min_eq_left (by omega),Nat.sub_self,List.drop_eq_getElem_cons h,List.set_cons_zero,←adV len mk x l j h,List.take_succ_eq_append_getElem hj,List.append_assoc]
 rfl
theorem abu (x:Int)(l:List α)(j:Nat)(h:j<l.length):(Ku len mk x l j)[j]?=some l[j]:=by
 rw [List.getElem?_eq_getElem (by rw [EP len mk x l j (by omega)];exact h),ajz len mk x l j h]
theorem aeL (x:Int)(l:List α)(j:Nat)(h:j<l.length):(mkS len mk x l)[j]?=some (mk (x+lQ len (l.take j)) l[j]):=by
 rw [List.getElem?_eq_getElem (by rw [vw];exact h),adV len mk x l j h]
end
def YE:Int→dL→dL:=fun x p=>⟨mE x p.av.length⟩
def D7:dL→Nat:=fun p=>p.av.length
def YF:Int→fH→fH:=fun x p=>⟨mE x p.av.length,x+p.av.length⟩
def Cv:fH→Nat:=fun p=>p.av.length+1
section
variable (x:Int) (hx:0≤x∧x≤1000000000000)
include hx
theorem U4 (l:List dL)(hl:l.length≤1000)(hp:∀p∈l,p.av.length≤1000000):pG [.own 0,vI x] [] [aC l]=some ⟨vI (x+lQ D7 l),[],[(0,aC (mkS D7 YE x l))]⟩:=by
 have ht:lQ D7 l≤l.length*1000000:=Dx D7 l hp
 have htt:lQ D7 l≤1000*1000000:=Nat.le_trans ht (Nat.mul_le_mul_right _ hl)
 generalize hE:pG _ _ _=R
 simp [pG,func129,f129]at hE
 rw [aF (fun j=> .on ⟨[(5,V.v (.int .i64 ((j:Int)))),(1,V.v (.int .i64 (x+lQ D7 (l.take j)))),(0, .own 1000000000)],[],[(1000000000,aC (Ku D7 YE x l j))],[]⟩) l.length ?_ ?_]at hE
 ·have h1:=EP D7 YE x l l.length (Nat.le_refl _)
  simp [abr,vw]at hE
  exact hE.symm
 ·simp [WA,lQ]
 ·intro j hj
  have hw:=bM ((j:Int)+1) (by omega)
  have h1:=EP D7 YE x l j (by omega)
  have h2:=abu D7 YE x l j hj
  have h3:=abt D7 YE x l j hj
  have h4:=EO D7 l j hj
  have h5:=BI D7 l j
  have h6:=BI D7 l (j+1)
  rw [h4]at h6⊢
  have hpl:l[j].av.length≤1000000:=hp _ (List.getElem_mem hj)
  rw [←h3]
  generalize Ku D7 YE x l j=m at*
  generalize lQ D7 (l.take j)=t at*
  have hm0:=ug l[j].av (x+t) (by omega) (by omega)
  have hj':j<m.length:=by omega
  have h2:m[j]=l[j]:=by rw [List.getElem?_eq_getElem hj']at h2;exact Option.some.inj h2
  have hset:=Qi m j (YE (x+t) l[j])
  have hln:D7 l[j]=l[j].av.length:=rfl
  simp only [YE]at hset⊢
  simp [hj,hj',hw,h1,h2,hset,hm0,hln,Int.add_assoc]
theorem U5 (l:List dL)(hl:l.length≤1000)(hp:∀p∈l,p.av.length≤1000000):uV [.aM (some 0) (aC (mkS D7 YE x l)),vI x] [] []=some ⟨vI (x+lQ D7 l),[],[]⟩:=by
 have ht:lQ D7 l≤l.length*1000000:=Dx D7 l hp
 have htt:lQ D7 l≤1000*1000000:=Nat.le_trans ht (Nat.mul_le_mul_right _ hl)
 have hlen:=vw D7 YE x l
 generalize hE:uV _ _ _=R
 simp [uV,func132,f132]at hE
 rw [aF (fun j=> .on ⟨[(5,V.v (.int .i64 ((j:Int)))),(1,V.v (.int .i64 (x+lQ D7 (l.take j)))),(0, .aM (some 0) (aC (mkS D7 YE x l)))],[],[],[]⟩) l.length ?_ ?_]at hE
 ·simp [hlen]at hE
  exact hE.symm
 ·simp [lQ]
 ·intro j hj
  have hw:=bM ((j:Int)+1) (by omega)
  have h2:=aeL D7 YE x l j hj
  have h4:=EO D7 l j hj
  have h6:=BI D7 l (j+1)
  rw [h4]at h6⊢
  have hpl:l[j].av.length≤1000000:=hp _ (List.getElem_mem hj)
  have hln:D7 l[j]=l[j].av.length:=rfl
  generalize lQ D7 (l.take j)=t at*
  have hm0:=Ae l[j].av.length (x+t) (by omega) (by omega)
  have hn:¬x+((t:Int)+l[j].av.length)<0:=by omega
  clear hE
  generalize mkS D7 YE x l=m at*
  have hj':j<m.length:=by omega
  have h2:m[j]=YE (x+t) l[j]:=by rw [List.getElem?_eq_getElem hj']at h2;exact Option.some.inj h2
  have hg:=dX hj'
  rw [h2]at hg
  simp only [YE]at hg h2
  simp [hj,hj',hw,hlen,hg,h2,hm0,hln,hn,Int.add_assoc]
theorem Yy (l:List fH)(hl:l.length≤1000)(hp:∀p∈l,p.av.length≤1000000):qW [.own 0,vI x] [] [aG l]=some ⟨vI (x+lQ Cv l),[],[(0,aG (mkS Cv YF x l))]⟩:=by
 have ht:lQ Cv l≤l.length*1000001:=Dx Cv l (B:=1000001) (fun p h=>by have:=hp p h;unfold Cv;omega)
 have htt:lQ Cv l≤1000*1000001:=Nat.le_trans ht (Nat.mul_le_mul_right _ hl)
 generalize hE:qW _ _ _=R
 simp [qW,func130,f130]at hE
 rw [aF (fun j=> .on ⟨[(5,V.v (.int .i64 ((j:Int)))),(1,V.v (.int .i64 (x+lQ Cv (l.take j)))),(0, .own 1000000000)],[],[(1000000000,aG (Ku Cv YF x l j))],[]⟩) l.length ?_ ?_]at hE
 ·have h1:=EP Cv YF x l l.length (Nat.le_refl _)
  simp [abr,vw]at hE
  exact hE.symm
 ·simp [WA,lQ]
 ·intro j hj
  have hw:=bM ((j:Int)+1) (by omega)
  have h1:=EP Cv YF x l j (by omega)
  have h2:=abu Cv YF x l j hj
  have h3:=abt Cv YF x l j hj
  have h4:=EO Cv l j hj
  have h5:=BI Cv l j
  have h6:=BI Cv l (j+1)
  rw [h4]at h6⊢
  have hpl:l[j].av.length≤1000000:=hp _ (List.getElem_mem hj)
  rw [←h3]
  generalize Ku Cv YF x l j=m at*
  generalize lQ Cv (l.take j)=t at*
  have hm0:=ug l[j].av (x+t) (by omega) (by omega)
  have hj':j<m.length:=by omega
  have h2:m[j]=l[j]:=by rw [List.getElem?_eq_getElem hj']at h2;exact Option.some.inj h2
  have hset:=Ub m j (YF (x+t) l[j])
  have hln:Cv l[j]=l[j].av.length+1:=rfl
  simp only [YF,Int.add_assoc]at hset⊢
  have w3:=bM (x+((t:Int)+(l[j].av.length+1))) (by omega)
  simp [hj,hj',hw,h1,h2,hset,hm0,hln,w3,Int.add_assoc]
theorem Yz (l:List fH)(hl:l.length≤1000)(hp:∀p∈l,p.av.length≤1000000):xL [.aM (some 0) (aG (mkS Cv YF x l)),vI x] [] []=some ⟨vI (x+lQ Cv l),[],[]⟩:=by
 have ht:lQ Cv l≤l.length*1000001:=Dx Cv l (B:=1000001) (fun p h=>by have:=hp p h;unfold Cv;omega)
 have htt:lQ Cv l≤1000*1000001:=Nat.le_trans ht (Nat.mul_le_mul_right _ hl)
 have hlen:=vw Cv YF x l
 generalize hE:xL _ _ _=R
 simp [xL,func133,f133]at hE
 rw [aF (fun j=> .on ⟨[(5,V.v (.int .i64 ((j:Int)))),(1,V.v (.int .i64 (x+lQ Cv (l.take j)))),(0, .aM (some 0) (aG (mkS Cv YF x l)))],[],[],[]⟩) l.length ?_ ?_]at hE
 ·simp [hlen]at hE
  exact hE.symm
 ·simp [lQ]
 ·intro j hj
  have hw:=bM ((j:Int)+1) (by omega)
  have h2:=aeL Cv YF x l j hj
  have h4:=EO Cv l j hj
  have h6:=BI Cv l (j+1)
  rw [h4]at h6⊢
  have hpl:l[j].av.length≤1000000:=hp _ (List.getElem_mem hj)
  have hln:Cv l[j]=l[j].av.length+1:=rfl
  generalize lQ Cv (l.take j)=t at*
  have hm0:=Ae l[j].av.length (x+t) (by omega) (by omega)
  have hn:¬x+((t:Int)+l[j].av.length)<0:=by omega
  clear hE
  generalize mkS Cv YF x l=m at*
  have hj':j<m.length:=by omega
  have h2:m[j]=YF (x+t) l[j]:=by rw [List.getElem?_eq_getElem hj']at h2;exact Option.some.inj h2
  have hg:=dW hj'
  rw [h2]at hg
  simp only [YF]at hg h2
  have w3:=bM (x+((t:Int)+(l[j].av.length+1))) (by omega)
  simp [hj,hj',hw,hlen,hg,h2,hm0,hln,hn,w3,Int.add_assoc]
end
theorem uL (t:List Int)(a x:Int)(ht:t.length≤1000000)(hx:0≤x∧x≤1000000000000):wO [.agg [.own 0,vI a],vI x] [] [ints t]=some ⟨vI (x+t.length),[],[(0,ints (mE x t.length))]⟩:=by
 have e:=ug t x (by omega) (by omega)
 simp [wO,func62,f62,e]
theorem uM (n:Nat)(a x:Int)(ht:n≤1000000)(hx:0≤x∧x≤1000000000000):Dj [.agg [.aM (some 0) (ints (mE x n)),vI a],vI x] [] []=some ⟨vI (x+n),[],[]⟩:=by
 have e:=Ae n x (by omega) (by omega)
 have hn:¬x+(n:Int)<0:=by omega
 simp [Dj,func66,f66,e,hn]
structure MkB (e:dF):Prop where
 line:e.ak.av.length≤1000000
 own:e.gX.av.length≤1000000
 back:e.bX.av.length≤1000000
 query:e.bO.length≤1000000
 ring:e.aL.aA.length≤1000
 aob:∀p∈e.aL.aA,p.av.length≤1000000
 undo:e.fD.bT.length≤1000
 aoc:∀p∈e.fD.bT,p.av.length≤1000000
theorem ND (l:List dL)(x:Int)(hx:0≤x∧x≤1000000000000)(hl:l.length≤1000)(hp:∀p∈l,p.av.length≤1000000):wP [.agg [.own 0],vI x] [] [aC l]=some ⟨vI (x+lQ D7 l),[],[(0,aC (mkS D7 YE x l))]⟩:=by
 have e:=U4 x hx l hl hp
 simp [wP,func63,f63,e]
theorem NG (l:List dL)(x:Int)(hx:0≤x∧x≤1000000000000)(hl:l.length≤1000)(hp:∀p∈l,p.av.length≤1000000):Dk [.agg [.aM (some 0) (aC (mkS D7 YE x l))],vI x] [] []=some ⟨vI (x+lQ D7 l),[],[]⟩:=by
 have e:=U5 x hx l hl hp
 have hn:¬x+(lQ D7 l:Int)<0:=by omega
 simp [Dk,func67,f67,e,hn]
theorem NH (l:List fH)(x:Int)(hx:0≤x∧x≤1000000000000)(hl:l.length≤1000)(hp:∀p∈l,p.av.length≤1000000):wQ [.agg [.own 0],vI x] [] [aG l]=some ⟨vI (x+lQ Cv l),[],[(0,aG (mkS Cv YF x l))]⟩:=by
 have e:=Yy x hx l hl hp
 simp [wQ,func64,f64,e]
theorem NI (l:List fH)(x:Int)(hx:0≤x∧x≤1000000000000)(hl:l.length≤1000)(hp:∀p∈l,p.av.length≤1000000):Dl [.agg [.aM (some 0) (aG (mkS Cv YF x l))],vI x] [] []=some ⟨vI (x+lQ Cv l),[],[]⟩:=by
 have e:=Yz x hx l hl hp
 have hn:¬x+(lQ Cv l:Int)<0:=by omega
 simp [Dl,func68,f68,e,hn]
theorem KS (e:dF)(b:MkB e):∃(y:Int) (m0:List Int) (m1:List dL) (m2:List fH) (m3 m4 m5:List Int),0≤y∧y≤100000000000∧
  wR [gO e,vI 1] [] [ints e.ak.av,aC e.aL.aA,aG e.fD.bT,ints e.gX.av,ints e.bO,ints e.bX.av]=some ⟨vI y,[],[(0,ints m0),(1,aC m1),(2,aG m2),(3,ints m3),(4,ints m4),(5,ints m5)]⟩∧
  BD [.agg [V.v (.bool e.Vi),vI e.bQ, .aM (some 0) (ints m0),vI e.ak.At,vI e.bD,vI e.Op,vI e.bN,vI e.fC,vI e.dY,vI e.bL,vI e.iO, .aM (some 1) (aC m1), .aM (some 2) (aG m2),vI e.kr, .aM (some 3) (ints m3),vI e.gX.At, .aM (some 4) (ints m4),vI e.lV, .aM (some 5) (ints m5),vI e.bX.At],vI 1] [] []=some ⟨vI y,[],[]⟩:=by
 obtain⟨b1,b2,b3,b4,b5,b6,b7,b8⟩:=b
 have t1:lQ D7 e.aL.aA≤1000*1000000:=Nat.le_trans (Dx D7 _ b6) (Nat.mul_le_mul_right _ b5)
 have t2:lQ Cv e.fD.bT≤1000*1000001:=Nat.le_trans (Dx Cv (B:=1000001) _ (fun p h=>by have:=b8 p h;unfold Cv;omega)) (Nat.mul_le_mul_right _ b7)
 have e0:=uL e.ak.av e.ak.At 1 b1 (by omega)
 have f0:=uM e.ak.av.length e.ak.At 1 b1 (by omega)
 generalize hy0:1+(e.ak.av.length:Int)=y0 at*
 have e1:=ND e.aL.aA y0 (by omega) b5 b6
 have f1:=NG e.aL.aA y0 (by omega) b5 b6
 generalize hy1:y0+(lQ D7 e.aL.aA:Int)=y1 at*
 have e2:=NH e.fD.bT y1 (by omega) b7 b8
 have f2:=NI e.fD.bT y1 (by omega) b7 b8
 generalize hy2:y1+(lQ Cv e.fD.bT:Int)=y2 at*
 have e3:=uL e.gX.av e.gX.At y2 b2 (by omega)
 have f3:=uM e.gX.av.length e.gX.At y2 b2 (by omega)
 generalize hy3:y2+(e.gX.av.length:Int)=y3 at*
 have e4:=ug e.bO y3 (by omega) (by omega)
 have f4:=Ae e.bO.length y3 (by omega) (by omega)
 generalize hy4:y3+(e.bO.length:Int)=y4 at*
 have e5:=uL e.bX.av e.bX.At y4 b3 (by omega)
 have f5:=uM e.bX.av.length e.bX.At y4 b3 (by omega)
 generalize hy5:y4+(e.bX.av.length:Int)=y5 at*
 have n0:¬y0<0:=by omega
 have n1:¬y1<0:=by omega
 have n2:¬y2<0:=by omega
 have n3:¬y3<0:=by omega
 have n4:¬y4<0:=by omega
 have n5:¬y5<0:=by omega
 refine⟨y5,_,_,_,_,_,_,by omega,by omega,by unfold wR;simp [func17,f17,e0,e1,e2,e3,e4,e5];exact⟨rfl,rfl,rfl,rfl,rfl,rfl⟩,?_⟩
 simp [BD,func19,f19,f0,f1,f2,f3,f4,f5,n0,n1,n2,n3,n4,n5]
theorem abv (i:Option Nat)(k:Int):nJ [.aM i [],vI k] [] []=some ⟨vI k,[],[]⟩:=by
 simp [nJ,func27,f27]
 rw [bK]
 simp
theorem Uc (e:dF)(b:MkB e):∃(y:Int) (m0:List Int) (m1:List dL) (m2:List fH) (m3 m5:List Int),0≤y∧y≤100000000000∧
  wR [.agg [V.v (.bool e.Vi),vI e.bQ, .own 0,vI e.ak.At,vI e.bD,vI e.Op,vI e.bN,vI e.fC,vI e.dY,vI e.bL,vI e.iO, .own 1, .own 2,vI e.kr, .own 3,vI e.gX.At, .aM (some 0) [],vI e.lV, .own 4,vI e.bX.At],vI 1] [] [ints e.ak.av,aC e.aL.aA,aG e.fD.bT,ints e.gX.av,ints e.bX.av]=some ⟨vI y,[],[(0,ints m0),(1,aC m1),(2,aG m2),(3,ints m3),(4,ints m5)]⟩∧
  BD [.agg [V.v (.bool e.Vi),vI e.bQ, .aM (some 0) (ints m0),vI e.ak.At,vI e.bD,vI e.Op,vI e.bN,vI e.fC,vI e.dY,vI e.bL,vI e.iO, .aM (some 1) (aC m1), .aM (some 2) (aG m2),vI e.kr, .aM (some 3) (ints m3),vI e.gX.At, .aM (some 4) [],vI e.lV, .aM (some 5) (ints m5),vI e.bX.At],vI 1] [] []=some ⟨vI y,[],[]⟩:=by
 obtain⟨b1,b2,b3,b4,b5,b6,b7,b8⟩:=b
 have t1:lQ D7 e.aL.aA≤1000*1000000:=Nat.le_trans (Dx D7 _ b6) (Nat.mul_le_mul_right _ b5)
 have t2:lQ Cv e.fD.bT≤1000*1000001:=Nat.le_trans (Dx Cv (B:=1000001) _ (fun p h=>by have:=b8 p h;unfold Cv;omega)) (Nat.mul_le_mul_right _ b7)
 have e0:=uL e.ak.av e.ak.At 1 b1 (by omega)
 have f0:=uM e.ak.av.length e.ak.At 1 b1 (by omega)
 generalize hy0:1+(e.ak.av.length:Int)=y0 at*
 have e1:=ND e.aL.aA y0 (by omega) b5 b6
 have f1:=NG e.aL.aA y0 (by omega) b5 b6
 generalize hy1:y0+(lQ D7 e.aL.aA:Int)=y1 at*
 have e2:=NH e.fD.bT y1 (by omega) b7 b8
 have f2:=NI e.fD.bT y1 (by omega) b7 b8
 generalize hy2:y1+(lQ Cv e.fD.bT:Int)=y2 at*
 have e3:=uL e.gX.av e.gX.At y2 b2 (by omega)
 have f3:=uM e.gX.av.length e.gX.At y2 b2 (by omega)
 generalize hy3:y2+(e.gX.av.length:Int)=y3 at*
 have e4:=fun i=>abv i y3
 have f4:=Ae 0 y3 (by omega) (by omega)
 rw [show mE y3 0= []from rfl,aZ,Int.natCast_zero,Int.add_zero]at f4
 have e5:=uL e.bX.av e.bX.At y3 b3 (by omega)
 have f5:=uM e.bX.av.length e.bX.At y3 b3 (by omega)
 generalize hy5:y3+(e.bX.av.length:Int)=y5 at*
 have n0:¬y0<0:=by omega
 have n1:¬y1<0:=by omega
 have n2:¬y2<0:=by omega
 have n3:¬y3<0:=by omega
 have n5:¬y5<0:=by omega
 refine⟨y5,_,_,_,_,_,by omega,by omega,by unfold wR;simp [func17,f17,e0,e1,e2,e3,e4,e5];exact⟨rfl,rfl,rfl,rfl,rfl⟩,?_⟩
 simp [BD,func19,f19,f0,f1,f2,f3,f4,f5,n0,n1,n2,n3,n5]
theorem OZ (r:List (List D))(k:gB r=true)(s:lgL r=true)(left:Int)(h:0≤left∧left≤1048576):∃m,Bv [.aM (some 0) r,vI left] [] []=some ⟨vI m,[],[]⟩∧-1≤m∧m≤left∧(0≤m→sD r=true):=by
 obtain⟨l,rfl⟩:=EY k
 have hb:l.length≤9223372036854775807:=by simpa using uD s
 have hw0:=bM (left-l.length) (by omega)
 unfold Bv
 by_cases n0:left-(l.length:Int)<0
 ·exact⟨-1,by simp [func51,f51,hw0,n0],by omega,by omega,fun h=>by omega⟩
 exact⟨left-l.length,by simp [func51,f51,hw0,n0],by omega,by omega,fun _=>ni (by omega)⟩
theorem Kl (r0:List (List D))(k0:gB r0=true)(s0:lgL r0=true)(v1:Int)(left:Int)(h:0≤left∧left≤1048576):∃m,Bw [.agg [.aM (some 0) r0,vI v1],vI left] [] []=some ⟨vI m,[],[]⟩∧-1≤m∧m≤left∧(0≤m→sD r0=true):=by
 unfold Bw
 obtain⟨m0,e0,a0,b0,c0⟩:=OZ r0 k0 s0 left ⟨by omega,by omega⟩
 by_cases n0:m0<0
 ·exact⟨-1,by simp [func48,f48,e0,n0],by omega,by omega,fun h=>by omega⟩
 exact⟨m0,by simp [func48,f48,e0,n0],by omega,by omega,fun _=>(c0 (by omega))⟩
theorem adW (r0:List (List D))(k0:gB r0=true)(s0:lgL r0=true)(left:Int)(h:0≤left∧left≤1048576):∃m,Ck [.agg [.aM (some 0) r0],vI left] [] []=some ⟨vI m,[],[]⟩∧-1≤m∧m≤left∧(0≤m→sD r0=true):=by
 unfold Ck
 obtain⟨m0,e0,a0,b0,c0⟩:=OZ r0 k0 s0 left ⟨by omega,by omega⟩
 by_cases n0:m0<0
 ·exact⟨-1,by simp [func210,f210,e0,n0],by omega,by omega,fun h=>by omega⟩
 exact⟨m0,by simp [func210,f210,e0,n0],by omega,by omega,fun _=>(c0 (by omega))⟩
theorem abw (r:List (List D))(k:iE r=true)(s:lgL r=true)(left:Int)(h:0≤left∧left≤1048576):∃m,Da [.aM (some 0) r,vI left] [] []=some ⟨vI m,[],[]⟩∧-1≤m∧m≤left∧(0≤m→sD r=true):=by
 obtain⟨l,rfl⟩:=zk k
 have hb:l.length≤9223372036854775807:=by simpa using uD s
 have hw0:=bM (left-l.length) (by omega)
 unfold Da
 by_cases n0:left-(l.length:Int)<0
 ·exact⟨-1,by simp [func123,f123,hw0,n0],by omega,by omega,fun h=>by omega⟩
 obtain⟨xs,x0,hxs⟩:=runs l.length (left-l.length) (by omega) (fun j x m=> ∀h:j<l.length,Ck [.agg [.aM (some 0) (ints l[j].av)],vI x] [] []=some ⟨vI m,[],[]⟩∧(0≤m→sD (ints l[j].av)=true)) (fun j x hj h1 h2=>by
  have hl:=acL s (dX hj)
  simp only [oK,uz,IZ,EF,Bool.and_true,Bool.true_and,Bool.and_eq_true]at hl
  have hl0:=hl
  obtain⟨m,e1,e2,e3,e4⟩:=adW (ints l[j].av) (by simp) (by simpa using hl0) x ⟨h1,by omega⟩
  exact⟨m,fun _=>⟨e1,e4⟩,e2,e3⟩)
 rcases hxs with⟨hx,hp⟩|⟨N,hN,hx,hp,hm⟩
 ·refine⟨xs l.length,?_,by have:=hx l.length (Nat.le_refl _);omega,by have:=hx l.length (Nat.le_refl _);omega,fun _=>SB (by simp;omega) fun j r e=>?_⟩
  ·simp [func123,f123,hw0,n0]
   rw [aF (fun j=> .on ⟨[(5,V.v (.int .i64 ((j:Int)))),(1,V.v (.int .i64 (xs j))),(0, .aM (some 0) (aC l))],[],[],[]⟩) l.length ?_ ?_]
   ·simp
   ·simp [x0]
   ·intro j hj
    have hw:=bM (j+1) (by omega)
    have h1:=(hp j hj hj).1
    have h2:¬(xs (j+1)<0):=by have:=hx (j+1) (by omega);omega
    simp [hj,hw,h1,h2,dX hj]
  ·have hj:j<l.length:=by have:=(List.getElem?_eq_some_iff.1 e).1;simpa using this
   have h1:=(hp j hj hj).2 (hx (j+1) (by omega)).1
   rw [dX hj]at e
   injection e with e
   subst e
   simpa using h1
 ·refine⟨-1,?_,by omega,by omega,fun h=>by omega⟩
  simp [func123,f123,hw0,n0]
  rw [aF (fun j=> .on ⟨[(5,V.v (.int .i64 ((j:Int)))),(1,V.v (.int .i64 (xs j))),(0, .aM (some 0) (aC l))],[],[],[]⟩) N ?_ ?_]
  ·have h1:=(hp N (Nat.le_refl _) hN).1
   simp [hN,h1,hm,dX hN]
  ·simp [x0]
  ·intro j hj
   have hj':j<l.length:=by omega
   have hw:=bM (j+1) (by omega)
   have h1:=(hp j (by omega) hj').1
   have h2:¬(xs (j+1)<0):=by have:=hx (j+1) (by omega);omega
   simp [hj',hw,h1,h2,dX hj']
theorem agp (r0:List (List D))(k0:iE r0=true)(s0:lgL r0=true)(left:Int)(h:0≤left∧left≤1048576):∃m,JV [.agg [.aM (some 0) r0],vI left] [] []=some ⟨vI m,[],[]⟩∧-1≤m∧m≤left∧(0≤m→sD r0=true):=by
 unfold JV
 obtain⟨m0,e0,a0,b0,c0⟩:=abw r0 k0 s0 left ⟨by omega,by omega⟩
 by_cases n0:m0<0
 ·exact⟨-1,by simp [func49,f49,e0,n0],by omega,by omega,fun h=>by omega⟩
 exact⟨m0,by simp [func49,f49,e0,n0],by omega,by omega,fun _=>(c0 (by omega))⟩
theorem adX (r:List (List D))(k:jd r=true)(s:lgL r=true)(left:Int)(h:0≤left∧left≤1048576):∃m,F9 [.aM (some 0) r,vI left] [] []=some ⟨vI m,[],[]⟩∧-1≤m∧m≤left∧(0≤m→sD r=true):=by
 obtain⟨l,rfl⟩:=AA k
 have hb:l.length≤9223372036854775807:=by simpa using uD s
 have hw0:=bM (left-l.length) (by omega)
 unfold F9
 by_cases n0:left-(l.length:Int)<0
 ·exact⟨-1,by simp [func124,f124,hw0,n0],by omega,by omega,fun h=>by omega⟩
 obtain⟨xs,x0,hxs⟩:=runs l.length (left-l.length) (by omega) (fun j x m=> ∀h:j<l.length,Bw [.agg [.aM (some 0) (ints l[j].av),vI (l[j].At)],vI x] [] []=some ⟨vI m,[],[]⟩∧(0≤m→sD (ints l[j].av)=true)) (fun j x hj h1 h2=>by
  have hl:=acL s (dW hj)
  simp only [oK,uz,IZ,EF,Bool.and_true,Bool.true_and,Bool.and_eq_true]at hl
  have hl0:=hl
  obtain⟨m,e1,e2,e3,e4⟩:=Kl (ints l[j].av) (by simp) (by simpa using hl0) l[j].At x ⟨h1,by omega⟩
  exact⟨m,fun _=>⟨e1,e4⟩,e2,e3⟩)
 rcases hxs with⟨hx,hp⟩|⟨N,hN,hx,hp,hm⟩
 ·refine⟨xs l.length,?_,by have:=hx l.length (Nat.le_refl _);omega,by have:=hx l.length (Nat.le_refl _);omega,fun _=>SB (by simp;omega) fun j r e=>?_⟩
  ·simp [func124,f124,hw0,n0]
   rw [aF (fun j=> .on ⟨[(5,V.v (.int .i64 ((j:Int)))),(1,V.v (.int .i64 (xs j))),(0, .aM (some 0) (aG l))],[],[],[]⟩) l.length ?_ ?_]
   ·simp
   ·simp [x0]
   ·intro j hj
    have hw:=bM (j+1) (by omega)
    have h1:=(hp j hj hj).1
    have h2:¬(xs (j+1)<0):=by have:=hx (j+1) (by omega);omega
    simp [hj,hw,h1,h2,dW hj]
  ·have hj:j<l.length:=by have:=(List.getElem?_eq_some_iff.1 e).1;simpa using this
   have h1:=(hp j hj hj).2 (hx (j+1) (by omega)).1
   rw [dW hj]at e
   injection e with e
   subst e
   simpa using h1
 ·refine⟨-1,?_,by omega,by omega,fun h=>by omega⟩
  simp [func124,f124,hw0,n0]
  rw [aF (fun j=> .on ⟨[(5,V.v (.int .i64 ((j:Int)))),(1,V.v (.int .i64 (xs j))),(0, .aM (some 0) (aG l))],[],[],[]⟩) N ?_ ?_]
  ·have h1:=(hp N (Nat.le_refl _) hN).1
   simp [hN,h1,hm,dW hN]
  ·simp [x0]
  ·intro j hj
   have hj':j<l.length:=by omega
   have hw:=bM (j+1) (by omega)
   have h1:=(hp j (by omega) hj').1
   have h2:¬(xs (j+1)<0):=by have:=hx (j+1) (by omega);omega
   simp [hj',hw,h1,h2,dW hj']
theorem agq (r0:List (List D))(k0:jd r0=true)(s0:lgL r0=true)(left:Int)(h:0≤left∧left≤1048576):∃m,JW [.agg [.aM (some 0) r0],vI left] [] []=some ⟨vI m,[],[]⟩∧-1≤m∧m≤left∧(0≤m→sD r0=true):=by
 unfold JW
 obtain⟨m0,e0,a0,b0,c0⟩:=adX r0 k0 s0 left ⟨by omega,by omega⟩
 by_cases n0:m0<0
 ·exact⟨-1,by simp [func50,f50,e0,n0],by omega,by omega,fun h=>by omega⟩
 exact⟨m0,by simp [func50,f50,e0,n0],by omega,by omega,fun _=>(c0 (by omega))⟩
theorem ajA (v0:Bool)(v1:Int)(r2:List (List D))(k2:gB r2=true)(s2:lgL r2=true)(v3:Int)(v4:Int)(v5:Int)(v6:Int)(v7:Int)(v8:Int)(v9:Int)(v10:Int)(LJ:List (List D))(k11:iE LJ=true)(s11:lgL LJ=true)(LK:List (List D))(k12:jd LK=true)(s12:lgL LK=true)(v13:Int)(NJ:List (List D))(k14:gB NJ=true)(s14:lgL NJ=true)(v15:Int)(r16:List (List D))(k16:gB r16=true)(s16:lgL r16=true)(v17:Int)(Pg:List (List D))(k18:gB Pg=true)(s18:lgL Pg=true)(v19:Int)(left:Int)(h:0≤left∧left≤1048576):∃m,QM [.agg [V.v (.bool v0),vI v1, .aM (some 0) r2,vI v3,vI v4,vI v5,vI v6,vI v7,vI v8,vI v9,vI v10, .aM (some 1) LJ, .aM (some 2) LK,vI v13, .aM (some 3) NJ,vI v15, .aM (some 4) r16,vI v17, .aM (some 5) Pg,vI v19],vI left] [] []=some ⟨vI m,[],[]⟩∧-1≤m∧m≤left∧(0≤m→sD r2=true∧sD LJ=true∧sD LK=true∧sD NJ=true∧sD r16=true∧sD Pg=true):=by
 unfold QM
 obtain⟨m0,e0,a0,b0,c0⟩:=Kl r2 k2 s2 v3 left ⟨by omega,by omega⟩
 by_cases n0:m0<0
 ·exact⟨-1,by simp [func10,f10,e0,n0],by omega,by omega,fun h=>by omega⟩
 obtain⟨m1,e1,a1,b1,c1⟩:=agp LJ k11 s11 m0 ⟨by omega,by omega⟩
 by_cases n1:m1<0
 ·exact⟨-1,by simp [func10,f10,e0,n0,e1,n1],by omega,by omega,fun h=>by omega⟩
 obtain⟨m2,e2,a2,b2,c2⟩:=agq LK k12 s12 m1 ⟨by omega,by omega⟩
 by_cases n2:m2<0
 ·exact⟨-1,by simp [func10,f10,e0,n0,e1,n1,e2,n2],by omega,by omega,fun h=>by omega⟩
 obtain⟨m3,e3,a3,b3,c3⟩:=Kl NJ k14 s14 v15 m2 ⟨by omega,by omega⟩
 by_cases n3:m3<0
 ·exact⟨-1,by simp [func10,f10,e0,n0,e1,n1,e2,n2,e3,n3],by omega,by omega,fun h=>by omega⟩
 obtain⟨m4,e4,a4,b4,c4⟩:=OZ r16 k16 s16 m3 ⟨by omega,by omega⟩
 by_cases n4:m4<0
 ·exact⟨-1,by simp [func10,f10,e0,n0,e1,n1,e2,n2,e3,n3,e4,n4],by omega,by omega,fun h=>by omega⟩
 obtain⟨m5,e5,a5,b5,c5⟩:=Kl Pg k18 s18 v19 m4 ⟨by omega,by omega⟩
 by_cases n5:m5<0
 ·exact⟨-1,by simp [func10,f10,e0,n0,e1,n1,e2,n2,e3,n3,e4,n4,e5,n5],by omega,by omega,fun h=>by omega⟩
 exact⟨m5,by simp [func10,f10,e0,n0,e1,n1,e2,n2,e3,n3,e4,n4,e5,n5],by omega,by omega,fun _=>⟨(c0 (by omega)),(c1 (by omega)),(c2 (by omega)),(c3 (by omega)),(c4 (by omega)),(c5 (by omega))⟩⟩
theorem O1 (r:List (List D))(k:gB r=true)(s:sD r=true):Bz [.aM (some 0) r] [] []=some ⟨.own 0,[],[(0,r)]⟩:=by
 obtain⟨l,rfl⟩:=EY k
 have hb:l.length≤1000000000:=by simpa using ny s
 have u0:=Kk [D.a (.int .i64 0)] (ints l)
 have u1:=Ny [D.a (.int .i64 0)] (ints l)
 simp at u0 u1
 simp [Bz,func56,f56]
 simp (disch:=omega) only [eB]
 simp
 rw [aF (fun j=> .on ⟨[(4,V.v (.int .i64 ((j:Int)))),(3, .own 2000000000),(0, .aM (some 0) (ints l))],[],[(2000000000,upTo [D.a (.int .i64 0)] (ints l) j)],[]⟩) l.length ?_ ?_]
 ·simp [u1]
 ·simp [u0]
 ·intro j hj
  have hw:=bM (j+1) (by omega)
  have hs:=uP s (aQ hj)
  have h1:=Nz (z:= [D.a (.int .i64 0)]) (rows:=ints l) (j:=j) (by simp;omega)
  have h2:=QW (z:= [D.a (.int .i64 0)]) (rows:=ints l) (j:=j) (by simpa using hj)
  have h3:=NA (z:= [D.a (.int .i64 0)]) (aQ hj)
  simp at hs h1
  dsimp only at h3
  simp [hj,hw,hs,aQ hj,h1,h2,h3]
theorem WB (r0:List (List D))(v1:Int)(k0:gB r0=true)(s0:sD r0=true):EC [.agg [.aM (some 0) r0,vI v1]] [] []=some ⟨.agg [.own 0,vI v1],[],[(0,r0)]⟩:=by
 simp [EC,func53,f53,O1,k0,s0]
theorem adY (r0:List (List D))(k0:gB r0=true)(s0:sD r0=true):Ga [.agg [.aM (some 0) r0]] [] []=some ⟨.agg [.own 0],[],[(0,r0)]⟩:=by
 simp [Ga,func211,f211,O1,k0,s0]
theorem abx (r:List (List D))(k:iE r=true)(s:sD r=true):Db [.aM (some 0) r] [] []=some ⟨.own 0,[],[(0,r)]⟩:=by
 obtain⟨l,rfl⟩:=zk k
 have hb:l.length≤1000000000:=by simpa using ny s
 have u0:=Kk [.l []] (aC l)
 have u1:=Ny [.l []] (aC l)
 simp at u0 u1
 simp [Db,func125,f125]
 simp (disch:=omega) only [eB]
 simp
 rw [aF (fun j=> .on ⟨[(4,V.v (.int .i64 ((j:Int)))),(3, .own 2000000000),(0, .aM (some 0) (aC l))],[],[(2000000000,upTo [.l []] (aC l) j)],[]⟩) l.length ?_ ?_]
 ·simp [u1]
 ·simp [u0]
 ·intro j hj
  have hw:=bM (j+1) (by omega)
  have hs:=uP s (dX hj)
  have h1:=Nz (z:= [.l []]) (rows:=aC l) (j:=j) (by simp;omega)
  have h2:=QW (z:= [.l []]) (rows:=aC l) (j:=j) (by simpa using hj)
  have h3:=NA (z:= [.l []]) (dX hj)
  simp at hs h1
  dsimp only at h3
  simp [hj,hw,hs,dX hj,h1,h2,h3,adY]
theorem agr (r0:List (List D))(k0:iE r0=true)(s0:sD r0=true):JX [.agg [.aM (some 0) r0]] [] []=some ⟨.agg [.own 0],[],[(0,r0)]⟩:=by
 simp [JX,func54,f54,abx,k0,s0]
theorem adZ (r:List (List D))(k:jd r=true)(s:sD r=true):Gb [.aM (some 0) r] [] []=some ⟨.own 0,[],[(0,r)]⟩:=by
 obtain⟨l,rfl⟩:=AA k
 have hb:l.length≤1000000000:=by simpa using ny s
 have u0:=Kk [.l [],D.a (.int .i64 0)] (aG l)
 have u1:=Ny [.l [],D.a (.int .i64 0)] (aG l)
 simp at u0 u1
 simp [Gb,func126,f126]
 simp (disch:=omega) only [eB]
 simp
 rw [aF (fun j=> .on ⟨[(4,V.v (.int .i64 ((j:Int)))),(3, .own 2000000000),(0, .aM (some 0) (aG l))],[],[(2000000000,upTo [.l [],D.a (.int .i64 0)] (aG l) j)],[]⟩) l.length ?_ ?_]
 ·simp [u1]
 ·simp [u0]
 ·intro j hj
  have hw:=bM (j+1) (by omega)
  have hs:=uP s (dW hj)
  have h1:=Nz (z:= [.l [],D.a (.int .i64 0)]) (rows:=aG l) (j:=j) (by simp;omega)
  have h2:=QW (z:= [.l [],D.a (.int .i64 0)]) (rows:=aG l) (j:=j) (by simpa using hj)
  have h3:=NA (z:= [.l [],D.a (.int .i64 0)]) (dW hj)
  simp at hs h1
  dsimp only at h3
  simp [hj,hw,hs,dW hj,h1,h2,h3,WB]
theorem ags (r0:List (List D))(k0:jd r0=true)(s0:sD r0=true):JY [.agg [.aM (some 0) r0]] [] []=some ⟨.agg [.own 0],[],[(0,r0)]⟩:=by
 simp [JY,func55,f55,adZ,k0,s0]
theorem ajB (v0:Bool)(v1:Int)(r2:List (List D))(v3:Int)(v4:Int)(v5:Int)(v6:Int)(v7:Int)(v8:Int)(v9:Int)(v10:Int)(LJ:List (List D))(LK:List (List D))(v13:Int)(NJ:List (List D))(v15:Int)(r16:List (List D))(v17:Int)(Pg:List (List D))(v19:Int)(k2:gB r2=true)(s2:sD r2=true)(k11:iE LJ=true)(s11:sD LJ=true)(k12:jd LK=true)(s12:sD LK=true)(k14:gB NJ=true)(s14:sD NJ=true)(k16:gB r16=true)(s16:sD r16=true)(k18:gB Pg=true)(s18:sD Pg=true):QN [.agg [V.v (.bool v0),vI v1, .aM (some 0) r2,vI v3,vI v4,vI v5,vI v6,vI v7,vI v8,vI v9,vI v10, .aM (some 1) LJ, .aM (some 2) LK,vI v13, .aM (some 3) NJ,vI v15, .aM (some 4) r16,vI v17, .aM (some 5) Pg,vI v19]] [] []=some ⟨.agg [V.v (.bool v0),vI v1, .own 0,vI v3,vI v4,vI v5,vI v6,vI v7,vI v8,vI v9,vI v10, .own 1, .own 2,vI v13, .own 3,vI v15, .own 4,vI v17, .own 5,vI v19],[],[(0,r2),(1,LJ),(2,LK),(3,NJ),(4,r16),(5,Pg)]⟩:=by
 simp [QN,func12,f12,WB,agr,ags,O1,k2,s2,k11,s11,k12,s12,k14,s14,k16,s16,k18,s18]
theorem YA (r:List (List D))(k:uX r=true)(s:sD r=true):A9 [.aM (some 0) r] [] []=some ⟨.own 0,[],[(0,r)]⟩:=by
 obtain⟨l,rfl⟩:=Rh k
 have hb:l.length≤1000000000:=by simpa using ny s
 have u0:=Kk [.a (.string ⟨#[]⟩)] (strs l)
 have u1:=Ny [.a (.string ⟨#[]⟩)] (strs l)
 simp at u0 u1
 simp [A9,func57,f57]
 simp (disch:=omega) only [eB]
 simp
 rw [aF (fun j=> .on ⟨[(4,V.v (.int .i64 ((j:Int)))),(3, .own 2000000000),(0, .aM (some 0) (strs l))],[],[(2000000000,upTo [.a (.string ⟨#[]⟩)] (strs l) j)],[]⟩) l.length ?_ ?_]
 ·simp [u1]
 ·simp [u0]
 ·intro j hj
  have hw:=bM (j+1) (by omega)
  have hs:=uP s (l7 hj)
  have h1:=Nz (z:= [.a (.string ⟨#[]⟩)]) (rows:=strs l) (j:=j) (by simp;omega)
  have h2:=QW (z:= [.a (.string ⟨#[]⟩)]) (rows:=strs l) (j:=j) (by simpa using hj)
  have h3:=NA (z:= [.a (.string ⟨#[]⟩)]) (l7 hj)
  simp at hs h1
  dsimp only at h3
  simp [hj,hw,hs,l7 hj,h1,h2,h3]
theorem agt (v0:Int)(r1:List (List D))(k1:uX r1=true)(s1:sD r1=true):JZ [.agg [vI v0, .aM (some 0) r1]] [] []=some ⟨.agg [vI v0, .own 0],[],[(0,r1)]⟩:=by
 simp [JZ,func13,f13,YA,k1,s1]
theorem aiz (v0:Int)(v1:Int):MZ [aK v0 v1] [] []=some ⟨.agg [vI v0,vI v1],[],[]⟩:=by
 simp [MZ,func14,f14]
theorem YB (l:List ByteArray)(hs:∀s∈l,s.size≤9223372036854775807)(hl:l.length≤9223372036854775807)(left:Int)(h:0≤left∧left≤1048576):∃m,A8 [.aM (some 0) (strs l),vI left] [] []=some ⟨vI m,[],[]⟩∧-1≤m∧m≤left∧(0≤m→l.length≤1048576∧∀s∈l,s.size≤1048576):=by
 have hw0:=bM (left-l.length) (by omega)
 unfold A8
 by_cases n0:left-(l.length:Int)<0
 ·exact⟨-1,by simp [func52,f52,hw0,n0],by omega,by omega,fun h=>by omega⟩
 obtain⟨xs,x0,hxs⟩:=runs l.length (left-l.length) (by omega) (fun j x m=> ∀h:j<l.length,m=if x-l[j].size<0 then -1 else x-l[j].size) (fun j x hj h1 h2=>by
  refine⟨if x-l[j].size<0 then -1 else x-l[j].size,fun _=>rfl,?_,?_⟩<;>split<;>omega)
 rcases hxs with⟨hx,hp⟩|⟨N,hN,hx,hp,hm⟩
 ·refine⟨xs l.length,?_,by have:=hx l.length (Nat.le_refl _);omega,by have:=hx l.length (Nat.le_refl _);omega,fun _=>⟨by omega,fun s hs=>?_⟩⟩
  ·simp [func52,f52,hw0,n0]
   rw [aF (fun j=> .on ⟨[(5,V.v (.int .i64 ((j:Int)))),(1,V.v (.int .i64 (xs j))),(0, .aM (some 0) (strs l))],[],[],[]⟩) l.length ?_ ?_]
   ·simp
   ·simp [x0]
   ·intro j hj
    have hw:=bM ((j:Int)+1) (by omega)
    have h1:=hp j hj hj
    have h2:=hx j (by omega)
    have h3:=hx (j+1) (by omega)
    have hz:=hs _ (List.getElem_mem hj)
    have hw2:=bM (xs j-l[j].size) (by omega)
    have hc:¬xs j-(l[j].size:Int)<0:=fun q=>by rw [if_pos q]at h1;omega
    rw [if_neg hc]at h1
    simp [hj,hw,hw2,l7 hj,hc,h1]
  ·obtain⟨j,hj,rfl⟩:=List.getElem_of_mem hs
   have h1:=hp j hj hj
   have h2:=hx j (by omega)
   have h3:=hx (j+1) (by omega)
   by_cases hc:xs j-(l[j].size:Int)<0
   ·rw [if_pos hc]at h1;omega
   ·omega
 ·refine⟨-1,?_,by omega,by omega,fun h=>by omega⟩
  simp [func52,f52,hw0,n0]
  rw [aF (fun j=> .on ⟨[(5,V.v (.int .i64 ((j:Int)))),(1,V.v (.int .i64 (xs j))),(0, .aM (some 0) (strs l))],[],[],[]⟩) N ?_ ?_]
  ·have h1:=hp N (Nat.le_refl _) hN
   have h2:=hx N (Nat.le_refl _)
   have hz:=hs _ (List.getElem_mem hN)
   have hw2:=bM (xs N-l[N].size) (by omega)
   have hc:xs N-(l[N].size:Int)<0:=Classical.byContradiction fun q=>by rw [if_neg q,hm]at h1;omega
   simp [hN,l7 hN,hw2,hc]
  ·simp [x0]
  ·intro j hj
   have hjl:j<l.length:=by omega
   have hw:=bM ((j:Int)+1) (by omega)
   have h1:=hp j (by omega) hjl
   have h2:=hx j (by omega)
   have h3:=hx (j+1) (by omega)
   have hz:=hs _ (List.getElem_mem hjl)
   have hw2:=bM (xs j-l[j].size) (by omega)
   have hc:¬xs j-(l[j].size:Int)<0:=fun q=>by rw [if_pos q]at h1;omega
   rw [if_neg hc]at h1
   simp [hjl,hw,hw2,l7 hjl,hc,h1]
theorem agu (f:Int)(l:List ByteArray)(hs:∀s∈l,s.size≤9223372036854775807)(hl:l.length≤9223372036854775807)(left:Int)(h:0≤left∧left≤1048576):∃m,EB [.agg [vI f, .aM (some 0) (strs l)],vI left] [] []=some ⟨vI m,[],[]⟩∧-1≤m∧m≤left∧(0≤m→l.length≤1048576∧∀s∈l,s.size≤1048576):=by
 obtain⟨m,e1,e2,e3,e4⟩:=YB l hs hl left h
 by_cases n0:m<0
 ·exact⟨-1,by unfold EB;simp [func11,f11,e1,n0],by omega,by omega,fun h=>by omega⟩
 ·exact⟨m,by unfold EB;simp [func11,f11,e1,n0],e2,e3,e4⟩
theorem alP:∀(m k:Nat),k<10 ^ m→∃n,n≤m∧k / 10 ^ n=0∧∀j,j<n→0<k / 10 ^ j
 | 0,k,h=>⟨0,Nat.le_refl _,by simpa using h,fun j hj=>by omega⟩
 | m+1,k,h=>by
  by_cases c:k / 10 ^ m=0
  ·have hk:k<10 ^ m:=(Nat.div_eq_zero_iff.1 c).resolve_left (Nat.pos_iff_ne_zero.1 (Nat.pow_pos (by omega)))
   obtain⟨n,h1,h2,h3⟩:=alP m k hk
   exact⟨n,by omega,h2,h3⟩
  ·refine⟨m+1,Nat.le_refl _,Nat.div_eq_of_lt h,fun j hj=>?_⟩
   have h1:10 ^ j≤10 ^ m:=Nat.pow_le_pow_right (by omega) (by omega)
   have h2:k / 10 ^ m≤k / 10 ^ j:=Nat.div_le_div_left h1 (Nat.pow_pos (by omega))
   exact Nat.lt_of_lt_of_le (Nat.pos_of_ne_zero c) h2
theorem YC (k:Nat)(hk:k≤7000000000000000000):∃s:ByteArray,zW [vI (k:Int)] [] []=some ⟨V.v (.string s),[],[]⟩:=by
 obtain⟨n,n1,n2,n3⟩:=alP 19 k (Nat.lt_of_le_of_lt hk (by decide))
 generalize hE:zW _ _ _=R
 unfold zW at hE
 by_cases h0:k=0
 ·subst h0
  simp [func131,f131]at hE
  exact⟨_,hE.symm⟩
 have c0:¬(k:Int)≤0:=by omega
 simp [func131,f131,c0,h0]at hE
 generalize hL:yg _ _=L at hE
 obtain⟨a,⟨i1,i2⟩,hR⟩:=aaj hL (σ:=ByteArray) (fun j a=> .on ⟨[(3,V.v (.string a)),(0,V.v (.int .i64 (((k / 10 ^ j:Nat):Int))))],[],[],[]⟩) n (fun j a=>a.size=j∧True) ⟨#[]⟩ (by simp) ⟨rfl,trivial⟩ (fun j a hj ⟨ha,_⟩=>by
  have h1:=n3 j hj
  have h2:(0:Int)<((k / 10 ^ j:Nat):Int):=by omega
  have h3:k / 10 ^ (j+1)=k / 10 ^ j / 10:=by rw [Nat.pow_succ,Nat.div_div_eq_div_mul]
  have hle:k / 10 ^ j≤k:=Nat.div_le_self _ _
  rw [h3]
  generalize k / 10 ^ j=x at*
  have h4:((x:Int)).tmod 10=((x%10:Nat):Int):=rfl
  have w1:=bM (48+(x:Int)%10) (by omega)
  have hz:∀u:UInt8,((⟨#[u]⟩:ByteArray).size:Nat)=1:=fun _=>rfl
  have g:1+a.size≤9223372036854775807:=by omega
  have w2:=bM ((x:Int).tdiv 10) (by rw [show (x:Int).tdiv 10=((x / 10:Nat):Int)from rfl];omega)
  have h5:(x:Int).tdiv 10=((x / 10:Nat):Int):=rfl
  have h6:IntKind.i64.wrap ((x:Int) / 10)=(x:Int) / 10:=bM _ (by omega)
  simp [h1,h2,h4,h5,h6,w1,w2,hz,g]
  omega)
 have hn:(k / 10 ^ n:Nat)=0:=n2
 have g:1+a.size≤9223372036854775807:=by omega
 have hz:(⟨#[109]⟩:ByteArray).size=1:=rfl
 simp [hn,hz,g]at hR
 subst hR
 simp [hz,g]at hE
 exact⟨_,hE.symm⟩
theorem agv (l:List ByteArray)(j:Nat)(s:ByteArray):(strs l).set j [.a (.string s)]=strs (l.set j s):=sJ.TY l j s
theorem QA (l:List ByteArray)(x:Nat)(h:x+l.length≤7000000000000000000):∃l',tF [.own 0,vI (x:Int)] [] [strs l]=some ⟨vI ((x:Int)+l.length),[],[(0,strs l')]⟩:=by
 generalize hE:tF _ _ _=R
 simp [tF,func65,f65]at hE
 generalize hL:yg _ _=L at hE
 obtain⟨a,i1,hR⟩:=aaj hL (σ:=List ByteArray) (fun j a=> .on ⟨[(5,V.v (.int .i64 ((j:Int)))),(1,V.v (.int .i64 ((x:Int)+j))),(0, .own 1000000000)],[],[(1000000000,strs a)],[]⟩) l.length (fun j a=>a.length=l.length) l (by simp) rfl (fun j a hj ha=>by
  obtain⟨s,hs⟩:=YC (x+j) (by omega)
  rw [Int.natCast_add]at hs
  have w1:=bM ((j:Int)+1) (by omega)
  have w2:=bM ((x:Int)+((j:Int)+1)) (by omega)
  have hj2:j<a.length:=by omega
  have hset:=agv a j s
  refine⟨a.set j s,by simpa using ha,?_⟩
  simp [hj,hj2,ha,hs,w1,w2,hset,Int.add_assoc])
 simp [i1]at hR
 subst hR
 simp at hE
 exact⟨_,hE.symm⟩
theorem YD (f:Int)(l:List ByteArray)(x:Nat)(h:x+l.length≤7000000000000000000):∃l',Dh [.agg [vI f, .own 0],vI (x:Int)] [] [strs l]=some ⟨vI ((x:Int)+l.length),[],[(0,strs l')]⟩:=by
 obtain⟨l',e1⟩:=QA l x h
 refine⟨l',?_⟩
 simp [Dh,func18,f18,e1]
set_option maxHeartbeats 16000000
theorem aiA {l:List ByteArray}(h:okD (.l (strs l))=true):∀s∈l,s.size≤9223372036854775807:=by
 have h2:okT (strs l)=true:=by
  have h:(decide ((strs l).length≤9223372036854775807)&&okT (strs l))=true:=h
  rw [Bool.and_eq_true]at h;exact h.2
 induction l with
 | nil=>intro s hs;cases hs
 | cons a l ih=>
  have h3:(Ao [.a (.string a)]&&okT (strs l))=true:=h2
  rw [Bool.and_eq_true]at h3
  intro s hs
  rcases List.mem_cons.1 hs with rfl|hs
  ·have h4:((decide (s.size≤9223372036854775807))&&Ao [])=true:=h3.1
   rw [Bool.and_eq_true]at h4
   exact of_decide_eq_true h4.1
  ·refine ih ?_ h3.2 s hs
   have h:(decide ((strs (a::l)).length≤9223372036854775807)&&okT (strs (a::l)))=true:=h
   rw [Bool.and_eq_true,decide_eq_true_eq]at h
   show(decide ((strs l).length≤9223372036854775807)&&okT (strs l))=true
   rw [Bool.and_eq_true,decide_eq_true_eq]
   exact⟨by have:=h.1;simp at this⊢;omega,h3.2⟩
theorem aiB {p:dF×Int}(h:fV p.1):MkB p.1:=by
 obtain⟨r1,r2⟩:=wS h.ring
 obtain⟨u1,u2⟩:=pI h.undo
 exact⟨by have:=(bS h.line).1;omega,by have:=(bS h.own).1;omega,by have:=(bS h.back).1;omega,by have:=h.ql;omega,by omega,fun p hp=>by have:=(r2 p hp).2.1;omega,by omega,fun p hp=>by have:=(bS (u2 p hp)).1;omega⟩
theorem QB (e:dF)(h:Pf)(k:abE)(hok:Ao (N9.enc e)=true)(hoh:Ao (Ef.enc h)=true)(akN:Ao (Mh.enc k)=true):
  jE [gL e,aH h.First h.bT,aK k.Kind k.R] [] []=some ⟨V.v (.bool true),[],[]⟩:=by
 obtain⟨-, -,t1, -, -, -, -, -, -, -, -,t2,t3, -,t4, -,t5, -,t6, -⟩:=akI hok
 obtain⟨-,t7⟩:=aio hoh
 have s1:=LC t1
 have s2:=LC t2
 have s3:=LC t3
 have s4:=LC t4
 have s5:=LC t5
 have s6:=LC t6
 have wl:=bM 1048576 (by omega)
 obtain⟨m,em,m1,m2,m3⟩:=ajA e.Vi e.bQ (ints e.ak.av) (dK _) s1 e.ak.At e.bD e.Op e.bN e.fC e.dY e.bL e.iO (aC e.aL.aA) (mV _) s2 (aG e.fD.bT) (nS _) s3 e.kr (ints e.gX.av) (dK _) s4 e.gX.At (ints e.bO) (dK _) s5 e.lV (ints e.bX.av) (dK _) s6 e.bX.At 1048576 (by omega)
 by_cases c1:m<0
 ·simp [jE,func4,f4,wl,em,c1]
 obtain⟨q1,q2,q3,q4,q5,q6⟩:=m3 (by omega)
 have hsm:e.sm:=⟨by simpa using ny q1,by simpa using ny q4,by simpa using ny q6,by simpa using ny q5,q2,q3⟩
 have hl0:h.bT.length≤9223372036854775807:=by have:=uD (LC t7);simpa using this
 have hs0:∀s∈h.bT,s.size≤9223372036854775807:=aiA t7
 obtain⟨n,en,n1,n2,n3⟩:=agu h.First h.bT hs0 hl0 m (by omega)
 by_cases c2:n<0
 ·simp [jE,func4,f4,wl,em,c1,en,c2]
 obtain⟨l1,l2⟩:=n3 (by omega)
 have q7:sD (strs h.bT)=true:=ahU (by omega)
 have hI:=Yr e hsm h.First h.bT k.Kind k.R
 have hS:=Yu e hsm h.First h.bT (by omega) k.Kind k.R
 have hTo:=ajB e.Vi e.bQ (ints e.ak.av) e.ak.At e.bD e.Op e.bN e.fC e.dY e.bL e.iO (aC e.aL.aA) (aG e.fD.bT) e.kr (ints e.gX.av) e.gX.At (ints e.bO) e.lV (ints e.bX.av) e.bX.At (dK _) q1 (mV _) q2 (nS _) q3 (dK _) q4 (dK _) q5 (dK _) q6
 have hEq:=QV e.Vi e.bQ (ints e.ak.av) e.ak.At e.bD e.Op e.bN e.fC e.dY e.bL e.iO (aC e.aL.aA) (aG e.fD.bT) e.kr (ints e.gX.av) e.gX.At (ints e.bO) e.lV (ints e.bX.av) e.bX.At (dK _) q1 (mV _) q2 (nS _) q3 (dK _) q4 (dK _) q5 (dK _) q6
 have akO:=agt h.First (strs h.bT) (Mf _) q7
 have akP:=agl h.First (strs h.bT) (Mf _) q7
 have akQ:=aiz k.Kind k.R
 obtain⟨y,r0,r1,r2,r3,r4,r5,hM,hy1,hy2⟩:=adU e.Vi e.bQ (ints e.ak.av) e.ak.At e.bD e.Op e.bN e.fC e.dY e.bL e.iO (aC e.aL.aA) (aG e.fD.bT) e.kr (ints e.gX.av) e.gX.At (ints e.bO) e.lV (ints e.bX.av) e.bX.At (dK _) q1 (mV _) q2 (nS _) q3 (dK _) q4 (dK _) q5 (dK _) q6 1 (by omega)
 have hMH:=YD h.First h.bT y.toNat (by omega)
 rw [show ((y.toNat:Nat):Int)=y by omega]at hMH
 obtain⟨hl',hMH⟩:=hMH
 have hny:¬y<0:=by omega
 have akR:¬y+(h.bT.length:Int)<0:=by omega
 have go:∀p:dF×Int,fV p.1→iU [gL e,aH h.First h.bT,aK k.Kind k.R] [] []=some (kR p)→j3 [gL e,aH h.First h.bT,aK k.Kind k.R] [] []=some (kR p)→
   jE [gL e,aH h.First h.bT,aK k.Kind k.R] [] []=some ⟨V.v (.bool true),[],[]⟩:=by
  intro p hp hS hI
  have hz:=dF.SG (fA.2 hp)
  have hG:=QV p.1.Vi p.1.bQ (ints p.1.ak.av) p.1.ak.At p.1.bD p.1.Op p.1.bN p.1.fC p.1.dY p.1.bL p.1.iO (aC p.1.aL.aA) (aG p.1.fD.bT) p.1.kr (ints p.1.gX.av) p.1.gX.At (ints p.1.bO) p.1.lV (ints p.1.bX.av) p.1.bX.At (dK _) (ni hz.h1) (mV _) hz.h5 (nS _) hz.h6 (dK _) (ni hz.h2) (dK _) (ni hz.h4) (dK _) (ni hz.h3)
  obtain⟨z,m0,m1,m2,m3,m4,m5,hz0, -,hK,hH⟩:=KS p.1 (aiB hp)
  have hnz:¬z<0:=by omega
  obtain⟨x,a⟩:=p
  simp only [kR]at hS hI hG hK hH
  clear hp hz hok hoh akN
  simp [jE, -au,func4,f4,wl,em,c1,en,c2,hTo,akO,akQ,hS,hI,hEq,akP,hM,hMH,hG,hK,hH,hny,akR,hnz]
 have goU:∀p:dF×Int,fV p.1→p.1.fD.bT= []→iU [gL e,aH h.First h.bT,aK k.Kind k.R] [] []=some (kRu p)→j3 [gL e,aH h.First h.bT,aK k.Kind k.R] [] []=some (kR p)→
   jE [gL e,aH h.First h.bT,aK k.Kind k.R] [] []=some ⟨V.v (.bool true),[],[]⟩:=by
  intro p hp hq0 hS hI
  have hz:=dF.SG (fA.2 hp)
  have hG:=QV p.1.Vi p.1.bQ (ints p.1.ak.av) p.1.ak.At p.1.bD p.1.Op p.1.bN p.1.fC p.1.dY p.1.bL p.1.iO (aC p.1.aL.aA) (aG p.1.fD.bT) p.1.kr (ints p.1.gX.av) p.1.gX.At (ints p.1.bO) p.1.lV (ints p.1.bX.av) p.1.bX.At (dK _) (ni hz.h1) (mV _) hz.h5 (nS _) hz.h6 (dK _) (ni hz.h2) (dK _) (ni hz.h4) (dK _) (ni hz.h3)
  obtain⟨z,m0,m1,m2,m3,m4,m5,hz0, -,hK,hH⟩:=KS p.1 (aiB hp)
  have hnz:¬z<0:=by omega
  obtain⟨x,a⟩:=p
  simp only at hq0
  simp only [kR]at hS hI hG hK hH
  simp only [gL,gO,hO,hq0,show aG []= []from rfl]at hS hI hG hK hH
  clear hp hz hok hoh akN
  simp [jE, -au,func4,f4,wl,em,c1,en,c2,hTo,akO,akQ,hS,hI,hEq,akP,hM,hMH,hG,hK,hH,hny,akR,hnz]
 have goW:∀p:dF×Int,fV p.1→p.1.bO= []→iU [gL e,aH h.First h.bT,aK k.Kind k.R] [] []=some (kRw p)→j3 [gL e,aH h.First h.bT,aK k.Kind k.R] [] []=some (kRw p)→
   jE [gL e,aH h.First h.bT,aK k.Kind k.R] [] []=some ⟨V.v (.bool true),[],[]⟩:=by
  intro p hp hq0 hS hI
  have hz:=dF.SG (fA.2 hp)
  have hG:=QV p.1.Vi p.1.bQ (ints p.1.ak.av) p.1.ak.At p.1.bD p.1.Op p.1.bN p.1.fC p.1.dY p.1.bL p.1.iO (aC p.1.aL.aA) (aG p.1.fD.bT) p.1.kr (ints p.1.gX.av) p.1.gX.At (ints p.1.bO) p.1.lV (ints p.1.bX.av) p.1.bX.At (dK _) (ni hz.h1) (mV _) hz.h5 (nS _) hz.h6 (dK _) (ni hz.h2) (dK _) (ni hz.h4) (dK _) (ni hz.h3)
  obtain⟨z,m0,m1,m2,m3,m5,hz0, -,hK,hH⟩:=Uc p.1 (aiB hp)
  have hnz:¬z<0:=by omega
  obtain⟨x,a⟩:=p
  simp only at hq0
  simp only [gL,gO,hO,hq0,aZ]at hG
  simp only at hS hI hK hH
  clear hp hz hok hoh akN
  simp [jE, -au,func4,f4,wl,em,c1,en,c2,hTo,akO,akQ,hS,hI,hEq,akP,hM,hMH,hG,hK,hH,hny,akR,hnz]
 cases hkb:OX e h.First h.bT k.Kind k.R
 ·rw [hkb,if_neg (by decide)]at hS hI
  exact go _ (fA.1 (by decide)) hS hI
 ·rw [hkb,if_pos rfl]at hS hI
  simp only [OX,Bool.and_eq_true]at hkb
  have hk:=fV.key (fA.1 hkb.1) (Ki.1 hkb.2.1) hkb.2.2
  unfold kY at hS
  by_cases hwu:aeK e k.Kind k.R
  ·rw [if_pos hwu]at hS
   have hnw:¬yt e k.Kind:=fun q=>by rcases hwu.1 with z|z<;>have:=q.1<;>omega
   have hI2:=hI
   unfold kX at hI2
   rw [if_neg hnw]at hI2
   obtain⟨x,hx⟩:=List.length_eq_one_iff.1 hwu.2
   have hq0:(vZ e h.First h.bT k.Kind k.R).1.fD.bT= []:=by
    rw [TW e (fA.1 hkb.1) (Ki.1 hkb.2.1) _ _ hwu.1]
    unfold nK;rw [hx];rfl
   exact goU _ hk hq0 hS hI2
  rw [if_neg hwu]at hS
  unfold kX at hS hI
  by_cases hw:yt e k.Kind
  ·rw [if_pos hw]at hS hI
   have hq0:(vZ e h.First h.bT k.Kind k.R).1.bO= []:=by
    obtain⟨w1,w2,w3⟩:=hw
    have hne:¬e.bO= []:=fun q=>by rw [q]at w3;cases w3
    unfold vZ zu
    rw [if_neg (by omega),if_pos w1,if_neg (by omega),if_neg (by omega),if_pos w2,if_neg hne]
    exact List.eq_nil_of_length_eq_zero (by rw [List.length_dropLast,w3])
   exact goW _ hk hq0 hS hI
  ·rw [if_neg hw]at hS hI
   exact go _ hk hS hI
open Go.ChangeShapes Go.WideShapes Go.ChangeAt Go.RowKit
theorem anC {W:World}(h:W.ShapedOpen prog):ZW W:=⟨trivial,Tryz.laysM144.s1_3 W h⟩
end Go.Proofs.YtlpdjhiggpblcaaGreat
