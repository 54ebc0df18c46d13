/- Part 16 of a proof in several texts (an abstract evaluator, what the functions compute). -/
import Derived.Test.YtlpdjhiggpblcaaGreatPkEdKeys15
import Derived.HandedShaped
import Derived.ProofKit
import Derived.Shelf.Vars
open Go.Proofs.Tryz
namespace Go.Proofs.YtlpdjhiggpblcaaGreat
set_option linter.unusedSectionVars false
set_option linter.unusedSimpArgs false
set_option linter.unusedVariables false
open Go.RowKit
set_option maxHeartbeats 4000000
set_option maxRecDepth 100000
def mkS {α:Type}(len:α→Nat)(mk:Int→α→α):Int→List α→List α
 | _,[]=> []
 | x,a::l=>mk x a::mkS len mk (x+len a) l
def lW {α:Type}(len:α→Nat)(l:List α):Nat:=(l.map len).sum
section
variable {α:Type} (len:α→Nat) (mk:Int→α→α)
theorem vM:∀(x:Int) (l:List α),(mkS len mk x l).length=l.length
 | _,[]=>rfl
 | x,a::l=>by show(mkS len mk _ l).length+1=_;rw [vM];rfl
theorem Fu:∀(l:List α) (j:Nat) (h:j<l.length),lW len (l.take (j+1))=lW len (l.take j)+len l[j]
 | a::l,0,h=>by simp [lW]
 | a::l,j+1,h=>by
  have:=Fu l j (by simpa using h)
  simp only [lW,List.take_succ_cons,List.map_cons,List.sum_cons,List.getElem_cons_succ]at this⊢
  omega
theorem aes:∀(x:Int) (l:List α) (j:Nat) (h:j<l.length),(mkS len mk x l)[j]'(by rw [vM];exact h)=mk (x+lW len (l.take j)) l[j]
 | x,a::l,0,h=>by simp [mkS,lW]
 | x,a::l,j+1,h=>by
  have:=aes (x+len a) l j (by simpa using h)
  simp only [mkS,List.getElem_cons_succ,this,List.take_succ_cons,lW,List.map_cons,List.sum_cons,Int.natCast_add]
  congr 1
  omega
theorem DZ {B:Nat}(l:List α)(h:∀a∈l,len a≤B):lW len l≤l.length*B:=by
 induction l with
 | nil=>simp [lW]
 | cons a l ih=>
  have h1:=h a (by simp)
  have h2:=ih fun b hb=>h b (List.mem_cons_of_mem _ hb)
  simp only [lW,List.map_cons,List.sum_cons,List.length_cons,Nat.add_mul,Nat.one_mul]at h2⊢
  omega
theorem Ci (l:List α)(j:Nat):lW len (l.take j)≤lW len l:=by
 induction l generalizing j with
 | nil=>simp [lW]
 | cons a l ih=>
  cases j with
  | zero=>simp [lW]
  | succ j=>
   have:=ih j
   simp only [lW,List.take_succ_cons,List.map_cons,List.sum_cons]at this⊢
   omega
def K4 (x:Int)(l:List α)(j:Nat):List α:=(mkS len mk x l).take j++l.drop j
theorem Xk (x:Int)(l:List α):K4 len mk x l 0=l:=by simp [K4]
theorem abX (x:Int)(l:List α):K4 len mk x l l.length=mkS len mk x l:=by
 unfold K4
 rw [List.drop_length,List.append_nil,List.take_of_length_le (by rw [vM];exact Nat.le_refl _)]
theorem Fv (x:Int)(l:List α)(j:Nat)(h:j≤l.length):(K4 len mk x l j).length=l.length:=by
 unfold K4
 rw [List.length_append,List.length_take,List.length_drop,vM];omega
theorem akp (x:Int)(l:List α)(j:Nat)(h:j<l.length):(K4 len mk x l j)[j]'(by rw [Fv len mk x l j (by omega)];exact h)=l[j]:=by
 unfold K4
 rw [List.getElem_append_right (by rw [List.length_take,vM];omega)]
 simp only [List.length_take,vM,List.getElem_drop]
 congr 1
 omega
theorem abY (x:Int)(l:List α)(j:Nat)(h:j<l.length):(K4 len mk x l j).set j (mk (x+lW len (l.take j)) l[j])=K4 len mk x l (j+1):=by
 have hj:j<(mkS len mk x l).length:=by rw [vM];exact h
 unfold K4
 rw [List.set_append_right _ _ (by rw [List.length_take];omega),List.length_take,Nat.min_eq_left (by omega),Nat.sub_self,List.drop_eq_getElem_cons h,List.set_cons_zero,←aes len mk x l j h,List.take_succ_eq_append_getElem hj,List.append_assoc]
 rfl
theorem abZ (x:Int)(l:List α)(j:Nat)(h:j<l.length):(K4 len mk x l j)[j]?=some l[j]:=by
 rw [List.getElem?_eq_getElem (by rw [Fv len mk x l j (by omega)];exact h),akp len mk x l j h]
theorem afh (x:Int)(l:List α)(j:Nat)(h:j<l.length):(mkS len mk x l)[j]?=some (mk (x+lW len (l.take j)) l[j]):=by
 rw [List.getElem?_eq_getElem (by rw [vM];exact h),aes len mk x l j h]
end
def Zb:Int→dL→dL:=fun x p=>⟨mM x p.av.length⟩
def Es:dL→Nat:=fun p=>p.av.length
def Zc:Int→fH→fH:=fun x p=>⟨mM x p.av.length,x+p.av.length⟩
def C8:fH→Nat:=fun p=>p.av.length+1
section
variable (x:Int) (hx:0≤x∧x≤1000000000000)
include hx
theorem Vz (l:List dL)(hl:l.length≤1000)(hp:∀p∈l,p.av.length≤1000000):pV [.own 0,vI x] [] [aC l]=some ⟨vI (x+lW Es l),[],[(0,aC (mkS Es Zb x l))]⟩:=by
 have ht:lW Es l≤l.length*1000000:=DZ Es l hp
 have htt:lW Es l≤1000*1000000:=Nat.le_trans ht (Nat.mul_le_mul_right _ hl)
 generalize hE:pV _ _ _=R
 simp [pV,func129,f129]at hE
 rw [aD (fun j=> .on ⟨[(5,V.v (.int .i64 ((j:Int)))),(1,V.v (.int .i64 (x+lW Es (l.take j)))),(0, .own 1000000000)],[],[(1000000000,aC (K4 Es Zb x l j))],[]⟩) l.length ?_ ?_]at hE
 ·have h1:=Fv Es Zb x l l.length (Nat.le_refl _)
  simp [abX,vM]at hE
  exact hE.symm
 ·simp [Xk,lW]
 ·intro j hj
  have hw:=bN ((j:Int)+1) (by omega)
  have h1:=Fv Es Zb x l j (by omega)
  have h2:=abZ Es Zb x l j hj
  have h3:=abY Es Zb x l j hj
  have h4:=Fu Es l j hj
  have h5:=Ci Es l j
  have h6:=Ci Es l (j+1)
  rw [h4]at h6⊢
  have hpl:l[j].av.length≤1000000:=hp _ (List.getElem_mem hj)
  rw [←h3]
  generalize K4 Es Zb x l j=m at*
  generalize lW Es (l.take j)=t at*
  have hm0:=nR l[j].av (x+t) (by omega) (by omega)
  have hj':j<m.length:=by omega
  have h2:m[j]=l[j]:=by rw [List.getElem?_eq_getElem hj']at h2;exact Option.some.inj h2
  have hset:=QT m j (Zb (x+t) l[j])
  have hln:Es l[j]=l[j].av.length:=rfl
  simp only [Zb]at hset⊢
  simp [hj,hj',hw,h1,h2,hset,hm0,hln,Int.add_assoc]
theorem VA (l:List dL)(hl:l.length≤1000)(hp:∀p∈l,p.av.length≤1000000):vD [.aL (some 0) (aC (mkS Es Zb x l)),vI x] [] []=some ⟨vI (x+lW Es l),[],[]⟩:=by
 have ht:lW Es l≤l.length*1000000:=DZ Es l hp
 have htt:lW Es l≤1000*1000000:=Nat.le_trans ht (Nat.mul_le_mul_right _ hl)
 have hlen:=vM Es Zb x l
 generalize hE:vD _ _ _=R
 simp [vD,func132,f132]at hE
 rw [aD (fun j=> .on ⟨[(5,V.v (.int .i64 ((j:Int)))),(1,V.v (.int .i64 (x+lW Es (l.take j)))),(0, .aL (some 0) (aC (mkS Es Zb x l)))],[],[],[]⟩) l.length ?_ ?_]at hE
 ·simp [hlen]at hE
  exact hE.symm
 ·simp [lW]
 ·intro j hj
  have hw:=bN ((j:Int)+1) (by omega)
  have h2:=afh Es Zb x l j hj
  have h4:=Fu Es l j hj
  have h6:=Ci Es l (j+1)
  rw [h4]at h6⊢
  have hpl:l[j].av.length≤1000000:=hp _ (List.getElem_mem hj)
  have hln:Es l[j]=l[j].av.length:=rfl
  generalize lW Es (l.take j)=t at*
  have hm0:=qX l[j].av.length (x+t) (by omega) (by omega)
  have hn:¬x+((t:Int)+l[j].av.length)<0:=by omega
  clear hE
  generalize mkS Es Zb x l=m at*
  have hj':j<m.length:=by omega
  have h2:m[j]=Zb (x+t) l[j]:=by rw [List.getElem?_eq_getElem hj']at h2;exact Option.some.inj h2
  have hg:=dZ hj'
  rw [h2]at hg
  simp only [Zb]at hg h2
  simp [hj,hj',hw,hlen,hg,h2,hm0,hln,hn,Int.add_assoc]
theorem Y2 (l:List fH)(hl:l.length≤1000)(hp:∀p∈l,p.av.length≤1000000):rJ [.own 0,vI x] [] [aG l]=some ⟨vI (x+lW C8 l),[],[(0,aG (mkS C8 Zc x l))]⟩:=by
 have ht:lW C8 l≤l.length*1000001:=DZ C8 l (B:=1000001) (fun p h=>by have:=hp p h;unfold C8;omega)
 have htt:lW C8 l≤1000*1000001:=Nat.le_trans ht (Nat.mul_le_mul_right _ hl)
 generalize hE:rJ _ _ _=R
 simp [rJ,func130,f130]at hE
 rw [aD (fun j=> .on ⟨[(5,V.v (.int .i64 ((j:Int)))),(1,V.v (.int .i64 (x+lW C8 (l.take j)))),(0, .own 1000000000)],[],[(1000000000,aG (K4 C8 Zc x l j))],[]⟩) l.length ?_ ?_]at hE
 ·have h1:=Fv C8 Zc x l l.length (Nat.le_refl _)
  simp [abX,vM]at hE
  exact hE.symm
 ·simp [Xk,lW]
 ·intro j hj
  have hw:=bN ((j:Int)+1) (by omega)
  have h1:=Fv C8 Zc x l j (by omega)
  have h2:=abZ C8 Zc x l j hj
  have h3:=abY C8 Zc x l j hj
  have h4:=Fu C8 l j hj
  have h5:=Ci C8 l j
  have h6:=Ci C8 l (j+1)
  rw [h4]at h6⊢
  have hpl:l[j].av.length≤1000000:=hp _ (List.getElem_mem hj)
  rw [←h3]
  generalize K4 C8 Zc x l j=m at*
  generalize lW C8 (l.take j)=t at*
  have hm0:=nR l[j].av (x+t) (by omega) (by omega)
  have hj':j<m.length:=by omega
  have h2:m[j]=l[j]:=by rw [List.getElem?_eq_getElem hj']at h2;exact Option.some.inj h2
  have hset:=UH m j (Zc (x+t) l[j])
  have hln:C8 l[j]=l[j].av.length+1:=rfl
  simp only [Zc,Int.add_assoc]at hset⊢
  have w3:=bN (x+((t:Int)+(l[j].av.length+1))) (by omega)
  simp [hj,hj',hw,h1,h2,hset,hm0,hln,w3,Int.add_assoc]
theorem Y3 (l:List fH)(hl:l.length≤1000)(hp:∀p∈l,p.av.length≤1000000):yg [.aL (some 0) (aG (mkS C8 Zc x l)),vI x] [] []=some ⟨vI (x+lW C8 l),[],[]⟩:=by
 have ht:lW C8 l≤l.length*1000001:=DZ C8 l (B:=1000001) (fun p h=>by have:=hp p h;unfold C8;omega)
 have htt:lW C8 l≤1000*1000001:=Nat.le_trans ht (Nat.mul_le_mul_right _ hl)
 have hlen:=vM C8 Zc x l
 generalize hE:yg _ _ _=R
 simp [yg,func133,f133]at hE
 rw [aD (fun j=> .on ⟨[(5,V.v (.int .i64 ((j:Int)))),(1,V.v (.int .i64 (x+lW C8 (l.take j)))),(0, .aL (some 0) (aG (mkS C8 Zc x l)))],[],[],[]⟩) l.length ?_ ?_]at hE
 ·simp [hlen]at hE
  exact hE.symm
 ·simp [lW]
 ·intro j hj
  have hw:=bN ((j:Int)+1) (by omega)
  have h2:=afh C8 Zc x l j hj
  have h4:=Fu C8 l j hj
  have h6:=Ci C8 l (j+1)
  rw [h4]at h6⊢
  have hpl:l[j].av.length≤1000000:=hp _ (List.getElem_mem hj)
  have hln:C8 l[j]=l[j].av.length+1:=rfl
  generalize lW C8 (l.take j)=t at*
  have hm0:=qX l[j].av.length (x+t) (by omega) (by omega)
  have hn:¬x+((t:Int)+l[j].av.length)<0:=by omega
  clear hE
  generalize mkS C8 Zc x l=m at*
  have hj':j<m.length:=by omega
  have h2:m[j]=Zc (x+t) l[j]:=by rw [List.getElem?_eq_getElem hj']at h2;exact Option.some.inj h2
  have hg:=dX hj'
  rw [h2]at hg
  simp only [Zc]at hg h2
  have w3:=bN (x+((t:Int)+(l[j].av.length+1))) (by omega)
  simp [hj,hj',hw,hlen,hg,h2,hm0,hln,hn,w3,Int.add_assoc]
end
theorem uV (t:List Int)(a x:Int)(ht:t.length≤1000000)(hx:0≤x∧x≤1000000000000):wY [.agg [.own 0,vI a],vI x] [] [ints t]=some ⟨vI (x+t.length),[],[(0,ints (mM x t.length))]⟩:=by
 have e:=nR t x (by omega) (by omega)
 simp [wY,func62,f62,e]
theorem uW (n:Nat)(a x:Int)(ht:n≤1000000)(hx:0≤x∧x≤1000000000000):DF [.agg [.aL (some 0) (ints (mM x n)),vI a],vI x] [] []=some ⟨vI (x+n),[],[]⟩:=by
 have e:=qX n x (by omega) (by omega)
 have hn:¬x+(n:Int)<0:=by omega
 simp [DF,func66,f66,e,hn]
structure MkB (e:dw):Prop where
 line:e.au.av.length≤1000000
 own:e.gG.av.length≤1000000
 back:e.bT.av.length≤1000000
 query:e.bI.length≤1000000
 ring:e.aM.aA.length≤1000
 apd:∀p∈e.aM.aA,p.av.length≤1000000
 undo:e.eO.bP.length≤1000
 ape:∀p∈e.eO.bP,p.av.length≤1000000
theorem Om (l:List dL)(x:Int)(hx:0≤x∧x≤1000000000000)(hl:l.length≤1000)(hp:∀p∈l,p.av.length≤1000000):wZ [.agg [.own 0],vI x] [] [aC l]=some ⟨vI (x+lW Es l),[],[(0,aC (mkS Es Zb x l))]⟩:=by
 have e:=Vz x hx l hl hp
 simp [wZ,func63,f63,e]
theorem Oo (l:List dL)(x:Int)(hx:0≤x∧x≤1000000000000)(hl:l.length≤1000)(hp:∀p∈l,p.av.length≤1000000):DI [.agg [.aL (some 0) (aC (mkS Es Zb x l))],vI x] [] []=some ⟨vI (x+lW Es l),[],[]⟩:=by
 have e:=VA x hx l hl hp
 have hn:¬x+(lW Es l:Int)<0:=by omega
 simp [DI,func67,f67,e,hn]
theorem Oq (l:List fH)(x:Int)(hx:0≤x∧x≤1000000000000)(hl:l.length≤1000)(hp:∀p∈l,p.av.length≤1000000):xg [.agg [.own 0],vI x] [] [aG l]=some ⟨vI (x+lW C8 l),[],[(0,aG (mkS C8 Zc x l))]⟩:=by
 have e:=Y2 x hx l hl hp
 simp [xg,func64,f64,e]
theorem Ot (l:List fH)(x:Int)(hx:0≤x∧x≤1000000000000)(hl:l.length≤1000)(hp:∀p∈l,p.av.length≤1000000):DJ [.agg [.aL (some 0) (aG (mkS C8 Zc x l))],vI x] [] []=some ⟨vI (x+lW C8 l),[],[]⟩:=by
 have e:=Y3 x hx l hl hp
 have hn:¬x+(lW C8 l:Int)<0:=by omega
 simp [DJ,func68,f68,e,hn]
theorem LB (e:dw)(b:MkB e):∃(y:Int) (m0:List Int) (m1:List dL) (m2:List fH) (m3 m4 m5:List Int),0≤y∧y≤100000000000∧
  xk [gO e,vI 1] [] [ints e.au.av,aC e.aM.aA,aG e.eO.bP,ints e.gG.av,ints e.bI,ints e.bT.av]=some ⟨vI y,[],[(0,ints m0),(1,aC m1),(2,aG m2),(3,ints m3),(4,ints m4),(5,ints m5)]⟩∧
  Cb [.agg [V.v (.bool e.Vi),vI e.bR, .aL (some 0) (ints m0),vI e.au.At,vI e.bA,vI e.Op,vI e.bH,vI e.eY,vI e.dN,vI e.bG,vI e.iA, .aL (some 1) (aC m1), .aL (some 2) (aG m2),vI e.jT, .aL (some 3) (ints m3),vI e.gG.At, .aL (some 4) (ints m4),vI e.kV, .aL (some 5) (ints m5),vI e.bT.At],vI 1] [] []=some ⟨vI y,[],[]⟩:=by
 obtain⟨b1,b2,b3,b4,b5,b6,b7,b8⟩:=b
 have t1:lW Es e.aM.aA≤1000*1000000:=Nat.le_trans (DZ Es _ b6) (Nat.mul_le_mul_right _ b5)
 have t2:lW C8 e.eO.bP≤1000*1000001:=Nat.le_trans (DZ C8 (B:=1000001) _ (fun p h=>by have:=b8 p h;unfold C8;omega)) (Nat.mul_le_mul_right _ b7)
 have e0:=uV e.au.av e.au.At 1 b1 (by omega)
 have f0:=uW e.au.av.length e.au.At 1 b1 (by omega)
 generalize hy0:1+(e.au.av.length:Int)=y0 at*
 have e1:=Om e.aM.aA y0 (by omega) b5 b6
 have f1:=Oo e.aM.aA y0 (by omega) b5 b6
 generalize hy1:y0+(lW Es e.aM.aA:Int)=y1 at*
 have e2:=Oq e.eO.bP y1 (by omega) b7 b8
 have f2:=Ot e.eO.bP y1 (by omega) b7 b8
 generalize hy2:y1+(lW C8 e.eO.bP:Int)=y2 at*
 have e3:=uV e.gG.av e.gG.At y2 b2 (by omega)
 have f3:=uW e.gG.av.length e.gG.At y2 b2 (by omega)
 generalize hy3:y2+(e.gG.av.length:Int)=y3 at*
 have e4:=nR e.bI y3 (by omega) (by omega)
 have f4:=qX e.bI.length y3 (by omega) (by omega)
 generalize hy4:y3+(e.bI.length:Int)=y4 at*
 have e5:=uV e.bT.av e.bT.At y4 b3 (by omega)
 have f5:=uW e.bT.av.length e.bT.At y4 b3 (by omega)
 generalize hy5:y4+(e.bT.av.length:Int)=y5 at*
 have n0:¬y0<0:=by omega
 have n1:¬y1<0:=by omega
 have n2:¬y2<0:=by omega
 have n3:¬y3<0:=by omega
 have n4:¬y4<0:=by omega
 have n5:¬y5<0:=by omega
 refine⟨y5,_,_,_,_,_,_,by omega,by omega,by unfold xk;simp [func17,f17,e0,e1,e2,e3,e4,e5];exact⟨rfl,rfl,rfl,rfl,rfl,rfl⟩,?_⟩
 simp [Cb,func19,f19,f0,f1,f2,f3,f4,f5,n0,n1,n2,n3,n4,n5]
theorem ab0 (i:Option Nat)(k:Int):mH [.aL i [],vI k] [] []=some ⟨vI k,[],[]⟩:=by
 simp [mH,func27,f27]
 rw [bO]
 simp
theorem UJ (e:dw)(b:MkB e):∃(y:Int) (m0:List Int) (m1:List dL) (m2:List fH) (m3 m5:List Int),0≤y∧y≤100000000000∧
  xk [.agg [V.v (.bool e.Vi),vI e.bR, .own 0,vI e.au.At,vI e.bA,vI e.Op,vI e.bH,vI e.eY,vI e.dN,vI e.bG,vI e.iA, .own 1, .own 2,vI e.jT, .own 3,vI e.gG.At, .aL (some 0) [],vI e.kV, .own 4,vI e.bT.At],vI 1] [] [ints e.au.av,aC e.aM.aA,aG e.eO.bP,ints e.gG.av,ints e.bT.av]=some ⟨vI y,[],[(0,ints m0),(1,aC m1),(2,aG m2),(3,ints m3),(4,ints m5)]⟩∧
  Cb [.agg [V.v (.bool e.Vi),vI e.bR, .aL (some 0) (ints m0),vI e.au.At,vI e.bA,vI e.Op,vI e.bH,vI e.eY,vI e.dN,vI e.bG,vI e.iA, .aL (some 1) (aC m1), .aL (some 2) (aG m2),vI e.jT, .aL (some 3) (ints m3),vI e.gG.At, .aL (some 4) [],vI e.kV, .aL (some 5) (ints m5),vI e.bT.At],vI 1] [] []=some ⟨vI y,[],[]⟩:=by
 obtain⟨b1,b2,b3,b4,b5,b6,b7,b8⟩:=b
 have t1:lW Es e.aM.aA≤1000*1000000:=Nat.le_trans (DZ Es _ b6) (Nat.mul_le_mul_right _ b5)
 have t2:lW C8 e.eO.bP≤1000*1000001:=Nat.le_trans (DZ C8 (B:=1000001) _ (fun p h=>by have:=b8 p h;unfold C8;omega)) (Nat.mul_le_mul_right _ b7)
 have e0:=uV e.au.av e.au.At 1 b1 (by omega)
 have f0:=uW e.au.av.length e.au.At 1 b1 (by omega)
 generalize hy0:1+(e.au.av.length:Int)=y0 at*
 have e1:=Om e.aM.aA y0 (by omega) b5 b6
 have f1:=Oo e.aM.aA y0 (by omega) b5 b6
 generalize hy1:y0+(lW Es e.aM.aA:Int)=y1 at*
 have e2:=Oq e.eO.bP y1 (by omega) b7 b8
 have f2:=Ot e.eO.bP y1 (by omega) b7 b8
 generalize hy2:y1+(lW C8 e.eO.bP:Int)=y2 at*
 have e3:=uV e.gG.av e.gG.At y2 b2 (by omega)
 have f3:=uW e.gG.av.length e.gG.At y2 b2 (by omega)
 generalize hy3:y2+(e.gG.av.length:Int)=y3 at*
 have e4:=fun i=>ab0 i y3
 have f4:=qX 0 y3 (by omega) (by omega)
 rw [show mM y3 0= []from rfl,aZ,Int.natCast_zero,Int.add_zero]at f4
 have e5:=uV e.bT.av e.bT.At y3 b3 (by omega)
 have f5:=uW e.bT.av.length e.bT.At y3 b3 (by omega)
 generalize hy5:y3+(e.bT.av.length:Int)=y5 at*
 have n0:¬y0<0:=by omega
 have n1:¬y1<0:=by omega
 have n2:¬y2<0:=by omega
 have n3:¬y3<0:=by omega
 have n5:¬y5<0:=by omega
 refine⟨y5,_,_,_,_,_,by omega,by omega,by unfold xk;simp [func17,f17,e0,e1,e2,e3,e4,e5];exact⟨rfl,rfl,rfl,rfl,rfl⟩,?_⟩
 simp [Cb,func19,f19,f0,f1,f2,f3,f4,f5,n0,n1,n2,n3,n5]
theorem PO (r:List (List D))(k:gD r=true)(s:lgL r=true)(left:Int)(h:0≤left∧left≤1048576):∃m,BX [.aL (some 0) r,vI left] [] []=some ⟨vI m,[],[]⟩∧-1≤m∧m≤left∧(0≤m→sG r=true):=by
 obtain⟨l,rfl⟩:=FD k
 have hb:l.length≤9223372036854775807:=by simpa using sQ s
 have hw0:=bN (left-l.length) (by omega)
 unfold BX
 by_cases n0:left-(l.length:Int)<0
 ·exact⟨-1,by simp [func51,f51,hw0,n0],by omega,by omega,fun h=>by omega⟩
 exact⟨left-l.length,by simp [func51,f51,hw0,n0],by omega,by omega,fun _=>kQ (by omega)⟩
theorem KU (r0:List (List D))(k0:gD r0=true)(s0:lgL r0=true)(v1:Int)(left:Int)(h:0≤left∧left≤1048576):∃m,BZ [.agg [.aL (some 0) r0,vI v1],vI left] [] []=some ⟨vI m,[],[]⟩∧-1≤m∧m≤left∧(0≤m→sG r0=true):=by
 unfold BZ
 obtain⟨m0,e0,a0,b0,c0⟩:=PO r0 k0 s0 left ⟨by omega,by omega⟩
 by_cases n0:m0<0
 ·exact⟨-1,by simp [func48,f48,e0,n0],by omega,by omega,fun h=>by omega⟩
 exact⟨m0,by simp [func48,f48,e0,n0],by omega,by omega,fun _=>(c0 (by omega))⟩
theorem aeu (r0:List (List D))(k0:gD r0=true)(s0:lgL r0=true)(left:Int)(h:0≤left∧left≤1048576):∃m,CQ [.agg [.aL (some 0) r0],vI left] [] []=some ⟨vI m,[],[]⟩∧-1≤m∧m≤left∧(0≤m→sG r0=true):=by
 unfold CQ
 obtain⟨m0,e0,a0,b0,c0⟩:=PO r0 k0 s0 left ⟨by omega,by omega⟩
 by_cases n0:m0<0
 ·exact⟨-1,by simp [func210,f210,e0,n0],by omega,by omega,fun h=>by omega⟩
 exact⟨m0,by simp [func210,f210,e0,n0],by omega,by omega,fun _=>(c0 (by omega))⟩
theorem ab1 (r:List (List D))(k:iH r=true)(s:lgL r=true)(left:Int)(h:0≤left∧left≤1048576):∃m,Dx [.aL (some 0) r,vI left] [] []=some ⟨vI m,[],[]⟩∧-1≤m∧m≤left∧(0≤m→sG r=true):=by
 obtain⟨l,rfl⟩:=zJ k
 have hb:l.length≤9223372036854775807:=by simpa using sQ s
 have hw0:=bN (left-l.length) (by omega)
 unfold Dx
 by_cases n0:left-(l.length:Int)<0
 ·exact⟨-1,by simp [func123,f123,hw0,n0],by omega,by omega,fun h=>by omega⟩
 obtain⟨xs,x0,hxs⟩:=runs l.length (left-l.length) (by omega) (fun j x m=> ∀h:j<l.length,CQ [.agg [.aL (some 0) (ints l[j].av)],vI x] [] []=some ⟨vI m,[],[]⟩∧(0≤m→sG (ints l[j].av)=true)) (fun j x hj h1 h2=>by
  have hl:=adi s (dZ hj)
  simp only [oW,uO,Js,E5,Bool.and_true,Bool.true_and,Bool.and_eq_true]at hl
  have hl0:=hl
  obtain⟨m,e1,e2,e3,e4⟩:=aeu (ints l[j].av) (by simp) (by simpa using hl0) x ⟨h1,by omega⟩
  exact⟨m,fun _=>⟨e1,e4⟩,e2,e3⟩)
 rcases hxs with⟨hx,hp⟩|⟨N,hN,hx,hp,hm⟩
 ·refine⟨xs l.length,?_,by have:=hx l.length (Nat.le_refl _);omega,by have:=hx l.length (Nat.le_refl _);omega,fun _=>Pj (by simp;omega) fun j r e=>?_⟩
  ·simp [func123,f123,hw0,n0]
   rw [aD (fun j=> .on ⟨[(5,V.v (.int .i64 ((j:Int)))),(1,V.v (.int .i64 (xs j))),(0, .aL (some 0) (aC l))],[],[],[]⟩) l.length ?_ ?_]
   ·simp
   ·simp [x0]
   ·intro j hj
    have hw:=bN (j+1) (by omega)
    have h1:=(hp j hj hj).1
    have h2:¬(xs (j+1)<0):=by have:=hx (j+1) (by omega);omega
    simp [hj,hw,h1,h2,dZ hj]
  ·have hj:j<l.length:=by have:=(List.getElem?_eq_some_iff.1 e).1;simpa using this
   have h1:=(hp j hj hj).2 (hx (j+1) (by omega)).1
   rw [dZ hj]at e
   injection e with e
   subst e
   simpa using h1
 ·refine⟨-1,?_,by omega,by omega,fun h=>by omega⟩
  simp [func123,f123,hw0,n0]
  rw [aD (fun j=> .on ⟨[(5,V.v (.int .i64 ((j:Int)))),(1,V.v (.int .i64 (xs j))),(0, .aL (some 0) (aC l))],[],[],[]⟩) N ?_ ?_]
  ·have h1:=(hp N (Nat.le_refl _) hN).1
   simp [hN,h1,hm,dZ hN]
  ·simp [x0]
  ·intro j hj
   have hj':j<l.length:=by omega
   have hw:=bN (j+1) (by omega)
   have h1:=(hp j (by omega) hj').1
   have h2:¬(xs (j+1)<0):=by have:=hx (j+1) (by omega);omega
   simp [hj',hw,h1,h2,dZ hj']
theorem ag3 (r0:List (List D))(k0:iH r0=true)(s0:lgL r0=true)(left:Int)(h:0≤left∧left≤1048576):∃m,Kv [.agg [.aL (some 0) r0],vI left] [] []=some ⟨vI m,[],[]⟩∧-1≤m∧m≤left∧(0≤m→sG r0=true):=by
 unfold Kv
 obtain⟨m0,e0,a0,b0,c0⟩:=ab1 r0 k0 s0 left ⟨by omega,by omega⟩
 by_cases n0:m0<0
 ·exact⟨-1,by simp [func49,f49,e0,n0],by omega,by omega,fun h=>by omega⟩
 exact⟨m0,by simp [func49,f49,e0,n0],by omega,by omega,fun _=>(c0 (by omega))⟩
theorem aev (r:List (List D))(k:jf r=true)(s:lgL r=true)(left:Int)(h:0≤left∧left≤1048576):∃m,Gx [.aL (some 0) r,vI left] [] []=some ⟨vI m,[],[]⟩∧-1≤m∧m≤left∧(0≤m→sG r=true):=by
 obtain⟨l,rfl⟩:=Bd k
 have hb:l.length≤9223372036854775807:=by simpa using sQ s
 have hw0:=bN (left-l.length) (by omega)
 unfold Gx
 by_cases n0:left-(l.length:Int)<0
 ·exact⟨-1,by simp [func124,f124,hw0,n0],by omega,by omega,fun h=>by omega⟩
 obtain⟨xs,x0,hxs⟩:=runs l.length (left-l.length) (by omega) (fun j x m=> ∀h:j<l.length,BZ [.agg [.aL (some 0) (ints l[j].av),vI (l[j].At)],vI x] [] []=some ⟨vI m,[],[]⟩∧(0≤m→sG (ints l[j].av)=true)) (fun j x hj h1 h2=>by
  have hl:=adi s (dX hj)
  simp only [oW,uO,Js,E5,Bool.and_true,Bool.true_and,Bool.and_eq_true]at hl
  have hl0:=hl
  obtain⟨m,e1,e2,e3,e4⟩:=KU (ints l[j].av) (by simp) (by simpa using hl0) l[j].At x ⟨h1,by omega⟩
  exact⟨m,fun _=>⟨e1,e4⟩,e2,e3⟩)
 rcases hxs with⟨hx,hp⟩|⟨N,hN,hx,hp,hm⟩
 ·refine⟨xs l.length,?_,by have:=hx l.length (Nat.le_refl _);omega,by have:=hx l.length (Nat.le_refl _);omega,fun _=>Pj (by simp;omega) fun j r e=>?_⟩
  ·simp [func124,f124,hw0,n0]
   rw [aD (fun j=> .on ⟨[(5,V.v (.int .i64 ((j:Int)))),(1,V.v (.int .i64 (xs j))),(0, .aL (some 0) (aG l))],[],[],[]⟩) l.length ?_ ?_]
   ·simp
   ·simp [x0]
   ·intro j hj
    have hw:=bN (j+1) (by omega)
    have h1:=(hp j hj hj).1
    have h2:¬(xs (j+1)<0):=by have:=hx (j+1) (by omega);omega
    simp [hj,hw,h1,h2,dX hj]
  ·have hj:j<l.length:=by have:=(List.getElem?_eq_some_iff.1 e).1;simpa using this
   have h1:=(hp j hj hj).2 (hx (j+1) (by omega)).1
   rw [dX hj]at e
   injection e with e
   subst e
   simpa using h1
 ·refine⟨-1,?_,by omega,by omega,fun h=>by omega⟩
  simp [func124,f124,hw0,n0]
  rw [aD (fun j=> .on ⟨[(5,V.v (.int .i64 ((j:Int)))),(1,V.v (.int .i64 (xs j))),(0, .aL (some 0) (aG l))],[],[],[]⟩) N ?_ ?_]
  ·have h1:=(hp N (Nat.le_refl _) hN).1
   simp [hN,h1,hm,dX hN]
  ·simp [x0]
  ·intro j hj
   have hj':j<l.length:=by omega
   have hw:=bN (j+1) (by omega)
   have h1:=(hp j (by omega) hj').1
   have h2:¬(xs (j+1)<0):=by have:=hx (j+1) (by omega);omega
   simp [hj',hw,h1,h2,dX hj']
theorem ag4 (r0:List (List D))(k0:jf r0=true)(s0:lgL r0=true)(left:Int)(h:0≤left∧left≤1048576):∃m,Kw [.agg [.aL (some 0) r0],vI left] [] []=some ⟨vI m,[],[]⟩∧-1≤m∧m≤left∧(0≤m→sG r0=true):=by
 unfold Kw
 obtain⟨m0,e0,a0,b0,c0⟩:=aev r0 k0 s0 left ⟨by omega,by omega⟩
 by_cases n0:m0<0
 ·exact⟨-1,by simp [func50,f50,e0,n0],by omega,by omega,fun h=>by omega⟩
 exact⟨m0,by simp [func50,f50,e0,n0],by omega,by omega,fun _=>(c0 (by omega))⟩
theorem akq (v0:Bool)(v1:Int)(r2:List (List D))(k2:gD r2=true)(s2:lgL r2=true)(v3:Int)(v4:Int)(v5:Int)(v6:Int)(v7:Int)(v8:Int)(v9:Int)(v10:Int)(MC:List (List D))(k11:iH MC=true)(s11:lgL MC=true)(ME:List (List D))(k12:jf ME=true)(s12:lgL ME=true)(v13:Int)(Ow:List (List D))(k14:gD Ow=true)(s14:lgL Ow=true)(v15:Int)(r16:List (List D))(k16:gD r16=true)(s16:lgL r16=true)(v17:Int)(Qb:List (List D))(k18:gD Qb=true)(s18:lgL Qb=true)(v19:Int)(left:Int)(h:0≤left∧left≤1048576):∃m,Rt [.agg [V.v (.bool v0),vI v1, .aL (some 0) r2,vI v3,vI v4,vI v5,vI v6,vI v7,vI v8,vI v9,vI v10, .aL (some 1) MC, .aL (some 2) ME,vI v13, .aL (some 3) Ow,vI v15, .aL (some 4) r16,vI v17, .aL (some 5) Qb,vI v19],vI left] [] []=some ⟨vI m,[],[]⟩∧-1≤m∧m≤left∧(0≤m→sG r2=true∧sG MC=true∧sG ME=true∧sG Ow=true∧sG r16=true∧sG Qb=true):=by
 unfold Rt
 obtain⟨m0,e0,a0,b0,c0⟩:=KU r2 k2 s2 v3 left ⟨by omega,by omega⟩
 by_cases n0:m0<0
 ·exact⟨-1,by simp [func10,f10,e0,n0],by omega,by omega,fun h=>by omega⟩
 obtain⟨m1,e1,a1,b1,c1⟩:=ag3 MC k11 s11 m0 ⟨by omega,by omega⟩
 by_cases n1:m1<0
 ·exact⟨-1,by simp [func10,f10,e0,n0,e1,n1],by omega,by omega,fun h=>by omega⟩
 obtain⟨m2,e2,a2,b2,c2⟩:=ag4 ME k12 s12 m1 ⟨by omega,by omega⟩
 by_cases n2:m2<0
 ·exact⟨-1,by simp [func10,f10,e0,n0,e1,n1,e2,n2],by omega,by omega,fun h=>by omega⟩
 obtain⟨m3,e3,a3,b3,c3⟩:=KU Ow k14 s14 v15 m2 ⟨by omega,by omega⟩
 by_cases n3:m3<0
 ·exact⟨-1,by simp [func10,f10,e0,n0,e1,n1,e2,n2,e3,n3],by omega,by omega,fun h=>by omega⟩
 obtain⟨m4,e4,a4,b4,c4⟩:=PO r16 k16 s16 m3 ⟨by omega,by omega⟩
 by_cases n4:m4<0
 ·exact⟨-1,by simp [func10,f10,e0,n0,e1,n1,e2,n2,e3,n3,e4,n4],by omega,by omega,fun h=>by omega⟩
 obtain⟨m5,e5,a5,b5,c5⟩:=KU Qb k18 s18 v19 m4 ⟨by omega,by omega⟩
 by_cases n5:m5<0
 ·exact⟨-1,by simp [func10,f10,e0,n0,e1,n1,e2,n2,e3,n3,e4,n4,e5,n5],by omega,by omega,fun h=>by omega⟩
 exact⟨m5,by simp [func10,f10,e0,n0,e1,n1,e2,n2,e3,n3,e4,n4,e5,n5],by omega,by omega,fun _=>⟨(c0 (by omega)),(c1 (by omega)),(c2 (by omega)),(c3 (by omega)),(c4 (by omega)),(c5 (by omega))⟩⟩
theorem PS (r:List (List D))(k:gD r=true)(s:sG r=true):Ca [.aL (some 0) r] [] []=some ⟨.own 0,[],[(0,r)]⟩:=by
 obtain⟨l,rfl⟩:=FD k
 have hb:l.length≤1000000000:=by simpa using l8 s
 have u0:=Fq [D.a (.int .i64 0)] (ints l)
 have u1:=J2 [D.a (.int .i64 0)] (ints l)
 simp at u0 u1
 simp [Ca,func56,f56]
 simp (disch:=omega) only [eB]
 simp
 rw [aD (fun j=> .on ⟨[(4,V.v (.int .i64 ((j:Int)))),(3, .own 2000000000),(0, .aL (some 0) (ints l))],[],[(2000000000,upTo [D.a (.int .i64 0)] (ints l) j)],[]⟩) l.length ?_ ?_]
 ·simp [u1]
 ·simp [u0]
 ·intro j hj
  have hw:=bN (j+1) (by omega)
  have hs:=sM s (aQ hj)
  have h1:=J3 (z:= [D.a (.int .i64 0)]) (rows:=ints l) (j:=j) (by simp;omega)
  have h2:=Oj (z:= [D.a (.int .i64 0)]) (rows:=ints l) (j:=j) (by simpa using hj)
  have h3:=J4 (z:= [D.a (.int .i64 0)]) (aQ hj)
  simp at hs h1
  dsimp only at h3
  simp [hj,hw,hs,aQ hj,h1,h2,h3]
theorem Xl (r0:List (List D))(v1:Int)(k0:gD r0=true)(s0:sG r0=true):EY [.agg [.aL (some 0) r0,vI v1]] [] []=some ⟨.agg [.own 0,vI v1],[],[(0,r0)]⟩:=by
 simp [EY,func53,f53,PS,k0,s0]
theorem aew (r0:List (List D))(k0:gD r0=true)(s0:sG r0=true):Gy [.agg [.aL (some 0) r0]] [] []=some ⟨.agg [.own 0],[],[(0,r0)]⟩:=by
 simp [Gy,func211,f211,PS,k0,s0]
theorem ab2 (r:List (List D))(k:iH r=true)(s:sG r=true):Dy [.aL (some 0) r] [] []=some ⟨.own 0,[],[(0,r)]⟩:=by
 obtain⟨l,rfl⟩:=zJ k
 have hb:l.length≤1000000000:=by simpa using l8 s
 have u0:=Fq [.l []] (aC l)
 have u1:=J2 [.l []] (aC l)
 simp at u0 u1
 simp [Dy,func125,f125]
 simp (disch:=omega) only [eB]
 simp
 rw [aD (fun j=> .on ⟨[(4,V.v (.int .i64 ((j:Int)))),(3, .own 2000000000),(0, .aL (some 0) (aC l))],[],[(2000000000,upTo [.l []] (aC l) j)],[]⟩) l.length ?_ ?_]
 ·simp [u1]
 ·simp [u0]
 ·intro j hj
  have hw:=bN (j+1) (by omega)
  have hs:=sM s (dZ hj)
  have h1:=J3 (z:= [.l []]) (rows:=aC l) (j:=j) (by simp;omega)
  have h2:=Oj (z:= [.l []]) (rows:=aC l) (j:=j) (by simpa using hj)
  have h3:=J4 (z:= [.l []]) (dZ hj)
  simp at hs h1
  dsimp only at h3
  simp [hj,hw,hs,dZ hj,h1,h2,h3,aew]
theorem ag5 (r0:List (List D))(k0:iH r0=true)(s0:sG r0=true):Ky [.agg [.aL (some 0) r0]] [] []=some ⟨.agg [.own 0],[],[(0,r0)]⟩:=by
 simp [Ky,func54,f54,ab2,k0,s0]
theorem aex (r:List (List D))(k:jf r=true)(s:sG r=true):Gz [.aL (some 0) r] [] []=some ⟨.own 0,[],[(0,r)]⟩:=by
 obtain⟨l,rfl⟩:=Bd k
 have hb:l.length≤1000000000:=by simpa using l8 s
 have u0:=Fq [.l [],D.a (.int .i64 0)] (aG l)
 have u1:=J2 [.l [],D.a (.int .i64 0)] (aG l)
 simp at u0 u1
 simp [Gz,func126,f126]
 simp (disch:=omega) only [eB]
 simp
 rw [aD (fun j=> .on ⟨[(4,V.v (.int .i64 ((j:Int)))),(3, .own 2000000000),(0, .aL (some 0) (aG l))],[],[(2000000000,upTo [.l [],D.a (.int .i64 0)] (aG l) j)],[]⟩) l.length ?_ ?_]
 ·simp [u1]
 ·simp [u0]
 ·intro j hj
  have hw:=bN (j+1) (by omega)
  have hs:=sM s (dX hj)
  have h1:=J3 (z:= [.l [],D.a (.int .i64 0)]) (rows:=aG l) (j:=j) (by simp;omega)
  have h2:=Oj (z:= [.l [],D.a (.int .i64 0)]) (rows:=aG l) (j:=j) (by simpa using hj)
  have h3:=J4 (z:= [.l [],D.a (.int .i64 0)]) (dX hj)
  simp at hs h1
  dsimp only at h3
  simp [hj,hw,hs,dX hj,h1,h2,h3,Xl]
theorem ag6 (r0:List (List D))(k0:jf r0=true)(s0:sG r0=true):Kz [.agg [.aL (some 0) r0]] [] []=some ⟨.agg [.own 0],[],[(0,r0)]⟩:=by
 simp [Kz,func55,f55,aex,k0,s0]
theorem akr (v0:Bool)(v1:Int)(r2:List (List D))(v3:Int)(v4:Int)(v5:Int)(v6:Int)(v7:Int)(v8:Int)(v9:Int)(v10:Int)(MC:List (List D))(ME:List (List D))(v13:Int)(Ow:List (List D))(v15:Int)(r16:List (List D))(v17:Int)(Qb:List (List D))(v19:Int)(k2:gD r2=true)(s2:sG r2=true)(k11:iH MC=true)(s11:sG MC=true)(k12:jf ME=true)(s12:sG ME=true)(k14:gD Ow=true)(s14:sG Ow=true)(k16:gD r16=true)(s16:sG r16=true)(k18:gD Qb=true)(s18:sG Qb=true):Ru [.agg [V.v (.bool v0),vI v1, .aL (some 0) r2,vI v3,vI v4,vI v5,vI v6,vI v7,vI v8,vI v9,vI v10, .aL (some 1) MC, .aL (some 2) ME,vI v13, .aL (some 3) Ow,vI v15, .aL (some 4) r16,vI v17, .aL (some 5) Qb,vI v19]] [] []=some ⟨.agg [V.v (.bool v0),vI v1, .own 0,vI v3,vI v4,vI v5,vI v6,vI v7,vI v8,vI v9,vI v10, .own 1, .own 2,vI v13, .own 3,vI v15, .own 4,vI v17, .own 5,vI v19],[],[(0,r2),(1,MC),(2,ME),(3,Ow),(4,r16),(5,Qb)]⟩:=by
 simp [Ru,func12,f12,Xl,ag5,ag6,PS,k2,s2,k11,s11,k12,s12,k14,s14,k16,s16,k18,s18]
theorem Y4 (r:List (List D))(k:vG r=true)(s:sG r=true):Bw [.aL (some 0) r] [] []=some ⟨.own 0,[],[(0,r)]⟩:=by
 obtain⟨l,rfl⟩:=RS k
 have hb:l.length≤1000000000:=by simpa using l8 s
 have u0:=Fq [.a (.string ⟨#[]⟩)] (strs l)
 have u1:=J2 [.a (.string ⟨#[]⟩)] (strs l)
 simp at u0 u1
 simp [Bw,func57,f57]
 simp (disch:=omega) only [eB]
 simp
 rw [aD (fun j=> .on ⟨[(4,V.v (.int .i64 ((j:Int)))),(3, .own 2000000000),(0, .aL (some 0) (strs l))],[],[(2000000000,upTo [.a (.string ⟨#[]⟩)] (strs l) j)],[]⟩) l.length ?_ ?_]
 ·simp [u1]
 ·simp [u0]
 ·intro j hj
  have hw:=bN (j+1) (by omega)
  have hs:=sM s (mE hj)
  have h1:=J3 (z:= [.a (.string ⟨#[]⟩)]) (rows:=strs l) (j:=j) (by simp;omega)
  have h2:=Oj (z:= [.a (.string ⟨#[]⟩)]) (rows:=strs l) (j:=j) (by simpa using hj)
  have h3:=J4 (z:= [.a (.string ⟨#[]⟩)]) (mE hj)
  simp at hs h1
  dsimp only at h3
  simp [hj,hw,hs,mE hj,h1,h2,h3]
theorem ag7 (v0:Int)(r1:List (List D))(k1:vG r1=true)(s1:sG r1=true):KA [.agg [vI v0, .aL (some 0) r1]] [] []=some ⟨.agg [vI v0, .own 0],[],[(0,r1)]⟩:=by
 simp [KA,func13,f13,Y4,k1,s1]
theorem ajh (v0:Int)(v1:Int):ND [aK v0 v1] [] []=some ⟨.agg [vI v0,vI v1],[],[]⟩:=by
 simp [ND,func14,f14]
theorem ag8 (r:List (List D))(k:xE r=true)(s:sG r=true):KH [.aL (some 0) r] [] []=some ⟨.own 0,[],[(0,r)]⟩:=by
 obtain⟨l,rfl⟩:=P9 k
 have hb:l.length≤1000000000:=by simpa using l8 s
 have u0:=Fq [D.a (.int .i64 0),D.a (.int .i64 0)] (fZ l)
 have u1:=J2 [D.a (.int .i64 0),D.a (.int .i64 0)] (fZ l)
 simp at u0 u1
 simp [KH,func22,f22]
 simp (disch:=omega) only [eB]
 simp
 rw [aD (fun j=> .on ⟨[(4,V.v (.int .i64 ((j:Int)))),(3, .own 2000000000),(0, .aL (some 0) (fZ l))],[],[(2000000000,upTo [D.a (.int .i64 0),D.a (.int .i64 0)] (fZ l) j)],[]⟩) l.length ?_ ?_]
 ·simp [u1]
 ·simp [u0]
 ·intro j hj
  have hw:=bN (j+1) (by omega)
  have hs:=sM s (iK hj)
  have h1:=J3 (z:= [D.a (.int .i64 0),D.a (.int .i64 0)]) (rows:=fZ l) (j:=j) (by simp;omega)
  have h2:=Oj (z:= [D.a (.int .i64 0),D.a (.int .i64 0)]) (rows:=fZ l) (j:=j) (by simpa using hj)
  have h3:=J4 (z:= [D.a (.int .i64 0),D.a (.int .i64 0)]) (iK hj)
  simp at hs h1
  dsimp only at h3
  simp [hj,hw,hs,iK hj,h1,h2,h3,ajh]
theorem Y5 (l:List ByteArray)(hs:∀s∈l,s.size≤9223372036854775807)(hl:l.length≤9223372036854775807)(left:Int)(h:0≤left∧left≤1048576):∃m,Bv [.aL (some 0) (strs l),vI left] [] []=some ⟨vI m,[],[]⟩∧-1≤m∧m≤left∧(0≤m→l.length≤1048576∧∀s∈l,s.size≤1048576):=by
 have hw0:=bN (left-l.length) (by omega)
 unfold Bv
 by_cases n0:left-(l.length:Int)<0
 ·exact⟨-1,by simp [func52,f52,hw0,n0],by omega,by omega,fun h=>by omega⟩
 obtain⟨xs,x0,hxs⟩:=runs l.length (left-l.length) (by omega) (fun j x m=> ∀h:j<l.length,m=if x-l[j].size<0 then -1 else x-l[j].size) (fun j x hj h1 h2=>by
  refine⟨if x-l[j].size<0 then -1 else x-l[j].size,fun _=>rfl,?_,?_⟩<;>split<;>omega)
 rcases hxs with⟨hx,hp⟩|⟨N,hN,hx,hp,hm⟩
 ·refine⟨xs l.length,?_,by have:=hx l.length (Nat.le_refl _);omega,by have:=hx l.length (Nat.le_refl _);omega,fun _=>⟨by omega,fun s hs=>?_⟩⟩
  ·simp [func52,f52,hw0,n0]
   rw [aD (fun j=> .on ⟨[(5,V.v (.int .i64 ((j:Int)))),(1,V.v (.int .i64 (xs j))),(0, .aL (some 0) (strs l))],[],[],[]⟩) l.length ?_ ?_]
   ·simp
   ·simp [x0]
   ·intro j hj
    have hw:=bN ((j:Int)+1) (by omega)
    have h1:=hp j hj hj
    have h2:=hx j (by omega)
    have h3:=hx (j+1) (by omega)
    have hz:=hs _ (List.getElem_mem hj)
    have hw2:=bN (xs j-l[j].size) (by omega)
    have hc:¬xs j-(l[j].size:Int)<0:=fun q=>by rw [if_pos q]at h1;omega
    rw [if_neg hc]at h1
    simp [hj,hw,hw2,mE hj,hc,h1]
  ·obtain⟨j,hj,rfl⟩:=List.getElem_of_mem hs
   have h1:=hp j hj hj
   have h2:=hx j (by omega)
   have h3:=hx (j+1) (by omega)
   by_cases hc:xs j-(l[j].size:Int)<0
   ·rw [if_pos hc]at h1;omega
   ·omega
 ·refine⟨-1,?_,by omega,by omega,fun h=>by omega⟩
  simp [func52,f52,hw0,n0]
  rw [aD (fun j=> .on ⟨[(5,V.v (.int .i64 ((j:Int)))),(1,V.v (.int .i64 (xs j))),(0, .aL (some 0) (strs l))],[],[],[]⟩) N ?_ ?_]
  ·have h1:=hp N (Nat.le_refl _) hN
   have h2:=hx N (Nat.le_refl _)
   have hz:=hs _ (List.getElem_mem hN)
   have hw2:=bN (xs N-l[N].size) (by omega)
   have hc:xs N-(l[N].size:Int)<0:=Classical.byContradiction fun q=>by rw [if_neg q,hm]at h1;omega
   simp [hN,mE hN,hw2,hc]
  ·simp [x0]
  ·intro j hj
   have hjl:j<l.length:=by omega
   have hw:=bN ((j:Int)+1) (by omega)
   have h1:=hp j (by omega) hjl
   have h2:=hx j (by omega)
   have h3:=hx (j+1) (by omega)
   have hz:=hs _ (List.getElem_mem hjl)
   have hw2:=bN (xs j-l[j].size) (by omega)
   have hc:¬xs j-(l[j].size:Int)<0:=fun q=>by rw [if_pos q]at h1;omega
   rw [if_neg hc]at h1
   simp [hjl,hw,hw2,mE hjl,hc,h1]
theorem ag9 (f:Int)(l:List ByteArray)(hs:∀s∈l,s.size≤9223372036854775807)(hl:l.length≤9223372036854775807)(left:Int)(h:0≤left∧left≤1048576):∃m,EX [.agg [vI f, .aL (some 0) (strs l)],vI left] [] []=some ⟨vI m,[],[]⟩∧-1≤m∧m≤left∧(0≤m→l.length≤1048576∧∀s∈l,s.size≤1048576):=by
 obtain⟨m,e1,e2,e3,e4⟩:=Y5 l hs hl left h
 by_cases n0:m<0
 ·exact⟨-1,by unfold EX;simp [func11,f11,e1,n0],by omega,by omega,fun h=>by omega⟩
 ·exact⟨m,by unfold EX;simp [func11,f11,e1,n0],e2,e3,e4⟩
theorem amS:∀(m k:Nat),k<10 ^ m→∃n,n≤m∧k / 10 ^ n=0∧∀j,j<n→0<k / 10 ^ j
 | 0,k,h=>⟨0,Nat.le_refl _,by simpa using h,fun j hj=>by omega⟩
 | m+1,k,h=>by
  by_cases c:k / 10 ^ m=0
  ·have hk:k<10 ^ m:=(Nat.div_eq_zero_iff.1 c).resolve_left (Nat.pos_iff_ne_zero.1 (Nat.pow_pos (by omega)))
   obtain⟨n,h1,h2,h3⟩:=amS m k hk
   exact⟨n,by omega,h2,h3⟩
  ·refine⟨m+1,Nat.le_refl _,Nat.div_eq_of_lt h,fun j hj=>?_⟩
   have h1:10 ^ j≤10 ^ m:=Nat.pow_le_pow_right (by omega) (by omega)
   have h2:k / 10 ^ m≤k / 10 ^ j:=Nat.div_le_div_left h1 (Nat.pow_pos (by omega))
   exact Nat.lt_of_lt_of_le (Nat.pos_of_ne_zero c) h2
theorem Y6 (k:Nat)(hk:k≤7000000000000000000):∃s:ByteArray,Ao [vI (k:Int)] [] []=some ⟨V.v (.string s),[],[]⟩:=by
 obtain⟨n,n1,n2,n3⟩:=amS 19 k (Nat.lt_of_le_of_lt hk (by decide))
 generalize hE:Ao _ _ _=R
 unfold Ao at hE
 by_cases h0:k=0
 ·subst h0
  simp [func131,f131]at hE
  exact⟨_,hE.symm⟩
 have c0:¬(k:Int)≤0:=by omega
 simp [func131,f131,c0,h0]at hE
 generalize hL:yJ _ _=L at hE
 obtain⟨a,⟨i1,i2⟩,hR⟩:=aaR hL (σ:=ByteArray) (fun j a=> .on ⟨[(3,V.v (.string a)),(0,V.v (.int .i64 (((k / 10 ^ j:Nat):Int))))],[],[],[]⟩) n (fun j a=>a.size=j∧True) ⟨#[]⟩ (by simp) ⟨rfl,trivial⟩ (fun j a hj ⟨ha,_⟩=>by
  have h1:=n3 j hj
  have h2:(0:Int)<((k / 10 ^ j:Nat):Int):=by omega
  have h3:k / 10 ^ (j+1)=k / 10 ^ j / 10:=by rw [Nat.pow_succ,Nat.div_div_eq_div_mul]
  have hle:k / 10 ^ j≤k:=Nat.div_le_self _ _
  rw [h3]
  generalize k / 10 ^ j=x at*
  have h4:((x:Int)).tmod 10=((x%10:Nat):Int):=rfl
  have w1:=bN (48+(x:Int)%10) (by omega)
  have hz:∀u:UInt8,((⟨#[u]⟩:ByteArray).size:Nat)=1:=fun _=>rfl
  have g:1+a.size≤9223372036854775807:=by omega
  have w2:=bN ((x:Int).tdiv 10) (by rw [show (x:Int).tdiv 10=((x / 10:Nat):Int)from rfl];omega)
  have h5:(x:Int).tdiv 10=((x / 10:Nat):Int):=rfl
  have h6:IntKind.i64.wrap ((x:Int) / 10)=(x:Int) / 10:=bN _ (by omega)
  simp [h1,h2,h4,h5,h6,w1,w2,hz,g]
  omega)
 have hn:(k / 10 ^ n:Nat)=0:=n2
 have g:1+a.size≤9223372036854775807:=by omega
 have hz:(⟨#[109]⟩:ByteArray).size=1:=rfl
 simp [hn,hz,g]at hR
 subst hR
 simp [hz,g]at hE
 exact⟨_,hE.symm⟩
theorem aha (l:List ByteArray)(j:Nat)(s:ByteArray):(strs l).set j [.a (.string s)]=strs (l.set j s):=tC.UE l j s
theorem Ri (l:List ByteArray)(x:Nat)(h:x+l.length≤7000000000000000000):∃l',ug [.own 0,vI (x:Int)] [] [strs l]=some ⟨vI ((x:Int)+l.length),[],[(0,strs l')]⟩:=by
 generalize hE:ug _ _ _=R
 simp [ug,func65,f65]at hE
 generalize hL:yJ _ _=L at hE
 obtain⟨a,i1,hR⟩:=aaR hL (σ:=List ByteArray) (fun j a=> .on ⟨[(5,V.v (.int .i64 ((j:Int)))),(1,V.v (.int .i64 ((x:Int)+j))),(0, .own 1000000000)],[],[(1000000000,strs a)],[]⟩) l.length (fun j a=>a.length=l.length) l (by simp) rfl (fun j a hj ha=>by
  obtain⟨s,hs⟩:=Y6 (x+j) (by omega)
  rw [Int.natCast_add]at hs
  have w1:=bN ((j:Int)+1) (by omega)
  have w2:=bN ((x:Int)+((j:Int)+1)) (by omega)
  have hj2:j<a.length:=by omega
  have hset:=aha a j s
  refine⟨a.set j s,by simpa using ha,?_⟩
  simp [hj,hj2,ha,hs,w1,w2,hset,Int.add_assoc])
 simp [i1]at hR
 subst hR
 simp at hE
 exact⟨_,hE.symm⟩
theorem Y7 (f:Int)(l:List ByteArray)(x:Nat)(h:x+l.length≤7000000000000000000):∃l',DC [.agg [vI f, .own 0],vI (x:Int)] [] [strs l]=some ⟨vI ((x:Int)+l.length),[],[(0,strs l')]⟩:=by
 obtain⟨l',e1⟩:=Ri l x h
 refine⟨l',?_⟩
 simp [DC,func18,f18,e1]
set_option maxHeartbeats 16000000
theorem aji {l:List ByteArray}(h:okD (.l (strs l))=true):∀s∈l,s.size≤9223372036854775807:=by
 have h2:okT (strs l)=true:=by
  have h:(decide ((strs l).length≤9223372036854775807)&&okT (strs l))=true:=h
  rw [Bool.and_eq_true]at h;exact h.2
 induction l with
 | nil=>intro s hs;cases hs
 | cons a l ih=>
  have h3:(Az [.a (.string a)]&&okT (strs l))=true:=h2
  rw [Bool.and_eq_true]at h3
  intro s hs
  rcases List.mem_cons.1 hs with rfl|hs
  ·have h4:((decide (s.size≤9223372036854775807))&&Az [])=true:=h3.1
   rw [Bool.and_eq_true]at h4
   exact of_decide_eq_true h4.1
  ·refine ih ?_ h3.2 s hs
   have h:(decide ((strs (a::l)).length≤9223372036854775807)&&okT (strs (a::l)))=true:=h
   rw [Bool.and_eq_true,decide_eq_true_eq]at h
   show(decide ((strs l).length≤9223372036854775807)&&okT (strs l))=true
   rw [Bool.and_eq_true,decide_eq_true_eq]
   exact⟨by have:=h.1;simp at this⊢;omega,h3.2⟩
theorem ajj {p:dw×Int}(h:fO p.1):MkB p.1:=by
 obtain⟨r1,r2⟩:=xq h.ring
 obtain⟨u1,u2⟩:=pW h.undo
 exact⟨by have:=(bU h.line).1;omega,by have:=(bU h.own).1;omega,by have:=(bU h.back).1;omega,by have:=h.ql;omega,by omega,fun p hp=>by have:=(r2 p hp).2.1;omega,by omega,fun p hp=>by have:=(bU (u2 p hp)).1;omega⟩
def yG (ks:List mF)(j:Nat):mF:=ks.getD j ⟨0,0⟩
noncomputable def mO (e:dw)(f:Int)(l:List ByteArray)(ks:List mF):Nat→dw
 | 0=>e
 | j+1=>(rR (mO e f l ks j) f l (yG ks j).Kind (yG ks j).R).1
noncomputable def afi (e:dw)(f:Int)(l:List ByteArray)(ks:List mF)(j:Nat):Int:=(rR (mO e f l ks j) f l (yG ks j).Kind (yG ks j).R).2
noncomputable def vg (e:dw)(f:Int)(l:List ByteArray)(ks:List mF)(n:Nat):List Int:=(List.range n).map (afi e f l ks)
def J5 (ks:List mF):Bool:=ks.all fun k=>ji k.Kind k.R
theorem Y8 {ks:List mF}{j:Nat}(h:j<ks.length):yG ks j=ks[j]:=by unfold yG;rw [List.getD_eq_getElem?_getD,List.getElem?_eq_getElem h];rfl
theorem PU {ks:List mF}(h:J5 ks=true){j:Nat}(hj:j<ks.length):ji (yG ks j).Kind (yG ks j).R=true:=by
 rw [Y8 hj];exact List.all_eq_true.1 h _ (List.getElem_mem hj)
theorem QU (e:dw)(f:Int)(l:List ByteArray)(ks:List mF)(n:Nat):vg e f l ks (n+1)=vg e f l ks n++ [afi e f l ks n]:=by
 unfold vg;rw [List.range_succ,List.map_append];rfl
@[simp] theorem MB (e:dw)(f:Int)(l:List ByteArray)(ks:List mF)(n:Nat):(vg e f l ks n).length=n:=by unfold vg;simp
@[simp] theorem ak1 (e:dw)(f:Int)(l:List ByteArray)(ks:List mF):vg e f l ks 0= []:=rfl
theorem Ou {e:dw}{f:Int}{l:List ByteArray}{ks:List mF}(he:fO e)(hh:iB f l)(hk:J5 ks=true):∀j,j≤ks.length→fO (mO e f l ks j)
 | 0,_=>he
 | j+1,h=>fO.key (Ou he hh hk j (by omega)) hh (PU hk (by omega))
def PW (a b c:Nat)(f:Int)(l:List ByteArray)(ks:List mF)(x:dw)(A:List Int)(j:Nat):Q:= .on ⟨[(a,V.v (.int .i64 ((j:Int)))),(b,V.v (.int .i64 ((ks.length:Int)))),(c, .aL (some 7) (fZ ks)),(11, .own 2000000000),(10, .ref 10 0),(6, .ref 6 0),(4, .ref 4 0)],
 [(10,[V.v (.bool x.Vi),vI x.bR, .own 2000000001,vI x.au.At,vI x.bA,vI x.Op,vI x.bH,vI x.eY,vI x.dN,vI x.bG,vI x.iA, .own 2000000002, .own 2000000003,vI x.jT, .own 2000000004,vI x.gG.At, .own 2000000005,vI x.kV, .own 2000000006,vI x.bT.At]),(6,[V.v (.bool false),vI 0, .own 2000000007,vI 0,vI 0,vI 0,vI 0,vI 0,vI 0,vI 0,vI 0, .own 2000000008, .own 2000000009,vI 0, .own 2000000010,vI 0, .own 2000000011,vI 0, .own 2000000012,vI 0]),(4,[vI f, .aL (some 6) (strs l)])],
 [(2000000012,[]),(2000000011,[]),(2000000010,[]),(2000000009,[]),(2000000008,[]),(2000000007,[]),(2000000006,ints x.bT.av),(2000000005,ints x.bI),(2000000004,ints x.gG.av),(2000000003,aG x.eO.bP),(2000000002,aC x.aM.aA),(2000000001,ints x.au.av),(2000000000,ints A)],[]⟩
def VB (a b c:Nat)(f:Int)(l:List ByteArray)(ks:List mF)(x:dw)(A:List Int)(j:Nat):Q:= .on ⟨[(a,V.v (.int .i64 ((j:Int)))),(b,V.v (.int .i64 ((ks.length:Int)))),(c, .aL (some 7) (fZ ks)),(11, .own 2000000000),(10, .ref 10 0),(6, .ref 6 0),(4, .ref 4 0)],
 [(10,[V.v (.bool x.Vi),vI x.bR, .own 2000000001,vI x.au.At,vI x.bA,vI x.Op,vI x.bH,vI x.eY,vI x.dN,vI x.bG,vI x.iA, .own 2000000002, .own 2000000003,vI x.jT, .own 2000000004,vI x.gG.At, .aL none [],vI x.kV, .own 2000000005,vI x.bT.At]),(6,[V.v (.bool false),vI 0, .own 2000000006,vI 0,vI 0,vI 0,vI 0,vI 0,vI 0,vI 0,vI 0, .own 2000000007, .own 2000000008,vI 0, .own 2000000009,vI 0, .own 2000000010,vI 0, .own 2000000011,vI 0]),(4,[vI f, .aL (some 6) (strs l)])],
 [(2000000011,[]),(2000000010,[]),(2000000009,[]),(2000000008,[]),(2000000007,[]),(2000000006,[]),(2000000005,ints x.bT.av),(2000000004,ints x.gG.av),(2000000003,aG x.eO.bP),(2000000002,aC x.aM.aA),(2000000001,ints x.au.av),(2000000000,ints A)],[]⟩
def ahb (a b c:Nat)(f:Int)(l:List ByteArray)(ks:List mF)(x:dw)(A:List Int)(j:Nat):Q:= .on ⟨[(a,V.v (.int .i64 ((j:Int)))),(b,V.v (.int .i64 ((ks.length:Int)))),(c, .aL (some 7) (fZ ks)),(11, .own 2000000000),(10, .ref 10 0),(6, .ref 6 0),(4, .ref 4 0)],
 [(10,[V.v (.bool x.Vi),vI x.bR, .own 2000000001,vI x.au.At,vI x.bA,vI x.Op,vI x.bH,vI x.eY,vI x.dN,vI x.bG,vI x.iA, .own 2000000002, .aL none [],vI x.jT, .own 2000000003,vI x.gG.At, .own 2000000004,vI x.kV, .own 2000000005,vI x.bT.At]),(6,[V.v (.bool false),vI 0, .own 2000000006,vI 0,vI 0,vI 0,vI 0,vI 0,vI 0,vI 0,vI 0, .own 2000000007, .own 2000000008,vI 0, .own 2000000009,vI 0, .own 2000000010,vI 0, .own 2000000011,vI 0]),(4,[vI f, .aL (some 6) (strs l)])],
 [(2000000011,[]),(2000000010,[]),(2000000009,[]),(2000000008,[]),(2000000007,[]),(2000000006,[]),(2000000005,ints x.bT.av),(2000000004,ints x.bI),(2000000003,ints x.gG.av),(2000000002,aC x.aM.aA),(2000000001,ints x.au.av),(2000000000,ints A)],[]⟩
def VD (p:Nat)(a b c:Nat)(f:Int)(l:List ByteArray)(ks:List mF)(x:dw)(A:List Int)(j:Nat):Q:=if p=0 then PW a b c f l ks x A j else if p=1 then VB a b c f l ks x A j else ahb a b c f l ks x A j
theorem Y9 (e:dw)(hsm:e.sm)(f:Int)(l:List ByteArray)(ks:List mF)(hks:ks.length≤1000000000)(h:¬(e.ok=true∧AA f l=true∧J5 ks=true)):qJ [gL e,aH f l, .aL (some 7) (fZ ks)] [] []=some ⟨.fU [.agg [V.v (.bool false),vI 0, .own 0,vI 0,vI 0,vI 0,vI 0,vI 0,vI 0,vI 0,vI 0, .own 1, .own 2,vI 0, .own 3,vI 0, .own 4,vI 0, .own 5,vI 0], .own 6],[],[(0,[]),(1,[]),(2,[]),(3,[]),(4,[]),(5,[]),(6,[])]⟩:=by
 have e1:=aeh e hsm
 have e2:=Lx f l
 generalize hE:qJ _ _ _=R
 unfold qJ at hE
 cases h1:e.ok
 ·rw [h1]at e1
  simp [-ak,func23,f23,e1]at hE
  exact hE.symm
 cases h2:AA f l
 ·rw [h1]at e1;rw [h2]at e2
  simp [-ak,func23,f23,e1,e2]at hE
  exact hE.symm
 rw [h1]at e1;rw [h2]at e2
 rcases j4 (fun k:mF=>ji k.Kind k.R) ks with hall|⟨hall,N,hN,h3,h4⟩
 ·exact absurd ⟨h1,h2,hall⟩ h
 simp [-ak,func23,f23,e1,e2]at hE
 rw [aD (fun j=> .on ⟨[(27,V.v (.int .i64 ((j:Int)))),(26,V.v (.int .i64 ((ks.length:Int)))),(25, .aL (some 7) (fZ ks)),(6, .ref 6 0),(4, .ref 4 0),(3, .ref 3 0),(2, .aL (some 7) (fZ ks))],[(6,[V.v (.bool false),vI 0, .own 2000000000,vI 0,vI 0,vI 0,vI 0,vI 0,vI 0,vI 0,vI 0, .own 2000000001, .own 2000000002,vI 0, .own 2000000003,vI 0, .own 2000000004,vI 0, .own 2000000005,vI 0]),(4,[vI f, .aL (some 6) (strs l)]),(3,[V.v (.bool e.Vi),vI e.bR, .aL (some 0) (ints e.au.av),vI e.au.At,vI e.bA,vI e.Op,vI e.bH,vI e.eY,vI e.dN,vI e.bG,vI e.iA, .aL (some 1) (aC e.aM.aA), .aL (some 2) (aG e.eO.bP),vI e.jT, .aL (some 3) (ints e.gG.av),vI e.gG.At, .aL (some 4) (ints e.bI),vI e.kV, .aL (some 5) (ints e.bT.av),vI e.bT.At])],[(2000000005,[]),(2000000004,[]),(2000000003,[]),(2000000002,[]),(2000000001,[]),(2000000000,[])],[]⟩) N ?_ ?_]at hE
 ·have e3:=Hg ks[N].Kind ks[N].R
  rw [h3]at e3
  simp [-ak,hN,iK hN,e3]at hE
  exact hE.symm
 ·simp
 ·intro j hj
  have hjl:j<ks.length:=by omega
  have hw:=bN ((j:Int)+1) (by omega)
  have e3:=Hg ks[j].Kind ks[j].R
  rw [h4 j hjl hj]at e3
  simp [-ak,hjl,hw,iK hjl,e3]
noncomputable def iPh (e:dw)(f:Int)(l:List ByteArray)(ks:List mF):Nat→Nat
 | 0=>0
 | j+1=>if j6 (mO e f l ks j) (yG ks j).Kind then 1 else 0
theorem aey {x:dw}{f:Int}{l:List ByteArray}{k r:Int}(h:j6 x k):(rR x f l k r).1.bI= []:=by
 obtain⟨w1,w2,w3⟩:=h
 have hne:¬x.bI= []:=fun q=>by rw [q]at w3;cases w3
 unfold rR zP
 rw [if_neg (by omega),if_pos w1,if_neg (by omega),if_neg (by omega),if_pos w2,if_neg hne]
 exact List.eq_nil_of_length_eq_zero (by rw [List.length_dropLast,w3])
theorem ak2 (e:dw)(f:Int)(l:List ByteArray)(ks:List mF):∀j,iPh e f l ks j=0∨(iPh e f l ks j=1∧(mO e f l ks j).bI= [])
 | 0=> .inl rfl
 | j+1=>by
  show(if j6 (mO e f l ks j) (yG ks j).Kind then 1 else 0)=0∨((if j6 (mO e f l ks j) (yG ks j).Kind then 1 else 0)=1∧_)
  by_cases h:j6 (mO e f l ks j) (yG ks j).Kind
  ·rw [if_pos h];exact .inr ⟨rfl,aey h⟩
  ·rw [if_neg h];exact .inl rfl
abbrev kL0 (x:dw)(A:List Int):A9:=⟨.fU [gO x, .own 6],[],[(0,ints x.au.av),(1,aC x.aM.aA),(2,aG x.eO.bP),(3,ints x.gG.av),(4,ints x.bI),(5,ints x.bT.av),(6,ints A)]⟩
abbrev kL1 (x:dw)(A:List Int):A9:=⟨.fU [edW x, .own 5],[],[(0,ints x.au.av),(1,aC x.aM.aA),(2,aG x.eO.bP),(3,ints x.gG.av),(4,ints x.bT.av),(5,ints A)]⟩
theorem VE (e:dw)(he:fO e)(f:Int)(l:List ByteArray)(hh:iB f l)(ks:List mF)(hks:ks.length≤1000000000)(hk:J5 ks=true):qJ [gL e,aH f l, .aL (some 7) (fZ ks)] [] []=
  some (if iPh e f l ks ks.length=0 then kL0 (mO e f l ks ks.length) (vg e f l ks ks.length)else kL1 (mO e f l ks ks.length) (vg e f l ks ks.length)):=by
 have e1:=NQ e (fD.2 he)
 have e2:=Lx f l
 rw [PN.2 hh]at e2
 have e3:=eF e he
 generalize hE:qJ _ _ _=R
 simp [qJ, -ak,func23,f23,e1,e2]at hE
 rw [aD (fun j=> .on ⟨[(27,V.v (.int .i64 ((j:Int)))),(26,V.v (.int .i64 ((ks.length:Int)))),(25, .aL (some 7) (fZ ks)),(6, .ref 6 0),(4, .ref 4 0),(3, .ref 3 0),(2, .aL (some 7) (fZ ks))],[(6,[V.v (.bool false),vI 0, .own 2000000000,vI 0,vI 0,vI 0,vI 0,vI 0,vI 0,vI 0,vI 0, .own 2000000001, .own 2000000002,vI 0, .own 2000000003,vI 0, .own 2000000004,vI 0, .own 2000000005,vI 0]),(4,[vI f, .aL (some 6) (strs l)]),(3,[V.v (.bool e.Vi),vI e.bR, .aL (some 0) (ints e.au.av),vI e.au.At,vI e.bA,vI e.Op,vI e.bH,vI e.eY,vI e.dN,vI e.bG,vI e.iA, .aL (some 1) (aC e.aM.aA), .aL (some 2) (aG e.eO.bP),vI e.jT, .aL (some 3) (ints e.gG.av),vI e.gG.At, .aL (some 4) (ints e.bI),vI e.kV, .aL (some 5) (ints e.bT.av),vI e.bT.At])],[(2000000005,[]),(2000000004,[]),(2000000003,[]),(2000000002,[]),(2000000001,[]),(2000000000,[])],[]⟩) ks.length ?_ ?_]at hE
 ·simp [-ak,e3]at hE
  rw [aD (fun j=>VD (iPh e f l ks j) 40 39 38 f l ks (mO e f l ks j) (vg e f l ks j) j) ks.length ?_ ?_]at hE
  ·generalize mO e f l ks ks.length=x at*
   generalize vg e f l ks ks.length=A at*
   rcases ak2 e f l ks ks.length with h0|⟨h0, -⟩
   ·rw [h0]at hE⊢
    simp [-ak,VD,PW]at hE
    rw [if_pos rfl]
    exact hE.symm
   ·rw [h0]at hE⊢
    simp [-ak,VD,VB]at hE
    rw [if_neg (by decide)]
    exact hE.symm
  ·simp [-ak,VD,PW,iPh,mO];rfl
  ·intro j hj
   have hok:=Ou he hh hk j (by omega)
   have e5:=ajc (mO e f l ks j) hok hh (yG ks j).Kind (yG ks j).R (PU hk hj)
   have hw:=bN ((j:Int)+1) (by omega)
   have hl:=MB e f l ks j
   have g1:(j+1)*8≤140737488355328:=by omega
   have g2:j+1≤4611686018427387904:=by omega
   have hka:=Y8 hj
   rw [QU]
   unfold afi
   show _=some (_,VD (if j6 (mO e f l ks j) (yG ks j).Kind then 1 else 0) _ _ _ _ _ _ (rR (mO e f l ks j) f l (yG ks j).Kind (yG ks j).R).1 _ _)
   have hq:=ak2 e f l ks j
   generalize vg e f l ks j=A at*
   generalize iPh e f l ks j=ph at*
   generalize mO e f l ks j=x at*
   have hwq:= @aey x f l (yG ks j).Kind (yG ks j).R
   rw [hka]at*
   generalize rR x f l ks[j].Kind ks[j].R=p at*
   unfold kX at e5
   clear hka
   rcases hq with rfl|⟨rfl,hq⟩
   ·by_cases c:j6 x ks[j].Kind
    ·rw [if_pos c]at e5
     rw [if_pos c]
     simp [-ak,VD,PW,VB,hj,hw,hl,g1,g2,iK hj,e5]
     rw [ak];rfl
    ·rw [if_neg c]at e5
     rw [if_neg c]
     simp [-ak,VD,PW,VB,hj,hw,hl,g1,g2,iK hj,e5]
     rw [ak];rfl
   ·simp only [gL,gO,hO,hq,aZ]at e5
    by_cases c:j6 x ks[j].Kind
    ·exact absurd c.2.2 (by rw [hq];simp)
    ·rw [if_neg c]at e5
     rw [if_neg c]
     simp [-ak,VD,PW,VB,hj,hw,hl,g1,g2,iK hj,e5]
     rw [ak];rfl
 ·simp
 ·intro j hj
  have hw:=bN ((j:Int)+1) (by omega)
  have e4:=Hg ks[j].Kind ks[j].R
  rw [List.all_eq_true.1 hk _ (List.getElem_mem hj)]at e4
  simp [-ak,hj,hw,iK hj,e4]
theorem Za (e:dw)(hsm:e.sm)(f:Int)(l:List ByteArray)(hl:l.length≤1000000000)(ks:List mF)(hks:ks.length≤1000000000)(h:¬(e.ok=true∧AA f l=true∧J5 ks=true)):qI [gL e,aH f l, .aL (some 7) (fZ ks)] [] []=some ⟨.fU [.agg [V.v (.bool false),vI 0, .own 0,vI 0,vI 0,vI 0,vI 0,vI 0,vI 0,vI 0,vI 0, .own 1, .own 2,vI 0, .own 3,vI 0, .own 4,vI 0, .own 5,vI 0], .own 6],[],[(0,[]),(1,[]),(2,[]),(3,[]),(4,[]),(5,[]),(6,[])]⟩:=by
 have e1:=Mx e hsm
 have e2:=LA f l hl
 generalize hE:qI _ _ _=R
 unfold qI at hE
 cases h1:e.ok
 ·rw [h1]at e1
  simp [-ak,func21,f21,e1]at hE
  exact hE.symm
 cases h2:AA f l
 ·rw [h1]at e1;rw [h2]at e2
  simp [-ak,func21,f21,e1,e2]at hE
  exact hE.symm
 rw [h1]at e1;rw [h2]at e2
 rcases j4 (fun k:mF=>ji k.Kind k.R) ks with hall|⟨hall,N,hN,h3,h4⟩
 ·exact absurd ⟨h1,h2,hall⟩ h
 simp [-ak,func21,f21,e1,e2]at hE
 rw [aD (fun j=> .on ⟨[(27,V.v (.int .i64 ((j:Int)))),(26,V.v (.int .i64 ((ks.length:Int)))),(25, .aL (some 7) (fZ ks)),(6, .ref 6 0),(4, .ref 4 0),(3, .ref 3 0),(2, .aL (some 7) (fZ ks))],[(6,[V.v (.bool false),vI 0, .own 2000000000,vI 0,vI 0,vI 0,vI 0,vI 0,vI 0,vI 0,vI 0, .own 2000000001, .own 2000000002,vI 0, .own 2000000003,vI 0, .own 2000000004,vI 0, .own 2000000005,vI 0]),(4,[vI f, .aL (some 6) (strs l)]),(3,[V.v (.bool e.Vi),vI e.bR, .aL (some 0) (ints e.au.av),vI e.au.At,vI e.bA,vI e.Op,vI e.bH,vI e.eY,vI e.dN,vI e.bG,vI e.iA, .aL (some 1) (aC e.aM.aA), .aL (some 2) (aG e.eO.bP),vI e.jT, .aL (some 3) (ints e.gG.av),vI e.gG.At, .aL (some 4) (ints e.bI),vI e.kV, .aL (some 5) (ints e.bT.av),vI e.bT.At])],[(2000000005,[]),(2000000004,[]),(2000000003,[]),(2000000002,[]),(2000000001,[]),(2000000000,[])],[]⟩) N ?_ ?_]at hE
 ·have e3:=nJ ks[N].Kind ks[N].R
  rw [h3]at e3
  simp [-ak,hN,iK hN,e3]at hE
  exact hE.symm
 ·simp
 ·intro j hj
  have hjl:j<ks.length:=by omega
  have hw:=bN ((j:Int)+1) (by omega)
  have e3:=nJ ks[j].Kind ks[j].R
  rw [h4 j hjl hj]at e3
  simp [-ak,hjl,hw,iK hjl,e3]
noncomputable def sPh (e:dw)(f:Int)(l:List ByteArray)(ks:List mF):Nat→Nat
 | 0=>0
 | j+1=>if yM (mO e f l ks j) (yG ks j).Kind (yG ks j).R then 2 else if j6 (mO e f l ks j) (yG ks j).Kind then 1 else 0
theorem ajk {x:dw}(he:fO x){f:Int}{l:List ByteArray}(hh:iB f l){k r:Int}(h:yM x k r):(rR x f l k r).1.eO.bP= []:=by
 rw [UD x he hh k r h.1]
 obtain⟨y,hy⟩:=List.length_eq_one_iff.1 h.2
 unfold nQ;rw [hy];rfl
theorem ajl {e:dw}{f:Int}{l:List ByteArray}{ks:List mF}(he:fO e)(hh:iB f l)(hk:J5 ks=true):∀j,j≤ks.length→sPh e f l ks j=0∨(sPh e f l ks j=1∧(mO e f l ks j).bI= [])∨(sPh e f l ks j=2∧(mO e f l ks j).eO.bP= [])
 | 0,_=> .inl rfl
 | j+1,hj=>by
  show(if yM (mO e f l ks j) (yG ks j).Kind (yG ks j).R then 2 else if j6 (mO e f l ks j) (yG ks j).Kind then 1 else 0)=0∨((if yM (mO e f l ks j) (yG ks j).Kind (yG ks j).R then 2 else if j6 (mO e f l ks j) (yG ks j).Kind then 1 else 0)=1∧_)∨((if yM (mO e f l ks j) (yG ks j).Kind (yG ks j).R then 2 else if j6 (mO e f l ks j) (yG ks j).Kind then 1 else 0)=2∧_)
  by_cases hu:yM (mO e f l ks j) (yG ks j).Kind (yG ks j).R
  ·rw [if_pos hu];exact .inr (.inr ⟨rfl,ajk (Ou he hh hk j (by omega)) hh hu⟩)
  rw [if_neg hu]
  by_cases h:j6 (mO e f l ks j) (yG ks j).Kind
  ·rw [if_pos h];exact .inr (.inl ⟨rfl,aey h⟩)
  ·rw [if_neg h];exact .inl rfl
abbrev kL2 (x:dw)(A:List Int):A9:=⟨.fU [edU x, .own 5],[],[(0,ints x.au.av),(1,aC x.aM.aA),(2,ints x.gG.av),(3,ints x.bI),(4,ints x.bT.av),(5,ints A)]⟩
noncomputable def kL (p:Nat)(x:dw)(A:List Int):A9:=if p=0 then kL0 x A else if p=1 then kL1 x A else kL2 x A
theorem VF (e:dw)(he:fO e)(f:Int)(l:List ByteArray)(hh:iB f l)(ks:List mF)(hks:ks.length≤1000000000)(hk:J5 ks=true):qI [gL e,aH f l, .aL (some 7) (fZ ks)] [] []=
  some (kL (sPh e f l ks ks.length) (mO e f l ks ks.length) (vg e f l ks ks.length)):=by
 have e1:=sD e (fD.2 he)
 have e2:=LA f l (by have:=hh.len;omega)
 rw [PN.2 hh]at e2
 have e3:=fV e he
 generalize hE:qI _ _ _=R
 simp [qI, -ak,func21,f21,e1,e2]at hE
 rw [aD (fun j=> .on ⟨[(27,V.v (.int .i64 ((j:Int)))),(26,V.v (.int .i64 ((ks.length:Int)))),(25, .aL (some 7) (fZ ks)),(6, .ref 6 0),(4, .ref 4 0),(3, .ref 3 0),(2, .aL (some 7) (fZ ks))],[(6,[V.v (.bool false),vI 0, .own 2000000000,vI 0,vI 0,vI 0,vI 0,vI 0,vI 0,vI 0,vI 0, .own 2000000001, .own 2000000002,vI 0, .own 2000000003,vI 0, .own 2000000004,vI 0, .own 2000000005,vI 0]),(4,[vI f, .aL (some 6) (strs l)]),(3,[V.v (.bool e.Vi),vI e.bR, .aL (some 0) (ints e.au.av),vI e.au.At,vI e.bA,vI e.Op,vI e.bH,vI e.eY,vI e.dN,vI e.bG,vI e.iA, .aL (some 1) (aC e.aM.aA), .aL (some 2) (aG e.eO.bP),vI e.jT, .aL (some 3) (ints e.gG.av),vI e.gG.At, .aL (some 4) (ints e.bI),vI e.kV, .aL (some 5) (ints e.bT.av),vI e.bT.At])],[(2000000005,[]),(2000000004,[]),(2000000003,[]),(2000000002,[]),(2000000001,[]),(2000000000,[])],[]⟩) ks.length ?_ ?_]at hE
 ·simp [-ak,e3]at hE
  rw [aD (fun j=>VD (sPh e f l ks j) 41 40 39 f l ks (mO e f l ks j) (vg e f l ks j) j) ks.length ?_ ?_]at hE
  ·have h9:=ajl he hh hk ks.length (Nat.le_refl _)
   generalize mO e f l ks ks.length=x at*
   generalize vg e f l ks ks.length=A at*
   generalize sPh e f l ks ks.length=ph at*
   rcases h9 with h0|⟨h0, -⟩|⟨h0, -⟩
   ·rw [h0]at hE⊢
    simp [-ak,VD,PW]at hE
    exact hE.symm
   ·rw [h0]at hE⊢
    simp [-ak,VD,VB]at hE
    exact hE.symm
   ·rw [h0]at hE⊢
    simp [-ak,VD,ahb]at hE
    exact hE.symm
  ·simp [-ak,VD,PW,sPh,mO];rfl
  ·intro j hj
   have hok:=Ou he hh hk j (by omega)
   have e5:=agW (mO e f l ks j) hok hh (yG ks j).Kind (yG ks j).R (PU hk hj)
   have hw:=bN ((j:Int)+1) (by omega)
   have hl:=MB e f l ks j
   have g1:(j+1)*8≤140737488355328:=by omega
   have g2:j+1≤4611686018427387904:=by omega
   have hka:=Y8 hj
   rw [QU]
   unfold afi
   show _=some (_,VD (if yM (mO e f l ks j) (yG ks j).Kind (yG ks j).R then 2 else if j6 (mO e f l ks j) (yG ks j).Kind then 1 else 0) _ _ _ _ _ _ (rR (mO e f l ks j) f l (yG ks j).Kind (yG ks j).R).1 _ _)
   have hq:=ajl he hh hk j (by omega)
   have hwu:= @ajk (mO e f l ks j) hok f l hh (yG ks j).Kind (yG ks j).R
   generalize vg e f l ks j=A at*
   generalize sPh e f l ks j=ph at*
   generalize mO e f l ks j=x at*
   rw [hka]at*
   generalize rR x f l ks[j].Kind ks[j].R=p at*
   unfold kY kX at e5
   clear hka
   have three:(yM x ks[j].Kind ks[j].R∧lH [gL x,aH f l,aK ks[j].Kind ks[j].R] [] []=some (kRu p))∨(¬yM x ks[j].Kind ks[j].R∧j6 x ks[j].Kind∧lH [gL x,aH f l,aK ks[j].Kind ks[j].R] [] []=some (kRw p))∨(¬yM x ks[j].Kind ks[j].R∧¬j6 x ks[j].Kind∧lH [gL x,aH f l,aK ks[j].Kind ks[j].R] [] []=some (kR p)):=by
    by_cases c1:yM x ks[j].Kind ks[j].R
    ·rw [if_pos c1]at e5;exact .inl ⟨c1,e5⟩
    ·rw [if_neg c1]at e5
     by_cases c2:j6 x ks[j].Kind
     ·rw [if_pos c2]at e5;exact .inr (.inl ⟨c1,c2,e5⟩)
     ·rw [if_neg c2]at e5;exact .inr (.inr ⟨c1,c2,e5⟩)
   clear e5 hwu
   rcases hq with rfl|⟨rfl,hq⟩|⟨rfl,hq⟩
   ·rcases three with⟨c1,e5⟩|⟨c1,c2,e5⟩|⟨c1,c2,e5⟩
    ·rw [if_pos c1]
     simp [-ak,VD,PW,ahb,hj,hw,hl,g1,g2,iK hj,e5]
     rw [ak];rfl
    ·rw [if_neg c1,if_pos c2]
     simp [-ak,VD,PW,VB,hj,hw,hl,g1,g2,iK hj,e5]
     rw [ak];rfl
    ·rw [if_neg c1,if_neg c2]
     simp [-ak,VD,PW,hj,hw,hl,g1,g2,iK hj,e5]
     rw [ak];rfl
   ·rcases three with⟨c1,e5⟩|⟨c1,c2,e5⟩|⟨c1,c2,e5⟩
    ·rw [if_pos c1]
     simp only [gL,hq,aZ]at e5
     simp [-ak,VD,VB,ahb,hj,hw,hl,g1,g2,iK hj,e5]
     rw [ak];rfl
    ·exact absurd c2.2.2 (by rw [hq];simp)
    ·rw [if_neg c1,if_neg c2]
     simp only [gL,hq,aZ]at e5
     simp [-ak,VD,PW,VB,hj,hw,hl,g1,g2,iK hj,e5]
     rw [ak];rfl
   ·rcases three with⟨c1,e5⟩|⟨c1,c2,e5⟩|⟨c1,c2,e5⟩
    ·exact absurd c1.2 (by rw [hq];simp)
    ·rw [if_neg c1,if_pos c2]
     simp only [gL,hq,show aG []= []from rfl]at e5
     simp [-ak,VD,VB,ahb,hj,hw,hl,g1,g2,iK hj,e5]
     rw [ak];rfl
    ·rw [if_neg c1,if_neg c2]
     simp only [gL,hq,show aG []= []from rfl]at e5
     simp [-ak,VD,PW,ahb,hj,hw,hl,g1,g2,iK hj,e5]
     rw [ak];rfl
 ·simp
 ·intro j hj
  have hw:=bN ((j:Int)+1) (by omega)
  have e4:=nJ ks[j].Kind ks[j].R
  rw [List.all_eq_true.1 hk _ (List.getElem_mem hj)]at e4
  simp [-ak,hj,hw,iK hj,e4]
theorem ahc (l:List mF)(hb:l.length≤9223372036854775807)(left:Int)(h:0≤left∧left≤1048576):∃m,KG [.aL (some 0) (fZ l),vI left] [] []=some ⟨vI m,[],[]⟩∧-1≤m∧m≤left∧(0≤m→l.length≤1048576):=by
 have hw0:=bN (left-l.length) (by omega)
 unfold KG
 by_cases n0:left-(l.length:Int)<0
 ·exact⟨-1,by simp [func20,f20,hw0,n0],by omega,by omega,fun h=>by omega⟩
 exact⟨left-l.length,by simp [func20,f20,hw0,n0],by omega,by omega,fun _=>by omega⟩
def Er (k:Int)(l:List mF):Nat→List mF
 | 0=>l
 | j+1=>(Er k l j).set j ⟨k+2*j,k+2*j+1⟩
@[simp] theorem UK (k:Int)(l:List mF):∀j,(Er k l j).length=l.length
 | 0=>rfl
 | j+1=>by show((Er k l j).set j _).length=_;rw [List.length_set,UK]
theorem ahd (l:List mF)(j:Nat)(a b:Int):(fZ l).set j [D.a (.int .i64 a),D.a (.int .i64 b)]=fZ (l.set j ⟨a,b⟩):=by
 show(l.map l5.enc).set j (l5.enc ⟨a,b⟩)=(l.set j ⟨a,b⟩).map l5.enc
 rw [List.map_set]
theorem ab3 (l:List mF)(k:Int)(hl:l.length≤1000000000)(hk:0≤k∧k≤9000000000000000000):DK [.own 0,vI k] [] [fZ l]=some ⟨vI (k+2*l.length),[],[(0,fZ (Er k l l.length))]⟩:=by
 simp [DK,func26,f26]
 rw [aD (fun j=> .on ⟨[(5,V.v (.int .i64 ((j:Int)))),(1,V.v (.int .i64 (k+2*j))),(0, .own 1000000000)],[],[(1000000000,fZ (Er k l j))],[]⟩) l.length ?_ ?_]
 ·simp
 ·simp [Er]
 ·intro j hj
  have hw:=bN (j+1) (by omega)
  have hw2:=bN (k+2*j+1) (by omega)
  have hw4:=bN (k+2*j+1+1) (by omega)
  have hlen:=UK k l j
  have hjl:j<(Er k l j).length:=by omega
  have hg:=iK hjl
  have hs:=ahd (Er k l j) j (k+2*j) (k+2*j+1)
  show _=some (_,Q.on ⟨_,_,[(1000000000,fZ ((Er k l j).set j ⟨k+2*j,k+2*j+1⟩))],_⟩)
  rw [←hs]
  generalize Er k l j=L at*
  simp [hj,hw,hw2,hw4,hlen,hg]
  omega
theorem amT {e:dw}{f:Int}{l:List ByteArray}{ks:List mF}:∀j,(sPh e f l ks j=0∧iPh e f l ks j=0)∨(sPh e f l ks j=1∧iPh e f l ks j=1)∨(sPh e f l ks j=2∧iPh e f l ks j=0)
 | 0=> .inl ⟨rfl,rfl⟩
 | j+1=>by
  show((if yM (mO e f l ks j) (yG ks j).Kind (yG ks j).R then 2 else if j6 (mO e f l ks j) (yG ks j).Kind then 1 else 0)=0∧(if j6 (mO e f l ks j) (yG ks j).Kind then 1 else 0)=0)∨((if yM (mO e f l ks j) (yG ks j).Kind (yG ks j).R then 2 else if j6 (mO e f l ks j) (yG ks j).Kind then 1 else 0)=1∧(if j6 (mO e f l ks j) (yG ks j).Kind then 1 else 0)=1)∨((if yM (mO e f l ks j) (yG ks j).Kind (yG ks j).R then 2 else if j6 (mO e f l ks j) (yG ks j).Kind then 1 else 0)=2∧(if j6 (mO e f l ks j) (yG ks j).Kind then 1 else 0)=0)
  by_cases hu:yM (mO e f l ks j) (yG ks j).Kind (yG ks j).R
  ·have hn:¬j6 (mO e f l ks j) (yG ks j).Kind:=fun q=>by rcases hu.1 with z|z<;>have:=q.1<;>omega
   rw [if_pos hu,if_neg hn];exact .inr (.inr ⟨rfl,rfl⟩)
  ·rw [if_neg hu]
   by_cases hw:j6 (mO e f l ks j) (yG ks j).Kind
   ·rw [if_pos hw];exact .inr (.inl ⟨rfl,rfl⟩)
   ·rw [if_neg hw];exact .inl ⟨rfl,rfl⟩
theorem PX (e:dw)(h:Qa)(ks:List mF)(hok:Az (OM.enc e)=true)(hoh:Az (EC.enc h)=true)(aks:Az [.l (fZ ks)]=true):
  iQ [gL e,aH h.First h.bP, .aL (some 7) (fZ ks)] [] []=some ⟨V.v (.bool true),[],[]⟩:=by
 obtain⟨-, -,t1, -, -, -, -, -, -, -, -,t2,t3, -,t4, -,t5, -,t6, -⟩:=alH hok
 obtain⟨-,t7⟩:=ai5 hoh
 have s1:=JX t1
 have s2:=JX t2
 have s3:=JX t3
 have s4:=JX t4
 have s5:=JX t5
 have s6:=JX t6
 have wl:=bN 1048576 (by omega)
 obtain⟨m,em,m1,m2,m3⟩:=akq e.Vi e.bR (ints e.au.av) (dB _) s1 e.au.At e.bA e.Op e.bH e.eY e.dN e.bG e.iA (aC e.aM.aA) (ny _) s2 (aG e.eO.bP) (og _) s3 e.jT (ints e.gG.av) (dB _) s4 e.gG.At (ints e.bI) (dB _) s5 e.kV (ints e.bT.av) (dB _) s6 e.bT.At 1048576 (by omega)
 by_cases c1:m<0
 ·simp [iQ,func5,f5,wl,em,c1]
 obtain⟨q1,q2,q3,q4,q5,q6⟩:=m3 (by omega)
 have hsm:e.sm:=⟨by simpa using l8 q1,by simpa using l8 q4,by simpa using l8 q6,by simpa using l8 q5,q2,q3⟩
 have hl0:h.bP.length≤9223372036854775807:=by have:=sQ (JX t7);simpa using this
 have hs0:∀s∈h.bP,s.size≤9223372036854775807:=aji t7
 obtain⟨n,en,n1,n2,n3⟩:=ag9 h.First h.bP hs0 hl0 m (by omega)
 by_cases c2:n<0
 ·simp [iQ,func5,f5,wl,em,c1,en,c2]
 obtain⟨l1,l2⟩:=n3 (by omega)
 have q7:sG (strs h.bP)=true:=aiG (by omega)
 have hkl:ks.length≤9223372036854775807:=by have:=sQ (JX (by have h:(okD (.l (fZ ks))&&Az [])=true:=aks;rw [Bool.and_eq_true]at h;exact h.1));simpa using this
 obtain⟨o,eo,o1,o2,o3⟩:=ahc ks hkl n (by omega)
 by_cases c3:o<0
 ·simp [iQ,func5,f5,wl,em,c1,en,c2,eo,c3]
 have hks:=o3 (by omega)
 have q8:sG (fZ ks)=true:=Pj (by simp;omega) fun j r hr=>by
  have hj:j<ks.length:=by have:=(List.getElem?_eq_some_iff.1 hr).1;simpa using this
  rw [iK hj]at hr;injection hr with hr;subst hr;simp
 have hTo:=akr e.Vi e.bR (ints e.au.av) e.au.At e.bA e.Op e.bH e.eY e.dN e.bG e.iA (aC e.aM.aA) (aG e.eO.bP) e.jT (ints e.gG.av) e.gG.At (ints e.bI) e.kV (ints e.bT.av) e.bT.At (dB _) q1 (ny _) q2 (og _) q3 (dB _) q4 (dB _) q5 (dB _) q6
 have hEq:=Rz e.Vi e.bR (ints e.au.av) e.au.At e.bA e.Op e.bH e.eY e.dN e.bG e.iA (aC e.aM.aA) (aG e.eO.bP) e.jT (ints e.gG.av) e.gG.At (ints e.bI) e.kV (ints e.bT.av) e.bT.At (dB _) q1 (ny _) q2 (og _) q3 (dB _) q4 (dB _) q5 (dB _) q6
 have alM:=ag7 h.First (strs h.bP) (MW _) q7
 have alN:=agZ h.First (strs h.bP) (MW _) q7
 have alO:=ag8 (fZ ks) (K6 _) q8
 have alP:=ag0 (fZ ks) (K6 _) q8
 obtain⟨y,r0,r1,r2,r3,r4,r5,hM,hy1,hy2⟩:=aer e.Vi e.bR (ints e.au.av) e.au.At e.bA e.Op e.bH e.eY e.dN e.bG e.iA (aC e.aM.aA) (aG e.eO.bP) e.jT (ints e.gG.av) e.gG.At (ints e.bI) e.kV (ints e.bT.av) e.bT.At (dB _) q1 (ny _) q2 (og _) q3 (dB _) q4 (dB _) q5 (dB _) q6 1 (by omega)
 have hMH:=Y7 h.First h.bP y.toNat (by omega)
 rw [show ((y.toNat:Nat):Int)=y by omega]at hMH
 obtain⟨hl',hMH⟩:=hMH
 have hny:¬y<0:=by omega
 have alQ:¬y+(h.bP.length:Int)<0:=by omega
 have hMK:=ab3 ks (y+h.bP.length) (by omega) (by omega)
 have alR:¬y+(h.bP.length:Int)+2*(ks.length:Int)<0:=by omega
 have go:∀(x:dw) (A:List Int),fO x→A.length≤2000000→qI [gL e,aH h.First h.bP, .aL (some 7) (fZ ks)] [] []=some (kL0 x A)→qJ [gL e,aH h.First h.bP, .aL (some 7) (fZ ks)] [] []=some (kL0 x A)→
   iQ [gL e,aH h.First h.bP, .aL (some 7) (fZ ks)] [] []=some ⟨V.v (.bool true),[],[]⟩:=by
  intro x A hp hA hS hI
  have hz:=dw.TA (fD.2 hp)
  have hG:=Rz x.Vi x.bR (ints x.au.av) x.au.At x.bA x.Op x.bH x.eY x.dN x.bG x.iA (aC x.aM.aA) (aG x.eO.bP) x.jT (ints x.gG.av) x.gG.At (ints x.bI) x.kV (ints x.bT.av) x.bT.At (dB _) (kQ hz.h1) (ny _) hz.h5 (og _) hz.h6 (dB _) (kQ hz.h2) (dB _) (kQ hz.h4) (dB _) (kQ hz.h3)
  have hGA:=Ch (ints A) (dB _) (kQ (by omega))
  obtain⟨z,m0,m1,m2,m3,m4,m5,hz0,hz1,hK,hH⟩:=LB x (ajj (p:=(x,0)) hp)
  have hnz:¬z<0:=by omega
  have hKA:=nR A z (by omega) (by omega)
  have hHA:=qX A.length z (by omega) (by omega)
  have ajm:¬z+(A.length:Int)<0:=by omega
  simp only [kL0,gL,gO,hO]at hS hI hG hK hH
  clear hp hz hok hoh aks
  simp [iQ, -ak,func5,f5,wl,em,c1,en,c2,eo,c3,hTo,alM,alO,hS,hI,hEq,alN,alP,hM,hMH,hMK,hG,hGA,hK,hKA,hH,hHA,hny,alQ,alR,hnz,ajm]
 have goW:∀(x:dw) (A:List Int),fO x→A.length≤2000000→x.bI= []→qI [gL e,aH h.First h.bP, .aL (some 7) (fZ ks)] [] []=some (kL1 x A)→qJ [gL e,aH h.First h.bP, .aL (some 7) (fZ ks)] [] []=some (kL1 x A)→
   iQ [gL e,aH h.First h.bP, .aL (some 7) (fZ ks)] [] []=some ⟨V.v (.bool true),[],[]⟩:=by
  intro x A hp hA hq0 hS hI
  have hz:=dw.TA (fD.2 hp)
  have hG:=Rz x.Vi x.bR (ints x.au.av) x.au.At x.bA x.Op x.bH x.eY x.dN x.bG x.iA (aC x.aM.aA) (aG x.eO.bP) x.jT (ints x.gG.av) x.gG.At (ints x.bI) x.kV (ints x.bT.av) x.bT.At (dB _) (kQ hz.h1) (ny _) hz.h5 (og _) hz.h6 (dB _) (kQ hz.h2) (dB _) (kQ hz.h4) (dB _) (kQ hz.h3)
  have hGA:=Ch (ints A) (dB _) (kQ (by omega))
  obtain⟨z,m0,m1,m2,m3,m5,hz0,hz1,hK,hH⟩:=UJ x (ajj (p:=(x,0)) hp)
  have hnz:¬z<0:=by omega
  have hKA:=nR A z (by omega) (by omega)
  have hHA:=qX A.length z (by omega) (by omega)
  have ajm:¬z+(A.length:Int)<0:=by omega
  simp only [hq0,aZ]at hG
  clear hp hz hok hoh aks
  simp [iQ, -ak,func5,f5,wl,em,c1,en,c2,eo,c3,hTo,alM,alO,hS,hI,hEq,alN,alP,hM,hMH,hMK,hG,hGA,hK,hKA,hH,hHA,hny,alQ,alR,hnz,ajm]
 have goU:∀(x:dw) (A:List Int),fO x→A.length≤2000000→x.eO.bP= []→qI [gL e,aH h.First h.bP, .aL (some 7) (fZ ks)] [] []=some (kL2 x A)→qJ [gL e,aH h.First h.bP, .aL (some 7) (fZ ks)] [] []=some (kL0 x A)→
   iQ [gL e,aH h.First h.bP, .aL (some 7) (fZ ks)] [] []=some ⟨V.v (.bool true),[],[]⟩:=by
  intro x A hp hA hq0 hS hI
  have hz:=dw.TA (fD.2 hp)
  have hG:=Rz x.Vi x.bR (ints x.au.av) x.au.At x.bA x.Op x.bH x.eY x.dN x.bG x.iA (aC x.aM.aA) (aG x.eO.bP) x.jT (ints x.gG.av) x.gG.At (ints x.bI) x.kV (ints x.bT.av) x.bT.At (dB _) (kQ hz.h1) (ny _) hz.h5 (og _) hz.h6 (dB _) (kQ hz.h2) (dB _) (kQ hz.h4) (dB _) (kQ hz.h3)
  have hGA:=Ch (ints A) (dB _) (kQ (by omega))
  obtain⟨z,m0,m1,m2,m3,m4,m5,hz0,hz1,hK,hH⟩:=LB x (ajj (p:=(x,0)) hp)
  have hnz:¬z<0:=by omega
  have hKA:=nR A z (by omega) (by omega)
  have hHA:=qX A.length z (by omega) (by omega)
  have ajm:¬z+(A.length:Int)<0:=by omega
  simp only [kL0,kL2,gL,gO,hO,hq0,show aG []= []from rfl]at hS hI hG hK hH
  clear hp hz hok hoh aks
  simp [iQ, -ak,func5,f5,wl,em,c1,en,c2,eo,c3,hTo,alM,alO,hS,hI,hEq,alN,alP,hM,hMH,hMK,hG,hGA,hK,hKA,hH,hHA,hny,alQ,alR,hnz,ajm]
 by_cases hkb:e.ok=true∧AA h.First h.bP=true∧J5 ks=true
 ·obtain⟨k1,k2,k3⟩:=hkb
  have he:=fD.1 k1
  have hh:=PN.1 k2
  have hI:=VE e he h.First h.bP hh ks (by omega) k3
  have hS:=VF e he h.First h.bP hh ks (by omega) k3
  have hx:=Ou he hh k3 ks.length (Nat.le_refl _)
  have hA:=MB e h.First h.bP ks ks.length
  have hq:=ajl he hh k3 ks.length (Nat.le_refl _)
  have ph:= @amT e h.First h.bP ks ks.length
  generalize mO e h.First h.bP ks ks.length=x at*
  generalize vg e h.First h.bP ks ks.length=A at*
  generalize sPh e h.First h.bP ks ks.length=sp at*
  generalize iPh e h.First h.bP ks ks.length=ip at*
  rcases ph with⟨rfl,rfl⟩|⟨rfl,rfl⟩|⟨rfl,rfl⟩
  ·exact go x A hx (by omega) hS hI
  ·have hq1:x.bI= []:=by rcases hq with q|⟨-,q⟩|⟨q, -⟩<;>first|exact q|(cases q)
   exact goW x A hx (by omega) hq1 hS hI
  ·have hq1:x.eO.bP= []:=by rcases hq with q|⟨q, -⟩|⟨-,q⟩<;>first|exact q|(cases q)
   exact goU x A hx (by omega) hq1 hS hI
 ·have hI:=Y9 e hsm h.First h.bP ks (by omega) hkb
  have hS:=Za e hsm h.First h.bP (by omega) ks (by omega) hkb
  exact go yH [] (fD.1 (by decide)) (by simp) hS hI
open Go.ChangeShapes Go.WideShapes Go.ChangeAt Go.RowKit
theorem aoE {W:World}(h:W.ShapedOpen prog):ZW W:=⟨trivial,Tryz.laysM144.s1_3 W h⟩
end Go.Proofs.YtlpdjhiggpblcaaGreat
