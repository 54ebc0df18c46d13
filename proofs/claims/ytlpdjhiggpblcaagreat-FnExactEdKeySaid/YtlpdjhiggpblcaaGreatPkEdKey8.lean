/- Part 8 of a proof in several texts (an abstract evaluator, what the functions compute). -/
import Derived.Test.YtlpdjhiggpblcaaGreatPkEdKey7
import Derived.StillTail
import Derived.OrdersHeld
namespace Go.Proofs.YtlpdjhiggpblcaaGreat
set_option linter.unusedSectionVars false
set_option linter.unusedSimpArgs false
set_option linter.unusedVariables false
open Go.RowKit
def Ot (P:Program)(s:S):Op→Option V
 | .move x=>s.ev x
 | .assign x=>s.ev x
 | .load t p=>bnd (s.ev p) fun p=>s.load P t p
 | .fieldAddr t x f=>bnd (s.ev x) fun x=>bnd (bZ P t f) fun f=>yw x f.1
 | .indexAddr t x i=>bnd (s.ev x) fun x=>bnd (s.ev i) fun i=>bnd (idxOf i) fun i=>bnd (lU P t) fun e=>lq P s x i e.1 e.2
 | .binOp op t x y _=>bnd (s.ev x) fun x=>bnd (s.ev y) fun y=>bin P t op x y
 | .build t ps=>bnd (P.underlying t) fun d=>bnd (zi d) fun fs=>grd (jm P t=true) (bnd (jO P t) fun z=>bnd (bH (oO s) ps.toList) fun vs=>bnd (rV P fs z vs) fun cs=>some (.agg cs))
 | _=>none
def vV:V→Bool
 | .v _=>true
 | _=>false
def oV:V→Bool
 | .own _=>true
 | _=>false
def Zn:V→Bool
 | .v _=>true
 | .own _=>true
 | .ref _ _=>true
 | .pe b _ _ _=>oV b
 | .agg cs=>cs.all vV
 | _=>false
theorem ab7 (x:Value):Zn (.v x)=true:=id rfl
theorem R5 (p:Nat):Zn (.own p)=true:=id rfl
theorem R6 (b o:Nat):Zn (.ref b o)=true:=id rfl
theorem Xk (b:V)(k i o:Nat):Zn (.pe b k i o)=oV b:=id rfl
theorem R7 (cs:List V):Zn (.agg cs)=cs.all vV:=id rfl
theorem ahz {ρ:Rel}:∀{cs:List V} {us us':List Value},cs.all vV=true→jC ρ cs us→jC ρ cs us'→us=us'
 | [],us,us',_,h,k=>by rw [show us= []from h,show us'= []from k]
 | c::cs,us,us',hv,h,k=>by
  rw [List.all_cons,Bool.and_eq_true]at hv
  obtain⟨u,q,rfl,h1,h2⟩:=h
  obtain⟨u',q',rfl,k1,k2⟩:=k
  rw [ahz hv.2 h2 k2]
  have hc:=hv.1
  unfold vV at hc
  split at hc
  ·rw [show u=_ from h1,show u'=_ from k1]
  ·cases hc
theorem aja {ρ:Rel}{v:V}{u u':Value}(h:Zn v=true)(r:RV ρ v u)(r':RV ρ v u'):u=u':=by
 unfold Zn at h
 split at h
 ·rw [show u=_ from r,show u'=_ from r']
 ·rw [r.2,r'.2]
 ·rw [r.2,r'.2]
 ·rename_i b k i off
  unfold oV at h
  split at h
  ·obtain⟨ub,⟨_,e1⟩,g,o,n,c,e2,e3,rfl⟩:=r
   obtain⟨ub',⟨_,e1'⟩,g',o',n',c',e2',e3',rfl⟩:=r'
   rw [e1,←e1',e2']at e2
   injection e2 with e2
   injection e2 with e2
   injection e2 with e4 e5
   rw [e4,e5]
  ·cases h
 ·obtain⟨us,rfl,h1⟩:=r
  obtain⟨us',rfl,h2⟩:=r'
  rw [ahz h h1 h2]
 ·cases h
def yH (P:Program):List Oper→S→S→Option (S×S)
 | [],t,s=>some (t,s)
 | o::r,t,s=>grd (o.guard.isNone=true) (bnd (Ot P t o.op) fun v=>grd (Zn v=true) (yH P r (t.put o.dst v) (s.put o.dst v)))
def takeB (ops:Array Oper):Nat→Nat→Array Bool→Bool
 | 0,_,_=>true
 | f+1,k,listed=>(Region.ready .any ops listed).contains k&&(Region.free .any ops listed k&&takeB ops f (k+1) (listed.setIfInBounds k true))
def Iy (listed:Array Bool):Nat→Nat→Array Bool
 | _,0=>listed
 | k,m+1=>Iy (listed.setIfInBounds k true) (k+1) m
section
variable {P:Program} {G:List (FuncId×Bool×aN)} {c:Ctx} {s t:S} {y:Lay} {a:Act} {w:World}
theorem PL {o:Oper}{v:V}(h:Ot P s o.op=some v)(A:At c s y a w):∃u,(execOp a.eval o).run P w= .ok (.value u) w∧RV (aX c s y) v u:=by
 unfold Ot at h
 split at h
 ·rename_i x e;exact⟨a.eval x,by unfold execOp;rw [e];rfl,A.ev h⟩
 ·rename_i x e;exact⟨a.eval x,by unfold execOp;rw [e];rfl,A.ev h⟩
 ·rename_i t p e
  obtain⟨x,hx,h⟩:=aj h
  exact Vf e hx h A
 ·rename_i t x f e
  obtain⟨vx,hx,h⟩:=aj h
  obtain⟨q,hf,h⟩:=aj h
  exact Hr e hx hf h A
 ·rename_i t x i e
  obtain⟨vx,hx,h⟩:=aj h
  obtain⟨vi,hi,h⟩:=aj h
  obtain⟨n,hn,h⟩:=aj h
  obtain⟨q,he,h⟩:=aj h
  exact Ht e hx hi hn he h A
 ·rename_i op t x z t' e
  obtain⟨vx,hx,h⟩:=aj h
  obtain⟨vy,hy,h⟩:=aj h
  exact YV e hx hy h A
 ·rename_i t ps e
  obtain⟨d,h1,h⟩:=aj h
  obtain⟨fs,h2,h⟩:=aj h
  obtain⟨h3,h⟩:=aB h
  obtain⟨z,h4,h⟩:=aj h
  obtain⟨vs,h5,h⟩:=aj h
  obtain⟨cs,h6,h⟩:=aj h
  injection h with h;subst h
  exact Rq e h1 h2 h3 h4 h5 h6 A
 ·cases h
theorem afq {a:Act}{d t:Nat}{u:Value}(h:t≠d):(a.put (some d) u).tmps.getD t undef=a.tmps.getD t undef:=by
 show(a.tmps.setIfInBounds d u).getD t undef=a.tmps.getD t undef
 rw [Array.getD_eq_getD_getElem?,Array.getD_eq_getD_getElem?,Array.getElem?_setIfInBounds_ne (Ne.symm h)]
theorem ahA {a:Act}{d:Nat}{u:Value}(h:a.tmps.getD d undef=u):a.put (some d) u=a:=by
 subst h
 show {a with tmps:=a.tmps.setIfInBounds d (a.tmps.getD d undef)}=a
 have:a.tmps.setIfInBounds d (a.tmps.getD d undef)=a.tmps:=by
  refine Array.ext_getElem? fun i=>?_
  by_cases e:i=d
  ·subst e
   rw [Array.getElem?_setIfInBounds_self]
   by_cases hi:i<a.tmps.size
   ·simp [hi]
   ·simp [hi]
  ·rw [Array.getElem?_setIfInBounds_ne (Ne.symm e)]
 rw [this]
def ab8 (c:Ctx)(y:Lay)(t:S):List Pc:=dS y.bl y.T y.us t.box++(bW y.hd t.tree++(iA y.w0 y.F t.dJ++c.L))
theorem At.inW (A:At c t y a w){w':World}(h:St c.W w' (ab8 c y t)):At c t y a w':=⟨A.defers,A.size,h,A.env,A.box,A.dJ,A.nb,A.nt,A.fix⟩
theorem Zo (d:Option Nat)(v:V):ab8 c y (t.put d v)=ab8 c y t:=by cases d<;>rfl
theorem take_one {ops:Array Oper}{Q:Exit→Act→World→Prop}(hsel:Region.noSelect ops=true)(hQ:∀(ch:_) (a:Act) (d:Option Nat) (v:Value) (w:World),Q (.panic ch) (a.put d v) w→Q (.panic ch) a w){Sx:World→Prop}(hst:∀w',Sx w'→St c.W w' (ab8 c y t)){o:Oper}{k fuel:Nat}{listed:Array Bool}(hk:ops[k]?=some o)(hr:(Region.ready .any ops listed).contains k=true)(hf:Region.free .any ops listed k=true)(hg:o.guard.isNone=true)
  {u:Value} (hx:∀w',At c t y a w'→(execOp a.eval o).run P w'= .ok (.value u) w') (A:At c t y a w) (hS:Sx w) (h:wpAnyH P .any ops Q Sx fuel (listed.setIfInBounds k true) (a.put o.dst u) w):wpAnyH P .any ops Q Sx (fuel+1) listed a w:=by
 refine wpAnyH_take hk hsel hf hr (fun ch a w h=>hQ ch a _ _ w h) (.inl ⟨?_,fun w' hS'=>hx w' (A.inW (hst w' hS'))⟩) hS h
 unfold Region.wanted
 cases e:o.guard with
 | none=>rfl
 | some g=>rw [e]at hg;cases hg
theorem Iz {ops:Array Oper}{Q:Exit→Act→World→Prop}(hsel:Region.noSelect ops=true)(hQ:∀(ch:_) (a:Act) (d:Option Nat) (v:Value) (w:World),Q (.panic ch) (a.put d v) w→Q (.panic ch) a w){Sx:World→Prop}{fuel:Nat}:
  ∀{l:List Oper} {k:Nat} {listed:Array Bool} {t s t' s':S} {a:Act},(∀j,j<l.length→l[j]?=ops[k+j]?)→takeB ops l.length k listed=true→(∀o∈l,fO c.n o.dst=true)→yH P l t s=some (t',s')→At c t y a w→At c s y a w→(∀v u,RV (aX c t y) v u→RV (aX c s y) v u)→(∀w',Sx w'→St c.W w' (ab8 c y t))→Sx w→
   (∀a',At c t' y a' w→At c s' y a' w→(∀tt,(∀o∈l,o.dst≠some tt)→a'.tmps.getD tt undef=a.tmps.getD tt undef)→(∀v u,RV (aX c t' y) v u→RV (aX c s' y) v u)→(∀w',Sx w'→St c.W w' (ab8 c y t'))→wpAnyH P .any ops Q Sx fuel (Iy listed k l.length) a' w)→wpAnyH P .any ops Q Sx (l.length+fuel) listed a w
 | [],k,listed,t,s,t',s',a,_,_,_,h,At_,As,hle,hst,hS,kk=>by
  simp only [yH]at h
  injection h with h
  injection h with h1 h2
  subst h1;subst h2
  simpa [Iy] using kk a At_ As (fun _ _=>rfl) hle hst
 | o::l,k,listed,t,s,t',s',a,hl,hB,hd,h,At_,As,hle,hst,hS,kk=>by
  simp only [yH]at h
  obtain⟨hg,h⟩:=aB h
  obtain⟨v,h1,h⟩:=aj h
  obtain⟨hv,h⟩:=aB h
  have h0:ops[k]?=some o:=by simpa using (hl 0 (by simp)).symm
  simp only [List.length_cons,takeB,Bool.and_eq_true]at hB
  obtain⟨hr,hf,hB⟩:=hB
  have hdo:=hd o (by simp)
  obtain⟨u,q1,q2⟩:=PL h1 At_
  rw [show (o::l).length+fuel=(l.length+fuel)+1 by simp;omega]
  refine take_one (u:=u) hsel hQ hst h0 hr hf hg (fun w' A'=>?_) At_ hS ?_
  ·obtain⟨u',q3,q4⟩:=PL h1 A'
   rw [aja hv q2 q4];exact q3
  ·have ep:∀(x:S),aX c (x.put o.dst v) y=aX c x y:=fun x=>by cases o.dst<;>rfl
   refine Iz hsel hQ (l:=l) (k:=k+1) (fun j hj=>by have:=hl (j+1) (by simp;omega);simpa [Nat.add_assoc,Nat.add_comm 1 j] using this) hB (fun o ho=>hd o (by simp [ho])) h (At_.value q2 hdo) (As.value (hle v u q2) hdo) (fun v u h=>by rw [ep]at h⊢;exact hle v u h) (fun w' hw=>by rw [Zo];exact hst w' hw) hS fun a' A1 A2 ht hle' hst'=>?_
   refine kk a' A1 A2 (fun tt hn=>?_) hle' hst'
   rw [ht tt fun o ho=>hn o (by simp [ho])]
   have hne:=hn o (by simp)
   cases e:o.dst with
   | none=>rfl
   | some d=>exact afq fun q=>hne (by rw [e,q])
theorem FI:∀{l:List Oper} {t s t' s':S},yH P l t s=some (t',s')→t'.tree=t.tree∧s'.tree=s.tree∧s'.box=s.box∧s'.dJ=s.dJ
 | [],t,s,t',s',h=>by simp only [yH]at h;injection h with h;injection h with h1 h2;subst h1;subst h2;exact⟨rfl,rfl,rfl,rfl⟩
 | o::l,t,s,t',s',h=>by
  simp only [yH]at h
  obtain⟨hg,h⟩:=aB h
  obtain⟨v,h1,h⟩:=aj h
  obtain⟨hv,h⟩:=aB h
  obtain⟨q1,q2,q3,q4⟩:=FI h
  have ep:∀(x:S),(x.put o.dst v).tree=x.tree∧(x.put o.dst v).box=x.box∧(x.put o.dst v).dJ=x.dJ:=fun x=>by cases o.dst<;>exact⟨rfl,rfl,rfl⟩
  exact⟨q1.trans (ep t).1,q2.trans (ep s).1,q3.trans (ep s).2.1,q4.trans (ep s).2.2⟩
theorem Sep.sub {w:World}{l l':List Pc}(h:l'.Sublist l):∀{F:List Nat},Sep w l F→∃F',Sep w l' F'∧F'.Sublist F:=by
 induction h with
 | slnil=>intro F s;exact⟨F,s,List.Sublist.refl _⟩
 | cons x _ ih=>
  intro F s
  obtain⟨F1,G,rfl,h1,h2⟩:=s.fQ
  obtain⟨F',s',hs⟩:=ih h2
  exact⟨F',s',hs.trans (List.sublist_append_right _ _)⟩
 | cons_cons x _ ih=>
  intro F s
  obtain⟨F1,G,rfl,h1,h2⟩:=s.fQ
  obtain⟨F',s',hs⟩:=ih h2
  exact⟨F1++F', .cons h1 s',List.Sublist.append (List.Sublist.refl _) hs⟩
theorem St.sub {W w:World}{l l':List Pc}(h:l'.Sublist l)(S:St W w l):St W w l':=by
 obtain⟨F,s,n,hb⟩:=S.sep
 obtain⟨F',s',hs⟩:=s.sub h
 exact⟨S.ext,F',s',hs.nodup n,fun b hm=>hb b (hs.subset hm)⟩
def zH (c:Ctx)(y:Lay)(s:S)(B:Nat):List Pc:=dS y.bl y.T y.us (s.box.filter fun x=>x.1==B)++(bW y.hd s.tree++(iA y.w0 y.F s.dJ++c.L))
theorem At.rest (A:At c s y a w)(B:Nat):St c.W w (zH c y s B):=St.sub (List.Sublist.append (List.Sublist.map _ List.filter_sublist) (List.Sublist.refl _)) A.st
theorem ab9 {B b:Nat}{cs:List V}{us':Array Value}(h:b≠B):zH c {y with us:=dQ y.us b us'} {s with box:=upd b cs s.box} B=zH c y s B:=by
 have key:∀l:List (Nat×List V),dS y.bl y.T (dQ y.us b us') ((upd b cs l).filter fun x=>x.1==B)=dS y.bl y.T y.us (l.filter fun x=>x.1==B):=by
  have same:∀l:List (Nat×List V),dS y.bl y.T (dQ y.us b us') (l.filter fun x=>x.1==B)=dS y.bl y.T y.us (l.filter fun x=>x.1==B):=fun l=>by
   unfold dS
   refine List.map_congr_left fun x hx=>?_
   have hx2:=(List.mem_filter.1 hx).2
   rw [fU _ _ (fun e=>h (by rw [←e];exact eq_of_beq hx2))]
  intro l
  induction l with
  | nil=>rfl
  | cons x l ih=>
   obtain⟨j,z⟩:=x
   unfold upd
   by_cases e:b=j
   ·subst e
    rw [if_pos rfl,List.filter_cons_of_neg (by simpa using h),List.filter_cons_of_neg (by simpa using h)]
    exact same l
   ·rw [if_neg e]
    by_cases e2:j=B
    ·subst e2
     rw [List.filter_cons_of_pos (by simp),List.filter_cons_of_pos (by simp)]
     unfold dS at ih⊢
     rw [List.map_cons,List.map_cons,ih,fU _ _ (fun q=>e q.symm)]
    ·rw [List.filter_cons_of_neg (by simpa using e2),List.filter_cons_of_neg (by simpa using e2)]
     exact ih
 unfold zH
 show dS y.bl y.T (dQ y.us b us') ((upd b cs s.box).filter fun x=>x.1==B)++_=_
 rw [key]
def storeT (P:Program)(B:Nat)(s:S)(t:TypeId)(v:V):V→Option S
 | .ref b off=>bnd (look b s.box) fun cs=>grd (b≠B∧off+v.cells.length≤cs.length∧v.cells.length=P.cellsOf t∧eY P t=true∧v.cells.all V.one=true) (some {s with box:=upd b (setAt cs off v.cells) s.box})
 | _=>none
def tailV (P:Program)(B:Nat)(s:S)(d:Option Nat):Op→Option S
 | .store t x z=>bnd (s.ev x) fun p=>bnd (s.ev z) fun v=>bnd (storeT P B s t v p) fun s=>some (s.skip d)
 | .assign x=>bnd (s.ev x) fun v=>some (s.put d v)
 | _=>none
def Le (P:Program)(B:Nat):List Oper→S→Option S
 | [],s=>some s
 | o::r,s=>grd (o.guard.isNone=true) (bnd (tailV P B s o.dst o.op) fun s=>Le P B r s)
theorem ahB {o:Oper}{B:Nat}{s':S}(hd:fO c.n o.dst=true)(h:tailV P B s o.dst o.op=some s')(A:At c s y a w):∀(K:Act→World→Prop) (Q:Exit→Act→World→Prop),(∀y' a' w',At c s' y' a' w'→y'.hd=y.hd→zH c y' s' B=zH c y s B→K a' w')→o.wp P a w K Q:=by
 intro K Q kk
 unfold tailV at h
 split at h
 ·rename_i t x z e
  obtain⟨p,hp,h⟩:=aj h
  obtain⟨v,hv,h⟩:=aj h
  obtain⟨s1,h2,h⟩:=aj h
  injection h with h;subst h
  unfold storeT at h2
  split at h2
  ·rename_i b off e3
   obtain⟨cs,hl,h2⟩:=aj h2
   obtain⟨⟨g1,g2,g3,g4,g5⟩,h2⟩:=aB h2
   injection h2 with h2;subst h2
   obtain⟨us',w1,hr,A2⟩:=Ky e hp hv g3 g4 g5 hl g2 A
   have ep:∀x:S,zH c {y with us:=dQ y.us b us'} (x.skip o.dst) B=zH c {y with us:=dQ y.us b us'} x B:=fun x=>by cases o.dst<;>rfl
   exact JF hr (kk _ _ _ (A2.skip undef) rfl ((ep _).trans (ab9 g1)))
  ·cases h2
 ·rename_i x e
  obtain⟨v,hv,h⟩:=aj h
  injection h with h;subst h
  have ep:∀x:S,zH c y (x.put o.dst v) B=zH c y x B:=fun x=>by cases o.dst<;>rfl
  exact qw (u:=a.eval x) (by unfold execOp;rw [e];rfl) (kk y _ _ (A.value (A.ev hv) hd) rfl (ep s))
 ·cases h
theorem R8 {ops:Array Oper}{Q:Exit→Act→World→Prop}{Sx:World→Prop}{B:Nat}{R0:List Pc}(hSx:∀w',St c.W w' R0→Sx w'):∀{l:List Oper} {k:Nat} {listed:Array Bool} {s s':S} {y:Lay} {a:Act} {w:World},(∀j,l[j]?=ops[k+j]?)→Region.seqB .any ops l.length k listed=true→(∀o∈l,fO c.n o.dst=true)→Le P B l s=some s'→At c s y a w→zH c y s B=R0→
   (∀y' a' w',At c s' y' a' w'→y'.hd=y.hd→Q .normal a' w')→wpAnyH P .any ops Q Sx l.length listed a w
 | [],k,listed,s,s',y,a,w,_,hB,_,h,A,_,kk=>by
  simp only [Le]at h;injection h with h;subst h
  exact⟨by simpa [Region.seqB] using hB,kk y a w A rfl⟩
 | o::l,k,listed,s,s',y,a,w,hl,hB,hd,h,A,hR,kk=>by
  simp only [Le]at h
  obtain⟨hg,h⟩:=aB h
  obtain⟨s1,h1,h⟩:=aj h
  have h0:ops[k]?=some o:=by simpa using (hl 0).symm
  simp only [List.length_cons,Region.seqB,Bool.and_eq_true,decide_eq_true_eq]at hB
  refine wpAnyH_all hB.1 (by simp) fun i hi=>?_
  obtain rfl:i=k:=by simpa using hi
  have hw:Region.wanted o (yielded ops a.tmps)=true:=by
   unfold Region.wanted
   cases e:o.guard with
   | none=>rfl
   | some g=>rw [e]at hg;cases hg
  unfold wpOp
  simp only [h0,hw,if_true]
  refine .inl (ahB (hd o (by simp)) h1 A _ _ fun y' a' w' A' e1 e2=>⟨hSx w' ?_,?_⟩)
  ·rw [←hR,←e2];exact A'.rest B
  ·exact R8 hSx (fun j=>by have:=hl (j+1);simpa [Nat.add_assoc,Nat.add_comm 1 j] using this) hB.2 (fun o ho=>hd o (by simp [ho])) h A' (e2.trans hR) fun y2 a2 w2 A2 e3=>kk y2 a2 w2 A2 (e3.trans e1)
def FJ:Value→Nat→Value
 | .slice b _ c,h=> .slice b h c
 | u,_=>u
theorem acd {o:Oper}{t e:TypeId}{x z:Operand}{p h:Nat}{k:IntKind}{rows:List (List D)}(ho:o.op= .slice t x none (some z) none)(hx:s.ev x=some (.own p))(hz:s.ev z=some (.v (.int k (h:Int))))(hu:P.underlying t=some (.slice e))(hs:eY P e=true)
  (hl:look p s.tree=some rows) (hh:h≤rows.length) (A:At c s y a w):(execOp a.eval o).run P w= .ok (.value (FJ (y.hd p).v h)) w:=by
 have exv:a.eval x=(y.hd p).v:=(A.ev hx).2
 obtain⟨F,ow⟩:=A.DI hl
 obtain⟨A',c',e1,e2,e3,e4⟩:=(ow.own.rd (G:=eG w) fun _ _ _ e=>e).len
 have hq:bounds rows.length none (some (.v (.int k (h:Int))))=some (0,h):=by
  unfold bounds
  simp only [WC,idxOf,bq]
  rw [eB _ ⟨by omega,by omega,by omega⟩]
  simp
 obtain⟨b1,b2,hb⟩:=wY (P:=P) A (lo:=none) (hi:=some z) (vl:=none) (vh:=some (.v (.int k (h:Int)))) rfl (by simp only [j5,hz];rfl) hq e2 true
 unfold execOp
 simp only [ho,exv,e1]
 simp only [Option.map_none,Option.map_some]at hb
 simp [Instr.sliceAt,Instr.slice,run_underlying hu,hb,kN hs,FJ]
 intro hc
 cases A' with
 | none=>rfl
 | some a=>simp [Addr.add]
theorem At.aj5 (A:At c s y a w){b:Nat}{u:Value}{v:V}(hb:look b s.box=some [.v u])(hv:RV (aX c s y) v u):∃y',At c {s with box:=upd b [v] s.box} y' a w:=by
 obtain⟨h1,h2⟩:=A.aee hb
 obtain⟨u',q,e,e1,e2⟩:=h2
 refine⟨_,A.turn (cs':= [v]) (us':=y.us b) hb ?_ h1 ⟨rfl,rfl,rfl,Nat.le_refl _,fun _ _ _=>rfl⟩⟩
 rw [e]
 refine⟨u',q,rfl,?_,e2⟩
 rw [show u'=u from e1];exact hv
noncomputable def S.R9 (s:S)(d p h b:Nat)(u:Value):Option S:=bnd (look p s.tree) fun rows=>BL (look d s.env) (some (.v u)) (if h=0 then BL (look b s.box) (some [.v u]) (some {s with box:=upd b [.aM none []] s.box})
 else grd (h≤rows.length) (bnd ((s.kill p).newTree (some d) (rows.take h)) fun s1=>BL (look b s1.box) (some [.v u]) (some {s1 with box:=upd b [.own d] s1.box})))
theorem Xl {d p h b:Nat}{u:Value}{s':S}(A:At c s y a w)(hd:d<c.n)(hu:u=FJ (y.hd p).v h)(e:s.R9 d p h b u=some s'):Good c s' a w:=by
 unfold S.R9 at e
 obtain⟨rows,hl,e⟩:=aj e
 obtain⟨he,e⟩:=yD e
 have hd':fO c.n (some d)=true:=by simpa [fO] using hd
 have hv:a.tmps.getD d undef=u:=A.env d _ he
 subst hu
 by_cases h0:h=0
 ·subst h0
  rw [if_pos rfl]at e
  obtain⟨hb,e⟩:=yD e
  injection e with e;subst e
  obtain⟨F,o⟩:=A.DI hl
  obtain⟨A',c',e1,e2,e3,e4⟩:=(o.own.rd (G:=eG w) fun _ _ _ e=>e).len
  rw [e1]at hb
  obtain⟨y',A2⟩:=A.aj5 (v:= .aM none []) hb ⟨.nil _ _ (by omega) fun hn=>e4 hn,fun j h=>by cases h⟩
  exact⟨y',A2⟩
 ·rw [if_neg h0]at e
  obtain⟨hh,e⟩:=aB e
  obtain⟨s1,h1,e⟩:=aj e
  obtain⟨hb,e⟩:=yD e
  injection e with e;subst e
  obtain⟨g,ob,cc,k1,k2,k3,S1⟩:=(A.out' hl).BO.Y2 (h:=h) (by omega) hh
  obtain⟨y',A'⟩:=oU (A.take hl) hd' h1 S1
  rw [k1]at hv hb
  rw [ahA (show a.tmps.getD d undef= .slice (some ⟨g,ob,none⟩) h cc from hv)]at A'
  have hown:RV (aX c s1 y') (.own d) (.slice (some ⟨g,ob,none⟩) h cc):=by
   have hd2:look d s1.env=some (V.own d):=by
    unfold S.newTree at h1
    simp only [bq]at h1
    obtain⟨_,h1⟩:=aB h1
    injection h1 with h1;subst h1
    show look d (YtlpdjhiggpblcaaGreat.put d (V.own d) _)=_
    rw [Mi,if_pos rfl]
   have:=A'.env d _ hd2
   rw [show a.tmps.getD d undef= .slice (some ⟨g,ob,none⟩) h cc from hv]at this
   exact this
  obtain⟨y2,A2⟩:=A'.aj5 hb hown
  exact⟨y2,A2⟩
def Sb (B:Nat):V→Bool
 | .v _=>true
 | .own _=>true
 | .ref b _=>b==B
 | _=>false
def S.only (s:S)(keep:List Nat)(B:Nat):Option S:=
 grd (((s.env.filter fun x=>keep.contains x.1).all (fun x=>Sb B x.2)&&(s.box.filter fun x=>x.1==B).all fun x=>x.2.all fun v=>vV v||oV v)=true) (some {s with env:=s.env.filter fun x=>keep.contains x.1,box:=s.box.filter fun x=>x.1==B})
theorem IB {α:Type}{p:Nat→Bool}:∀{l:List (Nat×α)} {k:Nat} {x:α},look k (l.filter fun z=>p z.1)=some x→look k l=some x∧(k,x)∈l.filter fun z=>p z.1
 | [],k,x,h=>by cases h
 | (j,z)::l,k,x,h=>by
  by_cases hj:p j=true
  ·rw [List.filter_cons_of_pos (p:=fun z:Nat×α=>p z.1) (a:=(j,z)) hj]at h⊢
   simp only [look]at h⊢
   by_cases e:k=j
   ·subst e
    rw [if_pos rfl]at h⊢
    injection h with h;subst h
    exact⟨rfl,List.mem_cons_self⟩
   ·rw [if_neg e]at h⊢
    obtain⟨h1,h2⟩:=IB h
    exact⟨h1,List.mem_cons_of_mem _ h2⟩
  ·rw [List.filter_cons_of_neg (p:=fun z:Nat×α=>p z.1) (a:=(j,z)) hj]at h⊢
   obtain⟨h1,h2⟩:=IB h
   refine⟨?_,h2⟩
   simp only [look]
   have hk:p k=true:=(List.mem_filter.1 h2).2
   rw [if_neg (fun e=>hj (by rw [←e];exact hk))]
   exact h1
theorem ace {keep:List Nat}{B:Nat}{t:S}(A:At c s y a w)(h:s.only keep B=some t)(hB:B∈s.box.map (·.1)):At c t y a w∧(∀v u,RV (aX c t y) v u→RV (aX c s y) v u)∧ab8 c y t=zH c y s B∧t.tree=s.tree:=by
 unfold S.only at h
 obtain⟨hc,h⟩:=aB h
 injection h with h
 rw [Bool.and_eq_true]at hc
 have hBt:B∈t.box.map (·.1):=by
  obtain⟨x,hx,e⟩:=List.mem_map.1 hB
  subst h
  exact List.mem_map.2 ⟨x,List.mem_filter.2 ⟨hx,by simp [e]⟩,e⟩
 have hv:∀v u,Sb B v=true→RV (aX c s y) v u→RV (aX c t y) v u:=fun v u hk r=>by
  unfold Sb at hk
  split at hk
  ·exact r
  ·exact⟨by subst h;exact r.1,r.2⟩
  ·have:_=B:=eq_of_beq hk
   subst this
   exact⟨hBt,r.2⟩
  ·cases hk
 have hle:(aX c t y).le (aX c s y):=by
  subst h
  exact⟨fun _ _ h=>h,fun _ _ h=>h,rfl,fun b hb=>⟨by
   obtain⟨x,hx,e⟩:=List.mem_map.1 hb
   exact List.mem_map.2 ⟨x,(List.mem_filter.1 hx).1,e⟩,rfl⟩,fun _ h=>⟨h,rfl⟩⟩
 refine⟨⟨A.defers,A.size,?_,fun tt v e=>?_,fun b cs hb=>?_,?_,?_,?_,A.fix⟩,fun v u r=>r.le hle,?_,?_⟩
 ·have:=A.rest B
  subst h;exact this
 ·have e2:look tt (s.env.filter fun x=>keep.contains x.1)=some v:=by subst h;exact e
  obtain⟨e3,e4⟩:=IB e2
  exact hv v _ (List.all_eq_true.1 hc.1 _ e4) (A.env tt v e3)
 ·have hb2:(b,cs)∈s.box.filter fun x=>x.1==B:=by subst h;exact hb
  have hcs:=List.all_eq_true.1 (List.all_eq_true.1 hc.2 _ hb2)
  refine jC.of (A.box b cs (List.mem_filter.1 hb2).1).len fun i v u e1 e2=>hv v u ?_ ?_
  ·have:=hcs v (List.mem_of_getElem? e1)
   rw [Bool.or_eq_true]at this
   unfold vV oV at this
   unfold Sb
   cases v<;>simp at this⊢
  ·obtain⟨u',e3,r⟩:=(A.box b cs (List.mem_filter.1 hb2).1).get e1
   rw [e2]at e3;injection e3 with e3;subst e3
   exact r
 ·subst h;exact A.dJ
 ·subst h;exact List.Sublist.nodup (List.Sublist.map _ List.filter_sublist) A.nb
 ·subst h;exact A.nt
 ·subst h;rfl
 ·subst h;rfl
noncomputable def CS (P:Program)(l:List Oper)(n k d p h b B:Nat)(keep:List Nat)(u:Value)(s:S):Option S:=
 bnd (s.only keep B) fun t=>bnd (yH P (l.take k) t s) fun x=>bnd (yH P ((l.take n).drop (k+1)) (x.1.put (some d) (.v u)) (x.2.put (some d) (.v u))) fun z=>bnd (Le P B (l.drop n) z.2) fun s5=>s5.R9 d p h b u
def QJ (P:Program)(l:List Oper)(k d p h B:Nat)(keep:List Nat)(s:S):Prop:= ∃(o:Oper) (t e:TypeId) (x z:Operand) (rows:List (List D)),l[k]?=some o∧o.op= .slice t x none (some z) none∧o.dst=some d∧o.guard.isNone=true∧lU P t=some (e,none)∧eY P e=true∧look p s.tree=some rows∧h≤rows.length∧B∈s.box.map (·.1)∧
 ∀t1 x1,s.only keep B=some t1→yH P (l.take k) t1 s=some x1→x1.1.ev x=some (.own p)∧x1.1.ev z=some (.v (.int .i64 (h:Int)))
def Xm (ops:Array Oper)(n k:Nat):Bool:=
 Region.noSelect ops&&(decide (k<n∧n<ops.size)&&(takeB ops k 0 (Array.replicate ops.size false)&&((Region.ready .any ops (Iy (Array.replicate ops.size false) 0 k)).contains k&&(Region.free .any ops (Iy (Array.replicate ops.size false) 0 k) k&&
  (takeB ops (n-(k+1)) (k+1) ((Iy (Array.replicate ops.size false) 0 k).setIfInBounds k true)&&Region.seqB .any ops (ops.size-n) n (Iy ((Iy (Array.replicate ops.size false) 0 k).setIfInBounds k true) (k+1) (n-(k+1))))))))
theorem Xn (hm:P.follows .mixedOrders=true){id:Nat}{l:List Oper}{n k d p h b B:Nat}{keep:List Nat}(hB:Xm l.toArray n k=true)(hd:∀o∈l,fO c.n o.dst=true)(hf:QJ P l k d p h B keep s)
  (g:Good c s a w) {Q1:Exit→Act→World→Prop} (hQ:∀(ch:_) (a:Act) (d:Option Nat) (v:Value) (w:World),Q1 (.panic ch) (a.put d v) w→Q1 (.panic ch) a w) (he:∀u:Value,u.oneCell'=true→∃s',CS P l n k d p h b B keep u s=some s'∧∀a w,Good c s' a w→Q1 .normal a w):(Code.region id l.toArray true).wp P Q1 a w:=by
 obtain⟨o,t,e,x,z,rows,f1,f3,f4,f5,f6,f7,f8,f9,fb,fB⟩:=hf
 have f6:P.underlying t=some (.slice e):=by
  rcases E8 f6 with⟨q,e1,e2⟩|⟨q,n,e1,e2⟩
  ·injection e1 with e1;rw [e1];exact e2
  ·injection e1 with e1 e3;cases e3
 obtain⟨y,A⟩:=g
 have A:At c s y a {w with drawn:=w.drawn+1}:=⟨A.defers,A.size,A.st.drew,A.env,A.box,A.dJ,A.nb,A.nt,A.fix⟩
 have hone:(FJ (y.hd p).v h).oneCell'=true:=by
  obtain⟨F,ow⟩:=A.DI f8
  obtain⟨A',c',e1, -, -, -⟩:=(ow.own.rd (G:=eG _) fun _ _ _ e=>e).len
  rw [e1];rfl
 obtain⟨s',he,kk⟩:=he _ hone
 unfold CS at he
 obtain⟨t1,h1,he⟩:=aj he
 obtain⟨⟨t2,s2⟩,h2,he⟩:=aj he
 obtain⟨⟨t4,s4⟩,h4,he⟩:=aj he
 obtain⟨s5,h5,h6⟩:=aj he
 obtain⟨fB1,fB2⟩:=fB t1 (t2,s2) h1 h2
 obtain⟨At1,hle,hall,htr⟩:=ace A h1 fb
 simp only [Xm,Bool.and_eq_true,decide_eq_true_eq]at hB
 obtain⟨hsel,⟨hkn,hnl⟩,b1,b2,b3,b4,b5⟩:=hB
 have hnl:n<l.length:=by simpa using hnl
 have hkl:(l.take k).length=k:=by simp;omega
 have hml:((l.take n).drop (k+1)).length=n-(k+1):=by simp;omega
 have htl:(l.drop n).length=l.toArray.size-n:=by simp
 have hod:d<c.n:=fO.lt (by rw [←f4];exact hd o (List.mem_of_getElem? f1))
 have hok:l.toArray[k]?=some o:=by simpa using f1
 have hdl:fO c.n o.dst=true:=hd o (List.mem_of_getElem? f1)
 refine wp_region_held (S:=fun w'=>St c.W w' (zH c y s B)) hm ?_
 generalize Array.replicate l.toArray.size false=L0 at*
 rw [show l.toArray.size=(l.take k).length+(((l.take n).drop (k+1)).length+(l.drop n).length+1) by simp;omega]
 refine Iz hsel hQ (k:=0) (fun j hj=>by rw [hkl]at hj;simp [hj]) (by rw [hkl];exact b1) (fun o ho=>hd o (List.mem_of_mem_take ho)) h2 At1 A hle (fun w' hw=>by rw [hall];exact hw) (A.rest B) fun a1 At2 As2 ht1 hle2 afl=>?_
 rw [hkl]
 have am8:=(FI h2).1
 refine take_one (u:=FJ (y.hd p).v h) hsel hQ afl hok b2 b3 f5 (fun w' A'=>acd f3 fB1 fB2 f6 f7 (by rw [am8,htr];exact f8) f9 A') At2 (A.rest B) ?_
 have ep:∀(x:S) (v:V),aX c (x.put o.dst v) y=aX c x y:=fun x v=>by cases o.dst<;>rfl
 have At3:=At2.value (v:= .v (FJ (y.hd p).v h)) (u:=FJ (y.hd p).v h) rfl hdl
 have As3:=As2.value (v:= .v (FJ (y.hd p).v h)) (u:=FJ (y.hd p).v h) rfl hdl
 rw [←f4]at h4
 have hmem:=FI h4
 refine Iz hsel hQ (k:=k+1) (fun j hj=>?_) (by rw [hml];exact b4) (fun o ho=>hd o (List.mem_of_mem_take (List.mem_of_mem_drop ho))) h4 At3 As3 (fun v u r=>by rw [ep]at r⊢;exact hle2 v u r) (fun w' hw=>by rw [Zo];exact afl w' hw) (A.rest B) fun a3 At4 As4 ht3 aB5 aku=>?_
 ·rw [hml]at hj
  rw [List.getElem?_drop,List.getElem?_take_of_lt (by omega)]
  simp
 rw [hml,htl]
 have hR:zH c y s4 B=zH c y s B:=by
  have m2:=FI h2
  have pb:∀(x:S) (v:V),(x.put o.dst v).box=x.box∧(x.put o.dst v).tree=x.tree∧(x.put o.dst v).dJ=x.dJ:=fun x v=>by cases o.dst<;>exact⟨rfl,rfl,rfl⟩
  unfold zH
  rw [hmem.2.2.1,hmem.2.1,hmem.2.2.2,(pb s2 _).1,(pb s2 _).2.1,(pb s2 _).2.2,m2.2.1,m2.2.2.1,m2.2.2.2]
 rw [←htl]
 refine R8 (B:=B) (R0:=zH c y s B) (fun w' h=>h) (k:=n) (fun j=>by simp) (by rw [htl];exact b5) (fun o ho=>hd o (List.mem_of_mem_drop ho)) h5 As4 hR fun y' a' w' A' e1=>?_
 exact kk a' w' (Xl A' hod (by rw [e1]) h6)
end
def QK (P:Program)(G:List (FuncId×Bool×aN))(gh:ou)(pre rest:List Code)(rs:List ResultVar)(l:List Oper)(n k d p h b B:Nat)(keep:List Nat)(args:List V)(r:Cw):Prop:=
 MJ (fun s=> ∃rows,look p s.tree=some rows∧∀us:List Value,us.length=rows.flatten.length→AJ rows.flatten us→
  QJ P l k d p h B keep {s with tree:=upd p (gJ rows us) s.tree}∧
  ∀u:Value,u.oneCell'=true→FH P rs (Iu rows us r) (bnd (CS P l n k d p h b B keep u {s with tree:=upd p (gJ rows us) s.tree}) fun s=>evL P G gh rest (.on s))) (evL P G gh pre (.on (Ai args [] [])))
section
variable {P:Program} {G:List (FuncId×Bool×aN)} {gh:ou}
theorem Zp (hG : ∀ f M, look f G = some M → aD P f M.2) (hm : P.follows .mixedOrders = true) {f : FuncId} {fn : Func} {x : Code} (hf : P.funcs[f]? = some fn) (hb : fn.body = some x) (hn : (fn.name == "runtime.NumGoroutine") = false) (hsm : fn.ntmps ≤ 1000000) {pre rest : List Code} {id : Nat} {l : List Oper}
  (hfl:rM x=pre++ .region id l.toArray true::rest) (hx:((pre++rest).all fun x=>ko gh fn.ntmps x)=true) (hop:(l.all fun o=>fO fn.ntmps o.dst)=true) {n k d b B:Nat} {keep:List Nat} (hB:Xm l.toArray n k=true) {M:aN}
  (H:∀args boxes trees r,M args boxes trees=some r→args.length≤1000∧boxes= []∧trees= []∧r.box= []∧∃p h,QK P G gh pre rest fn.results.toList l n k d p h b B keep args r):aD P f M:=by
 refine⟨⟨fn,hf,hn,by rw [hb];rfl⟩,fun c args boxes trees r h y us w m hargs=>?_⟩
 obtain⟨hal,rfl,rfl,hrb,p,hq,hh⟩:=H args boxes trees r h
 unfold QK at hh
 obtain⟨s,h1,rows,h2,h3⟩:∃s,evL P G gh pre (.on (Ai args [] []))=some (.normal, .on s)∧∃rows,look p s.tree=some rows∧∀us:List Value,us.length=rows.flatten.length→AJ rows.flatten us→
   QJ P l k d p hq B keep {s with tree:=upd p (gJ rows us) s.tree}∧∀u:Value,u.oneCell'=true→FH P fn.results.toList (Iu rows us r) (bnd (CS P l n k d p hq b B keep u {s with tree:=upd p (gJ rows us) s.tree}) fun s=>evL P G gh rest (.on s)):=by
  unfold MJ at hh
  split at hh
  ·rename_i s e;exact⟨s,e,hh⟩
  ·exact hh.elim
 have h3:∀us:List Value,us.length=rows.flatten.length→AJ rows.flatten us→QJ P l k d p hq B keep {s with tree:=upd p (gJ rows us) s.tree}∧∀u:Value,u.oneCell'=true→∃(s1:S) (ex:Ex) (s2:S) (r2:Cw),CS P l n k d p hq b B keep u {s with tree:=upd p (gJ rows us) s.tree}=some s1∧evL P G gh rest (.on s1)=some (ex, .on s2)∧(ex= .normal∨ex= .ret)∧sI P fn.results.toList 0 0 s2=some r2∧Iu rows us r r2:=fun us Y0 huc=>by
  obtain⟨k1,k2⟩:=h3 us Y0 huc
  refine⟨k1,fun u hu=>?_⟩
  have this:=k2 u hu
  cases eq:CS P l n k d p hq b B keep u {s with tree:=upd p (gJ rows us) s.tree}with
  | none=>rw [eq]at this;exact this.elim
  | some s1=>
   rw [eq,bq]at this
   unfold FH at this
   split at this
   ·rename_i s2 e
    unfold AL at this
    split at this
    ·rename_i r2 e2;exact⟨s1,_,s2,r2,rfl,e, .inl rfl,e2,this⟩
    ·exact this.elim
   ·rename_i s2 e
    unfold AL at this
    split at this
    ·rename_i r2 e2;exact⟨s1,_,s2,r2,rfl,e, .inr rfl,e2,this⟩
    ·exact this.elim
   ·exact this.elim
 obtain⟨un,hun⟩:=ab3
 have hle:us.length≤1000:=by rw [hargs.len];exact hal
 have hsz0:(lC fn.ntmps us).tmps.size=us.length+(fn.ntmps-us.length):=by
  show(us.toArray++Array.replicate (fn.ntmps-us.toArray.size) undef).size=_
  rw [Array.size_append,Array.size_replicate,List.size_toArray]
 have hsz:fn.ntmps≤(lC fn.ntmps us).tmps.size:=by rw [hsz0];omega
 have hpb:(lC fn.ntmps us).tmps.size≤bg:=by rw [hsz0];unfold bg;omega
 have A:=Im m hargs fn.ntmps hun hpb
 have hxs:=List.all_eq_true.1 hx
 have ho:∀l:List Code,(∀z∈l,z∈pre++rest)→(l.all fun x=>ko gh (lC fn.ntmps us).tmps.size x)=true:=fun l hl=>List.all_eq_true.2 fun z hz=>nE hsz z (hxs z (hl z hz))
 have hop2:∀o∈l,fO (lC fn.ntmps us).tmps.size o.dst=true:=fun o ho=>by
  have:=List.all_eq_true.1 hop o ho
  cases e:o.dst with
  | none=>rfl
  | some d0=>
   rw [e]at this
   have:=fO.lt this
   simp only [fO,decide_eq_true_eq];omega
 refine calls_of_wp hf hb (Zl x ?_)
 rw [hfl]
 refine Xi _ _ ?_
 refine Eo (c:= {c with n:=(lC fn.ntmps us).tmps.size,bF:=fun b=>y.bl (un b),hF:=fun p=>y.hd (un p)}) (Ik hG) (Ir gh) hm _ (.on (Ai args [] [])) (.normal, .on s) (lC fn.ntmps us) w _ (ho _ fun z hz=>List.mem_append_left _ hz) h1 ⟨_,A⟩ fun a1 w1 g1=>?_
 obtain⟨vs,hK',hvl,hvc,g2⟩:=Good.flat (show Good _ s a1 w1 from g1) h2
 obtain⟨k0,k5⟩:=h3 vs hvl hvc
 show(Code.region id l.toArray true).wp P (Exit.then (wpL P rest _) _) a1 w1
 refine Xn (b:=b) (c:= {c with L:=pX rows.flatten vs++c.L,hK:=hK',n:=(lC fn.ntmps us).tmps.size,bF:=fun b=>y.bl (un b),hF:=fun p=>y.hd (un p)}) hm hB hop2 k0 g2 (fun ch a d v w hp=>by
  have e:(a.put d v).defers=a.defers:=by cases d<;>rfl
  exact⟨by rw [←e];exact hp.1,hp.2⟩) fun u hu=>?_
 obtain⟨s1,ex,s2,r2,kq,k1,k2,k3,k4⟩:=k5 u hu
 refine⟨s1,kq,fun a2 w2 g3=>?_⟩
 show wpL P rest _ a2 w2
 refine Eo (c:= {c with L:=pX rows.flatten vs++c.L,hK:=hK',n:=(lC fn.ntmps us).tmps.size,bF:=fun b=>y.bl (un b),hF:=fun p=>y.hd (un p)}) (Ik hG) (Ir gh) hm _ _ (ex, .on s2) a2 w2 _ (ho _ fun z hz=>List.mem_append_right _ hz) k1 g3 fun a' w' g=>?_
 obtain⟨y1,A1⟩:=(show Good _ s2 a' w' from g)
 have fin:a'.defers= []∧∃v,(results fn a'.tmps).run P w'= .ok v w'∧∃u y',Ending.returned v= .returned u∧Ends c 0 0 r y u y' w':=by
  have hr2:=k3
  unfold sI at hr2
  obtain⟨ws,hvs,_⟩:=aj hr2
  obtain⟨u,q1,q2⟩:=DU A1 hvs
  obtain⟨y',q3,q4,q5,q6,q7⟩:=Io (n0:=c.n) (bF':=c.bF) (hF':=c.hF) A1 hvs q2 k3
  have aky:r2.box= []:=List.eq_nil_of_length_eq_zero q5
  rw [aky]at q3 q4
  obtain⟨y2,z1,z2⟩:=k4 c hK' y' w' u q3 q4
  refine⟨A1.defers,u,q1,u,y2,rfl,by rw [hrb];exact z1,by rw [hrb];exact z2, .inl (by rw [hrb];rfl),fun i hi=>by omega,fun q hq=>by omega⟩
 rcases k2 with rfl|rfl
 ·exact fin
 ·exact fin
theorem Xo (hG : ∀ f M, look f G = some M → aD P f M.2) (hm : P.follows .mixedOrders = true) {f : FuncId} {fn : Func} {x : Code} (hf : P.funcs[f]? = some fn) (hb : fn.body = some x) (hn : (fn.name == "runtime.NumGoroutine") = false) (hsm : fn.ntmps ≤ 1000000) (n0 : Nat) {id : Nat} {ops : Array Oper}
  (am9:(rM x)[n0]?=some (.region id ops true)) (hx:(((rM x).take n0++(rM x).drop (n0+1)).all fun x=>ko gh fn.ntmps x)=true) (hop:(ops.toList.all fun o=>fO fn.ntmps o.dst)=true) (n k d b B:Nat) (keep:List Nat) (hB:Xm ops n k=true) {M:aN}
  (H:∀args boxes trees r,M args boxes trees=some r→args.length≤1000∧boxes= []∧trees= []∧r.box= []∧∃p h,QK P G gh ((partsOf P f).take n0) ((partsOf P f).drop (n0+1)) fn.results.toList ops.toList n k d p h b B keep args r):aD P f M:=by
 have hp:partsOf P f=rM x:=by unfold partsOf;rw [hf];simp only [hb]
 rw [hp]at H
 refine Zp (b:=b) (B:=B) (keep:=keep) (n:=n) (k:=k) (d:=d) (id:=id) (l:=ops.toList) hG hm hf hb hn hsm (pre:=(rM x).take n0) (rest:=(rM x).drop (n0+1)) ?_ hx hop (by simpa using hB) H
 obtain⟨h1,h2⟩:=List.getElem?_eq_some_iff.1 am9
 rw [Array.toArray_toList,←h2,List.getElem_cons_drop,List.take_append_drop]
noncomputable def orM (M1 M2:aN):aN:=fun a b t=>match M1 a b t with
 | some r=>some r
 | none=>M2 a b t
theorem ahC {M1 M2:aN}{a:List V}{b:List (List V)}{t:List (List (List D))}{r:Cw}(h:M1 a b t=some r):orM M1 M2 a b t=some r:=by unfold orM;rw [h]
theorem afr {M1 M2:aN}{a:List V}{b:List (List V)}{t:List (List (List D))}(h:M1 a b t=none):orM M1 M2 a b t=M2 a b t:=by unfold orM;rw [h]
theorem afs {f:FuncId}{M1 M2:aN}(h1:aD P f M1)(h2:aD P f M2):aD P f (orM M1 M2):=⟨h1.1,fun c args boxes trees r h=>by
 unfold orM at h
 split at h
 ·rename_i r' e;injection h with h;subst h;exact h1.2 c args boxes trees _ e
 ·exact h2.2 c args boxes trees r h⟩
end
theorem PN:∀(A B:List (List D)) (us:List Value),gJ (A++B) us=gJ A us++gJ B (us.drop A.flatten.length)
 | [],B,us=>by simp [gJ]
 | r::A,B,us=>by
  show(us.take r.length).map D.a::gJ (A++B) (us.drop r.length)=(us.take r.length).map D.a::(gJ A (us.drop r.length)++_)
  rw [PN A B,List.drop_drop,List.flatten_cons,List.length_append]
theorem ML:∀(A:List (List D)) (us:List Value),gJ A (us.take A.flatten.length)=gJ A us
 | [],us=>rfl
 | r::A,us=>by
  show((us.take _).take r.length).map D.a::gJ A ((us.take _).drop r.length)=(us.take r.length).map D.a::gJ A (us.drop r.length)
  rw [List.flatten_cons,List.length_append,List.take_take,Nat.min_eq_left (by omega),List.drop_take,Nat.add_sub_cancel_left,ML A]
theorem acf (A:List (List D))(us:List Value):dV (gJ A us)=true:=by
 induction A generalizing us with
 | nil=>rfl
 | cons r A ih=>
  have:=ih (us.drop r.length)
  unfold dV at this⊢
  show(((us.take r.length).map D.a).all sH&&(gJ A (us.drop r.length)).all fun r=>r.all sH)=true
  rw [this,Bool.and_true,List.all_eq_true]
  intro d hd
  obtain⟨x,_,rfl⟩:=List.mem_map.1 hd
  rfl
theorem alK {α:Type}{us:List α}{N:Nat}(h:us.length=N+2):∃MN a b,us=MN++ [a,b]∧MN.length=N:=by
 have h1:=List.take_append_drop N us
 have h2:(us.drop N).length=2:=by rw [List.length_drop];omega
 have h3:(us.take N).length=N:=by rw [List.length_take];omega
 match hd:us.drop N,h2 with
 | [a,b],_=>exact⟨us.take N,a,b,by rw [←hd,h1],h3⟩
theorem acg {pre:List (List D)}{q:List (List D)}{x ut ua:Value}{MN:List Value}(h1:MN.length=pre.flatten.length):gJ (pre++ [[D.l q,D.a x]]) (MN++ [ut,ua])=gJ pre MN++ [[.a ut, .a ua]]:=by
 rw [PN,←h1,List.drop_left,←ML,←h1,List.take_left]
 rfl
theorem ahD {pre:List (List D)}{q:List (List D)}{x ut ua:Value}{MN:List Value}(h1:MN.length=pre.flatten.length):pX (pre++ [[D.l q,D.a x]]).flatten (MN++ [ut,ua])=pX pre.flatten MN++ [qF ut q,dP (.a x) ua]:=by
 rw [List.flatten_append,rX h1]
 rfl
theorem pair_cells {pre:List (List D)}{q:List (List D)}{x ut ua:Value}{MN:List Value}(h1:MN.length=pre.flatten.length)(hc:AJ (pre.flatten++ [D.l q,D.a x]) (MN++ [ut,ua])):ut.oneCell'=true∧ua=x:=by
 refine⟨hc MN.length (.l q) ut ?_ ?_,hc (MN.length+1) (.a x) ua ?_ ?_⟩
 ·rw [List.getElem?_append_right (by omega),h1];simp
 ·rw [List.getElem?_append_right (by omega)];simp
 ·rw [List.getElem?_append_right (by omega),h1];simp
 ·rw [List.getElem?_append_right (by omega)];simp
theorem ajb {pre:List (List D)}{q:List (List D)}{x ut ua:Value}{MN:List Value}(h1:MN.length=pre.flatten.length)(h2:∀r∈pre,r.length=2)(hx:ua=x):Iu (pre++ [[D.l q,D.a x]]) (MN++ [ut,ua]) ⟨.fT [.agg [.own 0], .agg [.own 1, .v x], .v (.bool true)],[],[(0,pre),(1,q)]⟩
  ⟨.fT [.agg [.own 0], .agg [.v ut, .v ua], .v (.bool true)],[],[(0,gJ pre MN)]⟩:=by
 intro c hK' y w u m r
 have S0:=(aey m).BO
 have S0:St c.W w (qF (y.hd 0).v (gJ pre MN)::(pX (pre++ [[D.l q,D.a x]]).flatten (MN++ [ut,ua])++c.L)):=S0
 rw [ahD h1,List.append_assoc]at S0
 have S1:=St.Xh S0 (by rw [FE h1]) h1 (by rw [sN]) (fun i r r' e1 e2=>by
  rw [h2 r' (List.mem_of_getElem? e2)]
  exact CQ h1 h2 r (List.mem_of_getElem? e1))
 obtain⟨k0,e0,S2⟩:=S1.tree
 have S3:St c.W w (qF ut q::gH k0 pre::dP (.a x) ua::c.L):=S2.swap
 obtain⟨k1,e1,S4⟩:=S3.tree
 have S5:St c.W w (gH k0 pre::gH k1 q::dP (.a x) ua::c.L):=S4.swap
 have S6:St c.W w (gH k0 pre::gH k1 q::c.L):=by
  have:=S5.perm (L':=dP (.a x) ua::gH k0 pre::gH k1 q::c.L) (((List.Perm.swap _ _ _).cons _).trans (List.Perm.swap _ _ _))
  exact this.drop
 refine⟨{y with hd:=fun p=>if p=0 then k0 else if p=1 then k1 else y.hd p},⟨S6,fun b cs hb=>(by cases hb),fun p rows hp=>(by cases hp),List.nodup_nil,by simp [oW]⟩,?_⟩
 obtain⟨us,rfl,v1,l1,rfl,q1,v2,l2,rfl,q2,v3,l3,rfl,q3,q4⟩:=r
 obtain⟨ana,rfl,w1,m1,rfl,⟨-,hw1⟩,q5⟩:=q1
 obtain⟨anb,rfl,w2,m2,rfl,hw2,w3,m3,rfl,hw3,q6⟩:=q2
 refine⟨_,rfl,_,_,rfl,⟨_,rfl,_,_,rfl,⟨by simp [aX,oW],?_⟩,q5⟩,_,_,rfl,⟨_,rfl,_,_,rfl,⟨by simp [aX,oW],?_⟩,_,_,rfl,?_,q6⟩,_,_,rfl,q3,q4⟩
 ·show w1=k0.v
  rw [e0];exact hw1
 ·show w2=k1.v
  rw [e1];exact hw2
 ·show w3=x
  rw [←hx];exact hw3
theorem ahE {q:List (List D)}{x ut ua:Value}(hx:ua=x):Iu [[D.l q,D.a x]] [ut,ua] ⟨.fT [.agg [.aM none []], .agg [.own 0, .v x], .v (.bool true)],[],[(0,q)]⟩
  ⟨.fT [.agg [.aM none []], .agg [.v ut, .v ua], .v (.bool true)],[],[]⟩:=by
 intro c hK' y w u m r
 have S0:St c.W w (qF ut q::dP (.a x) ua::c.L):=m.st
 obtain⟨k1,e1,S4⟩:=S0.tree
 have S6:St c.W w (gH k1 q::c.L):=S4.swap.drop
 refine⟨{y with hd:=fun p=>if p=0 then k1 else y.hd p},⟨S6,fun b cs hb=>(by cases hb),fun p rows hp=>(by cases hp),List.nodup_nil,by simp [oW]⟩,?_⟩
 obtain⟨us,rfl,v1,l1,rfl,q1,v2,l2,rfl,q2,v3,l3,rfl,q3,q4⟩:=r
 obtain⟨ana,rfl,w1,m1,rfl,hw1,q5⟩:=q1
 obtain⟨anb,rfl,w2,m2,rfl,hw2,w3,m3,rfl,hw3,q6⟩:=q2
 refine⟨_,rfl,_,_,rfl,⟨_,rfl,_,_,rfl,hw1,q5⟩,_,_,rfl,⟨_,rfl,_,_,rfl,⟨by simp [aX,oW],?_⟩,_,_,rfl,?_,q6⟩,_,_,rfl,q3,q4⟩
 ·show w2=k1.v
  rw [e1];exact hw2
 ·show w3=x
  rw [←hx];exact hw3
end Go.Proofs.YtlpdjhiggpblcaaGreat
