/- Part 8 of a proof in several texts (an abstract evaluator, what the functions compute). -/
import Derived.Test.YtlpdjhiggpblcaaGreatPkEdKeys7
import Derived.StillTail
import Derived.OrdersHeld
namespace Go.Proofs.YtlpdjhiggpblcaaGreat
set_option linter.unusedSectionVars false
set_option linter.unusedSimpArgs false
set_option linter.unusedVariables false
open Go.RowKit
def O6 (P:Program)(s:S):Op→Option V
 | .move x=>s.ev x
 | .assign x=>s.ev x
 | .load t p=>bnd (s.ev p) fun p=>s.load P t p
 | .fieldAddr t x f=>bnd (s.ev x) fun x=>bnd (bZ P t f) fun f=>yO x f.1
 | .indexAddr t x i=>bnd (s.ev x) fun x=>bnd (s.ev i) fun i=>bnd (idxOf i) fun i=>bnd (lZ P t) fun e=>lI P s x i e.1 e.2
 | .binOp op t x y _=>bnd (s.ev x) fun x=>bnd (s.ev y) fun y=>bin P t op x y
 | .build t ps=>bnd (P.underlying t) fun d=>bnd (zI d) fun fs=>grd (jr P t=true) (bnd (jN P t) fun z=>bnd (bK (o9 s) ps.toList) fun vs=>bnd (sN P fs z vs) fun cs=>some (.agg cs))
 | _=>none
def vV:V→Bool
 | .v _=>true
 | _=>false
def oV:V→Bool
 | .own _=>true
 | _=>false
def ZX:V→Bool
 | .v _=>true
 | .own _=>true
 | .ref _ _=>true
 | .pe b _ _ _=>oV b
 | .agg cs=>cs.all vV
 | _=>false
theorem acL (x:Value):ZX (.v x)=true:=id rfl
theorem SN (p:Nat):ZX (.own p)=true:=id rfl
theorem SQ (b o:Nat):ZX (.ref b o)=true:=id rfl
theorem XU (b:V)(k i o:Nat):ZX (.pe b k i o)=oV b:=id rfl
theorem SS (cs:List V):ZX (.agg cs)=cs.all vV:=id rfl
theorem aik {ρ:Rel}:∀{cs:List V} {us us':List Value},cs.all vV=true→jE ρ cs us→jE ρ cs us'→us=us'
 | [],us,us',_,h,k=>by rw [show us= []from h,show us'= []from k]
 | c::cs,us,us',hv,h,k=>by
  rw [List.all_cons,Bool.and_eq_true]at hv
  obtain⟨u,q,rfl,h1,h2⟩:=h
  obtain⟨u',q',rfl,k1,k2⟩:=k
  rw [aik hv.2 h2 k2]
  have hc:=hv.1
  unfold vV at hc
  split at hc
  ·rw [show u=_ from h1,show u'=_ from k1]
  ·cases hc
theorem aj0 {ρ:Rel}{v:V}{u u':Value}(h:ZX v=true)(r:RV ρ v u)(r':RV ρ v u'):u=u':=by
 unfold ZX at h
 split at h
 ·rw [show u=_ from r,show u'=_ from r']
 ·rw [r.2,r'.2]
 ·rw [r.2,r'.2]
 ·rename_i b k i off
  unfold oV at h
  split at h
  ·obtain⟨ub,⟨_,e1⟩,g,o,n,c,e2,e3,rfl⟩:=r
   obtain⟨ub',⟨_,e1'⟩,g',o',n',c',e2',e3',rfl⟩:=r'
   rw [e1,←e1',e2']at e2
   injection e2 with e2
   injection e2 with e2
   injection e2 with e4 e5
   rw [e4,e5]
  ·cases h
 ·obtain⟨us,rfl,h1⟩:=r
  obtain⟨us',rfl,h2⟩:=r'
  rw [aik h h1 h2]
 ·cases h
def yX (P:Program):List Oper→S→S→Option (S×S)
 | [],t,s=>some (t,s)
 | o::r,t,s=>grd (o.guard.isNone=true) (bnd (O6 P t o.op) fun v=>grd (ZX v=true) (yX P r (t.put o.dst v) (s.put o.dst v)))
def takeB (ops:Array Oper):Nat→Nat→Array Bool→Bool
 | 0,_,_=>true
 | f+1,k,listed=>(Region.ready .any ops listed).contains k&&(Region.free .any ops listed k&&takeB ops f (k+1) (listed.setIfInBounds k true))
def Ja (listed:Array Bool):Nat→Nat→Array Bool
 | _,0=>listed
 | k,m+1=>Ja (listed.setIfInBounds k true) (k+1) m
section
variable {P:Program} {G:List (FuncId×Bool×aN)} {c:Ctx} {s t:S} {y:Lay} {a:Act} {w:World}
theorem Qu {o:Oper}{v:V}(h:O6 P s o.op=some v)(A:At c s y a w):∃u,(execOp a.eval o).run P w= .ok (.value u) w∧RV (aX c s y) v u:=by
 unfold O6 at h
 split at h
 ·rename_i x e;exact⟨a.eval x,by unfold execOp;rw [e];rfl,A.ev h⟩
 ·rename_i x e;exact⟨a.eval x,by unfold execOp;rw [e];rfl,A.ev h⟩
 ·rename_i t p e
  obtain⟨x,hx,h⟩:=aj h
  exact VQ e hx h A
 ·rename_i t x f e
  obtain⟨vx,hx,h⟩:=aj h
  obtain⟨q,hf,h⟩:=aj h
  exact Im e hx hf h A
 ·rename_i t x i e
  obtain⟨vx,hx,h⟩:=aj h
  obtain⟨vi,hi,h⟩:=aj h
  obtain⟨n,hn,h⟩:=aj h
  obtain⟨q,he,h⟩:=aj h
  exact Io e hx hi hn he h A
 ·rename_i op t x z t' e
  obtain⟨vx,hx,h⟩:=aj h
  obtain⟨vy,hy,h⟩:=aj h
  exact Zt e hx hy h A
 ·rename_i t ps e
  obtain⟨d,h1,h⟩:=aj h
  obtain⟨fs,h2,h⟩:=aj h
  obtain⟨h3,h⟩:=aB h
  obtain⟨z,h4,h⟩:=aj h
  obtain⟨vs,h5,h⟩:=aj h
  obtain⟨cs,h6,h⟩:=aj h
  injection h with h;subst h
  exact R7 e h1 h2 h3 h4 h5 h6 A
 ·cases h
theorem afX {a:Act}{d t:Nat}{u:Value}(h:t≠d):(a.put (some d) u).tmps.getD t undef=a.tmps.getD t undef:=by
 show(a.tmps.setIfInBounds d u).getD t undef=a.tmps.getD t undef
 rw [Array.getD_eq_getD_getElem?,Array.getD_eq_getD_getElem?,Array.getElem?_setIfInBounds_ne (Ne.symm h)]
theorem ail {a:Act}{d:Nat}{u:Value}(h:a.tmps.getD d undef=u):a.put (some d) u=a:=by
 subst h
 show {a with tmps:=a.tmps.setIfInBounds d (a.tmps.getD d undef)}=a
 have:a.tmps.setIfInBounds d (a.tmps.getD d undef)=a.tmps:=by
  refine Array.ext_getElem? fun i=>?_
  by_cases e:i=d
  ·subst e
   rw [Array.getElem?_setIfInBounds_self]
   by_cases hi:i<a.tmps.size
   ·simp [hi]
   ·simp [hi]
  ·rw [Array.getElem?_setIfInBounds_ne (Ne.symm e)]
 rw [this]
def acM (c:Ctx)(y:Lay)(t:S):List Pc:=dV y.bl y.T y.us t.box++(bX y.hd t.tree++(iD y.w0 y.F t.dK++c.L))
theorem At.inW (A:At c t y a w){w':World}(h:St c.W w' (acM c y t)):At c t y a w':=⟨A.defers,A.size,h,A.env,A.box,A.dK,A.nb,A.nt,A.fix⟩
theorem ZY (d:Option Nat)(v:V):acM c y (t.put d v)=acM c y t:=by cases d<;>rfl
theorem take_one {ops:Array Oper}{Q:Exit→Act→World→Prop}(hsel:Region.noSelect ops=true)(hQ:∀(ch:_) (a:Act) (d:Option Nat) (v:Value) (w:World),Q (.panic ch) (a.put d v) w→Q (.panic ch) a w){Sx:World→Prop}(hst:∀w',Sx w'→St c.W w' (acM c y t)){o:Oper}{k fuel:Nat}{listed:Array Bool}(hk:ops[k]?=some o)(hr:(Region.ready .any ops listed).contains k=true)(hf:Region.free .any ops listed k=true)(hg:o.guard.isNone=true)
  {u:Value} (hx:∀w',At c t y a w'→(execOp a.eval o).run P w'= .ok (.value u) w') (A:At c t y a w) (hS:Sx w) (h:wpAnyH P .any ops Q Sx fuel (listed.setIfInBounds k true) (a.put o.dst u) w):wpAnyH P .any ops Q Sx (fuel+1) listed a w:=by
 refine wpAnyH_take hk hsel hf hr (fun ch a w h=>hQ ch a _ _ w h) (.inl ⟨?_,fun w' hS'=>hx w' (A.inW (hst w' hS'))⟩) hS h
 unfold Region.wanted
 cases e:o.guard with
 | none=>rfl
 | some g=>rw [e]at hg;cases hg
theorem Jb {ops:Array Oper}{Q:Exit→Act→World→Prop}(hsel:Region.noSelect ops=true)(hQ:∀(ch:_) (a:Act) (d:Option Nat) (v:Value) (w:World),Q (.panic ch) (a.put d v) w→Q (.panic ch) a w){Sx:World→Prop}{fuel:Nat}:
  ∀{l:List Oper} {k:Nat} {listed:Array Bool} {t s t' s':S} {a:Act},(∀j,j<l.length→l[j]?=ops[k+j]?)→takeB ops l.length k listed=true→(∀o∈l,fP c.n o.dst=true)→yX P l t s=some (t',s')→At c t y a w→At c s y a w→(∀v u,RV (aX c t y) v u→RV (aX c s y) v u)→(∀w',Sx w'→St c.W w' (acM c y t))→Sx w→
   (∀a',At c t' y a' w→At c s' y a' w→(∀tt,(∀o∈l,o.dst≠some tt)→a'.tmps.getD tt undef=a.tmps.getD tt undef)→(∀v u,RV (aX c t' y) v u→RV (aX c s' y) v u)→(∀w',Sx w'→St c.W w' (acM c y t'))→wpAnyH P .any ops Q Sx fuel (Ja listed k l.length) a' w)→wpAnyH P .any ops Q Sx (l.length+fuel) listed a w
 | [],k,listed,t,s,t',s',a,_,_,_,h,At_,As,hle,hst,hS,kk=>by
  simp only [yX]at h
  injection h with h
  injection h with h1 h2
  subst h1;subst h2
  simpa [Ja] using kk a At_ As (fun _ _=>rfl) hle hst
 | o::l,k,listed,t,s,t',s',a,hl,hB,hd,h,At_,As,hle,hst,hS,kk=>by
  simp only [yX]at h
  obtain⟨hg,h⟩:=aB h
  obtain⟨v,h1,h⟩:=aj h
  obtain⟨hv,h⟩:=aB h
  have h0:ops[k]?=some o:=by simpa using (hl 0 (by simp)).symm
  simp only [List.length_cons,takeB,Bool.and_eq_true]at hB
  obtain⟨hr,hf,hB⟩:=hB
  have hdo:=hd o (by simp)
  obtain⟨u,q1,q2⟩:=Qu h1 At_
  rw [show (o::l).length+fuel=(l.length+fuel)+1 by simp;omega]
  refine take_one (u:=u) hsel hQ hst h0 hr hf hg (fun w' A'=>?_) At_ hS ?_
  ·obtain⟨u',q3,q4⟩:=Qu h1 A'
   rw [aj0 hv q2 q4];exact q3
  ·have ep:∀(x:S),aX c (x.put o.dst v) y=aX c x y:=fun x=>by cases o.dst<;>rfl
   refine Jb hsel hQ (l:=l) (k:=k+1) (fun j hj=>by have:=hl (j+1) (by simp;omega);simpa [Nat.add_assoc,Nat.add_comm 1 j] using this) hB (fun o ho=>hd o (by simp [ho])) h (At_.value q2 hdo) (As.value (hle v u q2) hdo) (fun v u h=>by rw [ep]at h⊢;exact hle v u h) (fun w' hw=>by rw [ZY];exact hst w' hw) hS fun a' A1 A2 ht hle' hst'=>?_
   refine kk a' A1 A2 (fun tt hn=>?_) hle' hst'
   rw [ht tt fun o ho=>hn o (by simp [ho])]
   have hne:=hn o (by simp)
   cases e:o.dst with
   | none=>rfl
   | some d=>exact afX fun q=>hne (by rw [e,q])
theorem Ga:∀{l:List Oper} {t s t' s':S},yX P l t s=some (t',s')→t'.tree=t.tree∧s'.tree=s.tree∧s'.box=s.box∧s'.dK=s.dK
 | [],t,s,t',s',h=>by simp only [yX]at h;injection h with h;injection h with h1 h2;subst h1;subst h2;exact⟨rfl,rfl,rfl,rfl⟩
 | o::l,t,s,t',s',h=>by
  simp only [yX]at h
  obtain⟨hg,h⟩:=aB h
  obtain⟨v,h1,h⟩:=aj h
  obtain⟨hv,h⟩:=aB h
  obtain⟨q1,q2,q3,q4⟩:=Ga h
  have ep:∀(x:S),(x.put o.dst v).tree=x.tree∧(x.put o.dst v).box=x.box∧(x.put o.dst v).dK=x.dK:=fun x=>by cases o.dst<;>exact⟨rfl,rfl,rfl⟩
  exact⟨q1.trans (ep t).1,q2.trans (ep s).1,q3.trans (ep s).2.1,q4.trans (ep s).2.2⟩
theorem Sep.sub {w:World}{l l':List Pc}(h:l'.Sublist l):∀{F:List Nat},Sep w l F→∃F',Sep w l' F'∧F'.Sublist F:=by
 induction h with
 | slnil=>intro F s;exact⟨F,s,List.Sublist.refl _⟩
 | cons x _ ih=>
  intro F s
  obtain⟨F1,G,rfl,h1,h2⟩:=s.gF
  obtain⟨F',s',hs⟩:=ih h2
  exact⟨F',s',hs.trans (List.sublist_append_right _ _)⟩
 | cons_cons x _ ih=>
  intro F s
  obtain⟨F1,G,rfl,h1,h2⟩:=s.gF
  obtain⟨F',s',hs⟩:=ih h2
  exact⟨F1++F', .cons h1 s',List.Sublist.append (List.Sublist.refl _) hs⟩
theorem St.sub {W w:World}{l l':List Pc}(h:l'.Sublist l)(S:St W w l):St W w l':=by
 obtain⟨F,s,n,hb⟩:=S.sep
 obtain⟨F',s',hs⟩:=s.sub h
 exact⟨S.ext,F',s',hs.nodup n,fun b hm=>hb b (hs.subset hm)⟩
def zY (c:Ctx)(y:Lay)(s:S)(B:Nat):List Pc:=dV y.bl y.T y.us (s.box.filter fun x=>x.1==B)++(bX y.hd s.tree++(iD y.w0 y.F s.dK++c.L))
theorem At.rest (A:At c s y a w)(B:Nat):St c.W w (zY c y s B):=St.sub (List.Sublist.append (List.Sublist.map _ List.filter_sublist) (List.Sublist.refl _)) A.st
theorem acN {B b:Nat}{cs:List V}{us':Array Value}(h:b≠B):zY c {y with us:=dR y.us b us'} {s with box:=upd b cs s.box} B=zY c y s B:=by
 have key:∀l:List (Nat×List V),dV y.bl y.T (dR y.us b us') ((upd b cs l).filter fun x=>x.1==B)=dV y.bl y.T y.us (l.filter fun x=>x.1==B):=by
  have same:∀l:List (Nat×List V),dV y.bl y.T (dR y.us b us') (l.filter fun x=>x.1==B)=dV y.bl y.T y.us (l.filter fun x=>x.1==B):=fun l=>by
   unfold dV
   refine List.map_congr_left fun x hx=>?_
   have hx2:=(List.mem_filter.1 hx).2
   rw [fT _ _ (fun e=>h (by rw [←e];exact eq_of_beq hx2))]
  intro l
  induction l with
  | nil=>rfl
  | cons x l ih=>
   obtain⟨j,z⟩:=x
   unfold upd
   by_cases e:b=j
   ·subst e
    rw [if_pos rfl,List.filter_cons_of_neg (by simpa using h),List.filter_cons_of_neg (by simpa using h)]
    exact same l
   ·rw [if_neg e]
    by_cases e2:j=B
    ·subst e2
     rw [List.filter_cons_of_pos (by simp),List.filter_cons_of_pos (by simp)]
     unfold dV at ih⊢
     rw [List.map_cons,List.map_cons,ih,fT _ _ (fun q=>e q.symm)]
    ·rw [List.filter_cons_of_neg (by simpa using e2),List.filter_cons_of_neg (by simpa using e2)]
     exact ih
 unfold zY
 show dV y.bl y.T (dR y.us b us') ((upd b cs s.box).filter fun x=>x.1==B)++_=_
 rw [key]
def storeT (P:Program)(B:Nat)(s:S)(t:TypeId)(v:V):V→Option S
 | .ref b off=>bnd (look b s.box) fun cs=>grd (b≠B∧off+v.cells.length≤cs.length∧v.cells.length=P.cellsOf t∧fq P t=true∧v.cells.all V.one=true) (some {s with box:=upd b (setAt cs off v.cells) s.box})
 | _=>none
def tailV (P:Program)(B:Nat)(s:S)(d:Option Nat):Op→Option S
 | .store t x z=>bnd (s.ev x) fun p=>bnd (s.ev z) fun v=>bnd (storeT P B s t v p) fun s=>some (s.skip d)
 | .assign x=>bnd (s.ev x) fun v=>some (s.put d v)
 | _=>none
def L9 (P:Program)(B:Nat):List Oper→S→Option S
 | [],s=>some s
 | o::r,s=>grd (o.guard.isNone=true) (bnd (tailV P B s o.dst o.op) fun s=>L9 P B r s)
theorem ain {o:Oper}{B:Nat}{s':S}(hd:fP c.n o.dst=true)(h:tailV P B s o.dst o.op=some s')(A:At c s y a w):∀(K:Act→World→Prop) (Q:Exit→Act→World→Prop),(∀y' a' w',At c s' y' a' w'→y'.hd=y.hd→zY c y' s' B=zY c y s B→K a' w')→o.wp P a w K Q:=by
 intro K Q kk
 unfold tailV at h
 split at h
 ·rename_i t x z e
  obtain⟨p,hp,h⟩:=aj h
  obtain⟨v,hv,h⟩:=aj h
  obtain⟨s1,h2,h⟩:=aj h
  injection h with h;subst h
  unfold storeT at h2
  split at h2
  ·rename_i b off e3
   obtain⟨cs,hl,h2⟩:=aj h2
   obtain⟨⟨g1,g2,g3,g4,g5⟩,h2⟩:=aB h2
   injection h2 with h2;subst h2
   obtain⟨us',w1,hr,A2⟩:=K8 e hp hv g3 g4 g5 hl g2 A
   have ep:∀x:S,zY c {y with us:=dR y.us b us'} (x.skip o.dst) B=zY c {y with us:=dR y.us b us'} x B:=fun x=>by cases o.dst<;>rfl
   exact Kh hr (kk _ _ _ (A2.skip undef) rfl ((ep _).trans (acN g1)))
  ·cases h2
 ·rename_i x e
  obtain⟨v,hv,h⟩:=aj h
  injection h with h;subst h
  have ep:∀x:S,zY c y (x.put o.dst v) B=zY c y x B:=fun x=>by cases o.dst<;>rfl
  exact qE (u:=a.eval x) (by unfold execOp;rw [e];rfl) (kk y _ _ (A.value (A.ev hv) hd) rfl (ep s))
 ·cases h
theorem SV {ops:Array Oper}{Q:Exit→Act→World→Prop}{Sx:World→Prop}{B:Nat}{R0:List Pc}(hSx:∀w',St c.W w' R0→Sx w'):∀{l:List Oper} {k:Nat} {listed:Array Bool} {s s':S} {y:Lay} {a:Act} {w:World},(∀j,l[j]?=ops[k+j]?)→Region.seqB .any ops l.length k listed=true→(∀o∈l,fP c.n o.dst=true)→L9 P B l s=some s'→At c s y a w→zY c y s B=R0→
   (∀y' a' w',At c s' y' a' w'→y'.hd=y.hd→Q .normal a' w')→wpAnyH P .any ops Q Sx l.length listed a w
 | [],k,listed,s,s',y,a,w,_,hB,_,h,A,_,kk=>by
  simp only [L9]at h;injection h with h;subst h
  exact⟨by simpa [Region.seqB] using hB,kk y a w A rfl⟩
 | o::l,k,listed,s,s',y,a,w,hl,hB,hd,h,A,hR,kk=>by
  simp only [L9]at h
  obtain⟨hg,h⟩:=aB h
  obtain⟨s1,h1,h⟩:=aj h
  have h0:ops[k]?=some o:=by simpa using (hl 0).symm
  simp only [List.length_cons,Region.seqB,Bool.and_eq_true,decide_eq_true_eq]at hB
  refine wpAnyH_all hB.1 (by simp) fun i hi=>?_
  obtain rfl:i=k:=by simpa using hi
  have hw:Region.wanted o (yielded ops a.tmps)=true:=by
   unfold Region.wanted
   cases e:o.guard with
   | none=>rfl
   | some g=>rw [e]at hg;cases hg
  unfold wpOp
  simp only [h0,hw,if_true]
  refine .inl (ain (hd o (by simp)) h1 A _ _ fun y' a' w' A' e1 e2=>⟨hSx w' ?_,?_⟩)
  ·rw [←hR,←e2];exact A'.rest B
  ·exact SV hSx (fun j=>by have:=hl (j+1);simpa [Nat.add_assoc,Nat.add_comm 1 j] using this) hB.2 (fun o ho=>hd o (by simp [ho])) h A' (e2.trans hR) fun y2 a2 w2 A2 e3=>kk y2 a2 w2 A2 (e3.trans e1)
def Gb:Value→Nat→Value
 | .slice b _ c,h=> .slice b h c
 | u,_=>u
theorem acO {o:Oper}{t e:TypeId}{x z:Operand}{p h:Nat}{k:IntKind}{rows:List (List D)}(ho:o.op= .slice t x none (some z) none)(hx:s.ev x=some (.own p))(hz:s.ev z=some (.v (.int k (h:Int))))(hu:P.underlying t=some (.slice e))(hs:fq P e=true)
  (hl:look p s.tree=some rows) (hh:h≤rows.length) (A:At c s y a w):(execOp a.eval o).run P w= .ok (.value (Gb (y.hd p).v h)) w:=by
 have exv:a.eval x=(y.hd p).v:=(A.ev hx).2
 obtain⟨F,ow⟩:=A.D9 hl
 obtain⟨A',c',e1,e2,e3,e4⟩:=(ow.own.rd (G:=dY w) fun _ _ _ e=>e).len
 have hq:bounds rows.length none (some (.v (.int k (h:Int))))=some (0,h):=by
  unfold bounds
  simp only [Xm,idxOf,bq]
  rw [eB _ ⟨by omega,by omega,by omega⟩]
  simp
 obtain⟨b1,b2,hb⟩:=xF (P:=P) A (lo:=none) (hi:=some z) (vl:=none) (vh:=some (.v (.int k (h:Int)))) rfl (by simp only [kg,hz];rfl) hq e2 true
 unfold execOp
 simp only [ho,exv,e1]
 simp only [Option.map_none,Option.map_some]at hb
 simp [Instr.sliceAt,Instr.slice,run_underlying hu,hb,kW hs,Gb]
 intro hc
 cases A' with
 | none=>rfl
 | some a=>simp [Addr.add]
theorem At.akW (A:At c s y a w){b:Nat}{u:Value}{v:V}(hb:look b s.box=some [.v u])(hv:RV (aX c s y) v u):∃y',At c {s with box:=upd b [v] s.box} y' a w:=by
 obtain⟨h1,h2⟩:=A.aeM hb
 obtain⟨u',q,e,e1,e2⟩:=h2
 refine⟨_,A.turn (cs':= [v]) (us':=y.us b) hb ?_ h1 ⟨rfl,rfl,rfl,Nat.le_refl _,fun _ _ _=>rfl⟩⟩
 rw [e]
 refine⟨u',q,rfl,?_,e2⟩
 rw [show u'=u from e1];exact hv
noncomputable def S.SX (s:S)(d p h b:Nat)(u:Value):Option S:=bnd (look p s.tree) fun rows=>Cm (look d s.env) (some (.v u)) (if h=0 then Cm (look b s.box) (some [.v u]) (some {s with box:=upd b [.aL none []] s.box})
 else grd (h≤rows.length) (bnd ((s.kill p).newTree (some d) (rows.take h)) fun s1=>Cm (look b s1.box) (some [.v u]) (some {s1 with box:=upd b [.own d] s1.box})))
theorem XV {d p h b:Nat}{u:Value}{s':S}(A:At c s y a w)(hd:d<c.n)(hu:u=Gb (y.hd p).v h)(e:s.SX d p h b u=some s'):Good c s' a w:=by
 unfold S.SX at e
 obtain⟨rows,hl,e⟩:=aj e
 obtain⟨he,e⟩:=yT e
 have hd':fP c.n (some d)=true:=by simpa [fP] using hd
 have hv:a.tmps.getD d undef=u:=A.env d _ he
 subst hu
 by_cases h0:h=0
 ·subst h0
  rw [if_pos rfl]at e
  obtain⟨hb,e⟩:=yT e
  injection e with e;subst e
  obtain⟨F,o⟩:=A.D9 hl
  obtain⟨A',c',e1,e2,e3,e4⟩:=(o.own.rd (G:=dY w) fun _ _ _ e=>e).len
  rw [e1]at hb
  obtain⟨y',A2⟩:=A.akW (v:= .aL none []) hb ⟨.nil _ _ (by omega) fun hn=>e4 hn,fun j h=>by cases h⟩
  exact⟨y',A2⟩
 ·rw [if_neg h0]at e
  obtain⟨hh,e⟩:=aB e
  obtain⟨s1,h1,e⟩:=aj e
  obtain⟨hb,e⟩:=yT e
  injection e with e;subst e
  obtain⟨g,ob,cc,k1,k2,k3,S1⟩:=(A.out' hl).Co.Zz (h:=h) (by omega) hh
  obtain⟨y',A'⟩:=pE (A.take hl) hd' h1 S1
  rw [k1]at hv hb
  rw [ail (show a.tmps.getD d undef= .slice (some ⟨g,ob,none⟩) h cc from hv)]at A'
  have hown:RV (aX c s1 y') (.own d) (.slice (some ⟨g,ob,none⟩) h cc):=by
   have hd2:look d s1.env=some (V.own d):=by
    unfold S.newTree at h1
    simp only [bq]at h1
    obtain⟨_,h1⟩:=aB h1
    injection h1 with h1;subst h1
    show look d (YtlpdjhiggpblcaaGreat.put d (V.own d) _)=_
    rw [MZ,if_pos rfl]
   have:=A'.env d _ hd2
   rw [show a.tmps.getD d undef= .slice (some ⟨g,ob,none⟩) h cc from hv]at this
   exact this
  obtain⟨y2,A2⟩:=A'.akW hb hown
  exact⟨y2,A2⟩
def SY (B:Nat):V→Bool
 | .v _=>true
 | .own _=>true
 | .ref b _=>b==B
 | _=>false
def S.only (s:S)(keep:List Nat)(B:Nat):Option S:=
 grd (((s.env.filter fun x=>keep.contains x.1).all (fun x=>SY B x.2)&&(s.box.filter fun x=>x.1==B).all fun x=>x.2.all fun v=>vV v||oV v)=true) (some {s with env:=s.env.filter fun x=>keep.contains x.1,box:=s.box.filter fun x=>x.1==B})
theorem Jc {α:Type}{p:Nat→Bool}:∀{l:List (Nat×α)} {k:Nat} {x:α},look k (l.filter fun z=>p z.1)=some x→look k l=some x∧(k,x)∈l.filter fun z=>p z.1
 | [],k,x,h=>by cases h
 | (j,z)::l,k,x,h=>by
  by_cases hj:p j=true
  ·rw [List.filter_cons_of_pos (p:=fun z:Nat×α=>p z.1) (a:=(j,z)) hj]at h⊢
   simp only [look]at h⊢
   by_cases e:k=j
   ·subst e
    rw [if_pos rfl]at h⊢
    injection h with h;subst h
    exact⟨rfl,List.mem_cons_self⟩
   ·rw [if_neg e]at h⊢
    obtain⟨h1,h2⟩:=Jc h
    exact⟨h1,List.mem_cons_of_mem _ h2⟩
  ·rw [List.filter_cons_of_neg (p:=fun z:Nat×α=>p z.1) (a:=(j,z)) hj]at h⊢
   obtain⟨h1,h2⟩:=Jc h
   refine⟨?_,h2⟩
   simp only [look]
   have hk:p k=true:=(List.mem_filter.1 h2).2
   rw [if_neg (fun e=>hj (by rw [←e];exact hk))]
   exact h1
theorem acP {keep:List Nat}{B:Nat}{t:S}(A:At c s y a w)(h:s.only keep B=some t)(hB:B∈s.box.map (·.1)):At c t y a w∧(∀v u,RV (aX c t y) v u→RV (aX c s y) v u)∧acM c y t=zY c y s B∧t.tree=s.tree:=by
 unfold S.only at h
 obtain⟨hc,h⟩:=aB h
 injection h with h
 rw [Bool.and_eq_true]at hc
 have hBt:B∈t.box.map (·.1):=by
  obtain⟨x,hx,e⟩:=List.mem_map.1 hB
  subst h
  exact List.mem_map.2 ⟨x,List.mem_filter.2 ⟨hx,by simp [e]⟩,e⟩
 have hv:∀v u,SY B v=true→RV (aX c s y) v u→RV (aX c t y) v u:=fun v u hk r=>by
  unfold SY at hk
  split at hk
  ·exact r
  ·exact⟨by subst h;exact r.1,r.2⟩
  ·have:_=B:=eq_of_beq hk
   subst this
   exact⟨hBt,r.2⟩
  ·cases hk
 have hle:(aX c t y).le (aX c s y):=by
  subst h
  exact⟨fun _ _ h=>h,fun _ _ h=>h,rfl,fun b hb=>⟨by
   obtain⟨x,hx,e⟩:=List.mem_map.1 hb
   exact List.mem_map.2 ⟨x,(List.mem_filter.1 hx).1,e⟩,rfl⟩,fun _ h=>⟨h,rfl⟩⟩
 refine⟨⟨A.defers,A.size,?_,fun tt v e=>?_,fun b cs hb=>?_,?_,?_,?_,A.fix⟩,fun v u r=>r.le hle,?_,?_⟩
 ·have:=A.rest B
  subst h;exact this
 ·have e2:look tt (s.env.filter fun x=>keep.contains x.1)=some v:=by subst h;exact e
  obtain⟨e3,e4⟩:=Jc e2
  exact hv v _ (List.all_eq_true.1 hc.1 _ e4) (A.env tt v e3)
 ·have hb2:(b,cs)∈s.box.filter fun x=>x.1==B:=by subst h;exact hb
  have hcs:=List.all_eq_true.1 (List.all_eq_true.1 hc.2 _ hb2)
  refine jE.of (A.box b cs (List.mem_filter.1 hb2).1).len fun i v u e1 e2=>hv v u ?_ ?_
  ·have:=hcs v (List.mem_of_getElem? e1)
   rw [Bool.or_eq_true]at this
   unfold vV oV at this
   unfold SY
   cases v<;>simp at this⊢
  ·obtain⟨u',e3,r⟩:=(A.box b cs (List.mem_filter.1 hb2).1).get e1
   rw [e2]at e3;injection e3 with e3;subst e3
   exact r
 ·subst h;exact A.dK
 ·subst h;exact List.Sublist.nodup (List.Sublist.map _ List.filter_sublist) A.nb
 ·subst h;exact A.nt
 ·subst h;rfl
 ·subst h;rfl
noncomputable def Dn (P:Program)(l:List Oper)(n k d p h b B:Nat)(keep:List Nat)(u:Value)(s:S):Option S:=
 bnd (s.only keep B) fun t=>bnd (yX P (l.take k) t s) fun x=>bnd (yX P ((l.take n).drop (k+1)) (x.1.put (some d) (.v u)) (x.2.put (some d) (.v u))) fun z=>bnd (L9 P B (l.drop n) z.2) fun s5=>s5.SX d p h b u
def Ro (P:Program)(l:List Oper)(k d p h B:Nat)(keep:List Nat)(s:S):Prop:= ∃(o:Oper) (t e:TypeId) (x z:Operand) (rows:List (List D)),l[k]?=some o∧o.op= .slice t x none (some z) none∧o.dst=some d∧o.guard.isNone=true∧lZ P t=some (e,none)∧fq P e=true∧look p s.tree=some rows∧h≤rows.length∧B∈s.box.map (·.1)∧
 ∀t1 x1,s.only keep B=some t1→yX P (l.take k) t1 s=some x1→x1.1.ev x=some (.own p)∧x1.1.ev z=some (.v (.int .i64 (h:Int)))
def XW (ops:Array Oper)(n k:Nat):Bool:=
 Region.noSelect ops&&(decide (k<n∧n<ops.size)&&(takeB ops k 0 (Array.replicate ops.size false)&&((Region.ready .any ops (Ja (Array.replicate ops.size false) 0 k)).contains k&&(Region.free .any ops (Ja (Array.replicate ops.size false) 0 k) k&&
  (takeB ops (n-(k+1)) (k+1) ((Ja (Array.replicate ops.size false) 0 k).setIfInBounds k true)&&Region.seqB .any ops (ops.size-n) n (Ja ((Ja (Array.replicate ops.size false) 0 k).setIfInBounds k true) (k+1) (n-(k+1))))))))
theorem XY (hm:P.follows .mixedOrders=true){id:Nat}{l:List Oper}{n k d p h b B:Nat}{keep:List Nat}(hB:XW l.toArray n k=true)(hd:∀o∈l,fP c.n o.dst=true)(hf:Ro P l k d p h B keep s)
  (g:Good c s a w) {Q1:Exit→Act→World→Prop} (hQ:∀(ch:_) (a:Act) (d:Option Nat) (v:Value) (w:World),Q1 (.panic ch) (a.put d v) w→Q1 (.panic ch) a w) (he:∀u:Value,u.oneCell'=true→∃s',Dn P l n k d p h b B keep u s=some s'∧∀a w,Good c s' a w→Q1 .normal a w):(Code.region id l.toArray true).wp P Q1 a w:=by
 obtain⟨o,t,e,x,z,rows,f1,f3,f4,f5,f6,f7,f8,f9,fb,fB⟩:=hf
 have f6:P.underlying t=some (.slice e):=by
  rcases FI f6 with⟨q,e1,e2⟩|⟨q,n,e1,e2⟩
  ·injection e1 with e1;rw [e1];exact e2
  ·injection e1 with e1 e3;cases e3
 obtain⟨y,A⟩:=g
 have A:At c s y a {w with drawn:=w.drawn+1}:=⟨A.defers,A.size,A.st.drew,A.env,A.box,A.dK,A.nb,A.nt,A.fix⟩
 have hone:(Gb (y.hd p).v h).oneCell'=true:=by
  obtain⟨F,ow⟩:=A.D9 f8
  obtain⟨A',c',e1, -, -, -⟩:=(ow.own.rd (G:=dY _) fun _ _ _ e=>e).len
  rw [e1];rfl
 obtain⟨s',he,kk⟩:=he _ hone
 unfold Dn at he
 obtain⟨t1,h1,he⟩:=aj he
 obtain⟨⟨t2,s2⟩,h2,he⟩:=aj he
 obtain⟨⟨t4,s4⟩,h4,he⟩:=aj he
 obtain⟨s5,h5,h6⟩:=aj he
 obtain⟨fB1,fB2⟩:=fB t1 (t2,s2) h1 h2
 obtain⟨At1,hle,hall,htr⟩:=acP A h1 fb
 simp only [XW,Bool.and_eq_true,decide_eq_true_eq]at hB
 obtain⟨hsel,⟨hkn,hnl⟩,b1,b2,b3,b4,b5⟩:=hB
 have hnl:n<l.length:=by simpa using hnl
 have hkl:(l.take k).length=k:=by simp;omega
 have hml:((l.take n).drop (k+1)).length=n-(k+1):=by simp;omega
 have htl:(l.drop n).length=l.toArray.size-n:=by simp
 have hod:d<c.n:=fP.lt (by rw [←f4];exact hd o (List.mem_of_getElem? f1))
 have hok:l.toArray[k]?=some o:=by simpa using f1
 have hdl:fP c.n o.dst=true:=hd o (List.mem_of_getElem? f1)
 refine wp_region_held (S:=fun w'=>St c.W w' (zY c y s B)) hm ?_
 generalize Array.replicate l.toArray.size false=L0 at*
 rw [show l.toArray.size=(l.take k).length+(((l.take n).drop (k+1)).length+(l.drop n).length+1) by simp;omega]
 refine Jb hsel hQ (k:=0) (fun j hj=>by rw [hkl]at hj;simp [hj]) (by rw [hkl];exact b1) (fun o ho=>hd o (List.mem_of_mem_take ho)) h2 At1 A hle (fun w' hw=>by rw [hall];exact hw) (A.rest B) fun a1 At2 As2 ht1 hle2 afS=>?_
 rw [hkl]
 have aoe:=(Ga h2).1
 refine take_one (u:=Gb (y.hd p).v h) hsel hQ afS hok b2 b3 f5 (fun w' A'=>acO f3 fB1 fB2 f6 f7 (by rw [aoe,htr];exact f8) f9 A') At2 (A.rest B) ?_
 have ep:∀(x:S) (v:V),aX c (x.put o.dst v) y=aX c x y:=fun x v=>by cases o.dst<;>rfl
 have At3:=At2.value (v:= .v (Gb (y.hd p).v h)) (u:=Gb (y.hd p).v h) rfl hdl
 have As3:=As2.value (v:= .v (Gb (y.hd p).v h)) (u:=Gb (y.hd p).v h) rfl hdl
 rw [←f4]at h4
 have hmem:=Ga h4
 refine Jb hsel hQ (k:=k+1) (fun j hj=>?_) (by rw [hml];exact b4) (fun o ho=>hd o (List.mem_of_mem_take (List.mem_of_mem_drop ho))) h4 At3 As3 (fun v u r=>by rw [ep]at r⊢;exact hle2 v u r) (fun w' hw=>by rw [ZY];exact afS w' hw) (A.rest B) fun a3 At4 As4 ht3 aC7 alr=>?_
 ·rw [hml]at hj
  rw [List.getElem?_drop,List.getElem?_take_of_lt (by omega)]
  simp
 rw [hml,htl]
 have hR:zY c y s4 B=zY c y s B:=by
  have m2:=Ga h2
  have pb:∀(x:S) (v:V),(x.put o.dst v).box=x.box∧(x.put o.dst v).tree=x.tree∧(x.put o.dst v).dK=x.dK:=fun x v=>by cases o.dst<;>exact⟨rfl,rfl,rfl⟩
  unfold zY
  rw [hmem.2.2.1,hmem.2.1,hmem.2.2.2,(pb s2 _).1,(pb s2 _).2.1,(pb s2 _).2.2,m2.2.1,m2.2.2.1,m2.2.2.2]
 rw [←htl]
 refine SV (B:=B) (R0:=zY c y s B) (fun w' h=>h) (k:=n) (fun j=>by simp) (by rw [htl];exact b5) (fun o ho=>hd o (List.mem_of_mem_drop ho)) h5 As4 hR fun y' a' w' A' e1=>?_
 exact kk a' w' (XV A' hod (by rw [e1]) h6)
end
def Rp (P:Program)(G:List (FuncId×Bool×aN))(gh:oI)(pre rest:List Code)(rs:List ResultVar)(l:List Oper)(n k d p h b B:Nat)(keep:List Nat)(args:List V)(r:A9):Prop:=
 Np (fun s=> ∃rows,look p s.tree=some rows∧∀us:List Value,us.length=rows.flatten.length→Bh rows.flatten us→
  Ro P l k d p h B keep {s with tree:=upd p (gN rows us) s.tree}∧
  ∀u:Value,u.oneCell'=true→F9 P rs (I8 rows us r) (bnd (Dn P l n k d p h b B keep u {s with tree:=upd p (gN rows us) s.tree}) fun s=>evL P G gh rest (.on s))) (evL P G gh pre (.on (AL args [] [])))
section
variable {P:Program} {G:List (FuncId×Bool×aN)} {gh:oI}
theorem Z0 (hG : ∀ f M, look f G = some M → aF P f M.2) (hm : P.follows .mixedOrders = true) {f : FuncId} {fn : Func} {x : Code} (hf : P.funcs[f]? = some fn) (hb : fn.body = some x) (hn : (fn.name == "runtime.NumGoroutine") = false) (hsm : fn.ntmps ≤ 1000000) {pre rest : List Code} {id : Nat} {l : List Oper}
  (hfl:su x=pre++ .region id l.toArray true::rest) (hx:((pre++rest).all fun x=>ku gh fn.ntmps x)=true) (hop:(l.all fun o=>fP fn.ntmps o.dst)=true) {n k d b B:Nat} {keep:List Nat} (hB:XW l.toArray n k=true) {M:aN}
  (H:∀args boxes trees r,M args boxes trees=some r→args.length≤1000∧boxes= []∧trees= []∧r.box= []∧∃p h,Rp P G gh pre rest fn.results.toList l n k d p h b B keep args r):aF P f M:=by
 refine⟨⟨fn,hf,hn,by rw [hb];rfl⟩,fun c args boxes trees r h y us w m hargs=>?_⟩
 obtain⟨hal,rfl,rfl,hrb,p,hq,hh⟩:=H args boxes trees r h
 unfold Rp at hh
 obtain⟨s,h1,rows,h2,h3⟩:∃s,evL P G gh pre (.on (AL args [] []))=some (.normal, .on s)∧∃rows,look p s.tree=some rows∧∀us:List Value,us.length=rows.flatten.length→Bh rows.flatten us→
   Ro P l k d p hq B keep {s with tree:=upd p (gN rows us) s.tree}∧∀u:Value,u.oneCell'=true→F9 P fn.results.toList (I8 rows us r) (bnd (Dn P l n k d p hq b B keep u {s with tree:=upd p (gN rows us) s.tree}) fun s=>evL P G gh rest (.on s)):=by
  unfold Np at hh
  split at hh
  ·rename_i s e;exact⟨s,e,hh⟩
  ·exact hh.elim
 have h3:∀us:List Value,us.length=rows.flatten.length→Bh rows.flatten us→Ro P l k d p hq B keep {s with tree:=upd p (gN rows us) s.tree}∧∀u:Value,u.oneCell'=true→∃(s1:S) (ex:Ex) (s2:S) (r2:A9),Dn P l n k d p hq b B keep u {s with tree:=upd p (gN rows us) s.tree}=some s1∧evL P G gh rest (.on s1)=some (ex, .on s2)∧(ex= .normal∨ex= .ret)∧tu P fn.results.toList 0 0 s2=some r2∧I8 rows us r r2:=fun us Zx huc=>by
  obtain⟨k1,k2⟩:=h3 us Zx huc
  refine⟨k1,fun u hu=>?_⟩
  have this:=k2 u hu
  cases eq:Dn P l n k d p hq b B keep u {s with tree:=upd p (gN rows us) s.tree}with
  | none=>rw [eq]at this;exact this.elim
  | some s1=>
   rw [eq,bq]at this
   unfold F9 at this
   split at this
   ·rename_i s2 e
    unfold Bj at this
    split at this
    ·rename_i r2 e2;exact⟨s1,_,s2,r2,rfl,e, .inl rfl,e2,this⟩
    ·exact this.elim
   ·rename_i s2 e
    unfold Bj at this
    split at this
    ·rename_i r2 e2;exact⟨s1,_,s2,r2,rfl,e, .inr rfl,e2,this⟩
    ·exact this.elim
   ·exact this.elim
 obtain⟨un,hun⟩:=acH
 have hle:us.length≤1000:=by rw [hargs.len];exact hal
 have hsz0:(lJ fn.ntmps us).tmps.size=us.length+(fn.ntmps-us.length):=by
  show(us.toArray++Array.replicate (fn.ntmps-us.toArray.size) undef).size=_
  rw [Array.size_append,Array.size_replicate,List.size_toArray]
 have hsz:fn.ntmps≤(lJ fn.ntmps us).tmps.size:=by rw [hsz0];omega
 have hpb:(lJ fn.ntmps us).tmps.size≤bg:=by rw [hsz0];unfold bg;omega
 have A:=IZ m hargs fn.ntmps hun hpb
 have hxs:=List.all_eq_true.1 hx
 have ho:∀l:List Code,(∀z∈l,z∈pre++rest)→(l.all fun x=>ku gh (lJ fn.ntmps us).tmps.size x)=true:=fun l hl=>List.all_eq_true.2 fun z hz=>nM hsz z (hxs z (hl z hz))
 have hop2:∀o∈l,fP (lJ fn.ntmps us).tmps.size o.dst=true:=fun o ho=>by
  have:=List.all_eq_true.1 hop o ho
  cases e:o.dst with
  | none=>rfl
  | some d0=>
   rw [e]at this
   have:=fP.lt this
   simp only [fP,decide_eq_true_eq];omega
 refine calls_of_wp hf hb (ZU x ?_)
 rw [hfl]
 refine XR _ _ ?_
 refine EK (c:= {c with n:=(lJ fn.ntmps us).tmps.size,bF:=fun b=>y.bl (un b),hF:=fun p=>y.hd (un p)}) (IX hG) (I7 gh) hm _ (.on (AL args [] [])) (.normal, .on s) (lJ fn.ntmps us) w _ (ho _ fun z hz=>List.mem_append_left _ hz) h1 ⟨_,A⟩ fun a1 w1 g1=>?_
 obtain⟨vs,hK',hvl,hvc,g2⟩:=Good.flat (show Good _ s a1 w1 from g1) h2
 obtain⟨k0,k5⟩:=h3 vs hvl hvc
 show(Code.region id l.toArray true).wp P (Exit.then (wpL P rest _) _) a1 w1
 refine XY (b:=b) (c:= {c with L:=qm rows.flatten vs++c.L,hK:=hK',n:=(lJ fn.ntmps us).tmps.size,bF:=fun b=>y.bl (un b),hF:=fun p=>y.hd (un p)}) hm hB hop2 k0 g2 (fun ch a d v w hp=>by
  have e:(a.put d v).defers=a.defers:=by cases d<;>rfl
  exact⟨by rw [←e];exact hp.1,hp.2⟩) fun u hu=>?_
 obtain⟨s1,ex,s2,r2,kq,k1,k2,k3,k4⟩:=k5 u hu
 refine⟨s1,kq,fun a2 w2 g3=>?_⟩
 show wpL P rest _ a2 w2
 refine EK (c:= {c with L:=qm rows.flatten vs++c.L,hK:=hK',n:=(lJ fn.ntmps us).tmps.size,bF:=fun b=>y.bl (un b),hF:=fun p=>y.hd (un p)}) (IX hG) (I7 gh) hm _ _ (ex, .on s2) a2 w2 _ (ho _ fun z hz=>List.mem_append_right _ hz) k1 g3 fun a' w' g=>?_
 obtain⟨y1,A1⟩:=(show Good _ s2 a' w' from g)
 have fin:a'.defers= []∧∃v,(results fn a'.tmps).run P w'= .ok v w'∧∃u y',Ending.returned v= .returned u∧Ends c 0 0 r y u y' w':=by
  have hr2:=k3
  unfold tu at hr2
  obtain⟨ws,hvs,_⟩:=aj hr2
  obtain⟨u,q1,q2⟩:=Eh A1 hvs
  obtain⟨y',q3,q4,q5,q6,q7⟩:=I4 (n0:=c.n) (bF':=c.bF) (hF':=c.hF) A1 hvs q2 k3
  have alx:r2.box= []:=List.eq_nil_of_length_eq_zero q5
  rw [alx]at q3 q4
  obtain⟨y2,z1,z2⟩:=k4 c hK' y' w' u q3 q4
  refine⟨A1.defers,u,q1,u,y2,rfl,by rw [hrb];exact z1,by rw [hrb];exact z2, .inl (by rw [hrb];rfl),fun i hi=>by omega,fun q hq=>by omega⟩
 rcases k2 with rfl|rfl
 ·exact fin
 ·exact fin
theorem XZ (hG : ∀ f M, look f G = some M → aF P f M.2) (hm : P.follows .mixedOrders = true) {f : FuncId} {fn : Func} {x : Code} (hf : P.funcs[f]? = some fn) (hb : fn.body = some x) (hn : (fn.name == "runtime.NumGoroutine") = false) (hsm : fn.ntmps ≤ 1000000) (n0 : Nat) {id : Nat} {ops : Array Oper}
  (aof:(su x)[n0]?=some (.region id ops true)) (hx:(((su x).take n0++(su x).drop (n0+1)).all fun x=>ku gh fn.ntmps x)=true) (hop:(ops.toList.all fun o=>fP fn.ntmps o.dst)=true) (n k d b B:Nat) (keep:List Nat) (hB:XW ops n k=true) {M:aN}
  (H:∀args boxes trees r,M args boxes trees=some r→args.length≤1000∧boxes= []∧trees= []∧r.box= []∧∃p h,Rp P G gh ((partsOf P f).take n0) ((partsOf P f).drop (n0+1)) fn.results.toList ops.toList n k d p h b B keep args r):aF P f M:=by
 have hp:partsOf P f=su x:=by unfold partsOf;rw [hf];simp only [hb]
 rw [hp]at H
 refine Z0 (b:=b) (B:=B) (keep:=keep) (n:=n) (k:=k) (d:=d) (id:=id) (l:=ops.toList) hG hm hf hb hn hsm (pre:=(su x).take n0) (rest:=(su x).drop (n0+1)) ?_ hx hop (by simpa using hB) H
 obtain⟨h1,h2⟩:=List.getElem?_eq_some_iff.1 aof
 rw [Array.toArray_toList,←h2,List.getElem_cons_drop,List.take_append_drop]
noncomputable def orM (M1 M2:aN):aN:=fun a b t=>match M1 a b t with
 | some r=>some r
 | none=>M2 a b t
theorem aio {M1 M2:aN}{a:List V}{b:List (List V)}{t:List (List (List D))}{r:A9}(h:M1 a b t=some r):orM M1 M2 a b t=some r:=by unfold orM;rw [h]
theorem afY {M1 M2:aN}{a:List V}{b:List (List V)}{t:List (List (List D))}(h:M1 a b t=none):orM M1 M2 a b t=M2 a b t:=by unfold orM;rw [h]
theorem afZ {f:FuncId}{M1 M2:aN}(h1:aF P f M1)(h2:aF P f M2):aF P f (orM M1 M2):=⟨h1.1,fun c args boxes trees r h=>by
 unfold orM at h
 split at h
 ·rename_i r' e;injection h with h;subst h;exact h1.2 c args boxes trees _ e
 ·exact h2.2 c args boxes trees r h⟩
end
theorem Qv:∀(A B:List (List D)) (us:List Value),gN (A++B) us=gN A us++gN B (us.drop A.flatten.length)
 | [],B,us=>by simp [gN]
 | r::A,B,us=>by
  show(us.take r.length).map D.a::gN (A++B) (us.drop r.length)=(us.take r.length).map D.a::(gN A (us.drop r.length)++_)
  rw [Qv A B,List.drop_drop,List.flatten_cons,List.length_append]
theorem Nr:∀(A:List (List D)) (us:List Value),gN A (us.take A.flatten.length)=gN A us
 | [],us=>rfl
 | r::A,us=>by
  show((us.take _).take r.length).map D.a::gN A ((us.take _).drop r.length)=(us.take r.length).map D.a::gN A (us.drop r.length)
  rw [List.flatten_cons,List.length_append,List.take_take,Nat.min_eq_left (by omega),List.drop_take,Nat.add_sub_cancel_left,Nr A]
theorem acQ (A:List (List D))(us:List Value):dU (gN A us)=true:=by
 induction A generalizing us with
 | nil=>rfl
 | cons r A ih=>
  have:=ih (us.drop r.length)
  unfold dU at this⊢
  show(((us.take r.length).map D.a).all tq&&(gN A (us.drop r.length)).all fun r=>r.all tq)=true
  rw [this,Bool.and_true,List.all_eq_true]
  intro d hd
  obtain⟨x,_,rfl⟩:=List.mem_map.1 hd
  rfl
theorem amN {α:Type}{us:List α}{N:Nat}(h:us.length=N+2):∃Ns a b,us=Ns++ [a,b]∧Ns.length=N:=by
 have h1:=List.take_append_drop N us
 have h2:(us.drop N).length=2:=by rw [List.length_drop];omega
 have h3:(us.take N).length=N:=by rw [List.length_take];omega
 match hd:us.drop N,h2 with
 | [a,b],_=>exact⟨us.take N,a,b,by rw [←hd,h1],h3⟩
theorem acR {pre:List (List D)}{q:List (List D)}{x ut ua:Value}{Ns:List Value}(h1:Ns.length=pre.flatten.length):gN (pre++ [[D.l q,D.a x]]) (Ns++ [ut,ua])=gN pre Ns++ [[.a ut, .a ua]]:=by
 rw [Qv,←h1,List.drop_left,←Nr,←h1,List.take_left]
 rfl
theorem aip {pre:List (List D)}{q:List (List D)}{x ut ua:Value}{Ns:List Value}(h1:Ns.length=pre.flatten.length):qm (pre++ [[D.l q,D.a x]]).flatten (Ns++ [ut,ua])=qm pre.flatten Ns++ [qP ut q,dP (.a x) ua]:=by
 rw [List.flatten_append,sP h1]
 rfl
theorem pair_cells {pre:List (List D)}{q:List (List D)}{x ut ua:Value}{Ns:List Value}(h1:Ns.length=pre.flatten.length)(hc:Bh (pre.flatten++ [D.l q,D.a x]) (Ns++ [ut,ua])):ut.oneCell'=true∧ua=x:=by
 refine⟨hc Ns.length (.l q) ut ?_ ?_,hc (Ns.length+1) (.a x) ua ?_ ?_⟩
 ·rw [List.getElem?_append_right (by omega),h1];simp
 ·rw [List.getElem?_append_right (by omega)];simp
 ·rw [List.getElem?_append_right (by omega),h1];simp
 ·rw [List.getElem?_append_right (by omega)];simp
theorem aj1 {pre:List (List D)}{q:List (List D)}{x ut ua:Value}{Ns:List Value}(h1:Ns.length=pre.flatten.length)(h2:∀r∈pre,r.length=2)(hx:ua=x):I8 (pre++ [[D.l q,D.a x]]) (Ns++ [ut,ua]) ⟨.fU [.agg [.own 0], .agg [.own 1, .v x], .v (.bool true)],[],[(0,pre),(1,q)]⟩
  ⟨.fU [.agg [.own 0], .agg [.v ut, .v ua], .v (.bool true)],[],[(0,gN pre Ns)]⟩:=by
 intro c hK' y w u m r
 have S0:=(ae4 m).Co
 have S0:St c.W w (qP (y.hd 0).v (gN pre Ns)::(qm (pre++ [[D.l q,D.a x]]).flatten (Ns++ [ut,ua])++c.L)):=S0
 rw [aip h1,List.append_assoc]at S0
 have S1:=St.XQ S0 (by rw [F8 h1]) h1 (by rw [tJ]) (fun i r r' e1 e2=>by
  rw [h2 r' (List.mem_of_getElem? e2)]
  exact Dm h1 h2 r (List.mem_of_getElem? e1))
 obtain⟨k0,e0,S2⟩:=S1.tree
 have S3:St c.W w (qP ut q::gK k0 pre::dP (.a x) ua::c.L):=S2.swap
 obtain⟨k1,e1,S4⟩:=S3.tree
 have S5:St c.W w (gK k0 pre::gK k1 q::dP (.a x) ua::c.L):=S4.swap
 have S6:St c.W w (gK k0 pre::gK k1 q::c.L):=by
  have:=S5.perm (L':=dP (.a x) ua::gK k0 pre::gK k1 q::c.L) (((List.Perm.swap _ _ _).cons _).trans (List.Perm.swap _ _ _))
  exact this.drop
 refine⟨{y with hd:=fun p=>if p=0 then k0 else if p=1 then k1 else y.hd p},⟨S6,fun b cs hb=>(by cases hb),fun p rows hp=>(by cases hp),List.nodup_nil,by simp [pF]⟩,?_⟩
 obtain⟨us,rfl,v1,l1,rfl,q1,v2,l2,rfl,q2,v3,l3,rfl,q3,q4⟩:=r
 obtain⟨aog,rfl,w1,m1,rfl,⟨-,hw1⟩,q5⟩:=q1
 obtain⟨aoh,rfl,w2,m2,rfl,hw2,w3,m3,rfl,hw3,q6⟩:=q2
 refine⟨_,rfl,_,_,rfl,⟨_,rfl,_,_,rfl,⟨by simp [aX,pF],?_⟩,q5⟩,_,_,rfl,⟨_,rfl,_,_,rfl,⟨by simp [aX,pF],?_⟩,_,_,rfl,?_,q6⟩,_,_,rfl,q3,q4⟩
 ·show w1=k0.v
  rw [e0];exact hw1
 ·show w2=k1.v
  rw [e1];exact hw2
 ·show w3=x
  rw [←hx];exact hw3
theorem aiq {q:List (List D)}{x ut ua:Value}(hx:ua=x):I8 [[D.l q,D.a x]] [ut,ua] ⟨.fU [.agg [.aL none []], .agg [.own 0, .v x], .v (.bool true)],[],[(0,q)]⟩
  ⟨.fU [.agg [.aL none []], .agg [.v ut, .v ua], .v (.bool true)],[],[]⟩:=by
 intro c hK' y w u m r
 have S0:St c.W w (qP ut q::dP (.a x) ua::c.L):=m.st
 obtain⟨k1,e1,S4⟩:=S0.tree
 have S6:St c.W w (gK k1 q::c.L):=S4.swap.drop
 refine⟨{y with hd:=fun p=>if p=0 then k1 else y.hd p},⟨S6,fun b cs hb=>(by cases hb),fun p rows hp=>(by cases hp),List.nodup_nil,by simp [pF]⟩,?_⟩
 obtain⟨us,rfl,v1,l1,rfl,q1,v2,l2,rfl,q2,v3,l3,rfl,q3,q4⟩:=r
 obtain⟨aog,rfl,w1,m1,rfl,hw1,q5⟩:=q1
 obtain⟨aoh,rfl,w2,m2,rfl,hw2,w3,m3,rfl,hw3,q6⟩:=q2
 refine⟨_,rfl,_,_,rfl,⟨_,rfl,_,_,rfl,hw1,q5⟩,_,_,rfl,⟨_,rfl,_,_,rfl,⟨by simp [aX,pF],?_⟩,_,_,rfl,?_,q6⟩,_,_,rfl,q3,q4⟩
 ·show w2=k1.v
  rw [e1];exact hw2
 ·show w3=x
  rw [←hx];exact hw3
end Go.Proofs.YtlpdjhiggpblcaaGreat
