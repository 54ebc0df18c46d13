/- Part 8 of a proof in several texts (an abstract evaluator, what the functions compute). -/
import Derived.Test.YtlpdjhiggpblcaaGreatPkFnEdOk7
import Derived.StillTail
import Derived.OrdersHeld
import Derived.Test.YtlpdjhiggpblcaaGreatProg
open Go.Proofs.Tryz
namespace Go.Proofs.YtlpdjhiggpblcaaGreat
set_option linter.unusedSectionVars false
set_option linter.unusedSimpArgs false
set_option linter.unusedVariables false
open Go.RowKit
def MX (P:Program)(s:S):Op→Option V
 | .move x=>s.ev x
 | .assign x=>s.ev x
 | .load t p=>bnd (s.ev p) fun p=>s.load P t p
 | .fieldAddr t x f=>bnd (s.ev x) fun x=>bnd (bZ P t f) fun f=>xU x f.1
 | .indexAddr t x i=>bnd (s.ev x) fun x=>bnd (s.ev i) fun i=>bnd (idxOf i) fun i=>bnd (mE P t) fun e=>lK P s x i e.1 e.2
 | .binOp op t x y _=>bnd (s.ev x) fun x=>bnd (s.ev y) fun y=>bin P t op x y
 | .build t ps=>bnd (P.underlying t) fun d=>bnd (yR d) fun fs=>grd (jm P t=true) (bnd (jM P t) fun z=>bnd (bG (pE s) ps.toList) fun vs=>bnd (sG P fs z vs) fun cs=>some (.agg cs))
 | _=>none
def vV:V→Bool
 | .v _=>true
 | _=>false
def oV:V→Bool
 | .own _=>true
 | _=>false
def XJ:V→Bool
 | .v _=>true
 | .own _=>true
 | .ref _ _=>true
 | .pe b _ _ _=>oV b
 | .agg cs=>cs.all vV
 | _=>false
theorem aaf (x:Value):XJ (.v x)=true:=id rfl
theorem Qn (p:Nat):XJ (.own p)=true:=id rfl
theorem Qo (b o:Nat):XJ (.ref b o)=true:=id rfl
theorem Vq (b:V)(k i o:Nat):XJ (.pe b k i o)=oV b:=id rfl
theorem Qp (cs:List V):XJ (.agg cs)=cs.all vV:=id rfl
theorem afn {ρ:Rel}:∀{cs:List V} {us us':List Value},cs.all vV=true→jk ρ cs us→jk ρ cs us'→us=us'
 | [],us,us',_,h,k=>by rw [show us= []from h,show us'= []from k]
 | c::cs,us,us',hv,h,k=>by
  rw [List.all_cons,Bool.and_eq_true]at hv
  obtain⟨u,q,rfl,h1,h2⟩:=h
  obtain⟨u',q',rfl,k1,k2⟩:=k
  rw [afn hv.2 h2 k2]
  have hc:=hv.1
  unfold vV at hc
  split at hc
  ·rw [show u=_ from h1,show u'=_ from k1]
  ·cases hc
theorem agM {ρ:Rel}{v:V}{u u':Value}(h:XJ v=true)(r:RV ρ v u)(r':RV ρ v u'):u=u':=by
 unfold XJ at h
 split at h
 ·rw [show u=_ from r,show u'=_ from r']
 ·rw [r.2,r'.2]
 ·rw [r.2,r'.2]
 ·rename_i b k i off
  unfold oV at h
  split at h
  ·obtain⟨ub,⟨_,e1⟩,g,o,n,c,e2,e3,rfl⟩:=r
   obtain⟨ub',⟨_,e1'⟩,g',o',n',c',e2',e3',rfl⟩:=r'
   rw [e1,←e1',e2']at e2
   injection e2 with e2
   injection e2 with e2
   injection e2 with e4 e5
   rw [e4,e5]
  ·cases h
 ·obtain⟨us,rfl,h1⟩:=r
  obtain⟨us',rfl,h2⟩:=r'
  rw [afn h h1 h2]
 ·cases h
def yj (P:Program):List Oper→S→S→Option (S×S)
 | [],t,s=>some (t,s)
 | o::r,t,s=>grd (o.guard.isNone=true) (bnd (MX P t o.op) fun v=>grd (XJ v=true) (yj P r (t.put o.dst v) (s.put o.dst v)))
def takeB (ops:Array Oper):Nat→Nat→Array Bool→Bool
 | 0,_,_=>true
 | f+1,k,listed=>(Region.ready .any ops listed).contains k&&(Region.free .any ops listed k&&takeB ops f (k+1) (listed.setIfInBounds k true))
def Ho (listed:Array Bool):Nat→Nat→Array Bool
 | _,0=>listed
 | k,m+1=>Ho (listed.setIfInBounds k true) (k+1) m
section
variable {P:Program} {G:List (FuncId×Bool×aN)} {c:Ctx} {s t:S} {y:Lay} {a:Act} {w:World}
theorem NY {o:Oper}{v:V}(h:MX P s o.op=some v)(A:At c s y a w):∃u,(execOp a.eval o).run P w= .ok (.value u) w∧RV (aX c s y) v u:=by
 unfold MX at h
 split at h
 ·rename_i x e;exact⟨a.eval x,by unfold execOp;rw [e];rfl,A.ev h⟩
 ·rename_i x e;exact⟨a.eval x,by unfold execOp;rw [e];rfl,A.ev h⟩
 ·rename_i t p e
  obtain⟨x,hx,h⟩:=aj h
  exact Tk e hx h A
 ·rename_i t x f e
  obtain⟨vx,hx,h⟩:=aj h
  obtain⟨q,hf,h⟩:=aj h
  exact Gw e hx hf h A
 ·rename_i t x i e
  obtain⟨vx,hx,h⟩:=aj h
  obtain⟨vi,hi,h⟩:=aj h
  obtain⟨n,hn,h⟩:=aj h
  obtain⟨q,he,h⟩:=aj h
  exact Gx e hx hi hn he h A
 ·rename_i op t x z t' e
  obtain⟨vx,hx,h⟩:=aj h
  obtain⟨vy,hy,h⟩:=aj h
  exact Xh e hx hy h A
 ·rename_i t ps e
  obtain⟨d,h1,h⟩:=aj h
  obtain⟨fs,h2,h⟩:=aj h
  obtain⟨h3,h⟩:=aB h
  obtain⟨z,h4,h⟩:=aj h
  obtain⟨vs,h5,h⟩:=aj h
  obtain⟨cs,h6,h⟩:=aj h
  injection h with h;subst h
  exact PI e h1 h2 h3 h4 h5 h6 A
 ·cases h
theorem adn {a:Act}{d t:Nat}{u:Value}(h:t≠d):(a.put (some d) u).tmps.getD t undef=a.tmps.getD t undef:=by
 show(a.tmps.setIfInBounds d u).getD t undef=a.tmps.getD t undef
 rw [Array.getD_eq_getD_getElem?,Array.getD_eq_getD_getElem?,Array.getElem?_setIfInBounds_ne (Ne.symm h)]
theorem afo {a:Act}{d:Nat}{u:Value}(h:a.tmps.getD d undef=u):a.put (some d) u=a:=by
 subst h
 show {a with tmps:=a.tmps.setIfInBounds d (a.tmps.getD d undef)}=a
 have:a.tmps.setIfInBounds d (a.tmps.getD d undef)=a.tmps:=by
  refine Array.ext_getElem? fun i=>?_
  by_cases e:i=d
  ·subst e
   rw [Array.getElem?_setIfInBounds_self]
   by_cases hi:i<a.tmps.size
   ·simp [hi]
   ·simp [hi]
  ·rw [Array.getElem?_setIfInBounds_ne (Ne.symm e)]
 rw [this]
def aag (c:Ctx)(y:Lay)(t:S):List Pc:=dJ y.bl y.T y.us t.box++(bW y.hd t.tree++(gI y.w0 y.F t.dG++c.L))
theorem At.inW (A:At c t y a w){w':World}(h:St c.W w' (aag c y t)):At c t y a w':=⟨A.defers,A.size,h,A.env,A.box,A.dG,A.nb,A.nt,A.fix⟩
theorem XK (d:Option Nat)(v:V):aag c y (t.put d v)=aag c y t:=by cases d<;>rfl
theorem take_one {ops:Array Oper}{Q:Exit→Act→World→Prop}(hsel:Region.noSelect ops=true)(hQ:∀(ch:_) (a:Act) (d:Option Nat) (v:Value) (w:World),Q (.panic ch) (a.put d v) w→Q (.panic ch) a w){Sx:World→Prop}(hst:∀w',Sx w'→St c.W w' (aag c y t)){o:Oper}{k fuel:Nat}{listed:Array Bool}(hk:ops[k]?=some o)(hr:(Region.ready .any ops listed).contains k=true)(hf:Region.free .any ops listed k=true)(hg:o.guard.isNone=true)
  {u:Value} (hx:∀w',At c t y a w'→(execOp a.eval o).run P w'= .ok (.value u) w') (A:At c t y a w) (hS:Sx w) (h:wpAnyH P .any ops Q Sx fuel (listed.setIfInBounds k true) (a.put o.dst u) w):wpAnyH P .any ops Q Sx (fuel+1) listed a w:=by
 refine wpAnyH_take hk hsel hf hr (fun ch a w h=>hQ ch a _ _ w h) (.inl ⟨?_,fun w' hS'=>hx w' (A.inW (hst w' hS'))⟩) hS h
 unfold Region.wanted
 cases e:o.guard with
 | none=>rfl
 | some g=>rw [e]at hg;cases hg
theorem Hq {ops:Array Oper}{Q:Exit→Act→World→Prop}(hsel:Region.noSelect ops=true)(hQ:∀(ch:_) (a:Act) (d:Option Nat) (v:Value) (w:World),Q (.panic ch) (a.put d v) w→Q (.panic ch) a w){Sx:World→Prop}{fuel:Nat}:
  ∀{l:List Oper} {k:Nat} {listed:Array Bool} {t s t' s':S} {a:Act},(∀j,j<l.length→l[j]?=ops[k+j]?)→takeB ops l.length k listed=true→(∀o∈l,fM c.n o.dst=true)→yj P l t s=some (t',s')→At c t y a w→At c s y a w→(∀v u,RV (aX c t y) v u→RV (aX c s y) v u)→(∀w',Sx w'→St c.W w' (aag c y t))→Sx w→
   (∀a',At c t' y a' w→At c s' y a' w→(∀tt,(∀o∈l,o.dst≠some tt)→a'.tmps.getD tt undef=a.tmps.getD tt undef)→(∀v u,RV (aX c t' y) v u→RV (aX c s' y) v u)→(∀w',Sx w'→St c.W w' (aag c y t'))→wpAnyH P .any ops Q Sx fuel (Ho listed k l.length) a' w)→wpAnyH P .any ops Q Sx (l.length+fuel) listed a w
 | [],k,listed,t,s,t',s',a,_,_,_,h,At_,As,hle,hst,hS,kk=>by
  simp only [yj]at h
  injection h with h
  injection h with h1 h2
  subst h1;subst h2
  simpa [Ho] using kk a At_ As (fun _ _=>rfl) hle hst
 | o::l,k,listed,t,s,t',s',a,hl,hB,hd,h,At_,As,hle,hst,hS,kk=>by
  simp only [yj]at h
  obtain⟨hg,h⟩:=aB h
  obtain⟨v,h1,h⟩:=aj h
  obtain⟨hv,h⟩:=aB h
  have h0:ops[k]?=some o:=by simpa using (hl 0 (by simp)).symm
  simp only [List.length_cons,takeB,Bool.and_eq_true]at hB
  obtain⟨hr,hf,hB⟩:=hB
  have hdo:=hd o (by simp)
  obtain⟨u,q1,q2⟩:=NY h1 At_
  rw [show (o::l).length+fuel=(l.length+fuel)+1 by simp;omega]
  refine take_one (u:=u) hsel hQ hst h0 hr hf hg (fun w' A'=>?_) At_ hS ?_
  ·obtain⟨u',q3,q4⟩:=NY h1 A'
   rw [agM hv q2 q4];exact q3
  ·have ep:∀(x:S),aX c (x.put o.dst v) y=aX c x y:=fun x=>by cases o.dst<;>rfl
   refine Hq hsel hQ (l:=l) (k:=k+1) (fun j hj=>by have:=hl (j+1) (by simp;omega);simpa [Nat.add_assoc,Nat.add_comm 1 j] using this) hB (fun o ho=>hd o (by simp [ho])) h (At_.value q2 hdo) (As.value (hle v u q2) hdo) (fun v u h=>by rw [ep]at h⊢;exact hle v u h) (fun w' hw=>by rw [XK];exact hst w' hw) hS fun a' A1 A2 ht hle' hst'=>?_
   refine kk a' A1 A2 (fun tt hn=>?_) hle' hst'
   rw [ht tt fun o ho=>hn o (by simp [ho])]
   have hne:=hn o (by simp)
   cases e:o.dst with
   | none=>rfl
   | some d=>exact adn fun q=>hne (by rw [e,q])
theorem EY:∀{l:List Oper} {t s t' s':S},yj P l t s=some (t',s')→t'.tree=t.tree∧s'.tree=s.tree∧s'.box=s.box∧s'.dG=s.dG
 | [],t,s,t',s',h=>by simp only [yj]at h;injection h with h;injection h with h1 h2;subst h1;subst h2;exact⟨rfl,rfl,rfl,rfl⟩
 | o::l,t,s,t',s',h=>by
  simp only [yj]at h
  obtain⟨hg,h⟩:=aB h
  obtain⟨v,h1,h⟩:=aj h
  obtain⟨hv,h⟩:=aB h
  obtain⟨q1,q2,q3,q4⟩:=EY h
  have ep:∀(x:S),(x.put o.dst v).tree=x.tree∧(x.put o.dst v).box=x.box∧(x.put o.dst v).dG=x.dG:=fun x=>by cases o.dst<;>exact⟨rfl,rfl,rfl⟩
  exact⟨q1.trans (ep t).1,q2.trans (ep s).1,q3.trans (ep s).2.1,q4.trans (ep s).2.2⟩
theorem Sep.sub {w:World}{l l':List Pc}(h:l'.Sublist l):∀{F:List Nat},Sep w l F→∃F',Sep w l' F'∧F'.Sublist F:=by
 induction h with
 | slnil=>intro F s;exact⟨F,s,List.Sublist.refl _⟩
 | cons x _ ih=>
  intro F s
  obtain⟨F1,G,rfl,h1,h2⟩:=s.lF
  obtain⟨F',s',hs⟩:=ih h2
  exact⟨F',s',hs.trans (List.sublist_append_right _ _)⟩
 | cons_cons x _ ih=>
  intro F s
  obtain⟨F1,G,rfl,h1,h2⟩:=s.lF
  obtain⟨F',s',hs⟩:=ih h2
  exact⟨F1++F', .cons h1 s',List.Sublist.append (List.Sublist.refl _) hs⟩
theorem St.sub {W w:World}{l l':List Pc}(h:l'.Sublist l)(S:St W w l):St W w l':=by
 obtain⟨F,s,n,hb⟩:=S.sep
 obtain⟨F',s',hs⟩:=s.sub h
 exact⟨S.ext,F',s',hs.nodup n,fun b hm=>hb b (hs.subset hm)⟩
def zf (c:Ctx)(y:Lay)(s:S)(B:Nat):List Pc:=dJ y.bl y.T y.us (s.box.filter fun x=>x.1==B)++(bW y.hd s.tree++(gI y.w0 y.F s.dG++c.L))
theorem At.rest (A:At c s y a w)(B:Nat):St c.W w (zf c y s B):=St.sub (List.Sublist.append (List.Sublist.map _ List.filter_sublist) (List.Sublist.refl _)) A.st
theorem aah {B b:Nat}{cs:List V}{us':Array Value}(h:b≠B):zf c {y with us:=dR y.us b us'} {s with box:=upd b cs s.box} B=zf c y s B:=by
 have key:∀l:List (Nat×List V),dJ y.bl y.T (dR y.us b us') ((upd b cs l).filter fun x=>x.1==B)=dJ y.bl y.T y.us (l.filter fun x=>x.1==B):=by
  have same:∀l:List (Nat×List V),dJ y.bl y.T (dR y.us b us') (l.filter fun x=>x.1==B)=dJ y.bl y.T y.us (l.filter fun x=>x.1==B):=fun l=>by
   unfold dJ
   refine List.map_congr_left fun x hx=>?_
   have hx2:=(List.mem_filter.1 hx).2
   rw [fO _ _ (fun e=>h (by rw [←e];exact eq_of_beq hx2))]
  intro l
  induction l with
  | nil=>rfl
  | cons x l ih=>
   obtain⟨j,z⟩:=x
   unfold upd
   by_cases e:b=j
   ·subst e
    rw [if_pos rfl,List.filter_cons_of_neg (by simpa using h),List.filter_cons_of_neg (by simpa using h)]
    exact same l
   ·rw [if_neg e]
    by_cases e2:j=B
    ·subst e2
     rw [List.filter_cons_of_pos (by simp),List.filter_cons_of_pos (by simp)]
     unfold dJ at ih⊢
     rw [List.map_cons,List.map_cons,ih,fO _ _ (fun q=>e q.symm)]
    ·rw [List.filter_cons_of_neg (by simpa using e2),List.filter_cons_of_neg (by simpa using e2)]
     exact ih
 unfold zf
 show dJ y.bl y.T (dR y.us b us') ((upd b cs s.box).filter fun x=>x.1==B)++_=_
 rw [key]
def storeT (P:Program)(B:Nat)(s:S)(t:TypeId)(v:V):V→Option S
 | .ref b off=>bnd (look b s.box) fun cs=>grd (b≠B∧off+v.cells.length≤cs.length∧v.cells.length=P.cellsOf t∧eF P t=true∧v.cells.all V.one=true) (some {s with box:=upd b (setAt cs off v.cells) s.box})
 | _=>none
def tailV (P:Program)(B:Nat)(s:S)(d:Option Nat):Op→Option S
 | .store t x z=>bnd (s.ev x) fun p=>bnd (s.ev z) fun v=>bnd (storeT P B s t v p) fun s=>some (s.skip d)
 | .assign x=>bnd (s.ev x) fun v=>some (s.put d v)
 | _=>none
def Kl (P:Program)(B:Nat):List Oper→S→Option S
 | [],s=>some s
 | o::r,s=>grd (o.guard.isNone=true) (bnd (tailV P B s o.dst o.op) fun s=>Kl P B r s)
theorem afp {o:Oper}{B:Nat}{s':S}(hd:fM c.n o.dst=true)(h:tailV P B s o.dst o.op=some s')(A:At c s y a w):∀(K:Act→World→Prop) (Q:Exit→Act→World→Prop),(∀y' a' w',At c s' y' a' w'→y'.hd=y.hd→zf c y' s' B=zf c y s B→K a' w')→o.wp P a w K Q:=by
 intro K Q kk
 unfold tailV at h
 split at h
 ·rename_i t x z e
  obtain⟨p,hp,h⟩:=aj h
  obtain⟨v,hv,h⟩:=aj h
  obtain⟨s1,h2,h⟩:=aj h
  injection h with h;subst h
  unfold storeT at h2
  split at h2
  ·rename_i b off e3
   obtain⟨cs,hl,h2⟩:=aj h2
   obtain⟨⟨g1,g2,g3,g4,g5⟩,h2⟩:=aB h2
   injection h2 with h2;subst h2
   obtain⟨us',w1,hr,A2⟩:=JF e hp hv g3 g4 g5 hl g2 A
   have ep:∀x:S,zf c {y with us:=dR y.us b us'} (x.skip o.dst) B=zf c {y with us:=dR y.us b us'} x B:=fun x=>by cases o.dst<;>rfl
   exact I9 hr (kk _ _ _ (A2.skip undef) rfl ((ep _).trans (aah g1)))
  ·cases h2
 ·rename_i x e
  obtain⟨v,hv,h⟩:=aj h
  injection h with h;subst h
  have ep:∀x:S,zf c y (x.put o.dst v) B=zf c y x B:=fun x=>by cases o.dst<;>rfl
  exact qD (u:=a.eval x) (by unfold execOp;rw [e];rfl) (kk y _ _ (A.value (A.ev hv) hd) rfl (ep s))
 ·cases h
theorem Qq {ops:Array Oper}{Q:Exit→Act→World→Prop}{Sx:World→Prop}{B:Nat}{R0:List Pc}(hSx:∀w',St c.W w' R0→Sx w'):∀{l:List Oper} {k:Nat} {listed:Array Bool} {s s':S} {y:Lay} {a:Act} {w:World},(∀j,l[j]?=ops[k+j]?)→Region.seqB .any ops l.length k listed=true→(∀o∈l,fM c.n o.dst=true)→Kl P B l s=some s'→At c s y a w→zf c y s B=R0→
   (∀y' a' w',At c s' y' a' w'→y'.hd=y.hd→Q .normal a' w')→wpAnyH P .any ops Q Sx l.length listed a w
 | [],k,listed,s,s',y,a,w,_,hB,_,h,A,_,kk=>by
  simp only [Kl]at h;injection h with h;subst h
  exact⟨by simpa [Region.seqB] using hB,kk y a w A rfl⟩
 | o::l,k,listed,s,s',y,a,w,hl,hB,hd,h,A,hR,kk=>by
  simp only [Kl]at h
  obtain⟨hg,h⟩:=aB h
  obtain⟨s1,h1,h⟩:=aj h
  have h0:ops[k]?=some o:=by simpa using (hl 0).symm
  simp only [List.length_cons,Region.seqB,Bool.and_eq_true,decide_eq_true_eq]at hB
  refine wpAnyH_all hB.1 (by simp) fun i hi=>?_
  obtain rfl:i=k:=by simpa using hi
  have hw:Region.wanted o (yielded ops a.tmps)=true:=by
   unfold Region.wanted
   cases e:o.guard with
   | none=>rfl
   | some g=>rw [e]at hg;cases hg
  unfold wpOp
  simp only [h0,hw,if_true]
  refine .inl (afp (hd o (by simp)) h1 A _ _ fun y' a' w' A' e1 e2=>⟨hSx w' ?_,?_⟩)
  ·rw [←hR,←e2];exact A'.rest B
  ·exact Qq hSx (fun j=>by have:=hl (j+1);simpa [Nat.add_assoc,Nat.add_comm 1 j] using this) hB.2 (fun o ho=>hd o (by simp [ho])) h A' (e2.trans hR) fun y2 a2 w2 A2 e3=>kk y2 a2 w2 A2 (e3.trans e1)
def EZ:Value→Nat→Value
 | .slice b _ c,h=> .slice b h c
 | u,_=>u
theorem aai {o:Oper}{t e:TypeId}{x z:Operand}{p h:Nat}{k:IntKind}{rows:List (List D)}(ho:o.op= .slice t x none (some z) none)(hx:s.ev x=some (.own p))(hz:s.ev z=some (.v (.int k (h:Int))))(hu:P.underlying t=some (.slice e))(hs:eF P e=true)
  (hl:look p s.tree=some rows) (hh:h≤rows.length) (A:At c s y a w):(execOp a.eval o).run P w= .ok (.value (EZ (y.hd p).v h)) w:=by
 have exv:a.eval x=(y.hd p).v:=(A.ev hx).2
 obtain⟨F,ow⟩:=A.Db hl
 obtain⟨A',c',e1,e2,e3,e4⟩:=(ow.own.rd (G:=jT w) fun _ _ _ e=>e).len
 have hq:bounds rows.length none (some (.v (.int k (h:Int))))=some (0,h):=by
  unfold bounds
  simp only [UL,idxOf,aY]
  rw [eH _ ⟨by omega,by omega,by omega⟩]
  simp
 obtain⟨b1,b2,hb⟩:=wR (P:=P) A (lo:=none) (hi:=some z) (vl:=none) (vh:=some (.v (.int k (h:Int)))) rfl (by simp only [kC,hz];rfl) hq e2 true
 unfold execOp
 simp only [ho,exv,e1]
 simp only [Option.map_none,Option.map_some]at hb
 simp [Instr.sliceAt,Instr.slice,run_underlying hu,hb,kW hs,EZ]
 intro hc
 cases A' with
 | none=>rfl
 | some a=>simp [Addr.add]
theorem At.ahx (A:At c s y a w){b:Nat}{u:Value}{v:V}(hb:look b s.box=some [.v u])(hv:RV (aX c s y) v u):∃y',At c {s with box:=upd b [v] s.box} y' a w:=by
 obtain⟨h1,h2⟩:=A.ab0 hb
 obtain⟨u',q,e,e1,e2⟩:=h2
 refine⟨_,A.turn (cs':= [v]) (us':=y.us b) hb ?_ h1 ⟨rfl,rfl,rfl,Nat.le_refl _,fun _ _ _=>rfl⟩⟩
 rw [e]
 refine⟨u',q,rfl,?_,e2⟩
 rw [show u'=u from e1];exact hv
noncomputable def S.Qr (s:S)(d p h b:Nat)(u:Value):Option S:=bnd (look p s.tree) fun rows=>Bc (look d s.env) (some (.v u)) (if h=0 then Bc (look b s.box) (some [.v u]) (some {s with box:=upd b [.aP none []] s.box})
 else grd (h≤rows.length) (bnd ((s.kill p).newTree (some d) (rows.take h)) fun s1=>Bc (look b s1.box) (some [.v u]) (some {s1 with box:=upd b [.own d] s1.box})))
theorem Vr {d p h b:Nat}{u:Value}{s':S}(A:At c s y a w)(hd:d<c.n)(hu:u=EZ (y.hd p).v h)(e:s.Qr d p h b u=some s'):Good c s' a w:=by
 unfold S.Qr at e
 obtain⟨rows,hl,e⟩:=aj e
 obtain⟨he,e⟩:=xZ e
 have hd':fM c.n (some d)=true:=by simpa [fM] using hd
 have hv:a.tmps.getD d undef=u:=A.env d _ he
 subst hu
 by_cases h0:h=0
 ·subst h0
  rw [if_pos rfl]at e
  obtain⟨hb,e⟩:=xZ e
  injection e with e;subst e
  obtain⟨F,o⟩:=A.Db hl
  obtain⟨A',c',e1,e2,e3,e4⟩:=(o.own.rd (G:=jT w) fun _ _ _ e=>e).len
  rw [e1]at hb
  obtain⟨y',A2⟩:=A.ahx (v:= .aP none []) hb ⟨.nil _ _ (by omega) fun hn=>e4 hn,fun j h=>by cases h⟩
  exact⟨y',A2⟩
 ·rw [if_neg h0]at e
  obtain⟨hh,e⟩:=aB e
  obtain⟨s1,h1,e⟩:=aj e
  obtain⟨hb,e⟩:=xZ e
  injection e with e;subst e
  obtain⟨g,ob,cc,k1,k2,k3,S1⟩:=(A.out' hl).Bg.Xn (h:=h) (by omega) hh
  obtain⟨y',A'⟩:=pI (A.take hl) hd' h1 S1
  rw [k1]at hv hb
  rw [afo (show a.tmps.getD d undef= .slice (some ⟨g,ob,none⟩) h cc from hv)]at A'
  have hown:RV (aX c s1 y') (.own d) (.slice (some ⟨g,ob,none⟩) h cc):=by
   have hd2:look d s1.env=some (V.own d):=by
    unfold S.newTree at h1
    simp only [aY]at h1
    obtain⟨_,h1⟩:=aB h1
    injection h1 with h1;subst h1
    show look d (YtlpdjhiggpblcaaGreat.put d (V.own d) _)=_
    rw [K5,if_pos rfl]
   have:=A'.env d _ hd2
   rw [show a.tmps.getD d undef= .slice (some ⟨g,ob,none⟩) h cc from hv]at this
   exact this
  obtain⟨y2,A2⟩:=A'.ahx hb hown
  exact⟨y2,A2⟩
def Qs (B:Nat):V→Bool
 | .v _=>true
 | .own _=>true
 | .ref b _=>b==B
 | _=>false
def S.only (s:S)(keep:List Nat)(B:Nat):Option S:=
 grd (((s.env.filter fun x=>keep.contains x.1).all (fun x=>Qs B x.2)&&(s.box.filter fun x=>x.1==B).all fun x=>x.2.all fun v=>vV v||oV v)=true) (some {s with env:=s.env.filter fun x=>keep.contains x.1,box:=s.box.filter fun x=>x.1==B})
theorem Hr {α:Type}{p:Nat→Bool}:∀{l:List (Nat×α)} {k:Nat} {x:α},look k (l.filter fun z=>p z.1)=some x→look k l=some x∧(k,x)∈l.filter fun z=>p z.1
 | [],k,x,h=>by cases h
 | (j,z)::l,k,x,h=>by
  by_cases hj:p j=true
  ·rw [List.filter_cons_of_pos (p:=fun z:Nat×α=>p z.1) (a:=(j,z)) hj]at h⊢
   simp only [look]at h⊢
   by_cases e:k=j
   ·subst e
    rw [if_pos rfl]at h⊢
    injection h with h;subst h
    exact⟨rfl,List.mem_cons_self⟩
   ·rw [if_neg e]at h⊢
    obtain⟨h1,h2⟩:=Hr h
    exact⟨h1,List.mem_cons_of_mem _ h2⟩
  ·rw [List.filter_cons_of_neg (p:=fun z:Nat×α=>p z.1) (a:=(j,z)) hj]at h⊢
   obtain⟨h1,h2⟩:=Hr h
   refine⟨?_,h2⟩
   simp only [look]
   have hk:p k=true:=(List.mem_filter.1 h2).2
   rw [if_neg (fun e=>hj (by rw [←e];exact hk))]
   exact h1
theorem aaj {keep:List Nat}{B:Nat}{t:S}(A:At c s y a w)(h:s.only keep B=some t)(hB:B∈s.box.map (·.1)):At c t y a w∧(∀v u,RV (aX c t y) v u→RV (aX c s y) v u)∧aag c y t=zf c y s B∧t.tree=s.tree:=by
 unfold S.only at h
 obtain⟨hc,h⟩:=aB h
 injection h with h
 rw [Bool.and_eq_true]at hc
 have hBt:B∈t.box.map (·.1):=by
  obtain⟨x,hx,e⟩:=List.mem_map.1 hB
  subst h
  exact List.mem_map.2 ⟨x,List.mem_filter.2 ⟨hx,by simp [e]⟩,e⟩
 have hv:∀v u,Qs B v=true→RV (aX c s y) v u→RV (aX c t y) v u:=fun v u hk r=>by
  unfold Qs at hk
  split at hk
  ·exact r
  ·exact⟨by subst h;exact r.1,r.2⟩
  ·have:_=B:=eq_of_beq hk
   subst this
   exact⟨hBt,r.2⟩
  ·cases hk
 have hle:(aX c t y).le (aX c s y):=by
  subst h
  exact⟨fun _ _ h=>h,fun _ _ h=>h,rfl,fun b hb=>⟨by
   obtain⟨x,hx,e⟩:=List.mem_map.1 hb
   exact List.mem_map.2 ⟨x,(List.mem_filter.1 hx).1,e⟩,rfl⟩,fun _ h=>⟨h,rfl⟩⟩
 refine⟨⟨A.defers,A.size,?_,fun tt v e=>?_,fun b cs hb=>?_,?_,?_,?_,A.fix⟩,fun v u r=>r.le hle,?_,?_⟩
 ·have:=A.rest B
  subst h;exact this
 ·have e2:look tt (s.env.filter fun x=>keep.contains x.1)=some v:=by subst h;exact e
  obtain⟨e3,e4⟩:=Hr e2
  exact hv v _ (List.all_eq_true.1 hc.1 _ e4) (A.env tt v e3)
 ·have hb2:(b,cs)∈s.box.filter fun x=>x.1==B:=by subst h;exact hb
  have hcs:=List.all_eq_true.1 (List.all_eq_true.1 hc.2 _ hb2)
  refine jk.of (A.box b cs (List.mem_filter.1 hb2).1).len fun i v u e1 e2=>hv v u ?_ ?_
  ·have:=hcs v (List.mem_of_getElem? e1)
   rw [Bool.or_eq_true]at this
   unfold vV oV at this
   unfold Qs
   cases v<;>simp at this⊢
  ·obtain⟨u',e3,r⟩:=(A.box b cs (List.mem_filter.1 hb2).1).get e1
   rw [e2]at e3;injection e3 with e3;subst e3
   exact r
 ·subst h;exact A.dG
 ·subst h;exact List.Sublist.nodup (List.Sublist.map _ List.filter_sublist) A.nb
 ·subst h;exact A.nt
 ·subst h;rfl
 ·subst h;rfl
noncomputable def Cq (P:Program)(l:List Oper)(n k d p h b B:Nat)(keep:List Nat)(u:Value)(s:S):Option S:=
 bnd (s.only keep B) fun t=>bnd (yj P (l.take k) t s) fun x=>bnd (yj P ((l.take n).drop (k+1)) (x.1.put (some d) (.v u)) (x.2.put (some d) (.v u))) fun z=>bnd (Kl P B (l.drop n) z.2) fun s5=>s5.Qr d p h b u
def OZ (P:Program)(l:List Oper)(k d p h B:Nat)(keep:List Nat)(s:S):Prop:= ∃(o:Oper) (t e:TypeId) (x z:Operand) (rows:List (List D)),l[k]?=some o∧o.op= .slice t x none (some z) none∧o.dst=some d∧o.guard.isNone=true∧mE P t=some (e,none)∧eF P e=true∧look p s.tree=some rows∧h≤rows.length∧B∈s.box.map (·.1)∧
 ∀t1 x1,s.only keep B=some t1→yj P (l.take k) t1 s=some x1→x1.1.ev x=some (.own p)∧x1.1.ev z=some (.v (.int .i64 (h:Int)))
def Vs (ops:Array Oper)(n k:Nat):Bool:=
 Region.noSelect ops&&(decide (k<n∧n<ops.size)&&(takeB ops k 0 (Array.replicate ops.size false)&&((Region.ready .any ops (Ho (Array.replicate ops.size false) 0 k)).contains k&&(Region.free .any ops (Ho (Array.replicate ops.size false) 0 k) k&&
  (takeB ops (n-(k+1)) (k+1) ((Ho (Array.replicate ops.size false) 0 k).setIfInBounds k true)&&Region.seqB .any ops (ops.size-n) n (Ho ((Ho (Array.replicate ops.size false) 0 k).setIfInBounds k true) (k+1) (n-(k+1))))))))
theorem Vt (hm:P.follows .mixedOrders=true){id:Nat}{l:List Oper}{n k d p h b B:Nat}{keep:List Nat}(hB:Vs l.toArray n k=true)(hd:∀o∈l,fM c.n o.dst=true)(hf:OZ P l k d p h B keep s)
  (g:Good c s a w) {Q1:Exit→Act→World→Prop} (hQ:∀(ch:_) (a:Act) (d:Option Nat) (v:Value) (w:World),Q1 (.panic ch) (a.put d v) w→Q1 (.panic ch) a w) (he:∀u:Value,u.oneCell'=true→∃s',Cq P l n k d p h b B keep u s=some s'∧∀a w,Good c s' a w→Q1 .normal a w):(Code.region id l.toArray true).wp P Q1 a w:=by
 obtain⟨o,t,e,x,z,rows,f1,f3,f4,f5,f6,f7,f8,f9,fb,fB⟩:=hf
 have f6:P.underlying t=some (.slice e):=by
  rcases Ez f6 with⟨q,e1,e2⟩|⟨q,n,e1,e2⟩
  ·injection e1 with e1;rw [e1];exact e2
  ·injection e1 with e1 e3;cases e3
 obtain⟨y,A⟩:=g
 have A:At c s y a {w with drawn:=w.drawn+1}:=⟨A.defers,A.size,A.st.drew,A.env,A.box,A.dG,A.nb,A.nt,A.fix⟩
 have hone:(EZ (y.hd p).v h).oneCell'=true:=by
  obtain⟨F,ow⟩:=A.Db f8
  obtain⟨A',c',e1, -, -, -⟩:=(ow.own.rd (G:=jT _) fun _ _ _ e=>e).len
  rw [e1];rfl
 obtain⟨s',he,kk⟩:=he _ hone
 unfold Cq at he
 obtain⟨t1,h1,he⟩:=aj he
 obtain⟨⟨t2,s2⟩,h2,he⟩:=aj he
 obtain⟨⟨t4,s4⟩,h4,he⟩:=aj he
 obtain⟨s5,h5,h6⟩:=aj he
 obtain⟨fB1,fB2⟩:=fB t1 (t2,s2) h1 h2
 obtain⟨At1,hle,hall,htr⟩:=aaj A h1 fb
 simp only [Vs,Bool.and_eq_true,decide_eq_true_eq]at hB
 obtain⟨hsel,⟨hkn,hnl⟩,b1,b2,b3,b4,b5⟩:=hB
 have hnl:n<l.length:=by simpa using hnl
 have hkl:(l.take k).length=k:=by simp;omega
 have hml:((l.take n).drop (k+1)).length=n-(k+1):=by simp;omega
 have htl:(l.drop n).length=l.toArray.size-n:=by simp
 have hod:d<c.n:=fM.lt (by rw [←f4];exact hd o (List.mem_of_getElem? f1))
 have hok:l.toArray[k]?=some o:=by simpa using f1
 have hdl:fM c.n o.dst=true:=hd o (List.mem_of_getElem? f1)
 refine wp_region_held (S:=fun w'=>St c.W w' (zf c y s B)) hm ?_
 generalize Array.replicate l.toArray.size false=L0 at*
 rw [show l.toArray.size=(l.take k).length+(((l.take n).drop (k+1)).length+(l.drop n).length+1) by simp;omega]
 refine Hq hsel hQ (k:=0) (fun j hj=>by rw [hkl]at hj;simp [hj]) (by rw [hkl];exact b1) (fun o ho=>hd o (List.mem_of_mem_take ho)) h2 At1 A hle (fun w' hw=>by rw [hall];exact hw) (A.rest B) fun a1 At2 As2 ht1 hle2 adf=>?_
 rw [hkl]
 have akv:=(EY h2).1
 refine take_one (u:=EZ (y.hd p).v h) hsel hQ adf hok b2 b3 f5 (fun w' A'=>aai f3 fB1 fB2 f6 f7 (by rw [akv,htr];exact f8) f9 A') At2 (A.rest B) ?_
 have ep:∀(x:S) (v:V),aX c (x.put o.dst v) y=aX c x y:=fun x v=>by cases o.dst<;>rfl
 have At3:=At2.value (v:= .v (EZ (y.hd p).v h)) (u:=EZ (y.hd p).v h) rfl hdl
 have As3:=As2.value (v:= .v (EZ (y.hd p).v h)) (u:=EZ (y.hd p).v h) rfl hdl
 rw [←f4]at h4
 have hmem:=EY h4
 refine Hq hsel hQ (k:=k+1) (fun j hj=>?_) (by rw [hml];exact b4) (fun o ho=>hd o (List.mem_of_mem_take (List.mem_of_mem_drop ho))) h4 At3 As3 (fun v u r=>by rw [ep]at r⊢;exact hle2 v u r) (fun w' hw=>by rw [XK];exact adf w' hw) (A.rest B) fun a3 At4 As4 ht3 azt ahU=>?_
 ·rw [hml]at hj
  rw [List.getElem?_drop,List.getElem?_take_of_lt (by omega)]
  simp
 rw [hml,htl]
 have hR:zf c y s4 B=zf c y s B:=by
  have m2:=EY h2
  have pb:∀(x:S) (v:V),(x.put o.dst v).box=x.box∧(x.put o.dst v).tree=x.tree∧(x.put o.dst v).dG=x.dG:=fun x v=>by cases o.dst<;>exact⟨rfl,rfl,rfl⟩
  unfold zf
  rw [hmem.2.2.1,hmem.2.1,hmem.2.2.2,(pb s2 _).1,(pb s2 _).2.1,(pb s2 _).2.2,m2.2.1,m2.2.2.1,m2.2.2.2]
 rw [←htl]
 refine Qq (B:=B) (R0:=zf c y s B) (fun w' h=>h) (k:=n) (fun j=>by simp) (by rw [htl];exact b5) (fun o ho=>hd o (List.mem_of_mem_drop ho)) h5 As4 hR fun y' a' w' A' e1=>?_
 exact kk a' w' (Vr A' hod (by rw [e1]) h6)
end
def O1 (P:Program)(G:List (FuncId×Bool×aN))(gh:mg)(pre rest:List Code)(rs:List ResultVar)(l:List Oper)(n k d p h b B:Nat)(keep:List Nat)(args:List V)(r:Ay):Prop:=
 Ls (fun s=> ∃rows,look p s.tree=some rows∧∀us:List Value,us.length=rows.flatten.length→Ad rows.flatten us→
  OZ P l k d p h B keep {s with tree:=upd p (gG rows us) s.tree}∧
  ∀u:Value,u.oneCell'=true→EX P rs (Hg rows us r) (bnd (Cq P l n k d p h b B keep u {s with tree:=upd p (gG rows us) s.tree}) fun s=>F9 P G gh rest (.on s))) (F9 P G gh pre (.on (yh args [] [])))
section
variable {P:Program} {G:List (FuncId×Bool×aN)} {gh:mg}
theorem XL (hG : ∀ f M, look f G = some M → aF P f M.2) (hm : P.follows .mixedOrders = true) {f : FuncId} {fn : Func} {x : Code} (hf : P.funcs[f]? = some fn) (hb : fn.body = some x) (hn : (fn.name == "runtime.NumGoroutine") = false) (hsm : fn.ntmps ≤ 1000000) {pre rest : List Code} {id : Nat} {l : List Oper}
  (hfl:jg x=pre++ .region id l.toArray true::rest) (hx:((pre++rest).all fun x=>jU gh fn.ntmps x)=true) (hop:(l.all fun o=>fM fn.ntmps o.dst)=true) {n k d b B:Nat} {keep:List Nat} (hB:Vs l.toArray n k=true) {M:aN}
  (H:∀args boxes trees r,M args boxes trees=some r→args.length≤1000∧boxes= []∧trees= []∧r.box= []∧∃p h,O1 P G gh pre rest fn.results.toList l n k d p h b B keep args r):aF P f M:=by
 refine⟨⟨fn,hf,hn,by rw [hb];rfl⟩,fun c args boxes trees r h y us w m hargs=>?_⟩
 obtain⟨hal,rfl,rfl,hrb,p,hq,hh⟩:=H args boxes trees r h
 unfold O1 at hh
 obtain⟨s,h1,rows,h2,h3⟩:∃s,F9 P G gh pre (.on (yh args [] []))=some (.normal, .on s)∧∃rows,look p s.tree=some rows∧∀us:List Value,us.length=rows.flatten.length→Ad rows.flatten us→
   OZ P l k d p hq B keep {s with tree:=upd p (gG rows us) s.tree}∧∀u:Value,u.oneCell'=true→EX P fn.results.toList (Hg rows us r) (bnd (Cq P l n k d p hq b B keep u {s with tree:=upd p (gG rows us) s.tree}) fun s=>F9 P G gh rest (.on s)):=by
  unfold Ls at hh
  split at hh
  ·rename_i s e;exact⟨s,e,hh⟩
  ·exact hh.elim
 have h3:∀us:List Value,us.length=rows.flatten.length→Ad rows.flatten us→OZ P l k d p hq B keep {s with tree:=upd p (gG rows us) s.tree}∧∀u:Value,u.oneCell'=true→∃(s1:S) (ex:Ex) (s2:S) (r2:Ay),Cq P l n k d p hq b B keep u {s with tree:=upd p (gG rows us) s.tree}=some s1∧F9 P G gh rest (.on s1)=some (ex, .on s2)∧(ex= .normal∨ex= .ret)∧sQ P fn.results.toList 0 0 s2=some r2∧Hg rows us r r2:=fun us Xl huc=>by
  obtain⟨k1,k2⟩:=h3 us Xl huc
  refine⟨k1,fun u hu=>?_⟩
  have this:=k2 u hu
  cases eq:Cq P l n k d p hq b B keep u {s with tree:=upd p (gG rows us) s.tree}with
  | none=>rw [eq]at this;exact this.elim
  | some s1=>
   rw [eq,aY]at this
   unfold EX at this
   split at this
   ·rename_i s2 e
    unfold Ae at this
    split at this
    ·rename_i r2 e2;exact⟨s1,_,s2,r2,rfl,e, .inl rfl,e2,this⟩
    ·exact this.elim
   ·rename_i s2 e
    unfold Ae at this
    split at this
    ·rename_i r2 e2;exact⟨s1,_,s2,r2,rfl,e, .inr rfl,e2,this⟩
    ·exact this.elim
   ·exact this.elim
 obtain⟨un,hun⟩:=Vg
 have hle:us.length≤1000:=by rw [hargs.len];exact hal
 have hsz0:(jK fn.ntmps us).tmps.size=us.length+(fn.ntmps-us.length):=by
  show(us.toArray++Array.replicate (fn.ntmps-us.toArray.size) undef).size=_
  rw [Array.size_append,Array.size_replicate,List.size_toArray]
 have hsz:fn.ntmps≤(jK fn.ntmps us).tmps.size:=by rw [hsz0];omega
 have hpb:(jK fn.ntmps us).tmps.size≤aU:=by rw [hsz0];unfold aU;omega
 have A:=Cn m hargs fn.ntmps hun hpb
 have hxs:=List.all_eq_true.1 hx
 have ho:∀l:List Code,(∀z∈l,z∈pre++rest)→(l.all fun x=>jU gh (jK fn.ntmps us).tmps.size x)=true:=fun l hl=>List.all_eq_true.2 fun z hz=>mK hsz z (hxs z (hl z hz))
 have hop2:∀o∈l,fM (jK fn.ntmps us).tmps.size o.dst=true:=fun o ho=>by
  have:=List.all_eq_true.1 hop o ho
  cases e:o.dst with
  | none=>rfl
  | some d0=>
   rw [e]at this
   have:=fM.lt this
   simp only [fM,decide_eq_true_eq];omega
 refine calls_of_wp hf hb (XH x ?_)
 rw [hfl]
 refine Vo _ _ ?_
 refine DU (c:= {c with n:=(jK fn.ntmps us).tmps.size,bF:=fun b=>y.bl (un b),hF:=fun p=>y.hd (un p)}) (DL hG) (DT gh) hm _ (.on (yh args [] [])) (.normal, .on s) (jK fn.ntmps us) w _ (ho _ fun z hz=>List.mem_append_left _ hz) h1 ⟨_,A⟩ fun a1 w1 g1=>?_
 obtain⟨vs,hK',hvl,hvc,g2⟩:=Good.flat (show Good _ s a1 w1 from g1) h2
 obtain⟨k0,k5⟩:=h3 vs hvl hvc
 show(Code.region id l.toArray true).wp P (Exit.then (wpL P rest _) _) a1 w1
 refine Vt (b:=b) (c:= {c with L:=qw rows.flatten vs++c.L,hK:=hK',n:=(jK fn.ntmps us).tmps.size,bF:=fun b=>y.bl (un b),hF:=fun p=>y.hd (un p)}) hm hB hop2 k0 g2 (fun ch a d v w hp=>by
  have e:(a.put d v).defers=a.defers:=by cases d<;>rfl
  exact⟨by rw [←e];exact hp.1,hp.2⟩) fun u hu=>?_
 obtain⟨s1,ex,s2,r2,kq,k1,k2,k3,k4⟩:=k5 u hu
 refine⟨s1,kq,fun a2 w2 g3=>?_⟩
 show wpL P rest _ a2 w2
 refine DU (c:= {c with L:=qw rows.flatten vs++c.L,hK:=hK',n:=(jK fn.ntmps us).tmps.size,bF:=fun b=>y.bl (un b),hF:=fun p=>y.hd (un p)}) (DL hG) (DT gh) hm _ _ (ex, .on s2) a2 w2 _ (ho _ fun z hz=>List.mem_append_right _ hz) k1 g3 fun a' w' g=>?_
 obtain⟨y1,A1⟩:=(show Good _ s2 a' w' from g)
 have fin:a'.defers= []∧∃v,(results fn a'.tmps).run P w'= .ok v w'∧∃u y',Ending.returned v= .returned u∧Ends c 0 0 r y u y' w':=by
  have hr2:=k3
  unfold sQ at hr2
  obtain⟨ws,hvs,_⟩:=aj hr2
  obtain⟨u,q1,q2⟩:=yS A1 hvs
  obtain⟨y',q3,q4,q5,q6,q7⟩:=G8 (n0:=c.n) (bF':=c.bF) (hF':=c.hF) A1 hvs q2 k3
  have ahY:r2.box= []:=List.eq_nil_of_length_eq_zero q5
  rw [ahY]at q3 q4
  obtain⟨y2,z1,z2⟩:=k4 c hK' y' w' u q3 q4
  refine⟨A1.defers,u,q1,u,y2,rfl,by rw [hrb];exact z1,by rw [hrb];exact z2, .inl (by rw [hrb];rfl),fun i hi=>by omega,fun q hq=>by omega⟩
 rcases k2 with rfl|rfl
 ·exact fin
 ·exact fin
theorem Vu (hG : ∀ f M, look f G = some M → aF P f M.2) (hm : P.follows .mixedOrders = true) {f : FuncId} {fn : Func} {x : Code} (hf : P.funcs[f]? = some fn) (hb : fn.body = some x) (hn : (fn.name == "runtime.NumGoroutine") = false) (hsm : fn.ntmps ≤ 1000000) (n0 : Nat) {id : Nat} {ops : Array Oper}
  (akw:(jg x)[n0]?=some (.region id ops true)) (hx:(((jg x).take n0++(jg x).drop (n0+1)).all fun x=>jU gh fn.ntmps x)=true) (hop:(ops.toList.all fun o=>fM fn.ntmps o.dst)=true) (n k d b B:Nat) (keep:List Nat) (hB:Vs ops n k=true) {M:aN}
  (H:∀args boxes trees r,M args boxes trees=some r→args.length≤1000∧boxes= []∧trees= []∧r.box= []∧∃p h,O1 P G gh ((partsOf P f).take n0) ((partsOf P f).drop (n0+1)) fn.results.toList ops.toList n k d p h b B keep args r):aF P f M:=by
 have hp:partsOf P f=jg x:=by unfold partsOf;rw [hf];simp only [hb]
 rw [hp]at H
 refine XL (b:=b) (B:=B) (keep:=keep) (n:=n) (k:=k) (d:=d) (id:=id) (l:=ops.toList) hG hm hf hb hn hsm (pre:=(jg x).take n0) (rest:=(jg x).drop (n0+1)) ?_ hx hop (by simpa using hB) H
 obtain⟨h1,h2⟩:=List.getElem?_eq_some_iff.1 akw
 rw [Array.toArray_toList,←h2,List.getElem_cons_drop,List.take_append_drop]
noncomputable def orM (M1 M2:aN):aN:=fun a b t=>match M1 a b t with
 | some r=>some r
 | none=>M2 a b t
theorem afq {M1 M2:aN}{a:List V}{b:List (List V)}{t:List (List (List D))}{r:Ay}(h:M1 a b t=some r):orM M1 M2 a b t=some r:=by unfold orM;rw [h]
theorem ado {M1 M2:aN}{a:List V}{b:List (List V)}{t:List (List (List D))}(h:M1 a b t=none):orM M1 M2 a b t=M2 a b t:=by unfold orM;rw [h]
theorem adp {f:FuncId}{M1 M2:aN}(h1:aF P f M1)(h2:aF P f M2):aF P f (orM M1 M2):=⟨h1.1,fun c args boxes trees r h=>by
 unfold orM at h
 split at h
 ·rename_i r' e;injection h with h;subst h;exact h1.2 c args boxes trees _ e
 ·exact h2.2 c args boxes trees r h⟩
end
theorem NZ:∀(A B:List (List D)) (us:List Value),gG (A++B) us=gG A us++gG B (us.drop A.flatten.length)
 | [],B,us=>by simp [gG]
 | r::A,B,us=>by
  show(us.take r.length).map D.a::gG (A++B) (us.drop r.length)=(us.take r.length).map D.a::(gG A (us.drop r.length)++_)
  rw [NZ A B,List.drop_drop,List.flatten_cons,List.length_append]
theorem Lv:∀(A:List (List D)) (us:List Value),gG A (us.take A.flatten.length)=gG A us
 | [],us=>rfl
 | r::A,us=>by
  show((us.take _).take r.length).map D.a::gG A ((us.take _).drop r.length)=(us.take r.length).map D.a::gG A (us.drop r.length)
  rw [List.flatten_cons,List.length_append,List.take_take,Nat.min_eq_left (by omega),List.drop_take,Nat.add_sub_cancel_left,Lv A]
theorem aak (A:List (List D))(us:List Value):dN (gG A us)=true:=by
 induction A generalizing us with
 | nil=>rfl
 | cons r A ih=>
  have:=ih (us.drop r.length)
  unfold dN at this⊢
  show(((us.take r.length).map D.a).all sF&&(gG A (us.drop r.length)).all fun r=>r.all sF)=true
  rw [this,Bool.and_true,List.all_eq_true]
  intro d hd
  obtain⟨x,_,rfl⟩:=List.mem_map.1 hd
  rfl
theorem ai9 {α:Type}{us:List α}{N:Nat}(h:us.length=N+2):∃Lx a b,us=Lx++ [a,b]∧Lx.length=N:=by
 have h1:=List.take_append_drop N us
 have h2:(us.drop N).length=2:=by rw [List.length_drop];omega
 have h3:(us.take N).length=N:=by rw [List.length_take];omega
 match hd:us.drop N,h2 with
 | [a,b],_=>exact⟨us.take N,a,b,by rw [←hd,h1],h3⟩
theorem aal {pre:List (List D)}{q:List (List D)}{x ut ua:Value}{Lx:List Value}(h1:Lx.length=pre.flatten.length):gG (pre++ [[D.l q,D.a x]]) (Lx++ [ut,ua])=gG pre Lx++ [[.a ut, .a ua]]:=by
 rw [NZ,←h1,List.drop_left,←Lv,←h1,List.take_left]
 rfl
theorem afr {pre:List (List D)}{q:List (List D)}{x ut ua:Value}{Lx:List Value}(h1:Lx.length=pre.flatten.length):qw (pre++ [[D.l q,D.a x]]).flatten (Lx++ [ut,ua])=qw pre.flatten Lx++ [qQ ut q,dP (.a x) ua]:=by
 rw [List.flatten_append,sH h1]
 rfl
theorem pair_cells {pre:List (List D)}{q:List (List D)}{x ut ua:Value}{Lx:List Value}(h1:Lx.length=pre.flatten.length)(hc:Ad (pre.flatten++ [D.l q,D.a x]) (Lx++ [ut,ua])):ut.oneCell'=true∧ua=x:=by
 refine⟨hc Lx.length (.l q) ut ?_ ?_,hc (Lx.length+1) (.a x) ua ?_ ?_⟩
 ·rw [List.getElem?_append_right (by omega),h1];simp
 ·rw [List.getElem?_append_right (by omega)];simp
 ·rw [List.getElem?_append_right (by omega),h1];simp
 ·rw [List.getElem?_append_right (by omega)];simp
theorem agN {pre:List (List D)}{q:List (List D)}{x ut ua:Value}{Lx:List Value}(h1:Lx.length=pre.flatten.length)(h2:∀r∈pre,r.length=2)(hx:ua=x):Hg (pre++ [[D.l q,D.a x]]) (Lx++ [ut,ua]) ⟨.fK [.agg [.own 0], .agg [.own 1, .v x], .v (.bool true)],[],[(0,pre),(1,q)]⟩
  ⟨.fK [.agg [.own 0], .agg [.v ut, .v ua], .v (.bool true)],[],[(0,gG pre Lx)]⟩:=by
 intro c hK' y w u m r
 have S0:=(aco m).Bg
 have S0:St c.W w (qQ (y.hd 0).v (gG pre Lx)::(qw (pre++ [[D.l q,D.a x]]).flatten (Lx++ [ut,ua])++c.L)):=S0
 rw [afr h1,List.append_assoc]at S0
 have S1:=St.Vn S0 (by rw [EW h1]) h1 (by rw [sV]) (fun i r r' e1 e2=>by
  rw [h2 r' (List.mem_of_getElem? e2)]
  exact Co h1 h2 r (List.mem_of_getElem? e1))
 obtain⟨k0,e0,S2⟩:=S1.tree
 have S3:St c.W w (qQ ut q::gD k0 pre::dP (.a x) ua::c.L):=S2.swap
 obtain⟨k1,e1,S4⟩:=S3.tree
 have S5:St c.W w (gD k0 pre::gD k1 q::dP (.a x) ua::c.L):=S4.swap
 have S6:St c.W w (gD k0 pre::gD k1 q::c.L):=by
  have:=S5.perm (L':=dP (.a x) ua::gD k0 pre::gD k1 q::c.L) (((List.Perm.swap _ _ _).cons _).trans (List.Perm.swap _ _ _))
  exact this.drop
 refine⟨{y with hd:=fun p=>if p=0 then k0 else if p=1 then k1 else y.hd p},⟨S6,fun b cs hb=>(by cases hb),fun p rows hp=>(by cases hp),List.nodup_nil,by simp [oG]⟩,?_⟩
 obtain⟨us,rfl,v1,l1,rfl,q1,v2,l2,rfl,q2,v3,l3,rfl,q3,q4⟩:=r
 obtain⟨akx,rfl,w1,m1,rfl,⟨-,hw1⟩,q5⟩:=q1
 obtain⟨aky,rfl,w2,m2,rfl,hw2,w3,m3,rfl,hw3,q6⟩:=q2
 refine⟨_,rfl,_,_,rfl,⟨_,rfl,_,_,rfl,⟨by simp [aX,oG],?_⟩,q5⟩,_,_,rfl,⟨_,rfl,_,_,rfl,⟨by simp [aX,oG],?_⟩,_,_,rfl,?_,q6⟩,_,_,rfl,q3,q4⟩
 ·show w1=k0.v
  rw [e0];exact hw1
 ·show w2=k1.v
  rw [e1];exact hw2
 ·show w3=x
  rw [←hx];exact hw3
theorem afs {q:List (List D)}{x ut ua:Value}(hx:ua=x):Hg [[D.l q,D.a x]] [ut,ua] ⟨.fK [.agg [.aP none []], .agg [.own 0, .v x], .v (.bool true)],[],[(0,q)]⟩
  ⟨.fK [.agg [.aP none []], .agg [.v ut, .v ua], .v (.bool true)],[],[]⟩:=by
 intro c hK' y w u m r
 have S0:St c.W w (qQ ut q::dP (.a x) ua::c.L):=m.st
 obtain⟨k1,e1,S4⟩:=S0.tree
 have S6:St c.W w (gD k1 q::c.L):=S4.swap.drop
 refine⟨{y with hd:=fun p=>if p=0 then k1 else y.hd p},⟨S6,fun b cs hb=>(by cases hb),fun p rows hp=>(by cases hp),List.nodup_nil,by simp [oG]⟩,?_⟩
 obtain⟨us,rfl,v1,l1,rfl,q1,v2,l2,rfl,q2,v3,l3,rfl,q3,q4⟩:=r
 obtain⟨akx,rfl,w1,m1,rfl,hw1,q5⟩:=q1
 obtain⟨aky,rfl,w2,m2,rfl,hw2,w3,m3,rfl,hw3,q6⟩:=q2
 refine⟨_,rfl,_,_,rfl,⟨_,rfl,_,_,rfl,hw1,q5⟩,_,_,rfl,⟨_,rfl,_,_,rfl,⟨by simp [aX,oG],?_⟩,_,_,rfl,?_,q6⟩,_,_,rfl,q3,q4⟩
 ·show w2=k1.v
  rw [e1];exact hw2
 ·show w3=x
  rw [←hx];exact hw3
theorem XM:prog.follows .mixedOrders=true:=by kernel_rfl
theorem fE {G:List (FuncId×Bool×aN)}{gh:mg}{f:FuncId}{fn:Func}(hG:∀f M,look f G=some M→aF Tryz.prog f M.2)(hf:Tryz.prog.funcs[f]?=some fn)(h:afg gh fn=true:=by exact aW (by kernel_rfl)):aF Tryz.prog f (aG Tryz.prog G gh f):=sound gh hG XM hf h
noncomputable def DV:aN:=Xc prog [] ⟨[(3,[4,3,0],[])],[],[],[]⟩ 29
theorem adq:aF prog 29 DV:=ahW _ ay XM func29 (aW (by kernel_rfl))
noncomputable def Bn:aN:=aG prog [] ⟨[],[],[(2,[],[]),(3,[],[]),(4,[],[])],[]⟩ 144
theorem aam:aF prog 144 Bn:=fE ay func144
noncomputable def jv:aN:=aG prog [(144,false,Bn)] ⟨[],[],[],[]⟩ 77
theorem mM:aF prog 77 jv:=fE (ah aam ay) func77
noncomputable def Ht:aN:=aG prog [] ⟨[],[],[],[]⟩ 76
theorem aft:aF prog 76 Ht:=fE ay func76
noncomputable def sW:aN:=aG prog [(77,false,jv)] ⟨[],[],[],[]⟩ 81
theorem Km:aF prog 81 sW:=fE (ah mM ay) func81
noncomputable def sZ:aN:=aG prog [(77,false,jv),(81,false,sW)] ⟨[(3,[6,5,0],[1000000000])],[],[],[]⟩ 83
theorem N7:aF prog 83 sZ:=fE (ah mM (ah Km ay)) func83
noncomputable def vY:aN:=aG prog [(83,false,sZ),(77,false,jv)] ⟨[(3,[13,12,5,0],[1000000000])],[],[],[]⟩ 145
theorem N8:aF prog 145 vY:=fE (ah N7 (ah mM ay)) func145
noncomputable def Bo:aN:=aG prog [(145,false,vY),(77,false,jv)] ⟨[],[],[],[]⟩ 78
theorem aan:aF prog 78 Bo:=fE (ah N8 (ah mM ay)) func78
noncomputable def DW:aN:=aG prog [] ⟨[],[],[],[]⟩ 148
theorem Ua:aF prog 148 DW:=fE ay func148
noncomputable def oP:aN:=aG prog [(148,false,DW)] ⟨[],[],[],[]⟩ 87
theorem Af:aF prog 87 oP:=fE (ah Ua ay) func87
noncomputable def Cr:aN:=aG prog [(87,false,oP)] ⟨[],[],[],[]⟩ 271
theorem XO:aF prog 271 Cr:=fE (ah Af ay) func271
noncomputable def tq:aN:=aG prog [(271,false,Cr)] ⟨[(2,[7,6,5],[])],[],[],[]⟩ 213
theorem Hu:aF prog 213 tq:=fE (ah XO ay) func213
noncomputable def zh:aN:=aG prog [(213,false,tq)] ⟨[],[],[],[]⟩ 215
theorem N9:aF prog 215 zh:=fE (ah Hu ay) func215
noncomputable def vZ:aN:=aG prog [(215,false,zh)] ⟨[(2,[8,7,6,1],[1])],[],[],[]⟩ 136
theorem Je:aF prog 136 vZ:=fE (ah N9 ay) func136
noncomputable def yt:aN:=aG prog [] ⟨[(3,[10,9,8,3,2],[3,2])],[],[(5,[],[(7,[0,1]),(8,[]),(10,[])])],[]⟩ 139
theorem Kn:aF prog 139 yt:=fE ay func139
noncomputable def nC:aN:=aG prog [] ⟨[],[],[],[]⟩ 113
theorem vw:aF prog 113 nC:=fE ay func113
noncomputable def pK:aN:=aG prog [(136,false,vZ),(215,false,zh),(139,false,yt),(113,false,nC)] ⟨[],[],[(12,[0,1,2,3,5,6,4,7,8],[(4,[5,6]),(7,[])])],[]⟩ 146
theorem Ko:aF prog 146 pK:=fE (ah Je (ah N9 (ah Kn (ah vw ay)))) func146
noncomputable def yu:aN:=aG prog [(77,false,jv),(145,false,vY),(146,false,pK)] ⟨[(3,[4,3,2,0],[1000000000,3,2])],[],[(5,[0,1,3,2,4,5,6,7,8,9],[(2,[0,3]),(4,[0]),(9,[8])])],[]⟩ 79
theorem aao:aF prog 79 yu:=fE (ah mM (ah N8 (ah Ko ay))) func79
noncomputable def nW:aN:=aG prog [(213,false,tq)] ⟨[],[],[],[]⟩ 134
theorem uF:aF prog 134 nW:=fE (ah Hu ay) func134
noncomputable def uG:aN:=aG prog [(134,false,nW)] ⟨[(2,[8,7,6,1],[1])],[],[],[]⟩ 137
theorem Jf:aF prog 137 uG:=fE (ah uF ay) func137
noncomputable def lN:aN:=aG prog [] ⟨[],[],[(1,[],[(7,[])])],[]⟩ 115
theorem pO:aF prog 115 lN:=fE ay func115
noncomputable def nQ:aN:=aG prog [(115,false,lN)] ⟨[(3,[10,9,8,3,2],[3,2])],[],[(5,[],[(4,[0,1]),(5,[]),(7,[])])],[]⟩ 140
theorem Ct:aF prog 140 nQ:=fE (ah pO ay) func140
noncomputable def yw:aN:=aG prog [] ⟨[(4,[13,12,1,0],[])],[],[(6,[],[])],[]⟩ 147
theorem Kq:aF prog 147 yw:=fE ay func147
noncomputable def rz:aN:=aG prog [(137,false,uG),(134,false,nW),(140,false,nQ),(147,false,yw),(115,false,lN)] ⟨[],[],[(5,[],[]),(7,[],[(4,[0,1]),(5,[]),(7,[])])],[]⟩ 80
theorem Qt:aF prog 80 rz:=fE (ah Jf (ah uF (ah Ct (ah Kq (ah pO ay))))) func80
noncomputable def nD:aN:=aG prog [] ⟨[],[],[],[]⟩ 82
theorem Bp:aF prog 82 nD:=fE ay func82
noncomputable def aap:List (FuncId×Bool×aN):= [(77,false,jv),(76,false,Ht),(78,false,Bo),(79,false,yu),(80,false,rz),(81,false,sW),(82,false,nD),(83,false,sZ)]
def XP:mg:=⟨[],[],[(5,[],[(3,[0,1]),(9,[7])])],[(6,[3,2,0],[1000000000,3,2]),(9,[3,2,0],[1000000000,3,2]),(12,[3,2,0],[1000000000,3,2]),(15,[3,2,0],[1000000000,3,2]),(18,[3,2,0],[1000000000,3,2]),(22,[3,2,0],[1000000000,3,2]),(29,[3,2,0],[1000000000,3,2])]⟩
noncomputable def Kr:aN:=aG prog aap XP 30
theorem aaq:aF prog 30 Kr:=fE (ah mM (ah aft (ah aan (ah aao (ah Qt (ah Km (ah Bp (ah N7 ay)))))))) func30
noncomputable def Bq:aN:=aG prog [(77,false,jv)] ⟨[],[],[],[]⟩ 85
theorem aar:aF prog 85 Bq:=fE (ah mM ay) func85
noncomputable def qE:aN:=aG prog [] ⟨[(2,[8,7,6,1],[1])],[],[],[]⟩ 70
theorem wh:aF prog 70 qE:=fE ay func70
noncomputable def Br:aN:=aG prog [(70,false,qE)] ⟨[],[],[(1,[0,1,2,3,4,5,6,7,10,8,9,11],[(8,[0,1,10]),(11,[])])],[]⟩ 84
theorem aas:aF prog 84 Br:=fE (ah wh ay) func84
noncomputable def Bt:aN:=aG prog [(77,false,jv),(85,false,Bq),(84,false,Br)] ⟨[(5,[4,3,2,0],[1000000000,3,2])],[],[(7,[],[(2,[0]),(7,[6])])],[]⟩ 31
theorem aat:aF prog 31 Bt:=fE (ah mM (ah aar (ah aas ay))) func31
noncomputable def AJ:aN:=aG prog [(77,false,jv),(81,false,sW)] ⟨[],[],[],[]⟩ 86
theorem Ub:aF prog 86 AJ:=fE (ah mM (ah Km ay)) func86
noncomputable def DX:aN:=aG prog [(77,false,jv),(86,false,AJ)] ⟨[],[],[],[]⟩ 32
theorem adr:aF prog 32 DX:=fE (ah mM (ah Ub ay)) func32
noncomputable def DY:aN:=aG prog [(77,false,jv),(86,false,AJ)] ⟨[],[],[],[]⟩ 33
theorem ads:aF prog 33 DY:=fE (ah mM (ah Ub ay)) func33
noncomputable def wW:aN:=aG prog [(87,false,oP)] ⟨[],[],[],[]⟩ 34
theorem Hw:aF prog 34 wW:=fE (ah Af ay) func34
noncomputable def wX:aN:=aG prog [(29,false,DV),(30,false,Kr),(31,false,Bt),(32,false,DX),(33,false,DY),(34,false,wW)] ⟨[],[],[(9,[],[(3,[1,2]),(4,[2]),(5,[])])],[]⟩ 6
theorem Vv:aF prog 6 wX:=fE (ah adq (ah aaq (ah aat (ah adr (ah ads (ah Hw ay)))))) func6
noncomputable def wY:aN:=aG prog [] ⟨[],[],[],[]⟩ 42
theorem Bu:aF prog 42 wY:=fE ay func42
noncomputable def DZ:aN:=aG prog [(42,false,wY)] ⟨[],[],[],[]⟩ 122
theorem Uc:aF prog 122 DZ:=fE (ah Bu ay) func122
noncomputable def oQ:aN:=aG prog [(122,false,DZ),(42,false,wY)] ⟨[],[],[],[]⟩ 44
theorem wZ:aF prog 44 oQ:=fE (ah Uc (ah Bu ay)) func44
noncomputable def yT:aN:=aG prog [(44,false,oQ)] ⟨[],[],[],[]⟩ 209
theorem Sb:aF prog 209 yT:=fE (ah wZ ay) func209
noncomputable def nX:aN:=aG prog [(209,false,yT)] ⟨[(2,[7,6,5],[])],[],[],[]⟩ 119
theorem yx:aF prog 119 nX:=fE (ah Sb ay) func119
noncomputable def rZ:aN:=aG prog [(119,false,nX),(42,false,wY)] ⟨[],[],[],[]⟩ 41
theorem yA:aF prog 41 rZ:=fE (ah yx (ah Bu ay)) func41
noncomputable def Bv:aN:=aG prog [] ⟨[],[],[],[]⟩ 120
theorem Qu:aF prog 120 Bv:=fE ay func120
noncomputable def vB:aN:=aG prog [] ⟨[(2,[5,1,0],[])],[],[],[]⟩ 121
theorem Qv:aF prog 121 vB:=fE ay func121
noncomputable def Jg:aN:=aG prog [(120,false,Bv),(121,false,vB)] ⟨[],[],[],[]⟩ 43
theorem adt:aF prog 43 Jg:=fE (ah Qu (ah Qv ay)) func43
noncomputable def yB:aN:=aG prog [(119,false,nX)] ⟨[(2,[8,7,6,1],[1])],[],[],[]⟩ 45
theorem Jh:aF prog 45 yB:=fE (ah yx ay) func45
noncomputable def AL:aN:=aG prog [(41,false,rZ)] ⟨[(2,[8,7,6,1],[1])],[],[],[]⟩ 46
theorem MZ:aF prog 46 AL:=fE (ah yA ay) func46
noncomputable def Ag:aN:=aG prog [] ⟨[],[],[],[]⟩ 47
theorem Vw:aF prog 47 Ag:=fE ay func47
noncomputable def Cu:aN:=aG prog [(41,false,rZ),(42,false,wY),(43,false,Jg),(44,false,oQ),(45,false,yB),(46,false,AL),(47,false,Ag)] ⟨[(10,[109,108,107,1],[1])],[],[],[]⟩ 9
theorem O4:aF prog 9 Cu:=fE (ah yA (ah Bu (ah adt (ah wZ (ah Jh (ah MZ (ah Vw ay))))))) func9
noncomputable def yC:aN:=aG prog [(42,false,wY)] ⟨[(4,[18,17,16],[])],[],[],[]⟩ 72
theorem Ji:aF prog 72 yC:=fE (ah Bu ay) func72
noncomputable def tu:aN:=aG prog [(42,false,wY)] ⟨[],[],[],[]⟩ 141
theorem Bw:aF prog 141 tu:=fE (ah Bu ay) func141
noncomputable def Hy:aN:=aG prog [(44,false,oQ),(141,false,tu),(42,false,wY)] ⟨[],[],[],[]⟩ 73
theorem afu:aF prog 73 Hy:=fE (ah wZ (ah Bw (ah Bu ay))) func73
noncomputable def yD:aN:=aG prog [(9,false,Cu),(72,false,yC),(73,false,Hy)] ⟨[],[],[],[]⟩ 88
theorem M4:aF prog 88 yD:=fE (ah O4 (ah Ji (ah afu ay))) func88
noncomputable def D5:aN:=aG prog [] ⟨[(3,[6,5,1,0],[])],[],[],[]⟩ 150
theorem XQ:aF prog 150 D5:=fE ay func150
noncomputable def kg:aN:=aG prog [] ⟨[],[],[],[]⟩ 98
theorem nR:aF prog 98 kg:=fE ay func98
noncomputable def oq:aN:=aG prog [(41,false,rZ),(98,false,kg)] ⟨[],[],[(3,[0,1,2,3,4,5,6,8,9,10,11,12,14,15,16,17,18,20,7,13,19,21],[(7,[8,9,10,11,12,14,15,16,17,18,20]),(13,[14,15,16,17,18,20]),(21,[])])],[]⟩ 216
theorem Kt:aF prog 216 oq:=fE (ah yA (ah nR ay)) func216
noncomputable def kZ:aN:=aG prog [(98,false,kg)] ⟨[],[],[(1,[],[(6,[])])],[]⟩ 100
theorem oU:aF prog 100 kZ:=fE (ah nR ay) func100
noncomputable def wm:aN:=aG prog [(98,false,kg)] ⟨[(3,[9,8,7,3,2],[3,2])],[],[(5,[],[(6,[0,1]),(7,[]),(9,[])])],[]⟩ 142
theorem Hz:aF prog 142 wm:=fE (ah nR ay) func142
noncomputable def wo:aN:=aG prog [(100,false,kZ)] ⟨[(3,[9,8,7,3,2],[3,2])],[],[(5,[],[(4,[0,1]),(5,[]),(7,[])])],[]⟩ 143
theorem HV:aF prog 143 wo:=fE (ah oU ay) func143
noncomputable def jG:aN:=aG prog [(100,false,kZ),(142,false,wm),(143,false,wo),(98,false,kg)] ⟨[],[],[(1,[],[(10,[]),(12,[]),(14,[])]),(2,[],[(7,[]),(9,[])])],[]⟩ 74
theorem lQ:aF prog 74 jG:=fE (ah oU (ah Hz (ah HV (ah nR ay)))) func74
noncomputable def rA:aN:=aG prog [(74,false,jG)] ⟨[],[],[],[]⟩ 171
theorem yE:aF prog 171 rA:=fE (ah lQ ay) func171
noncomputable def kE:aN:=aG prog [(171,false,rA)] ⟨[],[],[],[]⟩ 96
theorem mX:aF prog 96 kE:=fE (ah yE ay) func96
noncomputable def wu:aN:=aG prog [] ⟨[(4,[13,12,1,0],[])],[],[(6,[],[])],[]⟩ 220
theorem HY:aF prog 220 wu:=fE ay func220
noncomputable def Bz:aN:=aG prog [(46,false,AL),(41,false,rZ),(143,false,wo),(220,false,wu),(100,false,kZ)] ⟨[],[],[(5,[],[]),(7,[],[(4,[0,1]),(5,[]),(7,[])])],[]⟩ 226
theorem aau:aF prog 226 Bz:=fE (ah MZ (ah yA (ah HV (ah HY (ah oU ay))))) func226
noncomputable def kM:aN:=aG prog [(120,false,Bv)] ⟨[],[],[],[]⟩ 176
theorem Ah:aF prog 176 kM:=fE (ah Qu ay) func176
noncomputable def zP:aN:=aG prog [(171,false,rA),(220,false,wu),(226,false,Bz),(100,false,kZ),(176,false,kM)] ⟨[],[],[(4,[],[(6,[])])],[]⟩ 165
theorem M5:aF prog 165 zP:=fE (ah yE (ah HY (ah aau (ah oU (ah Ah ay))))) func165
noncomputable def wz:aN:=aG prog [(216,false,oq),(96,false,kE),(165,false,zP)] ⟨[],[],[],[]⟩ 149
theorem Ud:aF prog 149 wz:=fE (ah Kt (ah mX (ah M5 ay))) func149
noncomputable def yF:aN:=aG prog [(41,false,rZ)] ⟨[],[],[],[]⟩ 222
theorem Ue:aF prog 222 yF:=fE (ah yA ay) func222
noncomputable def tC:aN:=aG prog [(222,false,yF),(98,false,kg)] ⟨[],[],[(3,[0,1,2,3,4,5,6,7,8,10,11,13,9,12,14],[(9,[10,11,13]),(14,[])]),(8,[],[(7,[])])],[]⟩ 164
theorem E5:aF prog 164 tC:=fE (ah Ue (ah nR ay)) func164
noncomputable def vC:aN:=aG prog [(165,false,zP)] ⟨[],[],[],[]⟩ 153
theorem E8:aF prog 153 vC:=fE (ah M5 ay) func153
noncomputable def E9:aN:=aG prog [(164,false,tC),(96,false,kE),(153,false,vC)] ⟨[],[],[],[]⟩ 152
theorem afv:aF prog 152 E9:=fE (ah E5 (ah mX (ah E8 ay))) func152
noncomputable def yG:aN:=aG prog [(45,false,yB),(42,false,wY),(119,false,nX),(142,false,wm),(98,false,kg)] ⟨[],[],[(7,[0,1,2,4,5,3,6,7,8],[(3,[4,5]),(6,[]),(8,[])]),(10,[],[(8,[0,1]),(11,[])]),(4,[],[(9,[0,1]),(12,[])])],[]⟩ 166
theorem Qw:aF prog 166 yG:=fE (ah Jh (ah Bu (ah yx (ah Hz (ah nR ay))))) func166
noncomputable def qA:aN:=aG prog [(164,false,tC),(96,false,kE),(165,false,zP),(166,false,yG)] ⟨[],[],[],[]⟩ 94
theorem O5:aF prog 94 qA:=fE (ah E5 (ah mX (ah M5 (ah Qw ay)))) func94
noncomputable def oI:aN:=aG prog [] ⟨[],[],[],[]⟩ 162
theorem uH:aF prog 162 oI:=fE ay func162
noncomputable def vD:aN:=aG prog [(42,false,wY)] ⟨[],[],[],[]⟩ 223
theorem Fa:aF prog 223 vD:=fE (ah Bu ay) func223
noncomputable def BA:aN:=aG prog [(42,false,wY)] ⟨[],[],[],[]⟩ 159
theorem Qx:aF prog 159 BA:=fE (ah Bu ay) func159
noncomputable def pQ:aN:=aG prog [(141,false,tu),(223,false,vD),(159,false,BA),(44,false,oQ)] ⟨[],[],[],[]⟩ 163
theorem Fb:aF prog 163 pQ:=fE (ah Bw (ah Fa (ah Qx (ah wZ ay)))) func163
noncomputable def vF:aN:=aG prog [(163,false,pQ)] ⟨[],[],[],[]⟩ 273
theorem Fe:aF prog 273 vF:=fE (ah Fb ay) func273
noncomputable def nS:aN:=aG prog [(162,false,oI),(273,false,vF)] ⟨[(7,[7,2,1,0],[]),(2,[2,1,0],[])],[],[],[]⟩ 217
theorem JM:aF prog 217 nS:=fE (ah uH (ah Fe ay)) func217
noncomputable def iD:aN:=aG prog [(74,false,jG),(152,false,E9),(94,false,qA),(217,false,nS)] ⟨[],[],[(1,[],[]),(16,[],[(11,[10])])],[]⟩ 151
theorem Vx:aF prog 151 iD:=fE (ah lQ (ah afv (ah O5 (ah JM ay)))) func151
noncomputable def rC:aN:=aG prog [(98,false,kg)] ⟨[],[],[(1,[],[(10,[])])],[]⟩ 154
theorem yU:aF prog 154 rC:=fE (ah nR ay) func154
noncomputable def zi:aN:=aG prog [(72,false,yC)] ⟨[],[],[],[]⟩ 172
theorem Oa:aF prog 172 zi:=fE (ah Ji ay) func172
noncomputable def tF:aN:=aG prog [(72,false,yC),(42,false,wY)] ⟨[],[],[],[]⟩ 231
theorem Qy:aF prog 231 tF:=fE (ah Ji (ah Bu ay)) func231
noncomputable def w9:aN:=aG prog [(122,false,DZ)] ⟨[],[],[],[]⟩ 230
theorem LA:aF prog 230 w9:=fE (ah Uc ay) func230
noncomputable def Cv:aN:=aG prog [(42,false,wY),(230,false,w9)] ⟨[(17,[57,56,55,8,7,1,0],[])],[],[(21,[],[])],[]⟩ 276
theorem XR:aF prog 276 Cv:=fE (ah Bu (ah LA ay)) func276
noncomputable def yH:aN:=aG prog [(276,false,Cv)] ⟨[(6,[6,5,4],[])],[],[],[]⟩ 234
theorem Qz:aF prog 234 yH:=fE (ah XR ay) func234
noncomputable def wB:aN:=aG prog [(234,false,yH),(41,false,rZ)] ⟨[],[],[],[]⟩ 232
theorem Uf:aF prog 232 wB:=fE (ah Qz (ah yA ay)) func232
noncomputable def dO:aN:=aG prog [(9,false,Cu),(171,false,rA),(172,false,zi),(100,false,kZ),(176,false,kM),(231,false,tF),(232,false,wB)] ⟨[],[],[(10,[],[(7,[])])],[]⟩ 218
theorem adu:aF prog 218 dO:=fE (ah O4 (ah yE (ah Oa (ah oU (ah Ah (ah Qy (ah Uf ay))))))) func218
noncomputable def Ai:aN:=aG prog [(218,false,dO),(96,false,kE)] ⟨[],[],[],[]⟩ 155
theorem Vy:aF prog 155 Ai:=fE (ah adu (ah mX ay)) func155
noncomputable def eP:aN:=aG prog [(150,false,D5),(149,false,wz),(74,false,jG),(151,false,iD),(152,false,E9),(154,false,rC),(153,false,vC),(155,false,Ai)] ⟨[],[],[(1,[],[]),(7,[],[(10,[9])]),(9,[],[(8,[7])]),(19,[],[(11,[10])]),(21,[],[(11,[10])]),(23,[],[(8,[7])]),(25,[],[(9,[8])])],[]⟩ 89
theorem QA:aF prog 89 eP:=fE (ah XQ (ah Ud (ah lQ (ah Vx (ah afv (ah yU (ah E8 (ah Vy ay)))))))) func89
noncomputable def zk:aN:=aG prog [(162,false,oI),(163,false,pQ)] ⟨[(4,[1,0],[]),(2,[1,0],[])],[],[],[]⟩ 93
theorem Ob:aF prog 93 zk:=fE (ah uH (ah Fb ay)) func93
noncomputable def lS:aN:=aG prog [(93,false,zk)] ⟨[],[],[],[]⟩ 156
theorem vG:aF prog 156 lS:=fE (ah Ob ay) func156
noncomputable def AO:aN:=aG prog [(162,false,oI),(163,false,pQ)] ⟨[(4,[1,0],[]),(2,[1,0],[])],[],[],[]⟩ 158
theorem Ug:aF prog 158 AO:=fE (ah uH (ah Fb ay)) func158
noncomputable def lT:aN:=aG prog [(158,false,AO)] ⟨[],[],[],[]⟩ 157
theorem vH:aF prog 157 lT:=fE (ah Ug ay) func157
noncomputable def mY:aN:=aG prog [(93,false,zk)] ⟨[],[],[],[]⟩ 92
theorem xg:aF prog 92 mY:=fE (ah Ob ay) func92
noncomputable def D6:aN:=aG prog [(273,false,vF)] ⟨[(2,[7,2,1,0],[])],[],[],[]⟩ 277
theorem Uh:aF prog 277 D6:=fE (ah Fe ay) func277
noncomputable def wC:aN:=aG prog [(162,false,oI),(273,false,vF),(277,false,D6)] ⟨[(4,[2,1,0],[])],[],[],[]⟩ 238
theorem XT:aF prog 238 wC:=fE (ah uH (ah Fe (ah Uh ay))) func238
noncomputable def mZ:aN:=aG prog [(238,false,wC)] ⟨[],[],[],[]⟩ 237
theorem xk:aF prog 237 mZ:=fE (ah XT ay) func237
noncomputable def ng:aN:=aG prog [(217,false,nS)] ⟨[],[],[],[]⟩ 239
theorem xq:aF prog 239 ng:=fE (ah JM ay) func239
noncomputable def xu:aN:=aG prog [(162,false,oI),(273,false,vF),(277,false,D6)] ⟨[(5,[7,2,1,0],[])],[],[],[]⟩ 241
theorem Vz:aF prog 241 xu:=fE (ah uH (ah Fe (ah Uh ay))) func241
noncomputable def ni:aN:=aG prog [(241,false,xu)] ⟨[],[],[],[]⟩ 240
theorem xw:aF prog 240 ni:=fE (ah Vz ay) func240
noncomputable def fU:aN:=TV (aG prog [(92,false,mY),(156,false,lS),(157,false,lT),(237,false,mZ),(239,false,ng),(240,false,ni)] ⟨[(2,[8,7,2,0],[1000000000])],[],[],[]⟩ 91) (aG prog [(92,false,mY),(156,false,lS),(157,false,lT),(237,false,mZ),(239,false,ng),(240,false,ni)] ⟨[(2,[8,7,2,0],[1000000001,1000000000])],[],[],[]⟩ 91)
theorem HZ:aF prog 91 fU:=XF (sound _ (ah xg (ah vG (ah vH (ah xk (ah xq (ah xw ay)))))) XM func91 (aW (by kernel_rfl))) (sound _ (ah xg (ah vG (ah vH (ah xk (ah xq (ah xw ay)))))) XM func91 (aW (by kernel_rfl)))
noncomputable def pR:aN:=aG prog [(45,false,yB),(98,false,kg)] ⟨[],[],[],[]⟩ 219
theorem Ku:aF prog 219 pR:=fE (ah Jh (ah nR ay)) func219
open Classical in
noncomputable def zm:aN:=fun args boxes trees=>match args,boxes,trees with
 | [.agg [.aP (some 0) rows]],[],[]=>if yB [.agg [.aP (some 0) rows]] [] []=some ⟨.v (.bool true),[],[]⟩∧wm [.agg [.aP (some 0) rows]] [] []=some ⟨.agg [.own 0],[],[(0,rows)]⟩∧(∀r∈rows,∃q,r= [D.l q])∧rows.length≤1000 then some ⟨.agg [.own 0],[],[(0,rows.drop 1++rows.take 1)]⟩else none
 | _,_,_=>none
set_option maxHeartbeats 8000000 in
set_option maxRecDepth 100000 in
theorem XU:aF prog 221 zm:=
 Ql (gh:=⟨[],[(5,[3])],[(5,[],[(9,[]),(11,[])])],[]⟩) (ah (f:=45) (m:=false) Jh (ah (f:=142) (m:=false) Hz ay)) XM func221 rfl rfl (by decide) (aW (by kernel_rfl)) 4 (fun args boxes trees r h=>by
  unfold zm at h
  split at h
  ·rename_i rows
   split at h
   ·rename_i hc
    obtain⟨e1,e2,hw,hlen⟩:=hc
    injection h with h;subst h
    refine⟨by simp,rfl,rfl,rfl,10000,?_⟩
    have hw1:=acr hw
    unfold Vp yh
    simp [partsOf,func221,f221,jg,e1,e2,bO,jS,ny]
    refine⟨rows,rfl,fun us Xl huc=>?_⟩
    rw [Lu hw1]at Xl
    have ha:=Hl hw1 Xl
    have hone:=Kk hw Xl huc
    have fin:Hg rows us ⟨.agg [.own 0],[],[(0,rows.tail++rows.take 1)]⟩ ⟨.agg [.own 0],[],[(0,(us.tail++us.take 1).map fun u=> [D.a u])]⟩:=by
     rw [←List.drop_one,←List.drop_one]
     exact fun c hK' y w u m r=>TY hw1 Xl m r
    have hul:us.length≤1000:=by omega
    simp only [upd,if_true,ha]
    cases us with
    | nil=>
     simp [f221,jg]
     exact fin
    | cons u us=>
     have hu1:u.oneCell'=true:=hone u (by simp)
     have hu2:=Qm fun v hv=>hone v (List.mem_cons_of_mem _ hv)
     have q1:(1:Int)≤(us.length:Int)+1:=by omega
     have q2:(0:Int)<(us.length:Int)+1:=by omega
     have q3:us.length≤1000:=by simp at hul;omega
     have g1:us.length*24≤140737488355328:=by omega
     have g2:us.length≤4611686018427387904:=by omega
     have g3:(us.length+1)*24≤140737488355328:=by omega
     have g4:us.length+1≤4611686018427387904:=by omega
     have g5:us.length≤4611686018427387903:=by omega
     simp [f221,jg,hu1,hu2,q1,q2,g1,g2,g3,g4,g5,acs,T9]
     simp at fin
     exact fin
   ·cases h
  ·cases h)
noncomputable def jy:aN:=aG prog [(219,false,pR),(220,false,wu),(96,false,kE),(164,false,tC),(221,false,zm),(216,false,oq),(74,false,jG),(165,false,zP)] ⟨[],[],[(7,[],[(8,[6])])],[]⟩ 160
theorem XV:aF prog 160 jy:=fE (ah Ku (ah HY (ah mX (ah E5 (ah XU (ah Kt (ah lQ (ah M5 ay)))))))) func160
noncomputable def H6:aN:=aG prog [(141,false,tu)] ⟨[],[],[],[]⟩ 224
theorem XW:aF prog 224 H6:=fE (ah Bw ay) func224
noncomputable def H7:aN:=aG prog [(223,false,vD)] ⟨[],[],[],[]⟩ 225
theorem XY:aF prog 225 H7:=fE (ah Fa ay) func225
noncomputable def zn:aN:=aG prog [(222,false,yF),(42,false,wY),(154,false,rC),(141,false,tu),(223,false,vD),(224,false,H6),(225,false,H7)] ⟨[(6,[12,11,10,8,3,2],[10,8])],[],[(11,[],[(6,[])]),(12,[],[(6,[])])],[]⟩ 161
theorem XZ:aF prog 161 zn:=fE (ah Ue (ah Bu (ah yU (ah Bw (ah Fa (ah XW (ah XY ay))))))) func161
noncomputable def fF:aN:=aG prog [(156,false,lS),(157,false,lT),(159,false,BA),(74,false,jG),(91,false,fU),(154,false,rC),(153,false,vC),(94,false,qA),(160,false,jy),(158,false,AO),(161,false,zn),(96,false,kE)] ⟨[],[],[(1,[],[(10,[3,4,5,6,7,8])]),(9,[],[(6,[0,1,2]),(11,[])]),(11,[],[(6,[0,1,2]),(11,[])]),(13,[],[(5,[0,1]),(9,[])]),(19,[],[(12,[10])]),(16,[0],[])],[]⟩ 90
theorem VA:aF prog 90 fF:=fE (ah vG (ah vH (ah Qx (ah lQ (ah HZ (ah yU (ah E8 (ah O5 (ah XV (ah Ug (ah XZ (ah mX ay)))))))))))) func90
noncomputable def Fg:aN:=aG prog [(219,false,pR),(96,false,kE),(149,false,wz)] ⟨[],[],[],[]⟩ 167
theorem agO:aF prog 167 Fg:=fE (ah Ku (ah mX (ah Ud ay))) func167
noncomputable def oW:aN:=aG prog [(41,false,rZ),(154,false,rC)] ⟨[],[],[(6,[],[(19,[4,5,6]),(21,[])])],[]⟩ 168
theorem X0:aF prog 168 oW:=fE (ah yA (ah yU ay)) func168
noncomputable def tH:aN:=aG prog [(46,false,AL),(143,false,wo),(100,false,kZ)] ⟨[],[],[(5,[],[(8,[]),(9,[])])],[]⟩ 227
theorem X3:aF prog 227 tH:=fE (ah MZ (ah HV (ah oU ay))) func227
noncomputable def yV:aN:=aG prog [(227,false,tH),(96,false,kE),(171,false,rA),(176,false,kM)] ⟨[],[],[(5,[],[(6,[4]),(8,[])])],[]⟩ 169
theorem acu:aF prog 169 yV:=fE (ah X3 (ah mX (ah yE (ah Ah ay)))) func169
noncomputable def Fh:aN:=aG prog [(171,false,rA),(100,false,kZ)] ⟨[],[],[],[]⟩ 170
theorem VB:aF prog 170 Fh:=fE (ah yE (ah oU ay)) func170
noncomputable def bR:aN:=aG prog [(89,false,eP),(94,false,qA),(167,false,Fg),(168,false,oW),(96,false,kE),(153,false,vC),(169,false,yV),(170,false,Fh)] ⟨[],[],[(1,[0],[])],[]⟩ 95
theorem VD:aF prog 95 bR:=fE (ah QA (ah O5 (ah agO (ah X0 (ah mX (ah E8 (ah acu (ah VB ay)))))))) func95
noncomputable def kr:aN:=aG prog [(88,false,yD),(89,false,eP),(90,false,fF),(92,false,mY),(91,false,fU),(94,false,qA),(95,false,bR),(96,false,kE)] ⟨[],[],[],[]⟩ 35
theorem X4:aF prog 35 kr:=fE (ah M4 (ah QA (ah VA (ah xg (ah HZ (ah O5 (ah VD (ah mX ay)))))))) func35
noncomputable def D7:aN:=aG prog [(230,false,w9)] ⟨[(3,[8,7,6,3],[])],[],[],[]⟩ 174
theorem Ui:aF prog 174 D7:=fE (ah LA ay) func174
noncomputable def zo:aN:=aG prog [(72,false,yC),(42,false,wY),(229,false,lM)] ⟨[(8,[12,11,5,4,3,1],[5])],[],[],[]⟩ 173
theorem X5:aF prog 173 zo:=fE (ah Ji (ah Bu (ah Kj ay))) func173
noncomputable def vJ:aN:=aG prog [(9,false,Cu),(44,false,oQ),(231,false,tF),(232,false,wB),(174,false,D7),(233,false,rW),(234,false,yH),(74,false,jG),(100,false,kZ),(98,false,kg)] ⟨[(4,[36,35,34,8,5,4,3,2],[8,5,4])],[],[(19,[],[(7,[3,4,5]),(9,[3,4,5]),(11,[4,5]),(13,[5]),(15,[])])],[]⟩ 175
theorem aav:aF prog 175 vJ:=fE (ah O4 (ah wZ (ah Qy (ah Uf (ah Ui (ah OE (ah Qz (ah lQ (ah oU (ah nR ay)))))))))) func175
noncomputable def LB:aN:=aG prog [(172,false,zi),(174,false,D7),(173,false,zo),(175,false,vJ),(74,false,jG)] ⟨[],[],[(3,[],[])],[]⟩ 97
theorem agP:aF prog 97 LB:=fE (ah Oa (ah Ui (ah X5 (ah aav (ah lQ ay))))) func97
noncomputable def Fj:aN:=aG prog [(74,false,jG),(176,false,kM)] ⟨[],[],[],[]⟩ 99
theorem agQ:aF prog 99 Fj:=fE (ah lQ (ah Ah ay)) func99
noncomputable def dn:aN:=aG prog [(88,false,yD),(98,false,kg),(97,false,LB),(74,false,jG),(99,false,Fj),(100,false,kZ)] ⟨[],[],[(5,[0,1,2,3,4,5,6,7,9,10,8,11,12,13,14,15],[(8,[0,1,9,10]),(14,[])])],[]⟩ 36
theorem VE:aF prog 36 dn:=fE (ah M4 (ah nR (ah agP (ah lQ (ah agQ (ah oU ay)))))) func36
noncomputable def H8:aN:=aG prog [] ⟨[],[],[],[]⟩ 177
theorem X6:aF prog 177 H8:=fE ay func177
noncomputable def mO:aN:=aG prog [(162,false,oI)] ⟨[(6,[10,9,2,0],[]),(12,[11,2,0],[]),(18,[12,9,2,0],[]),(24,[13,2,0],[])],[],[],[]⟩ 235
theorem X7:aF prog 235 mO:=fE (ah uH ay) func235
noncomputable def AP:aN:=aG prog [(162,false,oI),(235,false,mO)] ⟨[(3,[19,18,3,2,1,0],[])],[],[],[]⟩ 178
theorem Uj:aF prog 178 AP:=fE (ah uH (ah X7 ay)) func178
noncomputable def LC:aN:=aG prog [(162,false,oI)] ⟨[],[],[],[]⟩ 242
theorem agR:aF prog 242 LC:=fE (ah uH ay) func242
noncomputable def AQ:aN:=aG prog [] ⟨[],[],[],[]⟩ 236
theorem Uk:aF prog 236 AQ:=fE ay func236
noncomputable def lU:aN:=aG prog [(96,false,kE),(154,false,rC),(165,false,zP),(236,false,AQ),(164,false,tC),(74,false,jG),(166,false,yG),(153,false,vC)] ⟨[],[],[(4,[],[(8,[])]),(9,[],[(8,[])]),(10,[],[(5,[])])],[]⟩ 181
theorem M6:aF prog 181 lU:=fE (ah mX (ah yU (ah M5 (ah Uk (ah E5 (ah lQ (ah Qw (ah E8 ay)))))))) func181
noncomputable def Aj:aN:=aG prog [(154,false,rC),(153,false,vC),(242,false,LC),(181,false,lU)] ⟨[],[],[(2,[],[(8,[])])],[]⟩ 184
theorem VF:aF prog 184 Aj:=fE (ah yU (ah E8 (ah agR (ah M6 ay)))) func184
noncomputable def wD:aN:=aG prog [(178,false,AP),(96,false,kE),(184,false,Aj)] ⟨[],[],[],[]⟩ 179
theorem Ul:aF prog 179 wD:=fE (ah Uj (ah mX (ah VF ay))) func179
noncomputable def nk:aN:=aG prog [(96,false,kE),(154,false,rC),(153,false,vC),(177,false,H8),(178,false,AP),(74,false,jG),(179,false,wD)] ⟨[(9,[10,9,8,6,4,3,2],[9,6,4,3])],[],[],[]⟩ 101
theorem adv:aF prog 101 nk:=fE (ah mX (ah yU (ah E8 (ah X6 (ah Uj (ah lQ (ah Ul ay))))))) func101
noncomputable def aT:aN:=aG prog [(162,false,oI),(223,false,vD),(237,false,mZ),(91,false,fU),(239,false,ng),(240,false,ni),(163,false,pQ)] ⟨[(23,[13,11,4],[4])],[],[],[]⟩ 183
theorem H9:aF prog 183 aT:=fE (ah uH (ah Fa (ah xk (ah HZ (ah xq (ah xw (ah Fb ay))))))) func183
noncomputable def yI:aN:=aG prog [(183,false,aT),(184,false,Aj)] ⟨[],[],[],[]⟩ 180
theorem adw:aF prog 180 yI:=fE (ah H9 (ah VF ay)) func180
noncomputable def bJ:aN:=aG prog [(74,false,jG),(96,false,kE),(171,false,rA),(155,false,Ai),(180,false,yI),(181,false,lU),(170,false,Fh)] ⟨[],[],[(1,[],[])],[]⟩ 102
theorem aaw:aF prog 102 bJ:=fE (ah lQ (ah mX (ah yE (ah Vy (ah adw (ah M6 (ah VB ay))))))) func102
noncomputable def eD:aN:=aG prog [(74,false,jG),(42,false,wY),(177,false,H8),(96,false,kE),(179,false,wD),(121,false,vB)] ⟨[],[],[(18,[],[(4,[1,2]),(6,[]),(8,[])])],[]⟩ 182
theorem afw:aF prog 182 eD:=fE (ah lQ (ah Bu (ah X6 (ah mX (ah Ul (ah Qv ay)))))) func182
noncomputable def xA:aN:=aG prog [(219,false,pR),(150,false,D5),(154,false,rC),(216,false,oq),(96,false,kE),(153,false,vC)] ⟨[],[],[(5,[],[(9,[])])],[]⟩ 185
theorem afx:aF prog 185 xA:=fE (ah Ku (ah XQ (ah yU (ah Kt (ah mX (ah E8 ay)))))) func185
noncomputable def tJ:aN:=aG prog [(96,false,kE),(154,false,rC),(141,false,tu),(224,false,H6),(225,false,H7),(153,false,vC)] ⟨[(6,[8,7,4,2],[7,4,2])],[],[(10,[],[(6,[])]),(11,[],[(6,[])])],[]⟩ 186
theorem X8:aF prog 186 tJ:=fE (ah mX (ah yU (ah Bw (ah XW (ah XY (ah E8 ay)))))) func186
noncomputable def qF:aN:=aG prog [(183,false,aT),(96,false,kE),(154,false,rC),(165,false,zP),(236,false,AQ)] ⟨[],[],[(1,[],[]),(11,[],[(8,[])])],[]⟩ 187
theorem afy:aF prog 187 qF:=fE (ah H9 (ah mX (ah yU (ah M5 (ah Uk ay))))) func187
noncomputable def bB:aN:=aG prog [(182,false,eD),(181,false,lU),(183,false,aT),(184,false,Aj),(96,false,kE),(74,false,jG),(185,false,xA),(186,false,tJ),(169,false,yV),(155,false,Ai),(170,false,Fh),(187,false,qF)] ⟨[],[],[(1,[],[])],[]⟩ 103
theorem aax:aF prog 103 bB:=fE (ah afw (ah M6 (ah H9 (ah VF (ah mX (ah lQ (ah afx (ah X8 (ah acu (ah Vy (ah VB (ah afy ay)))))))))))) func103
noncomputable def ou:aN:=aG prog [(88,false,yD),(89,false,eP),(96,false,kE),(74,false,jG),(101,false,nk),(102,false,bJ),(103,false,bB)] ⟨[],[],[],[]⟩ 37
theorem afz:aF prog 37 ou:=fE (ah M4 (ah QA (ah mX (ah lQ (ah adv (ah aaw (ah aax ay))))))) func37
noncomputable def tK:aN:=aG prog [(35,false,kr),(36,false,dn),(37,false,ou)] ⟨[],[],[],[]⟩ 7
theorem afA:aF prog 7 tK:=fE (ah X4 (ah VE (ah afz ay))) func7
noncomputable def zq:aN:=aG prog [] ⟨[],[],[],[]⟩ 138
theorem Oc:aF prog 138 zq:=fE ay func138
noncomputable def Ak:aN:=aG prog [] ⟨[(2,[9,8,7,1],[])],[],[],[]⟩ 272
theorem VG:aF prog 272 Ak:=fE ay func272
noncomputable def wE:aN:=aG prog [(272,false,Ak)] ⟨[],[],[],[]⟩ 214
theorem X9:aF prog 214 wE:=fE (ah VG ay) func214
noncomputable def Fp:aN:=aG prog [(138,false,zq),(214,false,wE)] ⟨[],[],[],[]⟩ 135
theorem aay:aF prog 135 Fp:=fE (ah Oc (ah X9 ay)) func135
noncomputable def sI:aN:=aG prog [(134,false,nW),(135,false,Fp),(136,false,vZ),(137,false,uG),(87,false,oP),(138,false,zq)] ⟨[(9,[138,137,136],[])],[],[],[]⟩ 69
theorem Al:aF prog 69 sI:=fE (ah uF (ah aay (ah Je (ah Jf (ah Af (ah Oc ay)))))) func69
noncomputable def Cw:aN:=aG prog [] ⟨[],[],[],[]⟩ 108
theorem LD:aF prog 108 Cw:=fE ay func108
noncomputable def BD:aN:=aG prog [] ⟨[(3,[6,5,1,0],[])],[],[],[]⟩ 244
theorem aaz:aF prog 244 BD:=fE ay func244
noncomputable def D8:aN:=aG prog [(134,false,nW)] ⟨[],[],[],[]⟩ 279
theorem QB:aF prog 279 D8:=fE (ah uF ay) func279
noncomputable def rD:aN:=aG prog [(134,false,nW),(113,false,nC),(279,false,D8)] ⟨[],[],[(3,[],[(21,[])])],[]⟩ 250
theorem Kv:aF prog 250 rD:=fE (ah uF (ah vw (ah QB ay))) func250
noncomputable def gJ:aN:=aG prog [(115,false,lN),(139,false,yt),(140,false,nQ)] ⟨[],[],[],[]⟩ 71
theorem jc:aF prog 71 gJ:=fE (ah pO (ah Kn (ah Ct ay))) func71
noncomputable def rE:aN:=aG prog [] ⟨[],[],[],[]⟩ 117
theorem yJ:aF prog 117 rE:=fE ay func117
noncomputable def xB:aN:=aG prog [(69,false,sI),(134,false,nW),(71,false,gJ),(117,false,rE),(147,false,yw),(80,false,rz),(115,false,lN),(82,false,nD)] ⟨[],[],[],[]⟩ 253
theorem afB:aF prog 253 xB:=fE (ah Al (ah uF (ah jc (ah yJ (ah Kq (ah Qt (ah pO (ah Bp ay)))))))) func253
noncomputable def iC:aN:=aG prog [(71,false,gJ),(117,false,rE)] ⟨[],[],[],[]⟩ 110
theorem jA:aF prog 110 iC:=fE (ah jc (ah yJ ay)) func110
noncomputable def jN:aN:=aG prog [(253,false,xB),(110,false,iC)] ⟨[],[],[],[]⟩ 193
theorem qG:aF prog 193 jN:=fE (ah afB (ah jA ay)) func193
noncomputable def wF:aN:=aG prog [(250,false,rD),(193,false,jN)] ⟨[],[],[],[]⟩ 243
theorem Um:aF prog 243 wF:=fE (ah Kv (ah qG ay)) func243
noncomputable def fG:aN:=aG prog [] ⟨[],[],[],[]⟩ 118
theorem gU:aF prog 118 fG:=fE ay func118
noncomputable def BF:aN:=aG prog [(134,false,nW)] ⟨[],[],[],[]⟩ 252
theorem QC:aF prog 252 BF:=fE (ah uF ay) func252
noncomputable def rF:aN:=aG prog [(252,false,BF),(113,false,nC)] ⟨[],[],[(8,[],[(17,[])])],[]⟩ 192
theorem BG:aF prog 192 rF:=fE (ah QC (ah vw ay)) func192
noncomputable def yK:aN:=aG prog [(118,false,fG),(192,false,rF),(193,false,jN)] ⟨[],[],[(2,[],[(14,[11,12])])],[]⟩ 245
theorem adx:aF prog 245 yK:=fE (ah gU (ah BG (ah qG ay))) func245
noncomputable def yL:aN:=aG prog [(113,false,nC),(118,false,fG),(134,false,nW),(279,false,D8)] ⟨[],[],[(1,[],[(14,[])])],[]⟩ 247
theorem M7:aF prog 247 yL:=fE (ah vw (ah gU (ah uF (ah QB ay)))) func247
noncomputable def uS:aN:=aG prog [(247,false,yL),(193,false,jN)] ⟨[],[],[],[]⟩ 189
theorem D9:aF prog 189 uS:=fE (ah M7 (ah qG ay)) func189
noncomputable def zu:aN:=aG prog [(70,false,qE)] ⟨[],[],[],[]⟩ 111
theorem Od:aF prog 111 zu:=fE (ah wh ay) func111
noncomputable def vK:aN:=aG prog [(70,false,qE)] ⟨[],[],[],[]⟩ 257
theorem QD:aF prog 257 vK:=fE (ah wh ay) func257
noncomputable def xC:aN:=aG prog [(148,false,DW)] ⟨[],[],[],[]⟩ 261
theorem LG:aF prog 261 xC:=fE (ah Ua ay) func261
noncomputable def Cx:aN:=aG prog [(261,false,xC)] ⟨[(10,[8,7,6,1,0],[]),(4,[6,1,0],[])],[],[(14,[],[])],[]⟩ 291
theorem Ya:aF prog 291 Cx:=fE (ah LG ay) func291
noncomputable def yM:aN:=aG prog [(291,false,Cx)] ⟨[(6,[6,5,4],[])],[],[],[]⟩ 280
theorem QE:aF prog 280 yM:=fE (ah Ya ay) func280
noncomputable def AU:aN:=aG prog [(280,false,yM),(279,false,D8)] ⟨[],[],[],[]⟩ 258
theorem Un:aF prog 258 AU:=fE (ah QE (ah QB ay)) func258
noncomputable def dV:aN:=aG prog [(69,false,sI),(111,false,zu),(71,false,gJ),(117,false,rE),(115,false,lN),(82,false,nD),(257,false,vK),(258,false,AU)] ⟨[],[],[],[]⟩ 255
theorem ady:aF prog 255 dV:=fE (ah Al (ah Od (ah jc (ah yJ (ah pO (ah Bp (ah QD (ah Un ay)))))))) func255
noncomputable def kN:aN:=aG prog [(255,false,dV),(110,false,iC)] ⟨[],[],[],[]⟩ 196
theorem Fq:aF prog 196 kN:=fE (ah ady (ah jA ay)) func196
noncomputable def pU:aN:=aG prog [(118,false,fG),(192,false,rF),(193,false,jN),(146,false,pK)] ⟨[],[],[(2,[],[(14,[11,12])])],[]⟩ 106
theorem Fu:aF prog 106 pU:=fE (ah gU (ah BG (ah qG (ah Ko ay)))) func106
noncomputable def kP:aN:=aG prog [(87,false,oP)] ⟨[],[],[],[]⟩ 254
theorem Fv:aF prog 254 kP:=fE (ah Af ay) func254
noncomputable def tL:aN:=aG prog [(254,false,kP)] ⟨[],[],[],[]⟩ 278
theorem Ia:aF prog 278 tL:=fE (ah Fv ay) func278
noncomputable def pV:aN:=aG prog [(118,false,fG),(278,false,tL)] ⟨[(7,[7,2,1,0],[]),(2,[2,1,0],[])],[],[],[]⟩ 246
theorem JN:aF prog 246 pV:=fE (ah gU (ah Ia ay)) func246
noncomputable def bq:aN:=aG prog [(108,false,Cw),(244,false,BD),(243,false,wF),(71,false,gJ),(245,false,yK),(189,false,uS),(196,false,kN),(106,false,pU),(246,false,pV)] ⟨[],[],[(6,[],[(8,[])]),(8,[],[(6,[])]),(40,[],[(10,[])])],[]⟩ 188
theorem Yb:aF prog 188 bq:=fE (ah LD (ah aaz (ah Um (ah jc (ah adx (ah D9 (ah Fq (ah Fu (ah JN ay))))))))) func188
noncomputable def qU:aN:=aG prog [(69,false,sI),(70,false,qE),(34,false,wW),(188,false,bq)] ⟨[],[],[],[]⟩ 104
theorem Oe:aF prog 104 qU:=fE (ah Al (ah wh (ah Hw (ah Yb ay)))) func104
noncomputable def Jj:aN:=aG prog [(118,false,fG),(254,false,kP)] ⟨[(4,[1,0],[]),(2,[1,0],[])],[],[],[]⟩ 194
theorem adz:aF prog 194 Jj:=fE (ah gU (ah Fv ay)) func194
noncomputable def Cy:aN:=aG prog [(118,false,fG),(254,false,kP)] ⟨[(4,[1,0],[]),(2,[1,0],[])],[],[],[]⟩ 195
theorem Yc:aF prog 195 Cy:=fE (ah gU (ah Fv ay)) func195
noncomputable def pW:aN:=aG prog [(194,false,Jj),(195,false,Cy)] ⟨[(3,[8,7,3,2,1],[3])],[],[],[]⟩ 107
theorem Kw:aF prog 107 pW:=fE (ah adz (ah Yc ay)) func107
noncomputable def pX:aN:=aG prog [(136,false,vZ)] ⟨[],[],[],[]⟩ 248
theorem Ky:aF prog 248 pX:=fE (ah Je ay) func248
open Classical in
noncomputable def zx:aN:=fun args boxes trees=>match args,boxes,trees with
 | [.agg [.aP (some 0) rows]],[],[]=>if vZ [.agg [.aP (some 0) rows]] [] []=some ⟨.v (.bool true),[],[]⟩∧yt [.agg [.aP (some 0) rows]] [] []=some ⟨.agg [.own 0],[],[(0,rows)]⟩∧(∀r∈rows,∃q,r= [D.l q])∧rows.length≤1000 then some ⟨.agg [.own 0],[],[(0,rows.drop 1++rows.take 1)]⟩else none
 | _,_,_=>none
set_option maxHeartbeats 8000000 in
set_option maxRecDepth 100000 in
theorem Yd:aF prog 249 zx:=
 Ql (gh:=⟨[],[(6,[3])],[(6,[],[(10,[]),(12,[])])],[]⟩) (ah (f:=136) (m:=false) Je (ah (f:=139) (m:=false) Kn ay)) XM func249 rfl rfl (by decide) (aW (by kernel_rfl)) 4 (fun args boxes trees r h=>by
  unfold zx at h
  split at h
  ·rename_i rows
   split at h
   ·rename_i hc
    obtain⟨e1,e2,hw,hlen⟩:=hc
    injection h with h;subst h
    refine⟨by simp,rfl,rfl,rfl,10000,?_⟩
    have hw1:=acr hw
    unfold Vp yh
    simp [partsOf,func249,f249,jg,e1,e2,bO,jS,ny]
    refine⟨rows,rfl,fun us Xl huc=>?_⟩
    rw [Lu hw1]at Xl
    have ha:=Hl hw1 Xl
    have hone:=Kk hw Xl huc
    have fin:Hg rows us ⟨.agg [.own 0],[],[(0,rows.tail++rows.take 1)]⟩ ⟨.agg [.own 0],[],[(0,(us.tail++us.take 1).map fun u=> [D.a u])]⟩:=by
     rw [←List.drop_one,←List.drop_one]
     exact fun c hK' y w u m r=>TY hw1 Xl m r
    have hul:us.length≤1000:=by omega
    simp only [upd,if_true,ha]
    cases us with
    | nil=>
     simp [f249,jg]
     exact fin
    | cons u us=>
     have hu1:u.oneCell'=true:=hone u (by simp)
     have hu2:=Qm fun v hv=>hone v (List.mem_cons_of_mem _ hv)
     have q1:(1:Int)≤(us.length:Int)+1:=by omega
     have q2:(0:Int)<(us.length:Int)+1:=by omega
     have q4:((us.length:Int)+1==0)=false:=beq_eq_false_iff_ne.2 (by omega)
     have q3:us.length≤1000:=by simp at hul;omega
     have g1:us.length*24≤140737488355328:=by omega
     have g2:us.length≤4611686018427387904:=by omega
     have g3:(us.length+1)*24≤140737488355328:=by omega
     have g4:us.length+1≤4611686018427387904:=by omega
     have g5:us.length≤4611686018427387903:=by omega
     simp [f249,jg,hu1,hu2,q1,q2,q4,g1,g2,g3,g4,g5,acs,T9]
     simp at fin
     exact fin
   ·cases h
  ·cases h)
noncomputable def eB:aN:=aG prog [(248,false,pX),(147,false,yw),(110,false,iC),(192,false,rF),(249,false,zx),(250,false,rD),(71,false,gJ),(193,false,jN)] ⟨[],[],[(7,[],[(8,[6])])],[]⟩ 190
theorem OG:aF prog 190 eB:=fE (ah Ky (ah Kq (ah jA (ah BG (ah Yd (ah Kv (ah jc (ah qG ay)))))))) func190
noncomputable def zy:aN:=aG prog [(252,false,BF),(113,false,nC)] ⟨[(6,[12,11,10,8,3,2],[8])],[],[],[]⟩ 251
theorem Ye:aF prog 251 zy:=fE (ah QC (ah vw ay)) func251
noncomputable def BH:aN:=aG prog [(107,false,pW),(251,false,zy),(193,false,jN)] ⟨[],[],[(1,[],[(13,[11])])],[]⟩ 191
theorem aaA:aF prog 191 BH:=fE (ah Kw (ah Ye (ah qG ay))) func191
noncomputable def jd:aN:=aG prog [(71,false,gJ),(118,false,fG),(108,false,Cw),(107,false,pW),(189,false,uS),(106,false,pU),(190,false,eB),(191,false,BH),(110,false,iC)] ⟨[],[],[(8,[],[(7,[])]),(10,[],[(7,[])]),(12,[],[(10,[])])],[]⟩ 105
theorem aaB:aF prog 105 jd:=fE (ah jc (ah gU (ah LD (ah Kw (ah D9 (ah Fu (ah OG (ah aaA (ah jA ay))))))))) func105
noncomputable def vL:aN:=aG prog [(248,false,pX),(110,false,iC),(243,false,wF)] ⟨[],[],[],[]⟩ 197
theorem aaC:aF prog 197 vL:=fE (ah Ky (ah jA (ah Um ay))) func197
noncomputable def tN:aN:=aG prog [(134,false,nW),(113,false,nC)] ⟨[],[],[(6,[],[(27,[])])],[]⟩ 198
theorem Yf:aF prog 198 tN:=fE (ah uF (ah vw ay)) func198
noncomputable def Fw:aN:=aG prog [(137,false,uG),(140,false,nQ)] ⟨[],[],[(5,[],[(12,[6,7,8,9,10,11]),(13,[])])],[]⟩ 256
theorem VH:aF prog 256 Fw:=fE (ah Jf (ah Ct ay)) func256
open Classical in
noncomputable def Am:aN:=fun args boxes trees=>match args,boxes,trees with
 | [.agg [.aP (some 0) rows]],[],[]=>match rows.getLast? with
  | some [.l q, .a x]=>if uG [.agg [.aP (some 0) rows]] [] []=some ⟨.v (.bool true),[],[]⟩∧nQ [.agg [.aP (some 0) rows]] [] []=some ⟨.agg [.own 0],[],[(0,rows)]⟩∧(∀r∈rows.dropLast,r.length=2)∧x.oneCell'=true∧rows.length≤1000 then
    some (if rows.dropLast= []then⟨.fK [.agg [.aP none []], .agg [.own 0, .v x], .v (.bool true)],[],[(0,q)]⟩else⟨.fK [.agg [.own 0], .agg [.own 1, .v x], .v (.bool true)],[],[(0,rows.dropLast),(1,q)]⟩)else none
  | _=>none
 | _,_,_=>none
set_option maxHeartbeats 8000000 in
set_option maxRecDepth 100000 in
theorem VJ:aF prog 256 Am:=
 Vu (gh:=⟨[],[],[],[]⟩) (ah (f:=137) (m:=false) Jf (ah (f:=140) (m:=false) Ct ay)) XM func256 rfl rfl (by decide) 5 rfl (aW (by kernel_rfl)) (aW (by kernel_rfl)) 12 4 25 2 6 [5,6] (aW (by kernel_rfl)) (fun args boxes trees r h=>by
  unfold Am at h
  split at h
  ·rename_i rows
   split at h
   ·rename_i q x hl
    split at h
    ·rename_i hc
     obtain⟨pre,rfl⟩:=List.getLast?_eq_some_iff.1 hl
     obtain⟨e1,e2,hw,hx1,hlen⟩:=hc
     rw [List.dropLast_concat]at h hw
     injection h with h
     refine⟨by simp,rfl,rfl,by subst h;split<;>rfl,21000,pre.length,?_⟩
     unfold O1 yh
     have alp:pre.length≤999:=by simp at hlen;omega
     have q1:(0:Int)<(pre.length:Int)+1:=by omega
     have q4:((pre.length:Int)+1==0)=false:=beq_eq_false_iff_ne.2 (by omega)
     simp [-List.length_flatten,partsOf,func256,f256,jg,e1,e2,bO,jS,ny,q1,q4]
     intro us Xl huc
     obtain⟨Lx,ut,ua,rfl,h1⟩:=ai9 Xl
     obtain⟨ho,hua⟩:=pair_cells h1 huc
     have akz:pre= []→Hg (pre++ [[D.l q,D.a x]]) (Lx++ [ut,ua]) r ⟨.fK [.agg [.aP none []], .agg [.v ut, .v ua], .v (.bool true)],[],[]⟩:=fun e=>by
      subst e
      obtain rfl:Lx= []:=List.eq_nil_of_length_eq_zero (by simpa using h1)
      rw [if_pos rfl]at h
      rw [←h]
      exact afs hua
     have akA:¬pre= []→Hg (pre++ [[D.l q,D.a x]]) (Lx++ [ut,ua]) r ⟨.fK [.agg [.own 0], .agg [.v ut, .v ua], .v (.bool true)],[],[(0,gG pre Lx)]⟩:=fun e=>by
      rw [if_neg e]at h
      rw [←h]
      exact agN h1 hw hua
     rw [aal h1]
     have a1:=sV pre Lx
     have a2:=Co h1 hw
     have a3:=aak pre Lx
     generalize gG pre Lx=A at*
     have hw64:=IntWalk.i64_in (pre.length:Int) (by omega)
     have hw0:IntKind.i64.wrap 0=0:=IntWalk.i64_in 0 (by omega)
     have q5:(pre.length:Int)<(pre.length:Int)+1:=by omega
     have q6:pre.length*32≤140737488355328:=by omega
     have hxa:ua.oneCell'=true:=by rw [hua];exact hx1
     have hg:(A++ [[D.a ut,D.a ua]])[pre.length]?=some [D.a ut,D.a ua]:=by rw [←a1];simp
     refine⟨⟨_,_,25,_,_,_,rfl,rfl,rfl,rfl,by simp,by simp,rfl,by simp;omega,by simp,fun t1 x1 g1 g2=>?_⟩,fun u hu=>?_⟩
     ·simp [S.only,Qs,vV,oV]at g1
      subst g1
      simp [yj,MX,aaf,Qn,Qo,Vq,Qp,hw64]at g2
      subst g2
      simp [hw64]
     ·by_cases hp:pre= []
      ·have fin:=akz hp
       subst hp
       obtain rfl:A= []:=List.eq_nil_of_length_eq_zero a1
       simp [-List.length_flatten,Cq,S.only,Qs,vV,oV,yj,MX,aaf,Qn,Qo,Vq,Qp,Kl,tailV,storeT,hw64,hw0,q5,q6,hg,a1,hu,ho,hxa,S.Qr,J5]
       first|exact fin|(simp at fin;exact fin)
      ·have fin:=akA hp
       have hp0:¬pre.length=0:=fun e=>hp (List.eq_nil_of_length_eq_zero e)
       simp [-List.length_flatten,Cq,S.only,Qs,vV,oV,yj,MX,aaf,Qn,Qo,Vq,Qp,Kl,tailV,storeT,hw64,hw0,q5,q6,hg,a1,hu,ho,hxa,S.Qr,J5,hp]
       exact fin
    ·cases h
   ·cases h
  ·cases h)
noncomputable def Cz:aN:=orM Am Fw
theorem Yg:aF prog 256 Cz:=adp VJ VH
noncomputable def iI:aN:=aG prog [(256,false,Cz),(110,false,iC),(71,false,gJ),(117,false,rE),(82,false,nD)] ⟨[],[],[],[]⟩ 199
theorem QF:aF prog 199 iI:=fE (ah Yg (ah jA (ah jc (ah yJ (ah Bp ay))))) func199
noncomputable def nM:aN:=aG prog [(71,false,gJ),(117,false,rE),(115,false,lN)] ⟨[],[],[],[]⟩ 200
theorem Fx:aF prog 200 nM:=fE (ah jc (ah yJ (ah pO ay))) func200
noncomputable def bY:aN:=aG prog [(108,false,Cw),(189,false,uS),(196,false,kN),(106,false,pU),(197,false,vL),(198,false,tN),(193,false,jN),(199,false,iI),(200,false,nM),(110,false,iC)] ⟨[],[],[],[]⟩ 109
theorem aaD:aF prog 109 bY:=fE (ah LD (ah D9 (ah Fq (ah Fu (ah aaC (ah Yf (ah qG (ah QF (ah Fx (ah jA ay)))))))))) func109
noncomputable def iX:aN:=aG prog [(69,false,sI),(70,false,qE),(34,false,wW),(104,false,qU),(105,false,jd),(108,false,Cw),(107,false,pW),(106,false,pU),(109,false,bY),(110,false,iC)] ⟨[],[],[(10,[],[(11,[])])],[]⟩ 38
theorem Yh:aF prog 38 iX:=fE (ah Al (ah wh (ah Hw (ah Oe (ah aaB (ah LD (ah Kw (ah Fu (ah aaD (ah jA ay)))))))))) func38
noncomputable def Ea:aN:=aG prog [(261,false,xC)] ⟨[(3,[9,8,7,3],[])],[],[],[]⟩ 203
theorem Uo:aF prog 203 Ea:=fE (ah LG ay) func203
noncomputable def Ib:aN:=aG prog [] ⟨[(2,[7,2,1,0],[])],[],[],[]⟩ 260
theorem afC:aF prog 260 Ib:=fE ay func260
noncomputable def zA:aN:=aG prog [(70,false,qE),(260,false,Ib)] ⟨[(5,[29,28,27,11,5,4,3,2,1],[5])],[],[],[]⟩ 202
theorem Yi:aF prog 202 zA:=fE (ah wh (ah afC ay)) func202
noncomputable def zB:aN:=aG prog [(280,false,yM)] ⟨[(2,[5,1,0],[])],[],[],[]⟩ 259
theorem Yj:aF prog 259 zB:=fE (ah QE ay) func259
noncomputable def BI:aN:=aG prog [(69,false,sI),(257,false,vK),(258,false,AU),(203,false,Ea),(259,false,zB),(71,false,gJ),(115,false,lN)] ⟨[],[],[],[]⟩ 201
theorem aaE:aF prog 201 BI:=fE (ah Al (ah QD (ah Un (ah Uo (ah Yj (ah jc (ah pO ay))))))) func201
noncomputable def tO:aN:=aG prog [(203,false,Ea),(202,false,zA),(201,false,BI),(71,false,gJ)] ⟨[],[],[(1,[],[(13,[11])])],[]⟩ 112
theorem aaF:aF prog 112 tO:=fE (ah Uo (ah Yi (ah aaE (ah jc ay)))) func112
noncomputable def uT:aN:=aG prog [(69,false,sI),(71,false,gJ),(82,false,nD)] ⟨[],[],[],[]⟩ 114
theorem afD:aF prog 114 uT:=fE (ah Al (ah jc (ah Bp ay))) func114
noncomputable def kQ:aN:=aG prog [(69,false,sI),(70,false,qE),(34,false,wW),(111,false,zu),(113,false,nC),(112,false,tO),(71,false,gJ),(114,false,uT),(115,false,lN)] ⟨[],[],[(9,[],[(12,[])])],[]⟩ 39
theorem VK:aF prog 39 kQ:=fE (ah Al (ah wh (ah Hw (ah Od (ah vw (ah aaF (ah jc (ah afD (ah pO ay))))))))) func39
noncomputable def xD:aN:=aG prog [(108,false,Cw),(118,false,fG)] ⟨[],[],[],[]⟩ 208
theorem Fy:aF prog 208 xD:=fE (ah LD (ah gU ay)) func208
noncomputable def Ic:aN:=aG prog [] ⟨[],[],[],[]⟩ 262
theorem Yk:aF prog 262 Ic:=fE ay func262
noncomputable def zC:aN:=aG prog [] ⟨[],[],[],[]⟩ 281
theorem Og:aF prog 281 zC:=fE ay func281
noncomputable def wG:aN:=aG prog [(118,false,fG)] ⟨[(11,[11,10,9,2,0],[])],[],[],[]⟩ 282
theorem Yl:aF prog 282 wG:=fE (ah gU ay) func282
noncomputable def AV:aN:=aG prog [(118,false,fG),(281,false,zC),(282,false,wG)] ⟨[(3,[12,4,3,2,1,0],[])],[],[],[]⟩ 263
theorem Uq:aF prog 263 AV:=fE (ah gU (ah Og (ah Yl ay))) func263
noncomputable def LH:aN:=aG prog [(118,false,fG)] ⟨[],[],[],[]⟩ 286
theorem agS:aF prog 286 LH:=fE (ah gU ay) func286
noncomputable def Eb:aN:=aG prog [(192,false,rF)] ⟨[],[],[],[]⟩ 269
theorem adA:aF prog 269 Eb:=fE (ah BG ay) func269
noncomputable def mG:aN:=aG prog [(189,false,uS),(118,false,fG)] ⟨[],[],[],[]⟩ 270
theorem LJ:aF prog 270 mG:=fE (ah D9 (ah gU ay)) func270
noncomputable def iQ:aN:=aG prog [(69,false,sI),(269,false,Eb),(270,false,mG),(110,false,iC),(192,false,rF),(71,false,gJ),(146,false,pK),(189,false,uS),(247,false,yL),(193,false,jN)] ⟨[],[],[],[]⟩ 207
theorem Jk:aF prog 207 iQ:=fE (ah Al (ah adA (ah LJ (ah jA (ah BG (ah jc (ah Ko (ah D9 (ah M7 (ah qG ay)))))))))) func207
noncomputable def tQ:aN:=aG prog [(189,false,uS),(286,false,LH),(207,false,iQ)] ⟨[],[],[],[]⟩ 268
theorem QG:aF prog 268 tQ:=fE (ah D9 (ah agS (ah Jk ay))) func268
noncomputable def pY:aN:=aG prog [(208,false,xD),(263,false,AV),(110,false,iC),(268,false,tQ)] ⟨[],[],[(1,[],[])],[]⟩ 264
theorem QH:aF prog 264 pY:=fE (ah Fy (ah Uq (ah jA (ah QG ay)))) func264
noncomputable def kS:aN:=aG prog [(110,false,iC),(208,false,xD),(115,false,lN),(193,false,jN),(262,false,Ic),(263,false,AV),(71,false,gJ),(264,false,pY)] ⟨[(10,[9,8,7,6,4,3,2],[8,4,3,2])],[],[(16,[],[])],[]⟩ 204
theorem aaG:aF prog 204 kS:=fE (ah jA (ah Fy (ah pO (ah qG (ah Yk (ah Uq (ah jc (ah QH ay)))))))) func204
noncomputable def Fz:aN:=aG prog [] ⟨[],[],[],[]⟩ 265
theorem aaH:aF prog 265 Fz:=fE ay func265
noncomputable def wH:aN:=aG prog [(118,false,fG),(278,false,tL)] ⟨[(7,[2,1,0],[]),(5,[7,2,1,0],[])],[],[],[]⟩ 292
theorem Ym:aF prog 292 wH:=fE (ah gU (ah Ia ay)) func292
noncomputable def xE:aN:=aG prog [(118,false,fG),(278,false,tL)] ⟨[(7,[7,2,1,0],[]),(2,[2,1,0],[])],[],[],[]⟩ 293
theorem VL:aF prog 293 xE:=fE (ah gU (ah Ia ay)) func293
noncomputable def BJ:aN:=aG prog [(292,false,wH),(246,false,pV),(293,false,xE)] ⟨[],[],[],[]⟩ 283
theorem aaI:aF prog 283 BJ:=fE (ah Ym (ah JN (ah VL ay))) func283
noncomputable def iY:aN:=aG prog [(118,false,fG),(281,false,zC),(254,false,kP),(283,false,BJ)] ⟨[(15,[11,0],[]),(27,[12,3,2,1,0],[])],[],[],[]⟩ 266
theorem Ie:aF prog 266 iY:=fE (ah gU (ah Og (ah Fv (ah aaI ay)))) func266
noncomputable def jH:aN:=aG prog [(208,false,xD),(266,false,iY),(268,false,tQ)] ⟨[],[],[(1,[],[])],[]⟩ 206
theorem LK:aF prog 206 jH:=fE (ah Fy (ah Ie (ah QG ay))) func206
noncomputable def qH:aN:=aG prog [(248,false,pX),(208,false,xD),(110,false,iC),(247,false,yL),(250,false,rD),(193,false,jN)] ⟨[(7,[9,8,7,6,4,2,1],[4,2])],[],[],[]⟩ 284
theorem adB:aF prog 284 qH:=fE (ah Ky (ah Fy (ah jA (ah M7 (ah Kv (ah qG ay)))))) func284
noncomputable def qV:aN:=aG prog [(110,false,iC),(115,false,lN),(208,false,xD),(118,false,fG),(193,false,jN)] ⟨[(6,[6,5,4,2,1],[4,2,1])],[],[(4,[],[])],[]⟩ 285
theorem Yn:aF prog 285 qV:=fE (ah jA (ah pO (ah Fy (ah gU (ah qG ay))))) func285
noncomputable def nU:aN:=aG prog [(208,false,xD),(118,false,fG),(207,false,iQ),(71,false,gJ),(270,false,mG),(266,false,iY),(284,false,qH),(285,false,qV),(199,false,iI),(196,false,kN),(200,false,nM),(110,false,iC)] ⟨[],[],[(6,[],[(10,[])]),(8,[],[(10,[])]),(14,[],[(10,[])]),(27,[],[(8,[])]),(31,[],[(8,[])])],[]⟩ 267
theorem Yo:aF prog 267 nU:=fE (ah Fy (ah gU (ah Jk (ah jc (ah LJ (ah Ie (ah adB (ah Yn (ah QF (ah Fq (ah Fx (ah jA ay)))))))))))) func267
noncomputable def ig:aN:=aG prog [(71,false,gJ),(118,false,fG),(262,false,Ic),(264,false,pY),(265,false,Fz),(207,false,iQ),(266,false,iY),(206,false,jH),(110,false,iC),(267,false,nU)] ⟨[],[],[(11,[],[(9,[])])],[]⟩ 205
theorem aaJ:aF prog 205 ig:=fE (ah jc (ah gU (ah Yk (ah QH (ah aaH (ah Jk (ah Ie (ah LK (ah jA (ah Yo ay)))))))))) func205
noncomputable def jQ:aN:=aG prog [(204,false,kS),(205,false,ig),(71,false,gJ),(110,false,iC),(196,false,kN),(206,false,jH),(208,false,xD),(118,false,fG),(207,false,iQ),(200,false,nM)] ⟨[],[],[(28,[],[(18,[])])],[]⟩ 116
theorem Sc:aF prog 116 jQ:=fE (ah aaG (ah aaJ (ah jc (ah jA (ah Fq (ah LK (ah Fy (ah gU (ah Jk (ah Fx ay)))))))))) func116
noncomputable def oZ:aN:=aG prog [(69,false,sI),(70,false,qE),(34,false,wW),(116,false,jQ),(104,false,qU),(71,false,gJ),(117,false,rE),(118,false,fG),(110,false,iC)] ⟨[],[],[],[]⟩ 40
theorem afE:aF prog 40 oZ:=fE (ah Al (ah wh (ah Hw (ah Sc (ah Oe (ah jc (ah yJ (ah gU (ah jA ay))))))))) func40
noncomputable def lJ:aN:=aG prog [(38,false,iX),(39,false,kQ),(40,false,oZ)] ⟨[],[],[],[]⟩ 8
theorem afF:aF prog 8 lJ:=fE (ah Yh (ah VK (ah afE ay))) func8
set_option maxHeartbeats 4000000
set_option maxRecDepth 10000
theorem dQ (x a b:Int):wY [vI x,vI a,vI b] [] []=some ⟨V.v (.bool (gY x a b)),[],[]⟩:=by
 unfold wY
 by_cases h:a≤x<;>simp [func42,f42,h,gY]
end Go.Proofs.YtlpdjhiggpblcaaGreat
